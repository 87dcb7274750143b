/- The program makes room. -/
import Derived.Test.YthnmagdaepgdiaaXPrg9
set_option linter.unusedSimpArgs false
set_option linter.unusedVariables false
namespace Go.Proofs.YthnmagdaepgdiaaX
open Go Go.SX

set_option maxHeartbeats 8000000 in
theorem room_fn (wb mb hb B : Nat) (c : Srv) (hc : c.okS 1) (hB : c.Blocks = B) (tv : List SV) (hT : Rising (tv.map (·.1))) (hTl : tv.length ≤ 16) (hok : ∀ x ∈ tv, seatOk c x.1 ∧ x.1.ok) (ta : Option Addr) (tc : Nat) (out : List Int) (hol : out.length ≤ 400) (given left : Int) (hgv : -50000 ≤ given ∧ given ≤ 50000)
    (vo vs : Value) (Fo : HL) (hoi : OwnI vo out Fo) (ob : Obj) (hm : MapIs ob (markM out)) (at_ : Nat) (xs : SV) (hat : tv[at_]? = some xs) (x : Int) (hx : 0 ≤ x ∧ x ≤ 1000) :
    FC Try.prog 46 [.pointer (some ⟨wb, 0, none⟩), .int .i64 at_, .int .i64 x]
    ((wb, .cells ⟨wcp c (.slice ta tv.length tc) mb hb B (freeS c (tv.map (·.1)) out given) left vo vs⟩ 58 (0, 0)) :: (mb, ob) :: (hb, .cells ⟨(countsOf c (tv.map (·.1)) out).map (.int .i64)⟩ 3 (0, 0)) :: Fo)
    (fun h => SlA svK 56 h tv ta tc)
    (fun v L => match made c (tv.map (·.1)) given xs.1 x (tv.length + 1) out with
      | none => v = .bool false ∧ ∃ ob', MapIs ob' (markM out) ∧ L = (wb, .cells ⟨wcp c (.slice ta tv.length tc) mb hb B (freeS c (tv.map (·.1)) out given) left vo vs⟩ 58 (0, 0)) :: (mb, ob') :: (hb, .cells ⟨(countsOf c (tv.map (·.1)) out).map (.int .i64)⟩ 3 (0, 0)) :: Fo
      | some o => v = .bool true ∧ ∃ ob' vo' Fo', MapIs ob' (markM o) ∧ OwnI vo' o Fo' ∧ L = (wb, .cells ⟨wcp c (.slice ta tv.length tc) mb hb B (freeS c (tv.map (·.1)) o given) left vo' vs⟩ 58 (0, 0)) :: (mb, ob') :: (hb, .cells ⟨(countsOf c (tv.map (·.1)) o).map (.int .i64)⟩ 3 (0, 0)) :: Fo') := by
  refine FC.sub2 ?_
  refine FC.intro Try.func46 rfl (by kernel_rfl) 100 [.tmp 6] rfl rfl rfl ?_
  intro w0 hA
  have hB2 := hc.2.1
  have hBt : c.Blocks.toNat = B := by omega
  have hal := (List.getElem?_eq_some_iff.1 hat).1
  obtain ⟨T, hTe⟩ : ∃ T, T = tv.map (·.1) := ⟨_, rfl⟩
  have hTlen : T.length = tv.length := by rw [hTe, List.length_map]
  have hTi : ∀ {i : Nat} {y : SV}, tv[i]? = some y → T[i]? = some y.1 := fun {i y} h => by rw [hTe, List.getElem?_map, h]; rfl
  have hsT := hTi hat
  obtain ⟨hsok, hsk⟩ := hok xs (List.mem_of_getElem? hat)
  obtain ⟨hrow, hH, _⟩ := sv_at hA hat
  have hhl := hH.bytes
  obtain ⟨va, vc, rfl⟩ := hoi.1.val
  rw [← hTe] at hT
  rw [← hTe, ← hTlen]
  have hta : 0 < T.length → ta = some ⟨ablk ta, aoff ta, none⟩ := by rw [hTlen]; exact hA.at_
  have hTl' : T.length ≤ 16 := by omega
  have hTk : ∀ z ∈ T, seatOk c z := fun z hz => by
    rw [hTe] at hz; obtain ⟨y, hy, rfl⟩ := List.mem_map.1 hz; exact (hok y hy).1
  (repeat (first | (with_reducible apply XL.op) | ((with_reducible apply XOp.p1); (case hg | hv => exact rfl)) | (with_reducible apply XL.nilT) | (with_reducible apply XC.seq) | (with_reducible apply XC.region (Γ := Γ))))
  refine XC.scope (by intro _ _ _ h; exact h) ?_
  (repeat (first | (with_reducible apply XL.op) | ((with_reducible apply XOp.p1); (case hg | hv => exact rfl)) | ((with_reducible apply XOp.load); (case hg | ht | hk | hx => exact rfl); (case hc => exact own_cell (i := 0) rfl rfl)) | ((with_reducible apply XOp.pr); (case hg => exact rfl); (case hr => ((with_reducible apply PR.idxA); (case ht | hk | he | hx | hi => exact rfl); (case hr => first | assumption | omega); (case ha => first | assumption | exact SlA.at_ (by assumption))))) | (with_reducible apply XC.seq) | (with_reducible apply XC.region (Γ := Γ)) | (first | ((with_reducible apply XOp.loadN); (case hg | ht | hk | hx => exact rfl); (case hc => exact Known.of_old hrow (Mono.row _ _ _)); (case hl => exact rfl)) | ((with_reducible apply XP.loadN); (case ho | hg | ht | hk | hx => exact rfl); (case hc => exact Known.of_old hrow (Mono.row _ _ _)); (case hl => exact rfl)))))
  ((with_reducible apply XOp.alloc); (case hg | ht | hx' => exact rfl); intro sb)
  (repeat (first | (with_reducible apply XL.op) | ((with_reducible apply XOp.p1); (case hg | hv => exact rfl)) | ((with_reducible apply XOp.storeN (i := 0)); (case hg | ht | hx | hv' | hk | h1 | hi | hs | ha => exact rfl)) | (with_reducible apply XL.nilT) | (with_reducible apply XC.seq) | (with_reducible apply XC.region (Γ := Γ))))
  refine XC.labelQ ?_
  (repeat (first | (with_reducible apply XC.seq) | (with_reducible apply XQ.nt) | (with_reducible apply XC.block)))
  refine XC.cutB (fun ρ L => ∃ (lost : List SV) (vl : Value) (Fl : HL) (ob : Obj) (o : List Int), o = out ++ lost.map (·.1.Id) ∧ MapIs ob (markM o) ∧ (∀ y ∈ lost, inK .i64 y.1.Id) ∧ lost.length ≤ 17 ∧
      OwnS 46 5 vl lost.length (lost.flatMap sxv) Fl ∧ made c T given xs.1 x (T.length + 1) out = some o ∧
      Sub2 ((wb, Obj.cells ⟨wcp c (.slice ta T.length tc) mb hb B (freeS c T o given) left (.slice va out.length vc) vs⟩ 58 (0, 0)) :: (mb, ob) :: (hb, .cells ⟨(countsOf c T o).map (.int .i64)⟩ 3 (0, 0)) :: (Fl ++ Fo)) L ∧
      Slots ρ [(0, .pointer (some ⟨wb, 0, none⟩)), (8, vl)]) ?_ ?_
  · refine XC.loopP (fun k ρ L => ∃ (lost : List SV) (vl : Value) (Fl : HL) (ob : Obj) (o : List Int), o = out ++ lost.map (·.1.Id) ∧ MapIs ob (markM o) ∧ (∀ y ∈ lost, y ∈ tv ∧ y.1.Id ∉ out) ∧ (lost.map (·.1.Id)).Nodup ∧ lost.length + k ≤ 17 ∧
      OwnS 46 5 vl lost.length (lost.flatMap sxv) Fl ∧ goers T xs.1.Id o < k ∧ made c T given xs.1 x k o = made c T given xs.1 x (T.length + 1) out ∧
      L = (sb, .cells ⟨sxv xs⟩ 46 (0, 0)) :: (wb, Obj.cells ⟨wcp c (.slice ta T.length tc) mb hb B (freeS c T o given) left (.slice va out.length vc) vs⟩ 58 (0, 0)) :: (mb, ob) :: (hb, .cells ⟨(countsOf c T o).map (.int .i64)⟩ 3 (0, 0)) :: (Fl ++ Fo) ∧
      Slots ρ [(0, .pointer (some ⟨wb, 0, none⟩)), (1, .int .i64 at_), (2, .int .i64 x), (7, .pointer (some ⟨sb, 0, none⟩)), (8, vl)]) (T.length + 1)
      ⟨[], _, [], ob, out, by simp, hm, by simp, by simp, by simp; omega, OwnS.nil _ _, Nat.lt_succ_of_le (goers_le _ _ _), rfl, rfl, rfl, rfl, rfl, rfl, rfl, trivial⟩ ?_
    rintro k ρ L ⟨lost, vl, Fl, ob, o, hoe, hmo, hlo, hln, hlk, hown, hgo, hmd, rfl, hs⟩
    obtain ⟨k, rfl⟩ : ∃ k', k = k' + 1 := ⟨k - 1, by omega⟩
    obtain ⟨la, lc, rfl⟩ := hown.val
    refine XC.slots _ hs ?_
    (repeat (first | (with_reducible apply XC.seq) | (with_reducible apply XQ.nt) | ((with_reducible apply XP.p1); (case ho | hg | hv => exact rfl)) | ((with_reducible apply XP.load); (case ho | hg | ht | hk | hx => exact rfl); (case hc => exact own_cell (i := 1) rfl rfl)) | ((with_reducible apply XP.loadO (j := 0)); (case ho | hg | ht | hk | hx | hi | hc => exact rfl)) | (with_reducible apply XP.done) | ((with_reducible apply XP.e); (first | ((with_reducible apply XE.d); (case ho => exact rfl); (case hd => exact rfl)) | ((with_reducible apply XE.e); (case ho => exact rfl)))) | ((with_reducible apply XP.keep); (case hk => first | ((repeat' (first | exact List.forall_mem_nil _ | (with_reducible refine List.forall_mem_cons.2 ⟨?_, ?_⟩) | exact List.mem_cons_self .. | (with_reducible apply List.mem_cons_of_mem) | (with_reducible apply List.mem_append_right))); done) | (intro x hx; first | exact sel_in hx | exact List.mem_cons_of_mem _ (sel_in hx) | exact List.mem_append_right _ (sel_in hx) | exact hx | exact List.mem_cons_of_mem _ hx | exact List.mem_append_right _ hx | ((repeat (first | exact sel_in hx | exact hx | (with_reducible apply List.mem_cons_of_mem) | (with_reducible apply List.mem_append_right))); done) | cases hx))) | ((with_reducible apply XC.regionD (Γ := Γ) mixed (.q 0 (.q 1 (.q 2 (.q 3 (.q 4 (.q 5 (.q 6 (.e 7 (.q 8 (.done)))))))))) [] []); (case hc => kernel_rfl)) | (((with_reducible apply XOp.callQ (hF := beyondP_fn wb c hc xs.1 hsok (by omega) xs.2.1 xs.2.2 x hx)); (case hg => exact rfl); (case hc => exact rfl); (case ha => exact rfl); try (case hA => exact Known.true)); (case hA => exact (Known.blk (List.mem_cons_of_mem _ (List.mem_cons_self ..))).imp (fun h hr => hr 1 _ rfl)); rintro _ rfl)))
    ((with_reducible apply XC.cond); (case hc => exact rfl); all_goals (intro hb_; try simp only [pd_true, pd_false, Bool.not_eq_true', Bool.not_eq_false', Bool.and_eq_true, Bool.and_eq_false_iff, Bool.or_eq_true, Bool.or_eq_false_iff, not_true_eq_false, not_false_eq_true, Int.not_lt, Int.not_le] at hb_))
    · have hnf : ¬ beyondS c xs.1 x ≤ freeS c T o given := by omega
      (repeat (first | (with_reducible apply XL.op) | ((with_reducible apply XOp.p1); (case hg | hv => exact rfl)) | ((with_reducible apply XOp.load); (case hg | ht | hk | hx => exact rfl); (case hc => exact own_cell (i := 1) rfl rfl)) | (with_reducible apply XL.nilT) | (with_reducible apply XC.seq) | (with_reducible apply XC.region (Γ := Γ)) | (with_reducible apply XQ.skip) | (with_reducible apply XQ.nt) | (with_reducible apply XC.block)))
      refine XC.cutB (fun ρ L => (∀ z ∈ T, canGo xs.1.Id o z = false) ∧ ((sb, Obj.cells ⟨sxv xs⟩ 46 (0, 0)) :: (wb, Obj.cells ⟨wcp c (.slice ta T.length tc) mb hb B (freeS c T o given) left (.slice va out.length vc) vs⟩ 58 (0, 0)) :: (mb, ob) :: (hb, .cells ⟨(countsOf c T o).map (.int .i64)⟩ 3 (0, 0)) :: (Fl ++ Fo)).Sublist L ∧
        Slots ρ [(0, .pointer (some ⟨wb, 0, none⟩)), (1, .int .i64 at_), (2, .int .i64 x), (7, .pointer (some ⟨sb, 0, none⟩)), (8, .slice la lost.length lc)]) ?_ ?_
      · have e9 : IntKind.i64.wrap ((T.length : Nat) - 1) = ((at_ + (T.length - 1 - at_) : Nat) : Int) := by rw [wrap64_of (by omega) (by omega)]; omega
        refine XC.loopS (fun k2 ρ L => (∀ j z, T[j]? = some z → at_ + k2 < j → canGo xs.1.Id o z = false) ∧ at_ + k2 < T.length ∧
          L = (sb, .cells ⟨sxv xs⟩ 46 (0, 0)) :: (wb, Obj.cells ⟨wcp c (.slice ta T.length tc) mb hb B (freeS c T o given) left (.slice va out.length vc) vs⟩ 58 (0, 0)) :: (mb, ob) :: (hb, .cells ⟨(countsOf c T o).map (.int .i64)⟩ 3 (0, 0)) :: (Fl ++ Fo) ∧
          Slots ρ [(0, .pointer (some ⟨wb, 0, none⟩)), (1, .int .i64 at_), (2, .int .i64 x), (7, .pointer (some ⟨sb, 0, none⟩)), (8, .slice la lost.length lc), (9, .int .i64 ((at_ + k2 : Nat) : Int))]) (T.length - 1 - at_)
          ⟨fun j z hj h => by have := (List.getElem?_eq_some_iff.1 hj).1; omega, by omega, rfl, rfl, rfl, rfl, rfl, rfl, by rw [← e9]; rfl, trivial⟩ ?_
        rintro k2 ρ L ⟨hno, hk2, rfl, hs⟩
        refine XC.slots _ hs ?_
        (repeat (first | (with_reducible apply XL.op) | ((with_reducible apply XOp.p1); (case hg | hv => exact rfl)) | (with_reducible apply XL.nilT) | (with_reducible apply XC.seq) | (with_reducible apply XC.region (Γ := Γ))))
        ((with_reducible apply XC.cond); (case hc => exact rfl); all_goals (intro hb_; try simp only [pd_true, pd_false, Bool.not_eq_true', Bool.not_eq_false', Bool.and_eq_true, Bool.and_eq_false_iff, Bool.or_eq_true, Bool.or_eq_false_iff, not_true_eq_false, not_false_eq_true, Int.not_lt, Int.not_le] at hb_))
        · obtain ⟨y, hy⟩ : ∃ y, tv[at_ + k2]? = some y := ⟨_, List.getElem?_eq_getElem (by omega)⟩
          obtain ⟨hrowy, hHy, hyk⟩ := sv_at hA hy
          have hyT := hTi hy
          have hyl := hHy.bytes
          have hyo := hTk y.1 (List.mem_of_getElem? hyT)
          have hlt : xs.1.Id < y.1.Id := (rising_idx hT hsT hyT).2 (by omega)
          (repeat (first | (with_reducible apply XL.op) | ((with_reducible apply XOp.p1); (case hg | hv => exact rfl)) | ((with_reducible apply XOp.load); (case hg | ht | hk | hx => exact rfl); (case hc => exact own_cell (i := 1) rfl rfl)) | ((with_reducible apply XOp.pr); (case hg => exact rfl); (case hr => ((with_reducible apply PR.idxA); (case ht | hk | he | hx | hi => exact rfl); (case hr => first | assumption | omega); (case ha => first | assumption | exact SlA.at_ (by assumption))))) | (with_reducible apply XC.seq) | (with_reducible apply XC.region (Γ := Γ)) | (with_reducible apply XQ.skip) | (with_reducible apply XQ.nt) | (with_reducible apply XC.block) | (first | ((with_reducible apply XOp.loadN); (case hg | ht | hk | hx => exact rfl); (case hc => exact Known.of_old hrowy (Mono.row _ _ _)); (case hl => exact rfl)) | ((with_reducible apply XP.loadN); (case ho | hg | ht | hk | hx => exact rfl); (case hc => exact Known.of_old hrowy (Mono.row _ _ _)); (case hl => exact rfl)))))
          ((with_reducible apply XOp.alloc); (case hg | ht | hx' => exact rfl); intro yb)
          have hnoS : canGo xs.1.Id o y.1 = false → ∀ j z, T[j]? = some z → at_ + (k2 - 1) < j → canGo xs.1.Id o z = false := fun hcg j z hj h => by
            by_cases e : j = at_ + k2
            · subst e; rw [hyT] at hj; cases hj; exact hcg
            · exact hno j z hj (by omega)
          have e9' : IntKind.i64.wrap (((at_ + k2 : Nat) : Int) - 1) = ((at_ + (k2 - 1) : Nat) : Int) := by rw [wrap64_of (by omega) (by omega)]; omega
          (repeat' (first | (with_reducible apply XL.op) | ((with_reducible apply XOp.p1); (case hg | hv => exact rfl)) | ((with_reducible apply XOp.loadO (i := 0)); (case hg | ht | hk | hx | hi | hc => exact rfl)) | ((with_reducible apply XOp.storeN (i := 0)); (case hg | ht | hx | hv' | hk | h1 | hi | hs | ha => exact rfl)) | (with_reducible apply XL.nilT) | (with_reducible apply XC.seq) | (with_reducible apply XC.region (Γ := Γ)) | (with_reducible apply XQ.skip) | (with_reducible apply XQ.nt) | (with_reducible apply XQ.nb) | ((with_reducible apply XP.p1); (case ho | hg | hv => exact rfl)) | ((with_reducible apply XP.p0); (case ho | hg => exact rfl)) | ((with_reducible apply XP.load); (case ho | hg | ht | hk | hx => exact rfl); (case hc => exact own_cell (i := 0) rfl rfl)) | ((with_reducible apply XP.load); (case ho | hg | ht | hk | hx => exact rfl); (case hc => exact own_cell (i := 2) rfl rfl)) | (with_reducible apply XP.done) | ((with_reducible apply XC.condF); (case hc => exact rfl)) | ((with_reducible apply XC.regionD (Γ := Γ) mixed (.q 0 (.q 1 (.q 2 (.q 3 (.q 4 (.q 5 (.q 6 (.q 7 (.q 8 (.q 9 (.q 10 (.q 11 (.q 12 (.q 13 (.done))))))))))))))) [] []); (case hc => kernel_rfl)) | (first | ((with_reducible apply XOp.pr); (case hg => exact rfl); (case hr => (with_reducible apply PR.lookup (i := 3)); (case ht => exact rfl); (case hk => exact rfl); (case hte => exact rfl); (case hkt => exact rfl); (case he => exact rfl); (case hz => exact rfl); (case hx => exact rfl); (case hi => exact rfl); (case hL => exact rfl); (case hm => exact  hmo))) | ((with_reducible apply XP.pr); (case ho => exact rfl); (case hg => exact rfl); (case hr => (with_reducible apply PR.lookup (i := 3)); (case ht => exact rfl); (case hk => exact rfl); (case hte => exact rfl); (case hkt => exact rfl); (case he => exact rfl); (case hz => exact rfl); (case hx => exact rfl); (case hi => exact rfl); (case hL => exact rfl); (case hm => exact  hmo)))) | ((with_reducible apply XP.split); (case ho | hg | hj | hd | hb => exact rfl); (fail_if_success (case hf => exact fun h => Bool.noConfusion h)); (fail_if_success (case ht => exact fun h => Bool.noConfusion h)); all_goals (intro hb_; try simp only [pd_true, pd_false, Bool.not_eq_true', Bool.not_eq_false', Bool.and_eq_true, Bool.and_eq_false_iff, Bool.or_eq_true, Bool.or_eq_false_iff, not_true_eq_false, not_false_eq_true, Int.not_lt, Int.not_le] at hb_)) | ((with_reducible apply XC.cond); (case hc => exact rfl); all_goals (intro hb_; try simp only [pd_true, pd_false, Bool.not_eq_true', Bool.not_eq_false', Bool.and_eq_true, Bool.and_eq_false_iff, Bool.or_eq_true, Bool.or_eq_false_iff, not_true_eq_false, not_false_eq_true, Int.not_lt, Int.not_le] at hb_))))
          · have hyno : y.1.Id ∉ o := markM_zero ‹_›
            have hcg : canGo xs.1.Id o y.1 = true := canGo_iff.2 ⟨hlt, by omega, hyno⟩
            have hyng : IsYng T xs.1.Id o y.1 := ⟨List.mem_of_getElem? hyT, hcg, fun z hz hg => by
              obtain ⟨j, hj⟩ := List.getElem?_of_mem hz
              by_cases hjk : at_ + k2 < j
              · rw [hno j z hj hjk] at hg; cases hg
              · rcases Nat.lt_or_ge j (at_ + k2) with h | h
                · have := hT.get hj hyT h; omega
                · obtain rfl : j = at_ + k2 := by omega
                  rw [hyT] at hj; cases hj; omega⟩
            have hcl : (countsOf c T o).length = B := by rw [countsOf_length, hBt]
            have hls := lose_fn wb mb hb c (.slice ta T.length tc) (.slice va out.length vc) vs (freeS c T o given) left (by have := free_range hc T o hgv; omega) ob (markM o) hmo (countsOf c T o) (counts_range hTl' o) (by omega) y.1 hyo.2.2.2.2
              (fun b hb => by have := hyo.2.2.2.1 b hb; omega) y.2.1 y.2.2
            rw [hcl] at hls
            (refine XOp.perm (L := (yb, Obj.cells ⟨sxv y⟩ 46 (0, 0)) :: (sb, Obj.cells ⟨sxv xs⟩ 46 (0, 0)) :: [(wb, Obj.cells ⟨wcp c (.slice ta T.length tc) mb hb B (freeS c T o given) left (.slice va out.length vc) vs⟩ 58 (0, 0)), (mb, ob), (hb, .cells ⟨(countsOf c T o).map (.int .i64)⟩ 3 (0, 0))] ++ (Fl ++ Fo)) (L' :=  [(wb, Obj.cells ⟨wcp c (.slice ta T.length tc) mb hb B (freeS c T o given) left (.slice va out.length vc) vs⟩ 58 (0, 0)), (mb, ob), (hb, .cells ⟨(countsOf c T o).map (.int .i64)⟩ 3 (0, 0))] ++ ((yb, .cells ⟨sxv y⟩ 46 (0, 0)) :: (sb, .cells ⟨sxv xs⟩ 46 (0, 0)) :: (Fl ++ Fo))) rfl ?_ (by (first | (with_reducible exact List.Perm.refl _) | refine perm_of_cnt fun p_ => ?_; simp only [List.countP_append, List.countP_cons, List.countP_nil]; omega)))
            ((with_reducible apply XOp.call (hF := hls)); (case hg => exact rfl); (case hc => exact rfl); (case ha => exact rfl); (case hL => exact rfl))
            · exact Known.of_old hHy (Mono.sl _ _ _ _ _)
            rintro v L' ⟨ob', hmo', rfl⟩
            rw [← free_go hT hyng.1 hyno hyo.2.2.2, decs_go hT hyng.1 hyno]
            (repeat (first | (with_reducible apply XL.op) | ((with_reducible apply XOp.p1); (case hg | hv => exact rfl)) | ((with_reducible apply XOp.loadO (i := 3)); (case hg | ht | hk | hx | hi | hc => exact rfl)) | (with_reducible apply XL.nilT) | (with_reducible apply XC.seq) | (with_reducible apply XC.region (Γ := Γ))))
            ((with_reducible apply XOp.buildSlice); (case hg | ht | hk | he | hz | hzl | hf => exact rfl); intro bb)
            (repeat ((with_reducible apply XL.op)))
            (refine XOp.perm (L := (bb, Obj.cells ⟨sxv y⟩ 46 (0, 0)) :: [(wb, Obj.cells ⟨wcp c (.slice ta T.length tc) mb hb B (freeS c T (o ++ [y.1.Id]) given) left (.slice va out.length vc) vs⟩ 58 (0, 0)), (mb, ob'), (hb, .cells ⟨(countsOf c T (o ++ [y.1.Id])).map (.int .i64)⟩ 3 (0, 0))] ++ ((yb, Obj.cells ⟨sxv y⟩ 46 (0, 0)) :: (sb, .cells ⟨sxv xs⟩ 46 (0, 0)) :: (Fl ++ Fo))) (L' :=  (bb, .cells ⟨sxv y⟩ 46 (0, 0)) :: (Fl ++ ((sb, .cells ⟨sxv xs⟩ 46 (0, 0)) :: (wb, Obj.cells ⟨wcp c (.slice ta T.length tc) mb hb B (freeS c T (o ++ [y.1.Id]) given) left (.slice va out.length vc) vs⟩ 58 (0, 0)) :: (mb, ob') :: (hb, .cells ⟨(countsOf c T (o ++ [y.1.Id])).map (.int .i64)⟩ 3 (0, 0)) :: (Fo ++ [(yb, .cells ⟨sxv y⟩ 46 (0, 0))])))) rfl ?_ (by (first | (with_reducible exact List.Perm.refl _) | refine perm_of_cnt fun p_ => ?_; simp only [List.countP_append, List.countP_cons, List.countP_nil]; omega)))
            ((with_reducible apply XOp.append1); (case hg => exact rfl); (case ht => exact rfl); (case hk => exact rfl); (case he => exact rfl); (case hown => exact hown); (case hs => exact rfl); (case hx => exact rfl); (case hL => exact rfl); (case hl => exact rfl); (case h1 => exact rfl); (case hz => exact rfl); (case hsz => exact Nat.zero_lt_succ _); (case hk0 => exact Nat.zero_lt_succ _); (case h63 => simp only [maxLen]; omega); (case hb => simp only []; omega); intro v_ F_ hown_; obtain ⟨a_, c_, rfl⟩ := hown_.val)
            (repeat (first | (with_reducible apply XL.op) | ((with_reducible apply XOp.p1); (case hg | hv => exact rfl)) | (with_reducible apply XL.nilT) | (with_reducible apply XQ.exit) | (with_reducible apply XQ.nt) | (with_reducible apply XQ.et) | ((with_reducible apply XQ.eb); (case hb => exact rfl)) | ((with_reducible apply XQ.en); (case hb => exact rfl))))
            refine ⟨k, by omega, _, ?_, lost ++ [y], _, F_, ob', o ++ [y.1.Id], by rw [hoe]; simp, hmo'.conv (markM_upd hyno), ?_, ?_, by simp; omega, hown_.conv (by simp) (by simp [sxv]), ?_, ?_, rfl, rfl, rfl, rfl, rfl, rfl, trivial⟩
            · exact ⟨(sb, .cells ⟨sxv xs⟩ 46 (0, 0)) :: (wb, Obj.cells ⟨wcp c (.slice ta T.length tc) mb hb B (freeS c T (o ++ [y.1.Id]) given) left (.slice va out.length vc) vs⟩ 58 (0, 0)) :: (mb, ob') :: (hb, .cells ⟨(countsOf c T (o ++ [y.1.Id])).map (.int .i64)⟩ 3 (0, 0)) :: ((F_ ++ Fo) ++ [(yb, .cells ⟨sxv y⟩ 46 (0, 0))]), by (first | (with_reducible exact List.Perm.refl _) | refine perm_of_cnt fun p_ => ?_; simp only [List.countP_append, List.countP_cons, List.countP_nil]; omega),
                List.Sublist.cons_cons _ (List.Sublist.cons_cons _ (List.Sublist.cons_cons _ (List.Sublist.cons_cons _ (List.sublist_append_left _ _))))⟩
            · intro z hz
              rcases List.mem_append.1 hz with h | h
              · exact hlo z h
              · rw [List.mem_singleton.1 h]
                exact ⟨List.mem_of_getElem? hy, fun h => hyno (by rw [hoe]; exact List.mem_append_left _ h)⟩
            · rw [List.map_append, List.nodup_append]
              exact ⟨hln, by simp, fun a ha b hb e => hyno (by rw [hoe]; simp at hb; rw [← hb, ← e]; exact List.mem_append_right _ ha)⟩
            · have := goers_lt hyng; omega
            · rw [← hmd, made, if_neg hnf, cand_of hT hyng]
          · refine ⟨k2 - 1, by omega, _, List.Sublist.cons _ (List.Sublist.refl _), hnoS (by rw [← Bool.not_eq_true, canGo_iff]; intro h; omega), by omega, rfl, rfl, rfl, rfl, rfl, rfl, ?_, trivial⟩
            show Value.int _ _ = _
            rw [e9']
          · refine ⟨k2 - 1, by omega, _, List.Sublist.cons _ (List.Sublist.refl _), hnoS (by rw [← Bool.not_eq_true, canGo_iff]; intro h; exact hb_ (markM_notin h.2.2)), by omega, rfl, rfl, rfl, rfl, rfl, rfl, ?_, trivial⟩
            show Value.int _ _ = _
            rw [e9']
        · obtain rfl : k2 = 0 := by omega
          (repeat (first | (with_reducible apply XQ.exit) | (with_reducible apply XQ.nt) | (with_reducible apply XQ.et) | ((with_reducible apply XQ.eb); (case hb => exact rfl))))
          refine ⟨fun z hz => ?_, List.Sublist.refl _, rfl, rfl, rfl, rfl, rfl, trivial⟩
          obtain ⟨j, hj⟩ := List.getElem?_of_mem hz
          by_cases hjk : at_ < j
          · exact hno j z hj (by omega)
          · rw [← Bool.not_eq_true, canGo_iff]
            intro h
            have := (rising_idx hT hsT hj).1 h.1
            omega
      · rintro ρ L ⟨hno, hsub, hs⟩
        have hm0 : made c T given xs.1 x (T.length + 1) out = none := by
          rw [← hmd, made, if_neg hnf, cand_none hno]
        rw [hm0]
        refine XQ.nt (XC.sub2 (.of ((List.sublist_cons_self _ _).trans hsub)) (XC.slots _ hs ?_))
        obtain ⟨la', lc', hle', hraw⟩ := hown.raw (f := sxv) (k := 5) (hk := sxv_len) (by_ := 56) rfl (by omega)
        simp only [Value.slice.injEq] at hle'
        obtain ⟨rfl, _, rfl⟩ := hle'
        (repeat (first | (with_reducible apply XL.op) | ((with_reducible apply XOp.p1); (case hg | hv => exact rfl)) | (with_reducible apply XL.nilT) | (with_reducible apply XC.seq) | (with_reducible apply XC.region (Γ := Γ)) | (with_reducible apply XC.block)))
        refine XC.loopP (fun k ρ L => ∃ (j : Nat) (ob : Obj) (o : List Int), j + k = lost.length ∧ o = out ++ (lost.drop j).map (·.1.Id) ∧ MapIs ob (markM o) ∧
          L = (wb, Obj.cells ⟨wcp c (.slice ta T.length tc) mb hb B (freeS c T o given) left (.slice va out.length vc) vs⟩ 58 (0, 0)) :: (mb, ob) :: (hb, .cells ⟨(countsOf c T o).map (.int .i64)⟩ 3 (0, 0)) :: (Fl ++ Fo) ∧
          Slots ρ [(0, .pointer (some ⟨wb, 0, none⟩)), (70, .slice la lost.length lc), (71, .int .i64 lost.length), (72, .int .i64 j)]) lost.length
          ⟨0, ob, o, by simp, by rw [hoe, List.drop_zero], hmo, rfl, rfl, rfl, rfl, rfl, trivial⟩ ?_
        rintro k ρ L ⟨j, ob, oj, hjk, hoj, hmj, rfl, hs⟩
        refine XC.slots _ hs ?_
        (repeat (first | (with_reducible apply XL.op) | ((with_reducible apply XOp.p1); (case hg | hv => exact rfl)) | (with_reducible apply XL.nilT) | (with_reducible apply XC.seq) | (with_reducible apply XC.region (Γ := Γ))))
        ((with_reducible apply XC.cond); (case hc => exact rfl); all_goals (intro hb_; try simp only [pd_true, pd_false, Bool.not_eq_true', Bool.not_eq_false', Bool.and_eq_true, Bool.and_eq_false_iff, Bool.or_eq_true, Bool.or_eq_false_iff, not_true_eq_false, not_false_eq_true, Int.not_lt, Int.not_le] at hb_))
        · obtain ⟨y, hy⟩ : ∃ y, lost[j]? = some y := ⟨_, List.getElem?_eq_getElem (by omega)⟩
          have hyl := List.mem_of_getElem? hy
          have hrowy := hraw.rawAt hy
          obtain ⟨iy, hiy⟩ := List.getElem?_of_mem (hlo y hyl).1
          obtain ⟨_, hHy, _⟩ := sv_at hA hiy
          have hyT := List.mem_of_getElem? (hTi hiy)
          have hyo := hTk y.1 hyT
          have hyln := hHy.bytes
          have hdr : (lost.drop j).map (·.1.Id) = y.1.Id :: (lost.drop (j + 1)).map (·.1.Id) := by
            have hjl := (List.getElem?_eq_some_iff.1 hy).1
            rw [List.drop_eq_getElem_cons hjl, List.map_cons]
            rw [List.getElem?_eq_getElem hjl] at hy; cases hy; rfl
          obtain ⟨o', ho'⟩ : ∃ o', o' = out ++ (lost.drop (j + 1)).map (·.1.Id) := ⟨_, rfl⟩
          have hyn : y.1.Id ∉ o' := by
            rw [ho', List.mem_append]
            rintro (h | h)
            · exact (hlo y hyl).2 h
            · have hn2 := (List.drop_sublist j (lost.map (·.1.Id))).nodup hln
              rw [← List.map_drop, hdr, List.nodup_cons] at hn2
              exact hn2.1 h
          have hmem : ∀ z, z ∈ oj ↔ z ∈ o' ++ [y.1.Id] := fun z => by
            rw [hoj, hdr, ho']
            generalize (lost.drop (j + 1)).map (·.1.Id) = R
            simp only [List.mem_append, List.mem_cons, List.not_mem_nil, or_false]
            constructor
            · rintro (h | h | h) <;> simp [h]
            · rintro ((h | h) | h) <;> simp [h]
          have hmem2 : ∀ z, z ∈ oj ↔ z ∈ y.1.Id :: o' := fun z => by
            rw [hmem]; simp only [List.mem_append, List.mem_cons, List.not_mem_nil, or_false]
            exact Or.comm
          have hcl : (countsOf c T oj).length = B := by rw [countsOf_length, hBt]
          have hbd : ∀ b ∈ y.1.Held, 0 ≤ b ∧ b < B := fun b hb => by have := hyo.2.2.2.1 b hb; omega
          have hrg := regain_fn wb mb hb c (.slice ta T.length tc) (.slice va out.length vc) vs (freeS c T oj given) left (by have := free_range hc T oj hgv; omega) ob (markM oj) hmj (countsOf c T oj) (counts_range hTl' oj) (by omega) y.1 hyo.2.2.2.2
            (fun b hb => by have := hbd b hb; omega) y.2.1 y.2.2
          rw [hcl] at hrg
          have ec : countsOf c T oj = decs (countsOf c T o') y.1.Held := by rw [counts_mem hmem, decs_go hT hyT hyn]
          have ec2 : incs (countsOf c T oj) y.1.Held = countsOf c T o' := by rw [ec, incs_decs]
          have ef : freeS c T oj given - zeros (countsOf c T oj) y.1.Held = freeS c T o' given := by
            rw [ec, zeros_decs (fun b hb => by rw [countsOf_length, hBt]; have := hbd b hb; omega), free_mem hmem, free_go hT hyT hyn hyo.2.2.2]; omega
          rw [ec2, ef] at hrg
          (repeat (first | (with_reducible apply XL.op) | ((with_reducible apply XOp.pr); (case hg => exact rfl); (case hr => ((with_reducible apply PR.idxA); (case ht | hk | he | hx | hi => exact rfl); (case hr => first | assumption | omega); (case ha => first | assumption | exact SlA.at_ (by assumption))))) | (with_reducible apply XC.seq) | (with_reducible apply XC.region (Γ := Γ)) | (with_reducible apply XQ.skip) | (with_reducible apply XQ.nt) | (with_reducible apply XC.block) | (first | ((with_reducible apply XOp.loadN); (case hg | ht | hk | hx => exact rfl); (case hc => exact Known.of_frag hrowy (Mono.row _ _ _) (fun z hz => List.mem_cons_of_mem _ (List.mem_cons_of_mem _ (List.mem_cons_of_mem _ (List.mem_append_left _ hz))))); (case hl => exact rfl)) | ((with_reducible apply XP.loadN); (case ho | hg | ht | hk | hx => exact rfl); (case hc => exact Known.of_frag hrowy (Mono.row _ _ _) (fun z hz => List.mem_cons_of_mem _ (List.mem_cons_of_mem _ (List.mem_cons_of_mem _ (List.mem_append_left _ hz))))); (case hl => exact rfl)))))
          ((with_reducible apply XOp.alloc); (case hg | ht | hx' => exact rfl); intro yb)
          (repeat (first | (with_reducible apply XL.op) | ((with_reducible apply XOp.p1); (case hg | hv => exact rfl)) | ((with_reducible apply XOp.loadO (i := 0)); (case hg | ht | hk | hx | hi | hc => exact rfl)) | ((with_reducible apply XOp.storeN (i := 0)); (case hg | ht | hx | hv' | hk | h1 | hi | hs | ha => exact rfl)) | (with_reducible apply XL.nilT) | (with_reducible apply XC.region (Γ := Γ))))
          (refine XOp.perm (L := (yb, .cells ⟨sxv y⟩ 46 (0, 0)) :: (wb, Obj.cells ⟨wcp c (.slice ta T.length tc) mb hb B (freeS c T oj given) left (.slice va out.length vc) vs⟩ 58 (0, 0)) :: (mb, ob) :: (hb, .cells ⟨(countsOf c T oj).map (.int .i64)⟩ 3 (0, 0)) :: (Fl ++ Fo)) (L' :=  [(wb, Obj.cells ⟨wcp c (.slice ta T.length tc) mb hb B (freeS c T oj given) left (.slice va out.length vc) vs⟩ 58 (0, 0)), (mb, ob), (hb, .cells ⟨(countsOf c T oj).map (.int .i64)⟩ 3 (0, 0))] ++ ((yb, .cells ⟨sxv y⟩ 46 (0, 0)) :: (Fl ++ Fo))) rfl ?_ (by (first | (with_reducible exact List.Perm.refl _) | refine perm_of_cnt fun p_ => ?_; simp only [List.countP_append, List.countP_cons, List.countP_nil]; omega)))
          ((with_reducible apply XOp.call (hF := hrg)); (case hg => exact rfl); (case hc => exact rfl); (case ha => exact rfl); (case hL => exact rfl))
          · exact Known.of_old hHy (Mono.sl _ _ _ _ _)
          rintro v L' ⟨ob', hmo', rfl⟩
          (repeat (first | (with_reducible apply XL.op) | ((with_reducible apply XOp.p1); (case hg | hv => exact rfl)) | (with_reducible apply XL.nilT) | (with_reducible apply XC.region (Γ := Γ)) | (with_reducible apply XL.nilQ) | (with_reducible apply XQ.nt) | (with_reducible apply XQ.nb)))
          refine ⟨k - 1, by omega, _, ?_, j + 1, ob', o', by omega, ho', hmo'.conv (by rw [markM_mem hmem2]; exact markM_del hyn), rfl, rfl, rfl, rfl, intS (m := 100) (by omega) (by omega), trivial⟩
          exact .of (List.Sublist.cons_cons _ (List.Sublist.cons_cons _ (List.Sublist.cons_cons _ (List.Sublist.cons _ (List.Sublist.refl _)))))
        · obtain rfl : j = lost.length := by omega
          have ho2 : oj = out := by rw [hoj, List.drop_length]; simp
          subst ho2
          (repeat (first | (with_reducible apply XL.op) | ((with_reducible apply XOp.p1); (case hg | hv => exact rfl)) | (with_reducible apply XL.nilT) | (with_reducible apply XC.seq) | (with_reducible apply XC.region (Γ := Γ)) | (with_reducible apply XQ.ret) | (with_reducible apply XQ.exit) | (with_reducible apply XQ.nt) | (with_reducible apply XQ.rt) | (with_reducible apply XQ.rb) | (with_reducible apply XQ.et) | ((with_reducible apply XQ.eb); (case hb => exact rfl))))
          ((with_reducible apply XQ.retE); (case hr => exact .t rfl .nil))
          exact ⟨_, .of (List.Sublist.cons_cons _ (List.Sublist.cons_cons _ (List.Sublist.cons_cons _ (List.sublist_append_right _ _)))), rfl, ob, hmj, rfl⟩
    · have hm0 : made c T given xs.1 x (T.length + 1) out = some o := by rw [← hmd, made, if_pos hb_]
      (repeat (first | (with_reducible apply XQ.exit) | (with_reducible apply XQ.nt) | (with_reducible apply XQ.et) | ((with_reducible apply XQ.eb); (case hb => exact rfl))))
      exact ⟨lost, _, Fl, ob, o, hoe, hmo, fun y hy => ((hok y (hlo y hy).1).2).1, by omega, hown, hm0, .of (List.Sublist.cons _ (List.Sublist.refl _)), rfl, rfl, trivial⟩
  · rintro ρ L ⟨lost, vl, Fl, ob, o, hoe, hmo, hlk, hll, hown, hm0, hsub, hs⟩
    rw [hm0]
    obtain ⟨la, lc, rfl⟩ := hown.val
    obtain ⟨la', lc', hle', hraw⟩ := hown.raw (f := sxv) (k := 5) (hk := sxv_len) (by_ := 56) rfl (by omega)
    simp only [Value.slice.injEq] at hle'
    obtain ⟨rfl, _, rfl⟩ := hle'
    refine XQ.nt (XC.sub2 hsub (XC.slots _ hs ?_))
    (repeat (first | (with_reducible apply XL.op) | ((with_reducible apply XOp.p1); (case hg | hv => exact rfl)) | (with_reducible apply XL.nilT) | (with_reducible apply XC.seq) | (with_reducible apply XC.region (Γ := Γ)) | (with_reducible apply XC.block)))
    refine XC.loopP (fun k ρ L => ∃ (j : Nat) (vo' : Value) (Fo' : HL), j + k = lost.length ∧ OwnI vo' (out ++ (lost.take j).map (·.1.Id)) Fo' ∧
      L = (wb, Obj.cells ⟨wcp c (.slice ta T.length tc) mb hb B (freeS c T o given) left vo' vs⟩ 58 (0, 0)) :: (mb, ob) :: (hb, .cells ⟨(countsOf c T o).map (.int .i64)⟩ 3 (0, 0)) :: (Fl ++ Fo') ∧
      Slots ρ [(0, .pointer (some ⟨wb, 0, none⟩)), (80, .slice la lost.length lc), (81, .int .i64 lost.length), (82, .int .i64 j)]) lost.length
      ⟨0, _, Fo, by simp, by simpa using hoi, rfl, rfl, rfl, rfl, rfl, trivial⟩ ?_
    rintro k ρ L ⟨j, vo', Fo', hjk, hoi', rfl, hs⟩
    obtain ⟨va', vc', rfl⟩ := hoi'.1.val
    refine XC.slots _ hs ?_
    (repeat (first | (with_reducible apply XL.op) | ((with_reducible apply XOp.p1); (case hg | hv => exact rfl)) | (with_reducible apply XL.nilT) | (with_reducible apply XC.seq) | (with_reducible apply XC.region (Γ := Γ))))
    ((with_reducible apply XC.cond); (case hc => exact rfl); all_goals (intro hb_; try simp only [pd_true, pd_false, Bool.not_eq_true', Bool.not_eq_false', Bool.and_eq_true, Bool.and_eq_false_iff, Bool.or_eq_true, Bool.or_eq_false_iff, not_true_eq_false, not_false_eq_true, Int.not_lt, Int.not_le] at hb_))
    · obtain ⟨y, hy⟩ : ∃ y, lost[j]? = some y := ⟨_, List.getElem?_eq_getElem (by omega)⟩
      have hrowy := hraw.rawAt hy
      (repeat (first | (with_reducible apply XL.op) | ((with_reducible apply XOp.pr); (case hg => exact rfl); (case hr => ((with_reducible apply PR.idxA); (case ht | hk | he | hx | hi => exact rfl); (case hr => first | assumption | omega); (case ha => first | assumption | exact SlA.at_ (by assumption))))) | (with_reducible apply XC.seq) | (with_reducible apply XC.region (Γ := Γ)) | (with_reducible apply XQ.skip) | (with_reducible apply XQ.nt) | (with_reducible apply XC.block) | (first | ((with_reducible apply XOp.loadN); (case hg | ht | hk | hx => exact rfl); (case hc => exact Known.of_frag hrowy (Mono.row _ _ _) (fun z hz => List.mem_cons_of_mem _ (List.mem_cons_of_mem _ (List.mem_cons_of_mem _ (List.mem_append_left _ hz))))); (case hl => exact rfl)) | ((with_reducible apply XP.loadN); (case ho | hg | ht | hk | hx => exact rfl); (case hc => exact Known.of_frag hrowy (Mono.row _ _ _) (fun z hz => List.mem_cons_of_mem _ (List.mem_cons_of_mem _ (List.mem_cons_of_mem _ (List.mem_append_left _ hz))))); (case hl => exact rfl)))))
      ((with_reducible apply XOp.alloc); (case hg | ht | hx' => exact rfl); intro yb)
      (repeat (first | (with_reducible apply XL.op) | ((with_reducible apply XOp.storeN (i := 0)); (case hg | ht | hx | hv' | hk | h1 | hi | hs | ha => exact rfl)) | (with_reducible apply XL.nilT) | ((with_reducible apply XP.p1); (case ho | hg | hv => exact rfl)) | ((with_reducible apply XP.load); (case ho | hg | ht | hk | hx => exact rfl); (case hc => exact own_cell (i := 0) rfl rfl)) | ((with_reducible apply XP.load); (case ho | hg | ht | hk | hx => exact rfl); (case hc => exact own_cell (i := 1) rfl rfl)) | ((with_reducible apply XP.e); (first | ((with_reducible apply XE.d); (case ho => exact rfl); (case hd => exact rfl)) | ((with_reducible apply XE.e); (case ho => exact rfl)))) | ((with_reducible apply XC.regionL (Γ := Γ) mixed (.q 0 (.q 1 (.q 2 (.q 3 (.q 4 (.q 5 (.q 6 (.q 7 (.e 8 (.e 9 (.q 10 (.q 11 (.q 12 (.e 13 (.done))))))))))))))) [13] ([(yb, .cells ⟨sxv y⟩ 46 (0, 0)), (wb, Obj.cells ⟨wcp c (.slice ta T.length tc) mb hb B (freeS c T o given) left (.slice va' (out ++ (lost.take j).map (·.1.Id)).length vc') vs⟩ 58 (0, 0))])); (case hc => kernel_rfl); (case hs => first | exact List.nil_sublist _ | exact List.Sublist.refl _ | exact List.sublist_append_right _ _ | (refine List.Sublist.cons_cons _ (List.nil_sublist _)) | (refine List.Sublist.cons_cons _ (List.Sublist.cons_cons _ (List.nil_sublist _))) | (refine List.Sublist.cons_cons _ (List.Sublist.cons_cons _ (List.Sublist.cons_cons _ (List.nil_sublist _)))) | (refine List.Sublist.cons_cons _ (List.Sublist.cons_cons _ (List.Sublist.cons_cons _ (List.Sublist.cons_cons _ (List.nil_sublist _)))))))))
      ((with_reducible apply XOp.buildSlice); (case hg | ht | hk | he | hz | hzl | hf => exact rfl); intro bb)
      (repeat (first | ((with_reducible apply XP.e); (first | ((with_reducible apply XE.d); (case ho => exact rfl); (case hd => exact rfl)) | ((with_reducible apply XE.e); (case ho => exact rfl)))) | ((with_reducible apply XP.keep); (case hk => first | ((repeat' (first | exact List.forall_mem_nil _ | (with_reducible refine List.forall_mem_cons.2 ⟨?_, ?_⟩) | exact List.mem_cons_self .. | (with_reducible apply List.mem_cons_of_mem) | (with_reducible apply List.mem_append_right))); done) | (intro x hx; first | exact sel_in hx | exact List.mem_cons_of_mem _ (sel_in hx) | exact List.mem_append_right _ (sel_in hx) | exact hx | exact List.mem_cons_of_mem _ hx | exact List.mem_append_right _ hx | ((repeat (first | exact sel_in hx | exact hx | (with_reducible apply List.mem_cons_of_mem) | (with_reducible apply List.mem_append_right))); done) | cases hx)))))
      (refine XOp.perm (L := (bb, .cells ⟨[.int .i64 y.1.Id]⟩ 3 (0, 0)) :: (yb, .cells ⟨sxv y⟩ 46 (0, 0)) :: (wb, Obj.cells ⟨wcp c (.slice ta T.length tc) mb hb B (freeS c T o given) left (.slice va' (out ++ (lost.take j).map (·.1.Id)).length vc') vs⟩ 58 (0, 0)) :: (mb, ob) :: (hb, .cells ⟨(countsOf c T o).map (.int .i64)⟩ 3 (0, 0)) :: (Fl ++ Fo')) (L' :=  (bb, .cells ⟨[.int .i64 y.1.Id]⟩ 3 (0, 0)) :: (Fo' ++ ((yb, .cells ⟨sxv y⟩ 46 (0, 0)) :: (wb, Obj.cells ⟨wcp c (.slice ta T.length tc) mb hb B (freeS c T o given) left (.slice va' (out ++ (lost.take j).map (·.1.Id)).length vc') vs⟩ 58 (0, 0)) :: (mb, ob) :: (hb, .cells ⟨(countsOf c T o).map (.int .i64)⟩ 3 (0, 0)) :: Fl))) rfl ?_ (by (first | (with_reducible exact List.Perm.refl _) | refine perm_of_cnt fun p_ => ?_; simp only [List.countP_append, List.countP_cons, List.countP_nil]; omega)))
      have hol2 : (out ++ (lost.take j).map (·.1.Id)).length ≤ 500 := by simp; omega
      ((with_reducible apply XOp.append1); (case hg => exact rfl); (case ht => exact rfl); (case hk => exact rfl); (case he => exact rfl); (case hown => exact hoi'.1); (case hs => exact rfl); (case hx => exact rfl); (case hL => exact rfl); (case hl => exact rfl); (case h1 => exact rfl); (case hz => exact rfl); (case hsz => exact Nat.zero_lt_succ _); (case hk0 => exact Nat.zero_lt_succ _); (case h63 => simp only [maxLen]; omega); (case hb => simp only []; omega); intro v_ F_ hown_; obtain ⟨a_, c_, rfl⟩ := hown_.val)
      (repeat (first | ((with_reducible apply XP.p1); (case ho | hg | hv => exact rfl)) | ((with_reducible apply XP.e); (first | ((with_reducible apply XE.d); (case ho => exact rfl); (case hd => exact rfl)) | ((with_reducible apply XE.e); (case ho => exact rfl)))) | ((with_reducible apply XP.keep); (case hk => first | ((repeat' (first | exact List.forall_mem_nil _ | (with_reducible refine List.forall_mem_cons.2 ⟨?_, ?_⟩) | exact List.mem_cons_self .. | (with_reducible apply List.mem_cons_of_mem) | (with_reducible apply List.mem_append_right))); done) | (intro x hx; first | exact sel_in hx | exact List.mem_cons_of_mem _ (sel_in hx) | exact List.mem_append_right _ (sel_in hx) | exact hx | exact List.mem_cons_of_mem _ hx | exact List.mem_append_right _ hx | ((repeat (first | exact sel_in hx | exact hx | (with_reducible apply List.mem_cons_of_mem) | (with_reducible apply List.mem_append_right))); done) | cases hx)))))
      (refine XOp.perm (L := F_ ++ ((yb, .cells ⟨sxv y⟩ 46 (0, 0)) :: (wb, Obj.cells ⟨wcp c (.slice ta T.length tc) mb hb B (freeS c T o given) left (.slice va' (out ++ (lost.take j).map (·.1.Id)).length vc') vs⟩ 58 (0, 0)) :: (mb, ob) :: (hb, .cells ⟨(countsOf c T o).map (.int .i64)⟩ 3 (0, 0)) :: Fl)) (L' :=  (yb, .cells ⟨sxv y⟩ 46 (0, 0)) :: (wb, Obj.cells ⟨wcp c (.slice ta T.length tc) mb hb B (freeS c T o given) left (.slice va' (out ++ (lost.take j).map (·.1.Id)).length vc') vs⟩ 58 (0, 0)) :: (mb, ob) :: (hb, .cells ⟨(countsOf c T o).map (.int .i64)⟩ 3 (0, 0)) :: (Fl ++ F_)) rfl ?_ (by (first | (with_reducible exact List.Perm.refl _) | refine perm_of_cnt fun p_ => ?_; simp only [List.countP_append, List.countP_cons, List.countP_nil]; omega)))
      (repeat (first | (with_reducible apply XL.op) | ((with_reducible apply XOp.p1); (case hg | hv => exact rfl)) | ((with_reducible apply XOp.store (i := 1)); (case hg | ht | hk | hx | hv | h1 | hi | hs | ha => exact rfl)) | (with_reducible apply XL.nilT) | (with_reducible apply XC.region (Γ := Γ)) | (with_reducible apply XQ.nt) | (with_reducible apply XQ.nb) | (with_reducible apply XP.done)))
      refine ⟨k - 1, by omega, _, .of (List.Sublist.cons _ (List.Sublist.refl _)), j + 1, .slice a_ ((out ++ (lost.take j).map (·.1.Id)).length + 1) c_, F_, by omega, ?_, rfl, rfl, rfl, rfl, intS (m := 100) (by omega) (by omega), trivial⟩
      have e : out ++ (lost.take (j + 1)).map (·.1.Id) = (out ++ (lost.take j).map (·.1.Id)) ++ [y.1.Id] := by rw [take_snoc hy, List.map_append, List.append_assoc]; rfl
      rw [e]
      refine ⟨hown_.conv (by simp; omega) (by simp [zerosL]), fun z hz => ?_⟩
      rcases List.mem_append.1 hz with h | h
      · exact hoi'.2 z h
      · rw [List.mem_singleton.1 h]; exact hlk y (List.mem_of_getElem? hy)
    · obtain rfl : j = lost.length := by omega
      rw [List.take_length, ← hoe] at hoi' ⊢
      (repeat (first | (with_reducible apply XL.op) | ((with_reducible apply XOp.p1); (case hg | hv => exact rfl)) | (with_reducible apply XL.nilT) | (with_reducible apply XC.seq) | (with_reducible apply XC.region (Γ := Γ)) | (with_reducible apply XQ.ret) | (with_reducible apply XQ.exit) | (with_reducible apply XQ.nt) | (with_reducible apply XQ.et) | ((with_reducible apply XQ.eb); (case hb => exact rfl))))
      ((with_reducible apply XQ.retE); (case hr => exact .t rfl .nil))
      exact ⟨_, .of (List.Sublist.cons_cons _ (List.Sublist.cons_cons _ (List.Sublist.cons_cons _ (List.sublist_append_right _ _)))), rfl, ob, _, Fo', hmo, hoi', rfl⟩
end Go.Proofs.YthnmagdaepgdiaaX
