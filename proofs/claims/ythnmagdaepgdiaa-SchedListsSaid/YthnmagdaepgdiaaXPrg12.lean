/- The program's plan. -/
import Derived.Test.YthnmagdaepgdiaaXPrg11
set_option linter.unusedSimpArgs false
set_option linter.unusedVariables false
namespace Go.Proofs.YthnmagdaepgdiaaX
open Go Go.SX

theorem rising_eq : ∀ {A B : List Seat}, Rising A → Rising B → A.Perm B → A = B
  | [], B, _, _, h => (List.Perm.nil_eq h)
  | x :: A, [], _, _, h => by have := h.length_eq; simp at this
  | x :: A, y :: B, ha, hb, h => by
    unfold Rising at ha hb
    rw [List.pairwise_cons] at ha hb
    have hxy : x = y := by
      have h1 : x ∈ y :: B := h.mem_iff.1 (List.mem_cons_self ..)
      have h2 : y ∈ x :: A := h.mem_iff.2 (List.mem_cons_self ..)
      rcases List.mem_cons.1 h1 with h1 | h1
      · exact h1
      · rcases List.mem_cons.1 h2 with h2 | h2
        · exact h2.symm
        · have := hb.1 x h1; have := ha.1 y h2; omega
    subst hxy
    rw [rising_eq ha.2 hb.2 (List.perm_cons x |>.1 h)]

set_option maxHeartbeats 8000000 in
theorem make_fn (c : Srv) (seats T : List Seat) (hTs : seatsOk c seats → Rising T ∧ T.Perm seats) (a : Option Addr) (cap : Nat) (picks : List Int) (pa : Option Addr) (pc : Nat) :
    FC Try.prog 17 [.agg ⟨c.cells⟩, .slice a seats.length cap, .slice pa picks.length pc] [] (fun h => SlA seatK 56 h seats a cap ∧ SlA (Kd.int .i64) 8 h picks pa pc)
    (PlanV (planOf c seats T picks)) := by
  refine FC.sub2 ?_
  refine FC.intro Try.func17 rfl (by kernel_rfl) 65 [.cell 6 34, .tmp 7] rfl rfl rfl ?_
  rintro w0 ⟨hst, hpk⟩
  (repeat (first | (with_reducible apply XL.op) | (with_reducible apply XC.seq) | (with_reducible apply XC.region (Γ := Γ))))
  ((with_reducible apply XOp.box); (case hg | hx' => exact rfl); intro cb)
  (repeat ((with_reducible apply XL.op)))
  ((with_reducible apply XOp.alloc); (case hg | ht | hx' => exact rfl); intro pb)
  (repeat (first | (with_reducible apply XL.op) | ((with_reducible apply XOp.p1); (case hg | hv => exact rfl)) | ((with_reducible apply XOp.loadO (i := 1)); (case hg | ht | hk | hx | hi | hc => exact rfl)) | (with_reducible apply XL.nilT) | (with_reducible apply XC.seq) | (with_reducible apply XC.region (Γ := Γ)) | (((with_reducible apply XOp.callQ (hF := check_fn c 1)); (case hg => exact rfl); (case hc => exact rfl); (case ha => exact rfl); try (case hA => exact Known.true)); rintro _ rfl)))
  ((with_reducible apply XC.cond); (case hc => exact rfl); all_goals (intro hb_; try simp only [pd_true, pd_false, Bool.not_eq_true', Bool.not_eq_false', Bool.and_eq_true, Bool.and_eq_false_iff, Bool.or_eq_true, Bool.or_eq_false_iff, not_true_eq_false, not_false_eq_true, Int.not_lt, Int.not_le] at hb_))
  · have hno : ¬ c.okS 1 := fun h => by unfold Go.SX.Srv.err at hb_; simp [h] at hb_
    have he : c.err 1 = 200 := by unfold Go.SX.Srv.err; simp [hno]
    (repeat (first | (with_reducible apply XL.op) | ((with_reducible apply XOp.p1); (case hg | hv => exact rfl)) | ((with_reducible apply XOp.storeN (i := 0)); (case hg | ht | hx | hv' | hk | h1 | hi | hs | ha => exact rfl)) | ((with_reducible apply XOp.pr); (case hg => exact rfl); (case hr => ((with_reducible apply PR.build); (case ht | hk | hok | hz | hf => exact rfl)))) | (with_reducible apply XL.nilT) | (with_reducible apply XC.seq) | (with_reducible apply XC.region (Γ := Γ)) | (with_reducible apply XQ.ret) | (with_reducible apply XQ.rt)))
    ((with_reducible apply XQ.retE); (case hr => exact .row rfl (by kernel_rfl) (by kernel_rfl) (Known.blk (List.mem_cons_self ..)) (.t rfl .nil)))
    refine ⟨[], .of (List.nil_sublist _), ?_⟩
    unfold planOf; rw [pdf hno, he]
    exact PlanV.none 200
  have hc : c.okS 1 := by
    by_cases h : c.okS 1
    · exact h
    · unfold Go.SX.Srv.err at hb_; simp [h] at hb_
  (repeat (first | (with_reducible apply XL.op) | ((with_reducible apply XOp.p1); (case hg | hv => exact rfl)) | ((with_reducible apply XOp.loadO (i := 1)); (case hg | ht | hk | hx | hi | hc => exact rfl)) | (with_reducible apply XL.nilT) | (with_reducible apply XC.seq) | (with_reducible apply XC.region (Γ := Γ)) | (with_reducible apply XQ.skip) | (with_reducible apply XQ.nt) | (((with_reducible apply XOp.callQ (hF := may_fn c hc seats a cap)); (case hg => exact rfl); (case hc => exact rfl); (case ha => exact rfl); try (case hA => exact Known.true)); (case hA => exact Known.of_old hst (Mono.sl _ _ _ _ _)); rintro _ rfl)))
  ((with_reducible apply XC.cond); (case hc => exact rfl); all_goals (intro hb_; try simp only [pd_true, pd_false, Bool.not_eq_true', Bool.not_eq_false', Bool.and_eq_true, Bool.and_eq_false_iff, Bool.or_eq_true, Bool.or_eq_false_iff, not_true_eq_false, not_false_eq_true, Int.not_lt, Int.not_le] at hb_))
  · have hno : ¬ seatsOk c seats := hb_
    (repeat (first | (with_reducible apply XL.op) | ((with_reducible apply XOp.p1); (case hg | hv => exact rfl)) | ((with_reducible apply XOp.storeN (i := 0)); (case hg | ht | hx | hv' | hk | h1 | hi | hs | ha => exact rfl)) | ((with_reducible apply XOp.pr); (case hg => exact rfl); (case hr => ((with_reducible apply PR.build); (case ht | hk | hok | hz | hf => exact rfl)))) | (with_reducible apply XL.nilT) | (with_reducible apply XC.seq) | (with_reducible apply XC.region (Γ := Γ)) | (with_reducible apply XQ.ret) | (with_reducible apply XQ.rt)))
    ((with_reducible apply XQ.retE); (case hr => exact .row rfl (by kernel_rfl) (by kernel_rfl) (Known.blk (List.mem_cons_self ..)) (.t rfl .nil)))
    refine ⟨[], .of (List.nil_sublist _), ?_⟩
    unfold planOf; rw [pdt hc, pdf hno]
    exact PlanV.none 1
  have hso : seatsOk c seats := hb_
  obtain ⟨hT, hp⟩ := hTs hso
  obtain ⟨sv, rfl, hsv⟩ := sv_of hst
  rw [List.length_map]
  (repeat (first | (with_reducible apply XL.op) | ((with_reducible apply XOp.p1); (case hg | hv => exact rfl)) | ((with_reducible apply XOp.loadO (i := 1)); (case hg | ht | hk | hx | hi | hc => exact rfl)) | (with_reducible apply XC.seq) | (with_reducible apply XC.region (Γ := Γ)) | (with_reducible apply XQ.skip) | (with_reducible apply XQ.nt)))
  ((with_reducible apply XOp.call (hF := begin_fn c hc sv hso a cap)); (case hg => exact rfl); (case hc => exact rfl); (case ha => exact rfl); (case hL => exact (List.nil_append _).symm); try (case hA => exact Known.true))
  · exact Known.of_old hsv (Mono.sl _ _ _ _ _)
  rintro v L' ⟨tv, wb, mb, hb, ob0, vt, Ft, htv, hris, rfl, hm0, hown, rfl⟩
  obtain rfl : T = tv.map (·.1) := rising_eq hT hris (hp.trans (htv.map (·.1)).symm)
  obtain ⟨T, hTe⟩ : ∃ T, T = tv.map (·.1) := ⟨_, rfl⟩
  rw [← hTe] at hT hp ⊢
  have hTlen : T.length = tv.length := by rw [hTe, List.length_map]
  have hsl := hso.1
  rw [List.length_map] at hsl
  have htl := htv.length_eq
  obtain ⟨ta, tc, rfl, hraw⟩ := hown.raw (f := sxv) (k := 5) (hk := sxv_len) (by_ := 56) rfl (by omega)
  have hin : ∀ x ∈ tv, ∃ i, sv[i]? = some x := fun x hx => List.getElem?_of_mem (htv.mem_iff.1 hx)
  have hok : ∀ x ∈ tv, seatOk c x.1 ∧ x.1.ok := fun x hx => by
    obtain ⟨i, hi⟩ := hin x hx
    exact ⟨hso.2.1 x.1 (List.mem_map.2 ⟨x, htv.mem_iff.1 hx, rfl⟩), (sv_at hsv hi).2.2⟩
  have hTk : ∀ z ∈ T, seatOk c z := fun z hz => by
    rw [hTe] at hz; obtain ⟨y, hy, rfl⟩ := List.mem_map.1 hz; exact (hok y hy).1
  (repeat (first | (with_reducible apply XL.op) | ((with_reducible apply XOp.p1); (case hg | hv => exact rfl)) | ((with_reducible apply XOp.load); (case hg | ht | hk | hx => exact rfl); (case hc => exact own_cell (i := 0) rfl rfl)) | (with_reducible apply XL.nilT) | (with_reducible apply XC.seq) | (with_reducible apply XC.region (Γ := Γ)) | (with_reducible apply XC.block)))
  refine XC.perm (L' := (wb, Obj.cells ⟨wcp c (.slice ta tv.length tc) mb hb c.Blocks.toNat (freeS c T [] 0) c.Budget (.slice none 0 0) (.slice none 0 0)⟩ 58 (0, 0)) :: (mb, ob0) :: (hb, .cells ⟨(countsOf c T []).map (.int .i64)⟩ 3 (0, 0)) :: (pb, .cells ⟨[.slice none 0 0, .slice none 0 0]⟩ 34 (0, 0)) :: (cb, .cells ⟨c.cells⟩ 23 (0, 0)) :: (([] : HL) ++ ([] : HL) ++ Ft)) ?_ (by simp only [List.nil_append]; (first | (with_reducible exact List.Perm.refl _) | refine perm_of_cnt fun p_ => ?_; simp only [List.countP_append, List.countP_cons, List.countP_nil]; omega))
  refine XC.loopP (fun k ρ L => ∃ (i : Nat) (st : St) (ob : Obj) (vo vs : Value) (Fo Fs : HL), i + k = tv.length ∧ st = (T.take i).foldl (turn c T picks) ⟨[], 0, c.Budget, []⟩ ∧ MapIs ob (markM st.out) ∧ OwnI vo st.out Fo ∧ OwnC vs st.sl Fs ∧
    L = (wb, Obj.cells ⟨wcp c (.slice ta tv.length tc) mb hb c.Blocks.toNat (freeS c T st.out st.given) st.left vo vs⟩ 58 (0, 0)) :: (mb, ob) :: (hb, .cells ⟨(countsOf c T st.out).map (.int .i64)⟩ 3 (0, 0)) :: (pb, .cells ⟨[.slice none 0 0, .slice none 0 0]⟩ 34 (0, 0)) :: (cb, .cells ⟨c.cells⟩ 23 (0, 0)) :: (Fo ++ Fs ++ Ft) ∧
    Slots ρ [(2, .slice pa picks.length pc), (6, .pointer (some ⟨pb, 0, none⟩)), (9, .pointer (some ⟨wb, 0, none⟩)), (29, .slice ta tv.length tc), (30, .int .i64 tv.length), (31, .int .i64 i)]) tv.length
    ⟨0, _, ob0, _, _, [], [], by simp, rfl, hm0.conv (by funext k; simp [markM]), ⟨OwnS.nil _ _, by simp⟩, ⟨OwnS.nil _ _, by simp⟩, rfl, rfl, rfl, rfl, rfl, rfl, rfl, trivial⟩ ?_
  rintro k ρ L ⟨i, st, ob, vo, vs, Fo, Fs, hik, hst', hm, hoi, hoc, rfl, hs⟩
  obtain ⟨va, vc, rfl⟩ := hoi.1.val
  obtain ⟨vsa, vsc, rfl⟩ := hoc.1.val
  refine XC.slots _ hs ?_
  (repeat (first | (with_reducible apply XL.op) | ((with_reducible apply XOp.p1); (case hg | hv => exact rfl)) | (with_reducible apply XL.nilT) | (with_reducible apply XC.seq) | (with_reducible apply XC.region (Γ := Γ))))
  ((with_reducible apply XC.cond); (case hc => exact rfl); all_goals (intro hb_; try simp only [pd_true, pd_false, Bool.not_eq_true', Bool.not_eq_false', Bool.and_eq_true, Bool.and_eq_false_iff, Bool.or_eq_true, Bool.or_eq_false_iff, not_true_eq_false, not_false_eq_true, Int.not_lt, Int.not_le] at hb_))
  · obtain ⟨y, hy⟩ : ∃ y, tv[i]? = some y := ⟨_, List.getElem?_eq_getElem (by omega)⟩
    have hyT : T[i]? = some y.1 := by rw [hTe, List.getElem?_map, hy]; rfl
    have hrowy := hraw.rawAt hy
    have hbd : Bnd st (T.take i).length := by
      rw [hst']
      have := fold_bnd hc (T := T) (by omega) (picks := picks) (T.take i) (start_bnd hc) (fun z hz => hTk z (List.mem_of_mem_take hz))
      simpa using this
    rw [List.length_take] at hbd
    obtain ⟨bd1, bd2, bd3, bd4⟩ := hbd
    have hnext : (T.take (i + 1)).foldl (turn c T picks) ⟨[], 0, c.Budget, []⟩ = turn c T picks st y.1 := by rw [take_snoc hyT, List.foldl_append, ← hst']; rfl
    (repeat (first | (with_reducible apply XL.op) | ((with_reducible apply XOp.p1); (case hg | hv => exact rfl)) | ((with_reducible apply XOp.pr); (case hg => exact rfl); (case hr => ((with_reducible apply PR.idxA); (case ht | hk | he | hx | hi => exact rfl); (case hr => first | assumption | omega); (case ha => first | assumption | exact SlA.at_ (by assumption))))) | (with_reducible apply XC.seq) | (with_reducible apply XC.region (Γ := Γ)) | (with_reducible apply XQ.skip) | (with_reducible apply XQ.nt) | (with_reducible apply XC.block) | (first | ((with_reducible apply XOp.loadN); (case hg | ht | hk | hx => exact rfl); (case hc => exact Known.of_frag hrowy (Mono.row _ _ _) (fun z hz => List.mem_cons_of_mem _ (List.mem_cons_of_mem _ (List.mem_cons_of_mem _ (List.mem_cons_of_mem _ (List.mem_cons_of_mem _ (List.mem_append_right _ hz))))))); (case hl => exact rfl)) | ((with_reducible apply XP.loadN); (case ho | hg | ht | hk | hx => exact rfl); (case hc => exact Known.of_frag hrowy (Mono.row _ _ _) (fun z hz => List.mem_cons_of_mem _ (List.mem_cons_of_mem _ (List.mem_cons_of_mem _ (List.mem_cons_of_mem _ (List.mem_cons_of_mem _ (List.mem_append_right _ hz))))))); (case hl => exact rfl)))))
    ((with_reducible apply XOp.alloc); (case hg | ht | hx' => exact rfl); intro yb)
    (repeat (first | (with_reducible apply XL.op) | ((with_reducible apply XOp.p1); (case hg | hv => exact rfl)) | ((with_reducible apply XOp.storeN (i := 0)); (case hg | ht | hx | hv' | hk | h1 | hi | hs | ha => exact rfl)) | (with_reducible apply XL.nilT) | (with_reducible apply XC.seq)))
    ((with_reducible apply XC.regionD (Γ := Γ) mixed (.q 0 (.q 1 (.q 2 (.q 3 (.q 4 (.q 5 (.q 6 (.q 7 (.q 8 (.q 9 (.q 10 (.q 11 (.q 12 (.q 13 (.q 14 (.q 15 (.q 16 (.q 17 (.q 18 (.e 19 (.q 20 (.done)))))))))))))))))))))) [] []); (case hc => kernel_rfl))
    (repeat' (first | (with_reducible apply XL.op) | ((with_reducible apply XOp.p1); (case hg | hv => exact rfl)) | ((with_reducible apply XOp.p0); (case hg => exact rfl)) | (with_reducible apply XL.nilT) | (with_reducible apply XC.region (Γ := Γ)) | (with_reducible apply XQ.skip) | (with_reducible apply XQ.nt) | (with_reducible apply XQ.nb) | ((with_reducible apply XP.p1); (case ho | hg | hv => exact rfl)) | ((with_reducible apply XP.p0); (case ho | hg => exact rfl)) | ((with_reducible apply XP.load); (case ho | hg | ht | hk | hx => exact rfl); (case hc => exact own_cell (i := 0) rfl rfl)) | ((with_reducible apply XP.load); (case ho | hg | ht | hk | hx => exact rfl); (case hc => exact own_cell (i := 1) rfl rfl)) | (with_reducible apply XP.done) | ((with_reducible apply XP.e); (first | ((with_reducible apply XE.d); (case ho => exact rfl); (case hd => exact rfl)) | ((with_reducible apply XE.e); (case ho => exact rfl)))) | ((with_reducible apply XP.keep); (case hk => first | ((repeat' (first | exact List.forall_mem_nil _ | (with_reducible refine List.forall_mem_cons.2 ⟨?_, ?_⟩) | exact List.mem_cons_self .. | (with_reducible apply List.mem_cons_of_mem) | (with_reducible apply List.mem_append_right))); done) | (intro x hx; first | exact sel_in hx | exact List.mem_cons_of_mem _ (sel_in hx) | exact List.mem_append_right _ (sel_in hx) | exact hx | exact List.mem_cons_of_mem _ hx | exact List.mem_append_right _ hx | ((repeat (first | exact sel_in hx | exact hx | (with_reducible apply List.mem_cons_of_mem) | (with_reducible apply List.mem_append_right))); done) | cases hx))) | ((with_reducible apply XC.condF); (case hc => exact rfl)) | (first | ((with_reducible apply XOp.pr); (case hg => exact rfl); (case hr => (with_reducible apply PR.lookup (i := 2)); (case ht => exact rfl); (case hk => exact rfl); (case hte => exact rfl); (case hkt => exact rfl); (case he => exact rfl); (case hz => exact rfl); (case hx => exact rfl); (case hi => exact rfl); (case hL => exact rfl); (case hm => exact  hm))) | ((with_reducible apply XP.pr); (case ho => exact rfl); (case hg => exact rfl); (case hr => (with_reducible apply PR.lookup (i := 2)); (case ht => exact rfl); (case hk => exact rfl); (case hte => exact rfl); (case hkt => exact rfl); (case he => exact rfl); (case hz => exact rfl); (case hx => exact rfl); (case hi => exact rfl); (case hL => exact rfl); (case hm => exact  hm)))) | (((with_reducible apply XOp.callQ (hF := contains_fn picks pa pc y.1.Id)); (case hg => exact rfl); (case hc => exact rfl); (case ha => exact rfl); try (case hA => exact Known.true)); (case hA => exact Known.of_old hpk (Mono.sl _ _ _ _ _)); rintro _ rfl) | ((with_reducible apply XP.split); (case ho | hg | hj | hd | hb => exact rfl); (fail_if_success (case hf => exact fun h => Bool.noConfusion h)); (fail_if_success (case ht => exact fun h => Bool.noConfusion h)); all_goals (intro hb_; try simp only [pd_true, pd_false, Bool.not_eq_true', Bool.not_eq_false', Bool.and_eq_true, Bool.and_eq_false_iff, Bool.or_eq_true, Bool.or_eq_false_iff, not_true_eq_false, not_false_eq_true, Int.not_lt, Int.not_le] at hb_)) | ((with_reducible apply XC.cond); (case hc => exact rfl); all_goals (intro hb_; try simp only [pd_true, pd_false, Bool.not_eq_true', Bool.not_eq_false', Bool.and_eq_true, Bool.and_eq_false_iff, Bool.or_eq_true, Bool.or_eq_false_iff, not_true_eq_false, not_false_eq_true, Int.not_lt, Int.not_le] at hb_))))
    · have hsf := serve_fn wb mb hb c.Blocks.toNat c hc (by have := hc.2.1; omega) tv (hTe ▸ hT) (by omega) hok ta tc st.out (by omega) st.given st.left (by omega) (by omega) (.slice va st.out.length vc) (.slice vsa st.sl.length vsc) Fo Fs hoi st.sl (by omega) hoc ob hm i y hy
      rw [← hTe] at hsf
      (refine XOp.perm (L := (yb, .cells ⟨sxv y⟩ 46 (0, 0)) :: (wb, Obj.cells ⟨wcp c (.slice ta tv.length tc) mb hb c.Blocks.toNat (freeS c T st.out st.given) st.left (.slice va st.out.length vc) (.slice vsa st.sl.length vsc)⟩ 58 (0, 0)) :: (mb, ob) :: (hb, .cells ⟨(countsOf c T st.out).map (.int .i64)⟩ 3 (0, 0)) :: (pb, .cells ⟨[.slice none 0 0, .slice none 0 0]⟩ 34 (0, 0)) :: (cb, .cells ⟨c.cells⟩ 23 (0, 0)) :: (Fo ++ Fs ++ Ft)) (L' :=  ((wb, Obj.cells ⟨wcp c (.slice ta tv.length tc) mb hb c.Blocks.toNat (freeS c T st.out st.given) st.left (.slice va st.out.length vc) (.slice vsa st.sl.length vsc)⟩ 58 (0, 0)) :: (mb, ob) :: (hb, .cells ⟨(countsOf c T st.out).map (.int .i64)⟩ 3 (0, 0)) :: (Fo ++ Fs)) ++ ((yb, .cells ⟨sxv y⟩ 46 (0, 0)) :: (pb, .cells ⟨[.slice none 0 0, .slice none 0 0]⟩ 34 (0, 0)) :: (cb, .cells ⟨c.cells⟩ 23 (0, 0)) :: Ft)) rfl ?_ (by (first | (with_reducible exact List.Perm.refl _) | refine perm_of_cnt fun p_ => ?_; simp only [List.countP_append, List.countP_cons, List.countP_nil]; omega)))
      ((with_reducible apply XOp.call (hF := hsf)); (case hg => exact rfl); (case hc => exact rfl); (case ha => exact rfl); (case hL => exact rfl))
      · exact known_sv (Known.of_frag hraw (Mono.sl _ _ _ _ _) (fun z hz => List.mem_cons_of_mem _ (List.mem_cons_of_mem _ (List.mem_cons_of_mem _ hz)))) (fun x hx => by
          obtain ⟨j, hj⟩ := hin x hx
          exact Known.of_old (sv_at hsv hj).2.1 (Mono.sl _ _ _ _ _)) (fun x hx => (hok x hx).2)
      intro v L' hpost
      rcases hse : servedS c T st.out st.given st.left y.1 with _ | ⟨o, n, x⟩ <;> rw [hse] at hpost
      · obtain ⟨ob', hmo, rfl⟩ := hpost
        (repeat (first | (with_reducible apply XL.op) | ((with_reducible apply XOp.p1); (case hg | hv => exact rfl)) | (with_reducible apply XL.nilT) | (with_reducible apply XC.region (Γ := Γ)) | (with_reducible apply XL.nilQ) | (with_reducible apply XQ.nt) | (with_reducible apply XQ.nb)))
        refine ⟨k - 1, by omega, _, ⟨(wb, Obj.cells ⟨wcp c (.slice ta tv.length tc) mb hb c.Blocks.toNat (freeS c T st.out st.given) st.left (.slice va st.out.length vc) (.slice vsa st.sl.length vsc)⟩ 58 (0, 0)) :: (mb, ob') :: (hb, .cells ⟨(countsOf c T st.out).map (.int .i64)⟩ 3 (0, 0)) :: (pb, .cells ⟨[.slice none 0 0, .slice none 0 0]⟩ 34 (0, 0)) :: (cb, .cells ⟨c.cells⟩ 23 (0, 0)) :: ((Fo ++ Fs ++ Ft) ++ [(yb, .cells ⟨sxv y⟩ 46 (0, 0))]), by (first | (with_reducible exact List.Perm.refl _) | refine perm_of_cnt fun p_ => ?_; simp only [List.countP_append, List.countP_cons, List.countP_nil]; omega), List.Sublist.cons_cons _ (List.Sublist.cons_cons _ (List.Sublist.cons_cons _ (List.Sublist.cons_cons _ (List.Sublist.cons_cons _ (List.sublist_append_left _ _)))))⟩, i + 1, st, ob', _, _, Fo, Fs, by omega, ?_, hmo, hoi, hoc, rfl, rfl, rfl, rfl, rfl, rfl, intS (m := tv.length) (by omega) (by omega), trivial⟩
        rw [hnext]; unfold turn serveS; rw [if_pos ⟨by assumption, markM_zero ‹_›, hb_⟩, hse]
      · obtain ⟨ob', vo', Fo', vs', Fs', hmo, hoi', hoc', rfl⟩ := hpost
        (repeat (first | (with_reducible apply XL.op) | ((with_reducible apply XOp.p1); (case hg | hv => exact rfl)) | (with_reducible apply XL.nilT) | (with_reducible apply XC.region (Γ := Γ)) | (with_reducible apply XL.nilQ) | (with_reducible apply XQ.nt) | (with_reducible apply XQ.nb)))
        refine ⟨k - 1, by omega, _, ⟨(wb, Obj.cells ⟨wcp c (.slice ta tv.length tc) mb hb c.Blocks.toNat (freeS c T o (st.given + beyondS c y.1 n)) (st.left - n) vo' vs'⟩ 58 (0, 0)) :: (mb, ob') :: (hb, .cells ⟨(countsOf c T o).map (.int .i64)⟩ 3 (0, 0)) :: (pb, .cells ⟨[.slice none 0 0, .slice none 0 0]⟩ 34 (0, 0)) :: (cb, .cells ⟨c.cells⟩ 23 (0, 0)) :: ((Fo' ++ Fs' ++ Ft) ++ [(yb, .cells ⟨sxv y⟩ 46 (0, 0))]), by (first | (with_reducible exact List.Perm.refl _) | refine perm_of_cnt fun p_ => ?_; simp only [List.countP_append, List.countP_cons, List.countP_nil]; omega), List.Sublist.cons_cons _ (List.Sublist.cons_cons _ (List.Sublist.cons_cons _ (List.Sublist.cons_cons _ (List.Sublist.cons_cons _ (List.sublist_append_left _ _)))))⟩, i + 1, ⟨o, st.given + beyondS c y.1 n, st.left - n, st.sl ++ [x]⟩, ob', _, _, Fo', Fs', by omega, ?_, hmo, hoi', hoc', rfl, rfl, rfl, rfl, rfl, rfl, intS (m := tv.length) (by omega) (by omega), trivial⟩
        rw [hnext]; unfold turn serveS; rw [if_pos ⟨by assumption, markM_zero ‹_›, hb_⟩, hse]
    all_goals refine ⟨k - 1, by omega, _, .of (List.Sublist.cons _ (List.Sublist.refl _)), i + 1, st, ob, _, _, Fo, Fs, by omega, ?_, hm, hoi, hoc, rfl, rfl, rfl, rfl, rfl, rfl, intS (m := tv.length) (by omega) (by omega), trivial⟩
    all_goals rw [hnext]; unfold turn; rw [if_neg (fun h : 0 < st.left ∧ y.1.Id ∉ st.out ∧ y.1.Id ∈ picks => by first | exact hb_ h.2.2 | exact hb_ (markM_notin h.2.1) | (have := h.1; omega))]
  · obtain rfl : i = tv.length := by omega
    rw [← hTlen, List.take_length] at hst'
    (repeat (first | (with_reducible apply XL.op) | ((with_reducible apply XOp.p1); (case hg | hv => exact rfl)) | ((with_reducible apply XOp.loadO (i := 0)); (case hg | ht | hk | hx | hi | hc => exact rfl)) | ((with_reducible apply XOp.storeN (i := 3)); (case hg | ht | hx | hv' | hk | h1 | hi | hs | ha => exact rfl)) | (with_reducible apply XL.nilT) | (with_reducible apply XC.seq) | (with_reducible apply XC.region (Γ := Γ)) | (with_reducible apply XQ.ret) | (with_reducible apply XQ.exit) | (with_reducible apply XQ.nt) | (with_reducible apply XQ.et) | ((with_reducible apply XQ.eb); (case hb => exact rfl))))
    ((with_reducible apply XQ.retE); (case hr => exact .row rfl (by kernel_rfl) (by kernel_rfl) (Known.blk (List.mem_cons_of_mem _ (List.mem_cons_of_mem _ (List.mem_cons_of_mem _ (List.mem_cons_self ..))))) (.t rfl .nil)))
    refine ⟨Fo ++ Fs, .of (List.Sublist.cons _ (List.Sublist.cons _ (List.Sublist.cons _ (List.Sublist.cons _ (List.Sublist.cons _ (List.sublist_append_left _ _)))))), ?_⟩
    unfold planOf planS; rw [pdt hc, pdt hso, ← hst']
    exact ⟨_, _, Fo, Fs, rfl, rfl, hoi, hoc⟩
end Go.Proofs.YthnmagdaepgdiaaX
