/- The program's work at its beginning: begin. -/
import Derived.Test.YthnmagdaepgdiaaXPrg7
set_option linter.unusedSimpArgs false
set_option linter.unusedVariables false
namespace Go.Proofs.YthnmagdaepgdiaaX
open Go Go.SX

set_option maxHeartbeats 8000000 in
theorem begin_fn (c : Srv) (hc : c.okS 1) (sv : List SV) (hok : seatsOk c (sv.map (·.1))) (a : Option Addr) (cap : Nat) :
    FC Try.prog 34 [.agg ⟨c.cells⟩, .slice a sv.length cap] [] (fun h => SlA svK 56 h sv a cap)
    (fun v L => ∃ (tv : List SV) (wb mb hb : Nat) (ob : Obj) (vt : Value) (Ft : HL), tv.Perm sv ∧ Rising (tv.map (·.1)) ∧ v = .pointer (some ⟨wb, 0, none⟩) ∧ MapIs ob (fun _ => none) ∧ OwnS 46 5 vt tv.length (tv.flatMap sxv) Ft ∧
      L = (wb, .cells ⟨wcp c vt mb hb c.Blocks.toNat (freeS c (tv.map (·.1)) [] 0) c.Budget (.slice none 0 0) (.slice none 0 0)⟩ 58 (0, 0)) :: (mb, ob) :: (hb, .cells ⟨(countsOf c (tv.map (·.1)) []).map (.int .i64)⟩ 3 (0, 0)) :: Ft) := by
  refine FC.subl ?_
  refine FC.intro Try.func34 rfl (by kernel_rfl) 73 [.tmp 4] rfl rfl rfl ?_
  intro w0 hA
  obtain ⟨B, hB⟩ : ∃ B : Nat, c.Blocks = B := ⟨c.Blocks.toNat, by have := hc.2.1; omega⟩
  have hB2 := hc.2.1
  have hsl := hok.1
  rw [List.length_map] at hsl
  (repeat (first | (with_reducible apply XL.op) | (with_reducible apply XC.seq) | (with_reducible apply XC.region (Γ := Γ))))
  ((with_reducible apply XOp.box); (case hg | hx' => exact rfl); intro cb)
  (repeat (first | (with_reducible apply XL.op) | ((with_reducible apply XOp.p1); (case hg | hv => exact rfl)) | (with_reducible apply XL.nilT) | (with_reducible apply XC.seq)))
  refine XC.cut (fun ρ L => ∃ (wb pb mb hb : Nat) (ob : Obj) (vt : Value) (Ft : HL), MapIs ob (fun _ => none) ∧ OwnS 46 5 vt sv.length (sv.flatMap sxv) Ft ∧
    L.Perm ((wb, .cells ⟨wcp c vt mb hb B c.Blocks c.Budget (.slice none 0 0) (.slice none 0 0)⟩ 58 (0, 0)) :: (pb, .cells ⟨[.pointer (some ⟨wb, 0, none⟩)]⟩ 54 (0, 0)) :: (mb, ob) :: (hb, .cells ⟨List.replicate B (.int .i64 0)⟩ 3 (0, 0)) :: (cb, .cells ⟨c.cells⟩ 23 (0, 0)) :: Ft) ∧
    Slots ρ [(5, .pointer (some ⟨pb, 0, none⟩))]) _ ?_ ?_
  · ((with_reducible apply XC.regionD (Γ := Γ) mixed (.q 0 (.q 1 (.q 4 (.q 5 (.q 7 (.q 8 (.q 9 (.q 10 (.b [(2, .b [(3, .b [(6, .q 11 (.b [(12, .e 13 (.e 14 (.done))), (13, .e 12 (.e 14 (.done)))])), (13, .e 6 (.q 11 (.e 12 (.e 14 (.done)))))]), (6, .b [(3, .q 11 (.b [(12, .e 13 (.e 14 (.done))), (13, .e 12 (.e 14 (.done)))])), (13, .e 3 (.q 11 (.e 12 (.e 14 (.done)))))]), (13, .b [(3, .e 6 (.q 11 (.e 12 (.e 14 (.done))))), (6, .e 3 (.q 11 (.e 12 (.e 14 (.done)))))])]), (3, .b [(2, .b [(6, .q 11 (.b [(12, .e 13 (.e 14 (.done))), (13, .e 12 (.e 14 (.done)))])), (13, .e 6 (.q 11 (.e 12 (.e 14 (.done)))))]), (6, .b [(2, .q 11 (.b [(12, .e 13 (.e 14 (.done))), (13, .e 12 (.e 14 (.done)))])), (13, .e 2 (.q 11 (.e 12 (.e 14 (.done)))))]), (13, .b [(2, .e 6 (.q 11 (.e 12 (.e 14 (.done))))), (6, .e 2 (.q 11 (.e 12 (.e 14 (.done)))))])]), (6, .b [(2, .b [(3, .q 11 (.b [(12, .e 13 (.e 14 (.done))), (13, .e 12 (.e 14 (.done)))])), (13, .e 3 (.q 11 (.e 12 (.e 14 (.done)))))]), (3, .b [(2, .q 11 (.b [(12, .e 13 (.e 14 (.done))), (13, .e 12 (.e 14 (.done)))])), (13, .e 2 (.q 11 (.e 12 (.e 14 (.done)))))]), (13, .b [(2, .e 3 (.q 11 (.e 12 (.e 14 (.done))))), (3, .e 2 (.q 11 (.e 12 (.e 14 (.done)))))])]), (13, .b [(2, .b [(3, .e 6 (.q 11 (.e 12 (.e 14 (.done))))), (6, .e 3 (.q 11 (.e 12 (.e 14 (.done)))))]), (3, .b [(2, .e 6 (.q 11 (.e 12 (.e 14 (.done))))), (6, .e 2 (.q 11 (.e 12 (.e 14 (.done)))))]), (6, .b [(2, .e 3 (.q 11 (.e 12 (.e 14 (.done))))), (3, .e 2 (.q 11 (.e 12 (.e 14 (.done)))))])])]))))))))) [14] [true]); (case hc => kernel_rfl))
    (repeat' (first | ((with_reducible apply XOp.store (i := 0)); (case hg | ht | hk | hx | hv | h1 | hi | hs | ha => exact rfl)) | ((with_reducible apply XOp.store (i := 1)); (case hg | ht | hk | hx | hv | h1 | hi | hs | ha => exact rfl)) | ((with_reducible apply XOp.store (i := 2)); (case hg | ht | hk | hx | hv | h1 | hi | hs | ha => exact rfl)) | ((with_reducible apply XOp.store (i := 3)); (case hg | ht | hk | hx | hv | h1 | hi | hs | ha => exact rfl)) | ((with_reducible apply XOp.store (i := 4)); (case hg | ht | hk | hx | hv | h1 | hi | hs | ha => exact rfl)) | (with_reducible apply XQ.nt) | ((with_reducible apply XP.p1); (case ho | hg | hv => exact rfl)) | ((with_reducible apply XP.load); (case ho | hg | ht | hk | hx => exact rfl); (case hc => exact own_cell (i := 0) rfl rfl)) | ((with_reducible apply XP.loadO (j := 0)); (case ho | hg | ht | hk | hx | hi | hc => exact rfl)) | ((with_reducible apply XP.pr); (case ho => exact rfl); (case hg => exact rfl); (case hr => ((with_reducible apply PR.build); (case ht | hk | hok | hz | hf => exact rfl)))) | (with_reducible apply XP.done) | ((with_reducible apply XP.e); (first | ((with_reducible apply XE.d); (case ho => exact rfl); (case hd => exact rfl)) | ((with_reducible apply XE.e); (case ho => exact rfl)))) | ((with_reducible apply XP.keep); (case hk => first | ((repeat' (first | exact List.forall_mem_nil _ | (with_reducible refine List.forall_mem_cons.2 ⟨?_, ?_⟩) | exact List.mem_cons_self .. | (with_reducible apply List.mem_cons_of_mem) | (with_reducible apply List.mem_append_right))); done) | (intro x hx; first | exact sel_in hx | exact List.mem_cons_of_mem _ (sel_in hx) | exact List.mem_append_right _ (sel_in hx) | exact hx | exact List.mem_cons_of_mem _ hx | exact List.mem_append_right _ hx | ((repeat (first | exact sel_in hx | exact hx | (with_reducible apply List.mem_cons_of_mem) | (with_reducible apply List.mem_append_right))); done) | cases hx))) | (with_reducible apply XP.b) | (with_reducible apply XB.cons) | ((with_reducible apply XE.e); (case ho => exact rfl)) | (with_reducible apply XB.nil) | ((with_reducible apply XOp.makeMap); (case hg => exact rfl); intro mb ob hm) | ((with_reducible apply XOp.make (k := B) (c := B)); (case hg => exact rfl); (case ht => exact rfl); (case hk => exact rfl); (case he => exact rfl); (case hz => exact rfl); (case hzl => exact rfl); (case hx => exact congrArg (Value.int .i64) hB); (case hy => exact congrArg (Value.int .i64) hB); (case hkc => omega); (case hb => simp only []; omega); (case h63 => omega); intro hb) | (((with_reducible apply XOp.call (hF := clone_fn sv a cap)); (case hg => exact rfl); (case hc => exact rfl); (case ha => exact rfl); (case hL => exact rfl)); (case hA => exact Known.of_old hA (Mono.sl _ _ _ _ _)); intro vt Ft hown; obtain ⟨ta, tc, rfl⟩ := hown.val; have hown2 := hown.2; rcases hown2 with ⟨_, _, rfl⟩ | ⟨tb, cp, sp, _, rfl, _⟩) | ((with_reducible apply XOp.alloc); (case hg | ht | hx' => exact rfl); intro pb) | ((with_reducible apply XOp.box); (case hg | hx' => exact rfl); intro wb)))
    all_goals refine ⟨wb, pb, mb, hb, ob, _, _, hm, hown, ?_, rfl, trivial⟩
    all_goals simp only [zerosL_one, hB, wcp, Go.SX.Srv.cells, List.cons_append, List.nil_append]
    all_goals first | exact List.Perm.refl _ | (first | (with_reducible exact List.Perm.refl _) | refine perm_of_cnt fun p_ => ?_; simp only [List.countP_append, List.countP_cons, List.countP_nil]; omega)
  rintro ρ L ⟨wb, pb, mb, hb, ob, vt, Ft, hm, hown, hperm, hs⟩
  obtain ⟨ta, tc, rfl⟩ := hown.val
  refine XC.perm (XC.slots _ hs ?_) hperm
  refine XC.seq ?_
  refine XC.cut (fun ρ L => ∃ (tv : List SV) (Ft : HL), tv.Perm sv ∧ Rising (tv.map (·.1)) ∧ OwnS 46 5 (.slice ta sv.length tc) tv.length (tv.flatMap sxv) Ft ∧
    L.Perm ((wb, .cells ⟨wcp c (.slice ta sv.length tc) mb hb B c.Blocks c.Budget (.slice none 0 0) (.slice none 0 0)⟩ 58 (0, 0)) :: (pb, .cells ⟨[.pointer (some ⟨wb, 0, none⟩)]⟩ 54 (0, 0)) :: (mb, ob) :: (hb, .cells ⟨List.replicate B (.int .i64 0)⟩ 3 (0, 0)) :: (cb, .cells ⟨c.cells⟩ 23 (0, 0)) :: Ft) ∧
    Slots ρ [(5, .pointer (some ⟨pb, 0, none⟩))]) _ ?_ ?_
  · by_cases h2 : 2 ≤ sv.length
    · obtain ⟨tb, sp, rfl, rfl, hle, hmx, hcs⟩ : ∃ tb sp, ta = some ⟨tb, 0, none⟩ ∧ Ft = [(tb, .cells ⟨sv.flatMap sxv ++ sp⟩ 46 (0, 0))] ∧ sv.length ≤ tc ∧ tc ≤ maxLen ∧ (sv.flatMap sxv ++ sp).length = tc * 5 := by
        rcases hown.2 with ⟨_, h0, _⟩ | ⟨g, cap', sp, hv, hF, h3, h4, h5⟩
        · omega
        · simp only [Value.slice.injEq] at hv
          obtain ⟨rfl, _, rfl⟩ := hv
          exact ⟨g, sp, rfl, hF, h3, h4, h5⟩
      refine XC.perm (L' := (tb, .cells ⟨sv.flatMap sxv ++ sp⟩ 46 (0, 0)) :: [(wb, .cells ⟨wcp c (.slice (some ⟨tb, 0, none⟩) sv.length tc) mb hb B c.Blocks c.Budget (.slice none 0 0) (.slice none 0 0)⟩ 58 (0, 0)), (pb, .cells ⟨[.pointer (some ⟨wb, 0, none⟩)]⟩ 54 (0, 0)), (mb, ob), (hb, .cells ⟨List.replicate B (.int .i64 0)⟩ 3 (0, 0)), (cb, .cells ⟨c.cells⟩ 23 (0, 0))]) ?_ (by (first | (with_reducible exact List.Perm.refl _) | refine perm_of_cnt fun p_ => ?_; simp only [List.countP_append, List.countP_cons, List.countP_nil]; omega))
      (repeat (first | (with_reducible apply XL.op) | ((with_reducible apply XOp.p1); (case hg | hv => exact rfl)) | ((with_reducible apply XOp.load); (case hg | ht | hk | hx => exact rfl); (case hc => exact own_cell (i := 1) rfl rfl)) | ((with_reducible apply XOp.load); (case hg | ht | hk | hx => exact rfl); (case hc => exact own_cell (i := 2) rfl rfl)) | (with_reducible apply XC.region (Γ := Γ))))
      ((with_reducible apply XOp.call (L0 := [(tb, .cells ⟨sv.flatMap sxv ++ sp⟩ 46 (0, 0))]) (hF :=  sort_fn sv h2 (by omega) sp tb pb wb tc)); (case hg => exact rfl); (case hc => exact rfl); (case ha => exact rfl); (case hL => exact rfl))
      · exact (Known.blk (List.mem_cons_of_mem _ (List.mem_cons_self ..))).imp (fun h hr => hr 0 _ rfl) |>.and ((Known.blk (List.mem_cons_self ..)).imp (fun h hr => hr 5 _ rfl))
      rintro _ _ ⟨tv, htv, hsrt, rfl⟩
      (repeat ((with_reducible apply XL.nilT)))
      refine ⟨tv, _, htv, rising_of hsrt (((htv.map (·.1)).map (·.Id)).nodup_iff.2 hok.2.2), ⟨flat_len sxv 5 sxv_len tv, .inr ⟨tb, tc, sp, by rw [htv.length_eq], rfl, by rw [htv.length_eq]; exact hle, hmx, ?_⟩⟩, ?_, rfl, trivial⟩
      · rw [← hcs, List.length_append, List.length_append, flat_len sxv 5 sxv_len, flat_len sxv 5 sxv_len, htv.length_eq]
      · (first | (with_reducible exact List.Perm.refl _) | refine perm_of_cnt fun p_ => ?_; simp only [List.countP_append, List.countP_cons, List.countP_nil]; omega)
    · (repeat (first | (with_reducible apply XL.op) | ((with_reducible apply XOp.p1); (case hg | hv => exact rfl)) | ((with_reducible apply XOp.load); (case hg | ht | hk | hx => exact rfl); (case hc => exact own_cell (i := 0) rfl rfl)) | ((with_reducible apply XOp.load); (case hg | ht | hk | hx => exact rfl); (case hc => exact own_cell (i := 1) rfl rfl)) | (with_reducible apply XC.region (Γ := Γ))))
      ((with_reducible apply XOp.call (hF := sort_tiny_fn _ sv.length ta tc rfl (by omega) pb)); (case hg => exact rfl); (case hc => exact rfl); (case ha => exact rfl); (case hL => exact (List.nil_append _).symm); try (case hA => exact Known.true))
      rintro _ _ rfl
      (repeat ((with_reducible apply XL.nilT)))
      refine ⟨sv, Ft, List.Perm.refl _, rising_of ?_ hok.2.2, hown, ?_, rfl, trivial⟩
      · rcases sv with _ | ⟨x, _ | ⟨y, l⟩⟩
        · simp
        · simp
        · simp at h2
      · (first | (with_reducible exact List.Perm.refl _) | refine perm_of_cnt fun p_ => ?_; simp only [List.countP_append, List.countP_cons, List.countP_nil]; omega)
  rintro ρ L ⟨tv, Ft, htv, hris, hown, hperm, hs⟩
  refine XC.perm (XC.slots _ hs (XC.subl (List.Sublist.cons_cons _ (List.Sublist.cons_cons _ (List.Sublist.cons_cons _ (List.Sublist.cons_cons _ (List.Sublist.cons _ (List.Sublist.refl _)))))) ?_)) hperm
  have htl := htv.length_eq
  obtain ⟨ta', tc', he, hraw⟩ := hown.raw (f := sxv) (k := 5) (hk := sxv_len) (by_ := 56) rfl (by omega)
  simp only [Value.slice.injEq] at he
  obtain ⟨rfl, hel, rfl⟩ := he
  rw [hel]
  have hBt : c.Blocks.toNat = B := by omega
  (repeat (first | (with_reducible apply XL.op) | ((with_reducible apply XOp.p1); (case hg | hv => exact rfl)) | ((with_reducible apply XOp.load); (case hg | ht | hk | hx => exact rfl); (case hc => exact own_cell (i := 0) rfl rfl)) | ((with_reducible apply XOp.load); (case hg | ht | hk | hx => exact rfl); (case hc => exact own_cell (i := 1) rfl rfl)) | (with_reducible apply XL.nilT) | (with_reducible apply XC.seq) | (with_reducible apply XC.region (Γ := Γ)) | (with_reducible apply XC.block)))
  refine XC.loopS (fun k ρ L => ∃ i : Nat, i + k = tv.length ∧ L = (wb, .cells ⟨wcp c (.slice ta tv.length tc) mb hb B (freeS c ((tv.take i).map (·.1)) [] 0) c.Budget (.slice none 0 0) (.slice none 0 0)⟩ 58 (0, 0)) :: (pb, .cells ⟨[.pointer (some ⟨wb, 0, none⟩)]⟩ 54 (0, 0)) :: (mb, ob) :: (hb, .cells ⟨(countsOf c ((tv.take i).map (·.1)) []).map (.int .i64)⟩ 3 (0, 0)) :: Ft ∧
    Slots ρ [(5, .pointer (some ⟨pb, 0, none⟩)), (33, .slice ta tv.length tc), (34, .int .i64 tv.length), (35, .int .i64 i)]) tv.length ⟨0, by simp, by simp only [List.take_zero, List.map_nil, free_nil hc, countsOf_nil, hBt], rfl, rfl, rfl, rfl, trivial⟩ ?_
  rintro k ρ L ⟨i, hik, rfl, hs⟩
  refine XC.slots _ hs ?_
  (repeat (first | (with_reducible apply XL.op) | ((with_reducible apply XOp.p1); (case hg | hv => exact rfl)) | (with_reducible apply XL.nilT) | (with_reducible apply XC.seq) | (with_reducible apply XC.region (Γ := Γ))))
  ((with_reducible apply XC.cond); (case hc => exact rfl); all_goals (intro hb_; try simp only [pd_true, pd_false, Bool.not_eq_true', Bool.not_eq_false', Bool.and_eq_true, Bool.and_eq_false_iff, Bool.or_eq_true, Bool.or_eq_false_iff, not_true_eq_false, not_false_eq_true, Int.not_lt, Int.not_le] at hb_))
  · obtain ⟨x, hi⟩ : ∃ x, tv[i]? = some x := ⟨_, List.getElem?_eq_getElem (by omega)⟩
    have hrow := hraw.rawAt hi
    obtain ⟨i2, hi2⟩ := List.getElem?_of_mem (htv.mem_iff.1 (List.mem_of_getElem? hi))
    obtain ⟨_, hH, hxk⟩ := sv_at hA hi2
    have hxok := hok.2.1 x.1 (List.mem_map.2 ⟨x, List.mem_of_getElem? hi2, rfl⟩)
    have hho := hxok.2.2.2
    have hg := hH.bytes
    obtain ⟨A, hAe⟩ : ∃ A, A = (tv.take i).map (·.1) := ⟨_, rfl⟩
    have hAl : A.length ≤ 16 := by rw [hAe, List.length_map, List.length_take]; omega
    rw [← hAe]
    obtain ⟨counts, hce⟩ : ∃ l, l = countsOf c A [] := ⟨_, rfl⟩
    have hcl : counts.length = B := by rw [hce, countsOf_length, hBt]
    have hcn : ∀ y ∈ counts, -1000 ≤ y ∧ y ≤ 1000 := fun y hy => by
      rw [hce] at hy; unfold countsOf at hy
      obtain ⟨b, _, rfl⟩ := List.mem_map.1 hy
      have := cnt_le A [] (b : Nat); omega
    obtain ⟨free, hfe⟩ : ∃ f, f = freeS c A [] 0 := ⟨_, rfl⟩
    have hfr : -1000 ≤ free ∧ free ≤ 1000 := by
      have := used_le c A []
      rw [hfe]; unfold freeS; omega
    have hbd : ∀ b ∈ x.1.Held, 0 ≤ b ∧ b < counts.length := fun b hb => by have := hho.1 b hb; omega
    have hnd := hho.2
    rw [← hce, ← hfe]
    (repeat (first | (with_reducible apply XL.op) | ((with_reducible apply XOp.pr); (case hg => exact rfl); (case hr => ((with_reducible apply PR.idxA); (case ht | hk | he | hx | hi => exact rfl); (case hr => first | assumption | omega); (case ha => first | assumption | exact SlA.at_ (by assumption))))) | (with_reducible apply XC.seq) | (with_reducible apply XC.region (Γ := Γ)) | (with_reducible apply XQ.skip) | (with_reducible apply XQ.nt) | (with_reducible apply XC.block) | (first | ((with_reducible apply XOp.loadN); (case hg | ht | hk | hx => exact rfl); (case hc => exact Known.of_frag hrow (Mono.row _ _ _) (fun y hy => List.mem_cons_of_mem _ (List.mem_cons_of_mem _ (List.mem_cons_of_mem _ (List.mem_cons_of_mem _ hy))))); (case hl => exact rfl)) | ((with_reducible apply XP.loadN); (case ho | hg | ht | hk | hx => exact rfl); (case hc => exact Known.of_frag hrow (Mono.row _ _ _) (fun y hy => List.mem_cons_of_mem _ (List.mem_cons_of_mem _ (List.mem_cons_of_mem _ (List.mem_cons_of_mem _ hy))))); (case hl => exact rfl)))))
    ((with_reducible apply XOp.alloc); (case hg | ht | hx' => exact rfl); intro sb)
    (repeat (first | (with_reducible apply XL.op) | ((with_reducible apply XOp.p1); (case hg | hv => exact rfl)) | ((with_reducible apply XOp.load); (case hg | ht | hk | hx => exact rfl); (case hc => exact own_cell (i := 0) rfl rfl)) | ((with_reducible apply XOp.storeN (i := 0)); (case hg | ht | hx | hv' | hk | h1 | hi | hs | ha => exact rfl)) | (with_reducible apply XL.nilT) | (with_reducible apply XC.seq) | (with_reducible apply XC.region (Γ := Γ)) | (with_reducible apply XC.block)))
    refine XC.loop (fun k ρ L => ∃ j : Nat, j + k = x.1.Held.length ∧ L = (sb, .cells ⟨sxv x⟩ 46 (0, 0)) :: (wb, .cells ⟨wcp c (.slice ta tv.length tc) mb hb B (free - zeros counts (x.1.Held.take j)) c.Budget (.slice none 0 0) (.slice none 0 0)⟩ 58 (0, 0)) :: (pb, .cells ⟨[.pointer (some ⟨wb, 0, none⟩)]⟩ 54 (0, 0)) :: (mb, ob) ::
        (hb, .cells ⟨(incs counts (x.1.Held.take j)).map (.int .i64)⟩ 3 (0, 0)) :: Ft ∧
      Slots ρ [(5, .pointer (some ⟨pb, 0, none⟩)), (33, .slice ta tv.length tc), (34, .int .i64 tv.length), (35, .int .i64 i), (40, .slice x.2.1 x.1.Held.length x.2.2), (41, .int .i64 x.1.Held.length), (42, .int .i64 j)]) x.1.Held.length
      ⟨0, by simp, by simp [zeros, incs_nil]; rfl, rfl, rfl, rfl, rfl, rfl, rfl, rfl, trivial⟩ ?_
    rintro k2 ρ L ⟨j, hjk, rfl, hs⟩
    refine XC.slots _ hs ?_
    (repeat (first | (with_reducible apply XL.op) | ((with_reducible apply XOp.p1); (case hg | hv => exact rfl)) | (with_reducible apply XL.nilT) | (with_reducible apply XC.seq) | (with_reducible apply XC.region (Γ := Γ))))
    ((with_reducible apply XC.cond); (case hc => exact rfl); all_goals (intro hb_; try simp only [pd_true, pd_false, Bool.not_eq_true', Bool.not_eq_false', Bool.and_eq_true, Bool.and_eq_false_iff, Bool.or_eq_true, Bool.or_eq_false_iff, not_true_eq_false, not_false_eq_true, Int.not_lt, Int.not_le] at hb_))
    · obtain ⟨b, hj⟩ : ∃ b, x.1.Held[j]? = some b := ⟨_, List.getElem?_eq_getElem (by omega)⟩
      have hcell := (hH.int j (by omega)).1
      simp only [hj, Option.getD_some] at hcell
      have hbb := hbd b (List.mem_of_getElem? hj)
      obtain ⟨y, hy⟩ : ∃ y, counts[b.toNat]? = some y := ⟨_, List.getElem?_eq_getElem (by omega)⟩
      have hyb := hcn y (List.mem_of_getElem? hy)
      have hnj : b ∉ x.1.Held.take j := fun h => dup_of hj h hnd
      have hdx : (incs counts (x.1.Held.take j))[b.toNat]? = some y := by
        rw [incs_get, hy]
        have e : ((b.toNat : Nat) : Int) = b := by omega
        simp [e, hnj]
      have hdc : ((incs counts (x.1.Held.take j)).map (Value.int .i64))[0 + b.toNat * 1]? = some (.int .i64 y) := by
        rw [show 0 + b.toNat * 1 = b.toNat by omega, List.getElem?_map, hdx]; rfl
      rw [← hcl]
      (repeat (first | (with_reducible apply XL.op) | ((with_reducible apply XOp.p1); (case hg | hv => exact rfl)) | ((with_reducible apply XOp.load); (case hg | ht | hk | hx => exact rfl); (case hc => exact own_cell (i := 1) rfl rfl)) | ((with_reducible apply XOp.load); (case hg | ht | hk | hx => exact rfl); (case hc => exact own_cell (i := 2) rfl rfl)) | ((with_reducible apply XOp.pr); (case hg => exact rfl); (case hr => ((with_reducible apply PR.idxA); (case ht | hk | he | hx | hi => exact rfl); (case hr => first | assumption | omega); (case ha => first | assumption | exact SlA.at_ (by assumption))))) | ((with_reducible apply XOp.pr); (case hg => exact rfl); (case hr => ((with_reducible apply PR.idx); (case ht | hk | he | hx | hi => exact rfl); (case hr => first | assumption | omega)))) | (with_reducible apply XL.nilT) | (with_reducible apply XC.seq) | (with_reducible apply XC.region (Γ := Γ)) | (with_reducible apply XQ.skip) | (with_reducible apply XQ.nt) | (with_reducible apply XC.block) | (first | ((with_reducible apply XOp.load); (case hg | ht | hk | hx => exact rfl); (case hc => exact Known.of_old hcell (Mono.cell _ _))) | ((with_reducible apply XP.load); (case ho | hg | ht | hk | hx => exact rfl); (case hc => exact Known.of_old hcell (Mono.cell _ _)))) | (first | ((with_reducible apply XOp.load); (case hg | ht | hk | hx => exact rfl); (case hc => exact Known.bcell (List.mem_cons_of_mem _ (List.mem_cons_of_mem _ (List.mem_cons_of_mem _ (List.mem_cons_of_mem _ (List.mem_cons_self ..))))) hdc)) | ((with_reducible apply XP.load); (case ho | hg | ht | hk | hx => exact rfl); (case hc => exact Known.bcell (List.mem_cons_of_mem _ (List.mem_cons_of_mem _ (List.mem_cons_of_mem _ (List.mem_cons_of_mem _ (List.mem_cons_self ..))))) hdc)))))
      have hset : ((incs counts (x.1.Held.take j)).map (Value.int .i64)).set (0 + b.toNat * 1) (.int .i64 (IntKind.i64.wrap (y + 1))) = (incs counts (x.1.Held.take (j + 1))).map (.int .i64) := by
        rw [wrap64_of (by omega) (by omega), show 0 + b.toNat * 1 = b.toNat by omega, take_snoc hj, ← incs_snoc hbb.1 hnj hy, List.map_set]
      ((with_reducible apply XOp.storeAt (i := 4)); (case hg => exact rfl); (case ht => exact rfl); (case hk => exact rfl); (case hx => exact rfl); (case hv' => exact rfl); (case h1 => exact rfl); (case hi => exact rfl); (case hoff =>  show 0 + b.toNat * 1 < _; rw [List.length_map, incs_length]; omega); (case ha => exact rfl))
      rw [hset]
      have hdc2 : ((incs counts (x.1.Held.take (j + 1))).map (Value.int .i64))[0 + b.toNat * 1]? = some (.int .i64 (y + 1)) := by
        rw [← hset, List.getElem?_set_self (by rw [List.length_map, incs_length]; omega), wrap64_of (by omega) (by omega)]
      (repeat (first | (with_reducible apply XL.op) | ((with_reducible apply XOp.p1); (case hg | hv => exact rfl)) | ((with_reducible apply XOp.load); (case hg | ht | hk | hx => exact rfl); (case hc => exact own_cell (i := 1) rfl rfl)) | ((with_reducible apply XOp.load); (case hg | ht | hk | hx => exact rfl); (case hc => exact own_cell (i := 2) rfl rfl)) | ((with_reducible apply XOp.pr); (case hg => exact rfl); (case hr => ((with_reducible apply PR.idx); (case ht | hk | he | hx | hi => exact rfl); (case hr => first | assumption | omega)))) | (with_reducible apply XL.nilT) | (with_reducible apply XC.seq) | (with_reducible apply XC.region (Γ := Γ)) | (first | ((with_reducible apply XOp.load); (case hg | ht | hk | hx => exact rfl); (case hc => exact Known.bcell (List.mem_cons_of_mem _ (List.mem_cons_of_mem _ (List.mem_cons_of_mem _ (List.mem_cons_of_mem _ (List.mem_cons_self ..))))) hdc2)) | ((with_reducible apply XP.load); (case ho | hg | ht | hk | hx => exact rfl); (case hc => exact Known.bcell (List.mem_cons_of_mem _ (List.mem_cons_of_mem _ (List.mem_cons_of_mem _ (List.mem_cons_of_mem _ (List.mem_cons_self ..))))) hdc2)))))
      have hon : zeros counts (x.1.Held.take (j + 1)) = zeros counts (x.1.Held.take j) + (if y = 0 then 1 else 0) := by
        unfold zeros
        rw [take_snoc hj, List.filter_append, List.length_append]
        congr 1
        by_cases h : y = 0 <;> simp [hy, h]
      have hol : zeros counts (x.1.Held.take j) ≤ x.1.Held.length := by
        unfold zeros; have := List.length_filter_le (fun b : Int => decide (counts[b.toNat]?.getD 0 = 0)) (x.1.Held.take j); rw [List.length_take] at this; omega
      ((with_reducible apply XC.cond); (case hc => exact rfl); all_goals (intro hb_; try simp only [pd_true, pd_false, Bool.not_eq_true', Bool.not_eq_false', Bool.and_eq_true, Bool.and_eq_false_iff, Bool.or_eq_true, Bool.or_eq_false_iff, not_true_eq_false, not_false_eq_true, Int.not_lt, Int.not_le] at hb_))
      · rw [if_pos (by omega)] at hon
        have ew : IntKind.i64.wrap (free - zeros counts (x.1.Held.take j) - 1) = free - (zeros counts (x.1.Held.take (j + 1)) : Nat) := by
          rw [wrap64_of (by omega) (by omega), hon]; omega
        (repeat (first | (with_reducible apply XL.op) | ((with_reducible apply XOp.p1); (case hg | hv => exact rfl)) | ((with_reducible apply XOp.load); (case hg | ht | hk | hx => exact rfl); (case hc => exact own_cell (i := 1) rfl rfl)) | ((with_reducible apply XOp.load); (case hg | ht | hk | hx => exact rfl); (case hc => exact own_cell (i := 2) rfl rfl)) | ((with_reducible apply XOp.store (i := 1)); (case hg | ht | hk | hx | hv | h1 | hi | hs | ha => exact rfl)) | (with_reducible apply XL.nilT) | (with_reducible apply XC.region (Γ := Γ)) | (with_reducible apply XL.nilQ) | (with_reducible apply XQ.nt) | (with_reducible apply XQ.nb)))
        exact ⟨k2 - 1, by omega, j + 1, by omega, by rw [← ew]; rfl, rfl, rfl, rfl, rfl, rfl, rfl, intS (m := x.1.Held.length) (by omega) (by omega), trivial⟩
      · rw [if_neg (by omega)] at hon
        (repeat (first | (with_reducible apply XL.op) | ((with_reducible apply XOp.p1); (case hg | hv => exact rfl)) | (with_reducible apply XL.nilT) | (with_reducible apply XC.region (Γ := Γ)) | (with_reducible apply XQ.skip) | (with_reducible apply XQ.nt) | (with_reducible apply XQ.nb)))
        exact ⟨k2 - 1, by omega, j + 1, by omega, by rw [hon]; rfl, rfl, rfl, rfl, rfl, rfl, rfl, intS (m := x.1.Held.length) (by omega) (by omega), trivial⟩
    · obtain rfl : j = x.1.Held.length := by omega
      rw [List.take_length]
      (repeat (first | (with_reducible apply XL.op) | ((with_reducible apply XOp.p1); (case hg | hv => exact rfl)) | (with_reducible apply XL.nilT) | (with_reducible apply XC.region (Γ := Γ)) | (with_reducible apply XQ.exit) | (with_reducible apply XQ.nt) | (with_reducible apply XQ.nb) | (with_reducible apply XQ.et) | ((with_reducible apply XQ.eb); (case hb => exact rfl))))
      have hA1 : (tv.take (i + 1)).map (·.1) = A ++ [x.1] := by rw [take_snoc hi, List.map_append, hAe]; rfl
      refine ⟨k - 1, by omega, _, List.Sublist.cons _ (List.Sublist.refl _), i + 1, by omega, ?_, rfl, rfl, rfl, intS (m := tv.length) (by omega) (by omega), trivial⟩
      rw [hA1, ← incs_snocS, free_snocS hho, ← hce, ← hfe]
  · obtain rfl : i = tv.length := by omega
    rw [List.take_length]
    (repeat (first | (with_reducible apply XL.op) | ((with_reducible apply XOp.p1); (case hg | hv => exact rfl)) | ((with_reducible apply XOp.load); (case hg | ht | hk | hx => exact rfl); (case hc => exact own_cell (i := 1) rfl rfl)) | (with_reducible apply XL.nilT) | (with_reducible apply XC.seq) | (with_reducible apply XC.region (Γ := Γ)) | (with_reducible apply XQ.ret) | (with_reducible apply XQ.exit) | (with_reducible apply XQ.nt) | (with_reducible apply XQ.et) | ((with_reducible apply XQ.eb); (case hb => exact rfl))))
    ((with_reducible apply XQ.retE); (case hr => exact .t rfl .nil))
    refine ⟨_, List.Sublist.cons_cons _ (List.Sublist.cons _ (List.Sublist.refl _)), tv, wb, mb, hb, ob, _, Ft, htv, hris, rfl, hm, hown, ?_⟩
    rw [hBt, hel]
end Go.Proofs.YthnmagdaepgdiaaX
