/- Do the weights fit? The program's. -/
import Derived.Test.YtppggaiahkecoaaDoorXPML2
import Derived.Test.YtppggaiahkecoaaDoorXPML1
set_option linter.unusedSimpArgs false
set_option linter.unusedVariables false
namespace Go.Proofs.YtppggaiahkecoaaDoorX
open Go Go.SX

theorem pdc {p q : Prop} (h : p ↔ q) : pd p = pd q := by rw [propext h]
structure okP1 (x : LW) : Prop where
  e : shpP x.E.mat x.C.Vocab x.C.Width
  h : shpP x.H.mat x.C.Vocab x.C.Width
  f : gainsP x.F.1 x.C.Width
  t : (x.T.1.length : Int) = x.C.head / 2
  ll : (x.Ls.1.length : Int) = x.C.Layers
  ml : (x.M.1.length : Int) = x.C.Medusa
theorem max_le (a b n : Int) : (if b > a then b else a) ≤ n ↔ a ≤ n ∧ b ≤ n := by split <;> omega
theorem min_ge (a b n : Int) : n ≤ (if b < a then b else a) ↔ n ≤ a ∧ n ≤ b := by split <;> omega
theorem turn_iff (y : Int × Int) : ((if y.2 > y.1 then y.2 else y.1) ≤ 16384 ∧ -16384 ≤ (if y.2 < y.1 then y.2 else y.1)) ↔ turnP y := by
  rw [max_le, min_ge]; unfold turnP; omega
set_option maxHeartbeats 8000000 in
theorem checkW_fn (x : LW) : FC Tryd.prog 27 [.agg ⟨x.cells⟩] [] (fun h => sidesK h ∧ lwAt h x)
    (fun v L => v = .int .i64 (errW x.w) ∧ L = []) := by
  refine FC.nil ?_
  refine FC.intro Tryd.func27 rfl (by kernel_rfl) 126 [.tmp 2] rfl rfl rfl ?_
  rintro w0 ⟨hS, hA⟩
  (repeat (first | (with_reducible apply XL.op) | (with_reducible apply XC.seq) | (with_reducible apply XC.region (Γ := Γ))))
  ((with_reducible apply XOp.box); (case hg | hx' => exact rfl); intro wb)
  (repeat (first | (with_reducible apply XL.op) | ((with_reducible apply XOp.p1); (case hg | hv => exact rfl)) | ((with_reducible apply XOp.loadO (i := 0)); (case hg | ht | hk | hx | hi | hc => exact rfl)) | (with_reducible apply XL.nilT) | (with_reducible apply XC.seq) | (with_reducible apply XC.region (Γ := Γ))))
  ((with_reducible apply XOp.alloc); (case hg | ht | hx' => exact rfl); intro cb)
  (repeat (first | (with_reducible apply XL.op) | ((with_reducible apply XOp.loadO (i := 0)); (case hg | ht | hk | hx | hi | hc => exact rfl)) | ((with_reducible apply XOp.storeN (i := 0)); (case hg | ht | hx | hv' | hk | h1 | hi | hs | ha => exact rfl)) | (with_reducible apply XL.nilT) | (with_reducible apply XC.seq) | (with_reducible apply XC.region (Γ := Γ))))
  (repeat (first | (with_reducible apply XL.op) | ((with_reducible apply XOp.p1); (case hg | hv => exact rfl)) | (with_reducible apply XL.nilT) | (with_reducible apply XC.seq) | (with_reducible apply XC.region (Γ := Γ)) | (((with_reducible apply XOp.callQ (hF := FC.nil (check_fn x.C))); (case hg => exact rfl); (case hc => exact rfl); (case ha => exact rfl); try (case hA => exact Known.true)); rintro _ rfl)))
  ((with_reducible apply XC.cond); (case hc => exact rfl); all_goals (intro hb_; try simp only [pd_true, pd_false, Bool.not_eq_true', Bool.not_eq_false', Bool.and_eq_true, Bool.and_eq_false_iff, Bool.or_eq_true, Bool.or_eq_false_iff, not_true_eq_false, not_false_eq_true, Int.not_lt, Int.not_le] at hb_))
  · (repeat (first | (with_reducible apply XL.op) | ((with_reducible apply XOp.p1); (case hg | hv => exact rfl)) | (with_reducible apply XL.nilT) | (with_reducible apply XC.seq) | (with_reducible apply XC.region (Γ := Γ)) | (with_reducible apply XQ.ret) | (with_reducible apply XQ.rt)))
    ((with_reducible apply XQ.retE); (case hr => exact .t rfl .nil))
    exact congrArg (Value.int .i64) ((cerr_no (fun h => hb_ ((cerr_iff _).2 h))).trans (errW_c (w := x.w) (fun h => hb_ ((cerr_iff _).2 h))).symm)
  have hc : x.C.may := (cerr_iff _).1 (by first | assumption | exact Classical.not_not.1 hb_)
  (repeat (first | (with_reducible apply XC.seq) | (with_reducible apply XQ.skip) | (with_reducible apply XQ.nt)))
  refine XC.cut (fun ρ L => L = [(cb, .cells ⟨x.C.cells⟩ 23 (0, 0)), (wb, .cells ⟨x.cells⟩ 31 (0, 0))] ∧ Slots ρ [(1, .pointer (some ⟨wb, 0, none⟩)), (3, .pointer (some ⟨cb, 0, none⟩)), (5, .bool (pd (okP1 x)))]) _ ?_ ?_
  · ((with_reducible apply XC.regionD (Γ := Γ) mixed (.q 0 (.q 1 (.q 2 (.q 3 (.q 4 (.q 5 (.e 6 (.q 7 (.q 8 (.q 9 (.q 10 (.q 11 (.q 12 (.q 13 (.e 14 (.q 15 (.q 16 (.q 17 (.q 18 (.q 19 (.q 20 (.e 21 (.q 22 (.q 23 (.q 24 (.q 25 (.q 26 (.q 27 (.e 28 (.q 29 (.q 30 (.q 31 (.q 32 (.q 33 (.q 34 (.q 35 (.q 36 (.q 37 (.q 38 (.q 39 (.q 40 (.q 41 (.q 42 (.q 43 (.q 44 (.q 45 (.q 46 (.q 47 (.q 48 (.done)))))))))))))))))))))))))))))))))))))))))))))))))) [] []); (case hc => kernel_rfl))
    (repeat' (first | ((with_reducible apply XOp.p0); (case hg => exact rfl)) | (with_reducible apply XQ.nt) | ((with_reducible apply XP.p1); (case ho | hg | hv => exact rfl)) | ((with_reducible apply XP.p0); (case ho | hg => exact rfl)) | ((with_reducible apply XP.load); (case ho | hg | ht | hk | hx => exact rfl); (case hc => exact own_cell (i := 0) rfl rfl)) | ((with_reducible apply XP.load); (case ho | hg | ht | hk | hx => exact rfl); (case hc => exact own_cell (i := 1) rfl rfl)) | ((with_reducible apply XP.loadO (j := 0)); (case ho | hg | ht | hk | hx | hi | hc => exact rfl)) | ((with_reducible apply XP.loadO (j := 1)); (case ho | hg | ht | hk | hx | hi | hc => exact rfl)) | (with_reducible apply XP.done) | ((with_reducible apply XP.e); (first | ((with_reducible apply XE.d); (case ho => exact rfl); (case hd => exact rfl)) | ((with_reducible apply XE.e); (case ho => exact rfl)))) | ((with_reducible apply XP.keep); (case hk => first | ((repeat' (first | exact List.forall_mem_nil _ | (with_reducible refine List.forall_mem_cons.2 ⟨?_, ?_⟩) | exact List.mem_cons_self .. | (with_reducible apply List.mem_cons_of_mem) | (with_reducible apply List.mem_append_right))); done) | (intro x hx; first | exact sel_in hx | exact List.mem_cons_of_mem _ (sel_in hx) | exact List.mem_append_right _ (sel_in hx) | exact hx | exact List.mem_cons_of_mem _ hx | exact List.mem_append_right _ hx | ((repeat (first | exact sel_in hx | exact hx | (with_reducible apply List.mem_cons_of_mem) | (with_reducible apply List.mem_append_right))); done) | cases hx))) | (((with_reducible apply XOp.callQ (hF := gainsL_fn _ _)); (case hg => exact rfl); (case hc => exact rfl); (case ha => exact rfl); try (case hA => exact Known.true)); (case hA => exact Known.of_old hA.f (lv_mono _)); rintro _ rfl) | (((with_reducible apply XOp.callQ (hF := shapedL_fn _ _ _)); (case hg => exact rfl); (case hc => exact rfl); (case ha => exact rfl); try (case hA => exact Known.true)); (case hA => first | exact Known.of_old hA.e (lm_mono _) | exact Known.of_old hA.hd (lm_mono _)); rintro _ rfl) | (((with_reducible apply XOp.callQ (hF := head_fn x.C hc)); (case hg => exact rfl); (case hc => exact rfl); (case ha => exact rfl); try (case hA => exact Known.true)); rintro _ rfl) | ((with_reducible apply XP.split); (case ho | hg | hj | hd | hb => exact rfl); (fail_if_success (case hf => exact fun h => Bool.noConfusion h)); (fail_if_success (case ht => exact fun h => Bool.noConfusion h)); all_goals (intro hb_; try simp only [pd_true, pd_false, Bool.not_eq_true', Bool.not_eq_false', Bool.and_eq_true, Bool.and_eq_false_iff, Bool.or_eq_true, Bool.or_eq_false_iff, not_true_eq_false, not_false_eq_true, Int.not_lt, Int.not_le] at hb_))))
    all_goals refine ⟨rfl, rfl, rfl, ?_, trivial⟩
    all_goals refine congrArg Value.bool ?_
    all_goals try rw [half_wrap hc] at *
    · exact pdc ⟨fun h => ⟨by assumption, by assumption, by assumption, by assumption, by assumption, h⟩, fun h => h.ml⟩
    all_goals exact (pdf fun h => by first | exact hb_ h.ll | exact hb_ h.t | exact hb_ h.f | exact hb_ h.h | exact hb_ h.e).symm
  rintro ρ L ⟨rfl, hs⟩
  refine XC.slots _ hs ?_
  (repeat (first | (with_reducible apply XL.op) | ((with_reducible apply XOp.p1); (case hg | hv => exact rfl)) | ((with_reducible apply XOp.load); (case hg | ht | hk | hx => exact rfl); (case hc => exact own_cell (i := 1) rfl rfl)) | (with_reducible apply XL.nilT) | (with_reducible apply XC.seq) | (with_reducible apply XC.region (Γ := Γ)) | (with_reducible apply XC.block)))
  have hT := hA.t
  have hTa := hT.at_
  have hTb := hT.bytes
  have hL := hA.l.locRaw
  have hLa := hL.at_
  have hLb := hL.bytes
  have hM := hA.m.locRaw
  have hMa := hM.at_
  have hMb := hM.bytes
  refine XC.loopP (fun k ρ L => ∃ i : Nat, i + k = x.T.1.length ∧ L = [(cb, .cells ⟨x.C.cells⟩ 23 (0, 0)), (wb, .cells ⟨x.cells⟩ 31 (0, 0))] ∧ Slots ρ [(1, .pointer (some ⟨wb, 0, none⟩)), (3, .pointer (some ⟨cb, 0, none⟩)), (5, .bool (pd (okP1 x ∧ ∀ y ∈ x.T.1.take i, turnP y))), (67, sla x.T), (68, .int .i64 x.T.1.length), (69, .int .i64 i)])
    x.T.1.length ⟨0, by simp, rfl, rfl, rfl, ?_, rfl, rfl, rfl, trivial⟩ ?_
  · exact congrArg Value.bool (pdc ⟨fun h => ⟨h, by simp⟩, fun h => h.1⟩)
  · rintro k ρ L ⟨i, hik, rfl, hs⟩
    refine XC.slots _ hs ?_
    (repeat (first | (with_reducible apply XL.op) | ((with_reducible apply XOp.p1); (case hg | hv => exact rfl)) | (with_reducible apply XL.nilT) | (with_reducible apply XC.seq) | (with_reducible apply XC.region (Γ := Γ))))
    ((with_reducible apply XC.cond); (case hc => exact rfl); all_goals (intro hb_; try simp only [pd_true, pd_false, Bool.not_eq_true', Bool.not_eq_false', Bool.and_eq_true, Bool.and_eq_false_iff, Bool.or_eq_true, Bool.or_eq_false_iff, not_true_eq_false, not_false_eq_true, Int.not_lt, Int.not_le] at hb_))
    · obtain ⟨y, hi⟩ : ∃ y, x.T.1[i]? = some y := ⟨_, List.getElem?_eq_getElem (by omega)⟩
      have hn : (∀ z ∈ x.T.1.take (i + 1), turnP z) ↔ (∀ z ∈ x.T.1.take i, turnP z) ∧ turnP y := by
        rw [take_snocD hi]; simp only [List.forall_mem_append, List.forall_mem_singleton]
      (repeat (first | (with_reducible apply XL.op) | ((with_reducible apply XOp.pr); (case hg => exact rfl); (case hr => ((with_reducible apply PR.idxA); (case ht | hk | he | hx | hi => exact rfl); (case hr => first | assumption | omega); (case ha => first | assumption | exact SlA.at_ (by assumption))))) | (with_reducible apply XC.seq) | (with_reducible apply XC.region (Γ := Γ)) | (with_reducible apply XQ.skip) | (with_reducible apply XQ.nt) | (with_reducible apply XC.block) | (first | ((with_reducible apply XOp.loadN); (case hg | ht | hk | hx => exact rfl); (case hc => exact Known.of_old (hT.rawAt hi) (Mono.row _ _ _)); (case hl => exact rfl)) | ((with_reducible apply XP.loadN); (case ho | hg | ht | hk | hx => exact rfl); (case hc => exact Known.of_old (hT.rawAt hi) (Mono.row _ _ _)); (case hl => exact rfl)))))
      ((with_reducible apply XOp.alloc); (case hg | ht | hx' => exact rfl); intro tb)
      (repeat' (first | (with_reducible apply XL.op) | ((with_reducible apply XOp.p1); (case hg | hv => exact rfl)) | ((with_reducible apply XOp.p0); (case hg => exact rfl)) | ((with_reducible apply XOp.load); (case hg | ht | hk | hx => exact rfl); (case hc => exact own_cell (i := 0) rfl rfl)) | ((with_reducible apply XOp.storeN (i := 0)); (case hg | ht | hx | hv' | hk | h1 | hi | hs | ha => exact rfl)) | (with_reducible apply XL.nilT) | (with_reducible apply XC.region (Γ := Γ)) | (with_reducible apply XL.nilQ) | (with_reducible apply XQ.nt) | (with_reducible apply XQ.nb) | ((with_reducible apply XOp.split); (case hg | hj | hd | hb => exact rfl); (fail_if_success (case hf => exact fun h => Bool.noConfusion h)); (fail_if_success (case ht => exact fun h => Bool.noConfusion h)); all_goals (intro hb_; try simp only [pd_true, pd_false, Bool.not_eq_true', Bool.not_eq_false', Bool.and_eq_true, Bool.and_eq_false_iff, Bool.or_eq_true, Bool.or_eq_false_iff, not_true_eq_false, not_false_eq_true, Int.not_lt, Int.not_le] at hb_))))
      all_goals refine ⟨k - 1, by omega, _, .of (List.sublist_cons_self _ _), i + 1, by omega, rfl, rfl, rfl, ?_, rfl, rfl, intS2 (m := x.T.1.length) (by omega) (by omega), trivial⟩
      all_goals refine congrArg Value.bool ?_
      all_goals rw [hn]
      · rename_i hp
        exact pdc ⟨fun h => ⟨hp.1, hp.2, (turn_iff y).1 ⟨hb_, h⟩⟩, fun h => ((turn_iff y).2 h.2.2).2⟩
      · exact (pdf fun h => absurd ((turn_iff y).2 h.2.2).1 (Int.not_le.2 hb_)).symm
      · exact (pdf fun h => hb_ ⟨h.1, h.2.1⟩).symm
    obtain rfl : i = x.T.1.length := by omega
    rw [List.take_length]
    (repeat (first | (with_reducible apply XL.op) | ((with_reducible apply XOp.p1); (case hg | hv => exact rfl)) | ((with_reducible apply XOp.load); (case hg | ht | hk | hx => exact rfl); (case hc => exact own_cell (i := 1) rfl rfl)) | (with_reducible apply XL.nilT) | (with_reducible apply XC.seq) | (with_reducible apply XC.region (Γ := Γ)) | (with_reducible apply XQ.exit) | (with_reducible apply XQ.nt) | (with_reducible apply XQ.et) | (with_reducible apply XC.block) | ((with_reducible apply XQ.eb); (case hb => exact rfl))))
    refine XC.loopP (fun k ρ L => ∃ i : Nat, i + k = x.Ls.1.length ∧ L = [(cb, .cells ⟨x.C.cells⟩ 23 (0, 0)), (wb, .cells ⟨x.cells⟩ 31 (0, 0))] ∧ Slots ρ [(1, .pointer (some ⟨wb, 0, none⟩)), (3, .pointer (some ⟨cb, 0, none⟩)), (5, .bool (pd ((okP1 x ∧ ∀ y ∈ x.T.1, turnP y) ∧ ∀ l ∈ x.Ls.1.take i, layP l x.C))), (93, .int .i64 x.Ls.1.length), (94, .int .i64 i)])
      x.Ls.1.length ⟨0, by simp, rfl, rfl, rfl, ?_, rfl, rfl, trivial⟩ ?_
    · exact congrArg Value.bool (pdc ⟨fun h => ⟨h, by simp⟩, fun h => h.1⟩)
    rintro k ρ L ⟨i, hik, rfl, hs⟩
    refine XC.slots _ hs ?_
    (repeat (first | (with_reducible apply XL.op) | ((with_reducible apply XOp.p1); (case hg | hv => exact rfl)) | (with_reducible apply XL.nilT) | (with_reducible apply XC.seq) | (with_reducible apply XC.region (Γ := Γ))))
    ((with_reducible apply XC.cond); (case hc => exact rfl); all_goals (intro hb_; try simp only [pd_true, pd_false, Bool.not_eq_true', Bool.not_eq_false', Bool.and_eq_true, Bool.and_eq_false_iff, Bool.or_eq_true, Bool.or_eq_false_iff, not_true_eq_false, not_false_eq_true, Int.not_lt, Int.not_le] at hb_))
    · obtain ⟨l, hi⟩ : ∃ l, x.Ls.1[i]? = some l := ⟨_, List.getElem?_eq_getElem (by omega)⟩
      have hl := hA.l.locAt (List.mem_of_getElem? hi)
      have hn : (∀ z ∈ x.Ls.1.take (i + 1), layP z x.C) ↔ (∀ z ∈ x.Ls.1.take i, layP z x.C) ∧ layP l x.C := by
        rw [take_snocD hi]; simp only [List.forall_mem_append, List.forall_mem_singleton]
      (repeat (first | (with_reducible apply XL.op) | ((with_reducible apply XOp.p1); (case hg | hv => exact rfl)) | (with_reducible apply XL.nilT) | (with_reducible apply XC.seq) | (with_reducible apply XC.region (Γ := Γ)) | (with_reducible apply XQ.skip) | (with_reducible apply XQ.nt) | (with_reducible apply XC.block)))
      ((with_reducible apply XC.regionD (Γ := Γ) mixed (.q 0 (.q 1 (.q 2 (.q 3 (.q 4 (.q 5 (.q 6 (.e 7 (.q 8 (.q 9 (.done))))))))))) [] []); (case hc => kernel_rfl))
      (repeat' (first | (with_reducible apply XL.op) | ((with_reducible apply XOp.p1); (case hg | hv => exact rfl)) | ((with_reducible apply XOp.p0); (case hg => exact rfl)) | (with_reducible apply XL.nilT) | (with_reducible apply XC.region (Γ := Γ)) | (with_reducible apply XQ.nt) | (with_reducible apply XQ.nb) | ((with_reducible apply XP.p1); (case ho | hg | hv => exact rfl)) | ((with_reducible apply XP.p0); (case ho | hg => exact rfl)) | ((with_reducible apply XP.load); (case ho | hg | ht | hk | hx => exact rfl); (case hc => exact own_cell (i := 1) rfl rfl)) | ((with_reducible apply XP.loadO (j := 0)); (case ho | hg | ht | hk | hx | hi | hc => exact rfl)) | ((with_reducible apply XP.pr); (case ho => exact rfl); (case hg => exact rfl); (case hr => ((with_reducible apply PR.idxA); (case ht | hk | he | hx | hi => exact rfl); (case hr => first | assumption | omega); (case ha => first | assumption | exact SlA.at_ (by assumption))))) | (with_reducible apply XP.done) | ((with_reducible apply XP.e); (first | ((with_reducible apply XE.d); (case ho => exact rfl); (case hd => exact rfl)) | ((with_reducible apply XE.e); (case ho => exact rfl)))) | ((with_reducible apply XP.keep); (case hk => first | ((repeat' (first | exact List.forall_mem_nil _ | (with_reducible refine List.forall_mem_cons.2 ⟨?_, ?_⟩) | exact List.mem_cons_self .. | (with_reducible apply List.mem_cons_of_mem) | (with_reducible apply List.mem_append_right))); done) | (intro x hx; first | exact sel_in hx | exact List.mem_cons_of_mem _ (sel_in hx) | exact List.mem_append_right _ (sel_in hx) | exact hx | exact List.mem_cons_of_mem _ hx | exact List.mem_append_right _ hx | ((repeat (first | exact sel_in hx | exact hx | (with_reducible apply List.mem_cons_of_mem) | (with_reducible apply List.mem_append_right))); done) | cases hx))) | (((with_reducible apply XOp.callQ (hF := fits_fn l (ablk x.Ls.2.1) (aoff x.Ls.2.1 + ((i : Nat) : Int).toNat * 30) x.C hc)); (case hg => exact rfl); (case hc => exact rfl); (case ha => exact rfl); try (case hA => exact Known.true)); (case hA => exact Known.and (Known.of_old hS sides_mono) (Known.and (Known.of_old (hL.rawAt hi) (Mono.row _ _ _)) (Known.of_old hl (ll_mono _)))); rintro _ rfl) | ((with_reducible apply XP.split); (case ho | hg | hj | hd | hb => exact rfl); (fail_if_success (case hf => exact fun h => Bool.noConfusion h)); (fail_if_success (case ht => exact fun h => Bool.noConfusion h)); all_goals (intro hb_; try simp only [pd_true, pd_false, Bool.not_eq_true', Bool.not_eq_false', Bool.and_eq_true, Bool.and_eq_false_iff, Bool.or_eq_true, Bool.or_eq_false_iff, not_true_eq_false, not_false_eq_true, Int.not_lt, Int.not_le] at hb_))))
      all_goals refine ⟨k - 1, by omega, _, .of (List.Sublist.refl _), i + 1, by omega, rfl, rfl, rfl, ?_, rfl, intS2 (m := x.Ls.1.length) (by omega) (by omega), trivial⟩
      all_goals refine congrArg Value.bool ?_
      all_goals rw [hn]
      · exact pdc ⟨fun h => ⟨hb_.1, hb_.2, h⟩, fun h => h.2.2⟩
      · exact (pdf fun h => hb_ ⟨h.1, h.2.1⟩).symm
    obtain rfl : i = x.Ls.1.length := by omega
    rw [List.take_length]
    (repeat (first | (with_reducible apply XL.op) | ((with_reducible apply XOp.p1); (case hg | hv => exact rfl)) | ((with_reducible apply XOp.load); (case hg | ht | hk | hx => exact rfl); (case hc => exact own_cell (i := 1) rfl rfl)) | (with_reducible apply XL.nilT) | (with_reducible apply XC.seq) | (with_reducible apply XC.region (Γ := Γ)) | (with_reducible apply XQ.exit) | (with_reducible apply XQ.nt) | (with_reducible apply XQ.et) | (with_reducible apply XC.block) | ((with_reducible apply XQ.eb); (case hb => exact rfl))))
    refine XC.loopP (fun k ρ L => ∃ i : Nat, i + k = x.M.1.length ∧ L = [(cb, .cells ⟨x.C.cells⟩ 23 (0, 0)), (wb, .cells ⟨x.cells⟩ 31 (0, 0))] ∧ Slots ρ [(1, .pointer (some ⟨wb, 0, none⟩)), (3, .pointer (some ⟨cb, 0, none⟩)), (5, .bool (pd (((okP1 x ∧ ∀ y ∈ x.T.1, turnP y) ∧ ∀ l ∈ x.Ls.1, layP l x.C) ∧ ∀ m ∈ x.M.1.take i, shpP m.mat x.C.Vocab x.C.Width))), (108, sla x.M), (109, .int .i64 x.M.1.length), (110, .int .i64 i)])
      x.M.1.length ⟨0, by simp, rfl, rfl, rfl, ?_, rfl, rfl, rfl, trivial⟩ ?_
    · exact congrArg Value.bool (pdc ⟨fun h => ⟨h, by simp⟩, fun h => h.1⟩)
    rintro k ρ L ⟨i, hik, rfl, hs⟩
    refine XC.slots _ hs ?_
    (repeat (first | (with_reducible apply XL.op) | ((with_reducible apply XOp.p1); (case hg | hv => exact rfl)) | (with_reducible apply XL.nilT) | (with_reducible apply XC.seq) | (with_reducible apply XC.region (Γ := Γ))))
    ((with_reducible apply XC.cond); (case hc => exact rfl); all_goals (intro hb_; try simp only [pd_true, pd_false, Bool.not_eq_true', Bool.not_eq_false', Bool.and_eq_true, Bool.and_eq_false_iff, Bool.or_eq_true, Bool.or_eq_false_iff, not_true_eq_false, not_false_eq_true, Int.not_lt, Int.not_le] at hb_))
    · obtain ⟨l, hi⟩ : ∃ l, x.M.1[i]? = some l := ⟨_, List.getElem?_eq_getElem (by omega)⟩
      have hl := hA.m.locAt (List.mem_of_getElem? hi)
      have hn : (∀ z ∈ x.M.1.take (i + 1), shpP z.mat x.C.Vocab x.C.Width) ↔ (∀ z ∈ x.M.1.take i, shpP z.mat x.C.Vocab x.C.Width) ∧ shpP l.mat x.C.Vocab x.C.Width := by
        rw [take_snocD hi]; simp only [List.forall_mem_append, List.forall_mem_singleton]
      (repeat (first | (with_reducible apply XL.op) | ((with_reducible apply XOp.pr); (case hg => exact rfl); (case hr => ((with_reducible apply PR.idxA); (case ht | hk | he | hx | hi => exact rfl); (case hr => first | assumption | omega); (case ha => first | assumption | exact SlA.at_ (by assumption))))) | (with_reducible apply XC.seq) | (with_reducible apply XC.region (Γ := Γ)) | (with_reducible apply XQ.skip) | (with_reducible apply XQ.nt) | (with_reducible apply XC.block) | (first | ((with_reducible apply XOp.loadN); (case hg | ht | hk | hx => exact rfl); (case hc => exact Known.of_old (hM.rawAt hi) (Mono.row _ _ _)); (case hl => exact rfl)) | ((with_reducible apply XP.loadN); (case ho | hg | ht | hk | hx => exact rfl); (case hc => exact Known.of_old (hM.rawAt hi) (Mono.row _ _ _)); (case hl => exact rfl)))))
      ((with_reducible apply XOp.alloc); (case hg | ht | hx' => exact rfl); intro mb)
      (repeat' (first | (with_reducible apply XL.op) | ((with_reducible apply XOp.p1); (case hg | hv => exact rfl)) | ((with_reducible apply XOp.p0); (case hg => exact rfl)) | ((with_reducible apply XOp.load); (case hg | ht | hk | hx => exact rfl); (case hc => exact own_cell (i := 1) rfl rfl)) | ((with_reducible apply XOp.loadO (i := 0)); (case hg | ht | hk | hx | hi | hc => exact rfl)) | ((with_reducible apply XOp.storeN (i := 0)); (case hg | ht | hx | hv' | hk | h1 | hi | hs | ha => exact rfl)) | (with_reducible apply XL.nilT) | (with_reducible apply XC.region (Γ := Γ)) | (with_reducible apply XL.nilQ) | (with_reducible apply XQ.nt) | (with_reducible apply XQ.nb) | (((with_reducible apply XOp.callQ (hF := shapedL_fn l _ _)); (case hg => exact rfl); (case hc => exact rfl); (case ha => exact rfl); try (case hA => exact Known.true)); (case hA => exact Known.of_old hl (lm_mono _)); rintro _ rfl) | ((with_reducible apply XOp.split); (case hg | hj | hd | hb => exact rfl); (fail_if_success (case hf => exact fun h => Bool.noConfusion h)); (fail_if_success (case ht => exact fun h => Bool.noConfusion h)); all_goals (intro hb_; try simp only [pd_true, pd_false, Bool.not_eq_true', Bool.not_eq_false', Bool.and_eq_true, Bool.and_eq_false_iff, Bool.or_eq_true, Bool.or_eq_false_iff, not_true_eq_false, not_false_eq_true, Int.not_lt, Int.not_le] at hb_))))
      all_goals refine ⟨k - 1, by omega, _, .of (List.sublist_cons_self _ _), i + 1, by omega, rfl, rfl, rfl, ?_, rfl, rfl, intS2 (m := x.M.1.length) (by omega) (by omega), trivial⟩
      all_goals refine congrArg Value.bool ?_
      all_goals rw [hn]
      · exact pdc ⟨fun h => ⟨hb_.1, hb_.2, h⟩, fun h => h.2.2⟩
      · exact (pdf fun h => hb_ ⟨h.1, h.2.1⟩).symm
    obtain rfl : i = x.M.1.length := by omega
    rw [List.take_length]
    have hall : (((okP1 x ∧ ∀ y ∈ x.T.1, turnP y) ∧ ∀ l ∈ x.Ls.1, layP l x.C) ∧ ∀ m ∈ x.M.1, shpP m.mat x.C.Vocab x.C.Width) ↔ okW x.w := by
      rw [← okP_iff hA]
      constructor
      · rintro ⟨⟨⟨p, t⟩, l⟩, m⟩
        exact ⟨hc, p.e, p.h, p.f, ⟨p.t, t⟩, p.ll, p.ml, l, m⟩
      · rintro ⟨_, p⟩
        exact ⟨⟨⟨⟨p.e, p.h, p.f, p.t.1, p.ll, p.ml⟩, p.t.2⟩, p.l⟩, p.m⟩
    rw [pdc hall]
    (repeat' (first | (with_reducible apply XL.op) | ((with_reducible apply XOp.p1); (case hg | hv => exact rfl)) | (with_reducible apply XL.nilT) | (with_reducible apply XC.seq) | (with_reducible apply XC.region (Γ := Γ)) | (with_reducible apply XQ.skip) | (with_reducible apply XQ.ret) | (with_reducible apply XQ.exit) | (with_reducible apply XQ.nt) | (with_reducible apply XQ.rt) | (with_reducible apply XQ.et) | ((with_reducible apply XQ.eb); (case hb => exact rfl)) | ((with_reducible apply XC.cond); (case hc => exact rfl); all_goals (intro hb_; try simp only [pd_true, pd_false, Bool.not_eq_true', Bool.not_eq_false', Bool.and_eq_true, Bool.and_eq_false_iff, Bool.or_eq_true, Bool.or_eq_false_iff, not_true_eq_false, not_false_eq_true, Int.not_lt, Int.not_le] at hb_))))
    · ((with_reducible apply XQ.retE); (case hr => exact .t rfl .nil))
      exact congrArg (Value.int .i64) (errW_no hc hb_).symm
    · ((with_reducible apply XQ.retE); (case hr => exact .t rfl .nil))
      exact congrArg (Value.int .i64) (errW_ok hb_).symm
end Go.Proofs.YtppggaiahkecoaaDoorX
/- Pieces of the program's Encode: a section behind the file's beginning; one list's bytes, two lists' bytes. -/
namespace Go.Proofs.YtppggaiahkecoaaDoorX
open Go Go.SX

theorem _root_.Go.SX.FC.pre {f : Nat} {vs : List Value} {L0 : HL} {A A' : HV → Prop} {Post : Value → HL → Prop} (h : FC Tryd.prog f vs L0 A Post) (hA : ∀ h, A' h → A h) : FC Tryd.prog f vs L0 A' Post :=
  ⟨h.1, fun w h1 h2 h3 => h.2 w h1 h2 (fun h hh => hA _ (h3 h hh))⟩
theorem lvs_row {h : HV} {b : Nat} {xs : List LV} (hr : rowv h b 0 (xs.map slv)) (hb : xs.length ≤ 1000) : SlA (Kd.raw lvx 1 (fun _ => rfl)) 24 h xs (some ⟨b, 0, none⟩) xs.length :=
  ⟨Nat.le_refl _, by omega, fun h => (by cases h), fun _ => rfl, fun i x hx => ⟨lvx x, rfl, fun j v hj => by
    have hj0 : j = 0 := by
      have := (List.getElem?_eq_some_iff.1 hj).1
      have h1 : (lvx x).length = 1 := rfl
      omega
    subst hj0
    have hv : v = slv x := by
      have : (lvx x)[0]? = some (slv x) := rfl
      rw [this] at hj; exact (Option.some.inj hj).symm
    subst hv
    have := hr i (slv x) (by rw [List.getElem?_map, hx]; rfl)
    have e : ablk (some (⟨b, 0, none⟩ : Addr)) = b := rfl
    have e2 : aoff (some (⟨b, 0, none⟩ : Addr)) + i * (Kd.raw lvx 1 (fun _ => rfl)).sz + 0 = 0 + i := by show 0 + i * 1 + 0 = 0 + i; omega
    rw [e2]; exact this⟩⟩
theorem bytesN_fn (v : Value) (m : Nat) (xs : List Int) (F : HL) (hown : OwnS 5 1 v m (xs.map (.int .u8)) F) (ls : List LV) (b : Nat) (hl : ls.length ≤ 1000) (hm : m + sumL ls ≤ 1099511627776) :
    FC Tryd.prog 32 [v, .slice (some ⟨b, 0, none⟩) ls.length ls.length] F (fun h => rowv h b 0 (ls.map slv) ∧ ∀ x ∈ ls, lvAt h x) (fun v L => OwnS 5 1 v (m + sumL ls) ((xs ++ ls.flatMap lvB).map (.int .u8)) L) :=
  FC.pre (bytes_fn v m xs F hown ls (some ⟨b, 0, none⟩) ls.length hm) fun h hh => ⟨lvs_row hh.1 hl, hh.2⟩
theorem bytes1_fn (v : Value) (m : Nat) (xs : List Int) (F : HL) (hown : OwnS 5 1 v m (xs.map (.int .u8)) F) (x : LV) (b : Nat) (hm : m + x.1.length ≤ 1099511627776) :
    FC Tryd.prog 32 [v, .slice (some ⟨b, 0, none⟩) 1 1] F (fun h => rowv h b 0 [slv x] ∧ lvAt h x) (fun v L => OwnS 5 1 v (m + x.1.length) ((xs ++ x.1.map toB).map (.int .u8)) L) := by
  have e : sumL [x] = x.1.length := by simp [sumL, lvB]
  have h := bytesN_fn v m xs F hown [x] b (by simp) (by rw [e]; exact hm)
  rw [e, show [x].flatMap lvB = x.1.map toB by simp [lvB]] at h
  exact FC.pre h fun h hh => ⟨hh.1, fun y hy => by rw [List.mem_singleton.1 hy]; exact hh.2⟩
theorem bytes2_fn (v : Value) (m : Nat) (xs : List Int) (F : HL) (hown : OwnS 5 1 v m (xs.map (.int .u8)) F) (x y : LV) (b : Nat) (hm : m + (x.1.length + y.1.length) ≤ 1099511627776) :
    FC Tryd.prog 32 [v, .slice (some ⟨b, 0, none⟩) 2 2] F (fun h => rowv h b 0 [slv x, slv y] ∧ lvAt h x ∧ lvAt h y) (fun v L => OwnS 5 1 v (m + (x.1.length + y.1.length)) ((xs ++ (x.1.map toB ++ y.1.map toB)).map (.int .u8)) L) := by
  have e : sumL [x, y] = x.1.length + y.1.length := by simp [sumL, lvB]
  have h := bytesN_fn v m xs F hown [x, y] b (by simp) (by rw [e]; exact hm)
  rw [e, show [x, y].flatMap lvB = x.1.map toB ++ y.1.map toB by simp [lvB]] at h
  exact FC.pre h fun h hh => ⟨hh.1, fun z hz => by
    rcases List.mem_cons.1 hz with rfl | hz
    · exact hh.2.1
    · rw [List.mem_singleton.1 hz]; exact hh.2.2⟩
theorem sectionF_fn (g m : Nat) (xs : List Int) (hxl : xs.length = m) (letter : Int) (body : List Int) (a : Option Addr) (cap : Nat) (hm : m + 5 + body.length ≤ 1099511627776) :
    FC Tryd.prog 31 [.slice (some ⟨g, 0, none⟩) m m, .int .u8 letter, .slice a body.length cap] [] (fun h => rowv h g 0 (xs.map (.int .u8)) ∧ SlA (Kd.int .u8) 1 h body a cap) (fun v L => OwnS 5 1 v (m + 5 + body.length) ((xs ++ secB letter body).map (.int .u8)) L) := by
  refine FC.intro Tryd.func31 rfl (by kernel_rfl) 18 [.tmp 6] rfl rfl rfl ?_
  rintro w0 ⟨hR, hA⟩
  have hsm := hA.bytes
  (repeat (first | (with_reducible apply XL.op) | ((with_reducible apply XOp.p1); (case hg | hv => exact rfl)) | (with_reducible apply XL.nilT) | (with_reducible apply XC.seq) | (with_reducible apply XC.region (Γ := Γ))))
  ((with_reducible apply XOp.buildSlice); (case hg | ht | hk | he | hz | hzl | hf => exact rfl); intro bb)
  (repeat ((with_reducible apply XL.op)))
  ((with_reducible apply XOp.appendFull (xs := xs.map (.int .u8)) (R := [])); (case hg => exact rfl); (case ht => exact rfl); (case hk => exact rfl); (case he => exact rfl); (case hs => exact rfl); (case hx => exact rfl); (case hxl => rw [List.length_map, hxl]; exact (Nat.mul_one _).symm); (case hrow => exact Known.of_old hR (Mono.row _ _ _)); (case hL => exact rfl); (case hl => exact rfl); (case hz => exact rfl); (case h63 => simp only [maxLen]; omega); (case hb => simp only []; omega); (case hk0 => exact Nat.zero_lt_succ _))
  intro v_ F_ hown_
  obtain ⟨a_, c_, rfl⟩ := hown_.val
  (repeat (first | (with_reducible apply XL.op) | ((with_reducible apply XOp.p1); (case hg | hv => exact rfl))))
  have ew : IntKind.u64.wrap ((body.length : Nat) : Int) = ((body.length : Nat) : Int) := wrap_of (inK_u64.2 (by omega))
  rw [ew]
  ((with_reducible apply XOp.call (L0 := F_) (hF :=  number_fn (.slice a_ (m + 1) c_) (m + 1) (xs ++ [letter]) F_ (hown_.conv rfl (by simp [zerosL])) body.length (inK_u64.2 (by omega)) 4 (by omega))); (case hg => exact rfl); (case hc => exact rfl); (case ha => exact rfl); (case hL => exact rfl))
  · exact Known.true
  intro v1 F1 hown1
  obtain ⟨a1, c1, rfl⟩ := hown1.val
  (repeat (first | (with_reducible apply XL.op) | ((with_reducible apply XOp.p1); (case hg | hv => exact rfl)) | (with_reducible apply XL.nilT) | (with_reducible apply XC.seq) | (with_reducible apply XC.region (Γ := Γ))))
  ((with_reducible apply XOp.appendG); (case hg => exact rfl); (case ht => exact rfl); (case hk => exact rfl); (case he => exact rfl); (case hs => exact rfl); (case hx => exact rfl); (case hown => exact hown1); (case hL => rfl); (case ha => exact hA.at_); (case hc => exact fun _ => Known.of_old (rowInts hA) (Mono.row _ _ _)); (case hl => exact by simp); (case h1 => exact List.all_eq_true.2 fun v hv => by obtain ⟨x, _, rfl⟩ := List.mem_map.1 hv; rfl); (case hz => exact rfl); (case hsz => exact Nat.zero_lt_succ _); (case h63 => simp only [maxLen]; omega); (case hb => simp only []; omega))
  intro v2 F2 hown2
  obtain ⟨a2, c2, rfl⟩ := hown2.val
  (repeat (first | (with_reducible apply XL.op) | ((with_reducible apply XOp.p1); (case hg | hv => exact rfl)) | (with_reducible apply XL.nilT) | (with_reducible apply XQ.ret)))
  ((with_reducible apply XQ.retE); (case hr => exact .t rfl .nil))
  rw [List.append_nil]
  exact hown2.conv (by omega) (by simp [secB])
end Go.Proofs.YtppggaiahkecoaaDoorX
/- The program's Encode. -/
namespace Go.Proofs.YtppggaiahkecoaaDoorX
open Go Go.SX

def mlist (l : LL) : List LV := [l.q.d, l.k.d, l.v.d, l.o.d, l.g.d, l.u.d, l.d.d]
set_option maxHeartbeats 16000000 in
set_option maxRecDepth 10000 in
theorem encode_fn (x : LW) : FC Tryd.prog 10 [.agg ⟨x.cells⟩] [] (fun h => sidesK h ∧ lwAt h x) (fun v L => EncR x.w v L) := by
  refine FC.sub2 ?_
  refine FC.intro Tryd.func10 rfl (by kernel_rfl) 168 [.tmp 2, .tmp 3] rfl rfl rfl ?_
  rintro w0 ⟨hS, hA⟩
  (repeat (first | (with_reducible apply XL.op) | (with_reducible apply XC.seq) | (with_reducible apply XC.region (Γ := Γ))))
  ((with_reducible apply XOp.box); (case hg | hx' => exact rfl); intro wb)
  (repeat (first | (with_reducible apply XL.op) | ((with_reducible apply XOp.p1); (case hg | hv => exact rfl)) | ((with_reducible apply XOp.loadO (i := 0)); (case hg | ht | hk | hx | hi | hc => exact rfl)) | (with_reducible apply XL.nilT) | (with_reducible apply XC.seq) | (with_reducible apply XC.region (Γ := Γ)) | (((with_reducible apply XOp.callQ (hF := checkW_fn x)); (case hg => exact rfl); (case hc => exact rfl); (case ha => exact rfl); try (case hA => exact Known.true)); (case hA => exact Known.and (Known.of_old hS sides_mono) (Known.of_old hA (lw_mono _))); rintro _ rfl)))
  ((with_reducible apply XC.cond); (case hc => exact rfl); all_goals (intro hb_; try simp only [pd_true, pd_false, Bool.not_eq_true', Bool.not_eq_false', Bool.and_eq_true, Bool.and_eq_false_iff, Bool.or_eq_true, Bool.or_eq_false_iff, not_true_eq_false, not_false_eq_true, Int.not_lt, Int.not_le] at hb_))
  · (repeat (first | (with_reducible apply XL.op) | ((with_reducible apply XOp.p1); (case hg | hv => exact rfl)) | (with_reducible apply XL.nilT) | (with_reducible apply XC.seq) | (with_reducible apply XC.region (Γ := Γ)) | (with_reducible apply XQ.ret) | (with_reducible apply XQ.rt)))
    ((with_reducible apply XQ.retE); (case hr => exact .t rfl (.t rfl .nil)))
    have hno : ¬ okW x.w := fun h => by have := errW_ok h; omega
    exact ⟨[], .of (List.nil_sublist _), _, 0, rfl, by rw [encS_no hno]; exact OwnS.nil _ _, by omega⟩
  have h0 : errW x.w = 0 := by omega
  have hok := errW_zero h0
  have hcm : x.C.may := hok.c
  have sz := okW_sz hok
  have se : x.E.d.1.length ≤ 2048 := sz.e
  have st : x.T.1.length ≤ 16 := sz.t
  have sl : x.Ls.1.length ≤ 4 := by have := sz.l; change (x.Ls.1.map LL.lay).length ≤ 4 at this; rwa [List.length_map] at this
  have slb : ∀ l ∈ x.Ls.1, (layBody l.lay).length ≤ 30000 := fun l hl => sz.lb _ (List.mem_map.2 ⟨l, hl, rfl⟩)
  have sf : x.F.1.length ≤ 32 := sz.f
  have sh : x.H.d.1.length ≤ 2048 := sz.h
  have sm : x.M.1.length ≤ 4 := by have := sz.m; change (x.M.1.map LM.mat).length ≤ 4 at this; rwa [List.length_map] at this
  have smb : ∀ l ∈ x.M.1, l.d.1.length ≤ 2048 := fun l hl => sz.mb _ (List.mem_map.2 ⟨l, hl, rfl⟩)
  clear sz
  (repeat (first | (with_reducible apply XL.op) | ((with_reducible apply XOp.p1); (case hg | hv => exact rfl)) | ((with_reducible apply XOp.loadO (i := 0)); (case hg | ht | hk | hx | hi | hc => exact rfl)) | (with_reducible apply XC.seq) | (with_reducible apply XC.region (Γ := Γ)) | (with_reducible apply XQ.skip) | (with_reducible apply XQ.nt)))
  ((with_reducible apply XOp.alloc); (case hg | ht | hx' => exact rfl); intro cb)
  (repeat (first | (with_reducible apply XL.op) | ((with_reducible apply XOp.storeN (i := 0)); (case hg | ht | hx | hv' | hk | h1 | hi | hs | ha => exact rfl)) | (with_reducible apply XL.nilT) | (with_reducible apply XC.seq) | (with_reducible apply XC.region (Γ := Γ))))
  ((with_reducible apply XOp.buildSlice); (case hg | ht | hk | he | hz | hzl | hf => exact rfl); intro bb)
  (repeat ((with_reducible apply XL.op)))
  ((with_reducible apply XOp.convMark (i := 0)); (case hg => exact rfl); (case ht => exact rfl); (case hk => exact rfl); (case he => exact rfl); (case hek => exact rfl); (case hx => exact rfl); (case hi => exact rfl); (case ha => exact rfl))
  (repeat (first | (with_reducible apply XL.op) | ((with_reducible apply XOp.p1); (case hg | hv => exact rfl)) | ((with_reducible apply XOp.load); (case hg | ht | hk | hx => exact rfl); (case hc => exact own_cell (i := 1) rfl rfl))))
  ((with_reducible apply XOp.buildSlice); (case hg | ht | hk | he | hz | hzl | hf => exact rfl); intro mb)
  (repeat ((with_reducible apply XL.op)))
  (refine (show XOp _ _ _ _ _ _ _ _ ((mb, Obj.cells ⟨(x.C.list.map toB).map (.int .u8)⟩ 5 (0, 0)) :: (bb, Obj.cells ⟨beginB.map (.int .u8)⟩ 5 (6, 7)) :: (cb, Obj.cells ⟨x.C.cells⟩ 23 (0, 0)) :: [(wb, Obj.cells ⟨x.cells⟩ 31 (0, 0))]) from XOp.perm (L' :=  ((bb, Obj.cells ⟨beginB.map (.int .u8)⟩ 5 (6, 7)) :: (mb, Obj.cells ⟨(x.C.list.map toB).map (.int .u8)⟩ 5 (0, 0)) :: (cb, Obj.cells ⟨x.C.cells⟩ 23 (0, 0)) :: [(wb, Obj.cells ⟨x.cells⟩ 31 (0, 0))]) ++ []) rfl ?_ (by (first | (with_reducible exact List.Perm.refl _) | refine perm_of_cnt fun p_ => ?_; simp only [List.countP_append, List.countP_cons, List.countP_nil]; omega))))
  have h0s : OwnS 5 1 (.slice (some ⟨mb, 0, none⟩) 8 8) 8 ((x.C.list.map toB).map (.int .u8)) [(mb, Obj.cells ⟨(x.C.list.map toB).map (.int .u8)⟩ 5 (0, 0))] :=
    ⟨rfl, .inr ⟨mb, 8, [], rfl, by simp, Nat.le_refl _, by simp [maxLen], rfl⟩⟩
  obtain ⟨b1, d1, e1, hb1, s1⟩ := own_body (xs := x.C.list.map toB) h0s (isB_map _) (by simp only [cfg8]; omega)
  obtain ⟨rfl, _, rfl⟩ := Value.slice.inj e1
  ((with_reducible apply XOp.callD (R := (bb, Obj.cells ⟨beginB.map (.int .u8)⟩ 5 (6, 7)) :: (mb, Obj.cells ⟨(x.C.list.map toB).map (.int .u8)⟩ 5 (0, 0)) :: (cb, Obj.cells ⟨x.C.cells⟩ 23 (0, 0)) :: [(wb, Obj.cells ⟨x.cells⟩ 31 (0, 0))]) (R' := [(cb, Obj.cells ⟨x.C.cells⟩ 23 (0, 0)), (wb, Obj.cells ⟨x.cells⟩ 31 (0, 0))]) (F := []) (hF := sectionF_fn bb 6 beginB rfl 67 (x.C.list.map toB) (some ⟨mb, 0, none⟩) 8 (by simp only [cfg8]; omega))); (case hg => exact rfl); (case hc => exact rfl); (case ha => exact rfl); (case hL => first | exact List.Perm.refl _ | (first | (with_reducible exact List.Perm.refl _) | refine perm_of_cnt fun p_ => ?_; simp only [List.countP_append, List.countP_cons, List.countP_nil]; omega)); (case hs => ((try simp only [List.append_eq, List.cons_append, List.nil_append, List.append_assoc]); repeat (first | exact List.Sublist.refl _ | exact List.nil_sublist _ | (with_reducible apply List.Sublist.cons_cons) | (with_reducible apply List.Sublist.cons) | exact List.sublist_append_right _ _))); try (case hA => exact Known.true))
  case hA => exact Known.and (own_row (i := 0) (m := 6) rfl rfl) (Known.of_frag s1 (Mono.sl _ _ _ _ _) (fun z_ hz_ => by first | exact hz_ | (simp only [List.mem_cons, List.mem_append, hz_, true_or, or_true]; done) | ((repeat (first | exact hz_ | exact List.mem_append_left _ hz_ | (apply List.mem_cons_of_mem) | (apply List.mem_append_right))); done)))
  intro v1 F1 h1
  obtain ⟨a1, c1, rfl⟩ := h1.val
  replace h1 := h1.conv (m' := 19) rfl rfl
  (repeat (first | (with_reducible apply XL.op) | ((with_reducible apply XOp.p1); (case hg | hv => exact rfl)) | ((with_reducible apply XOp.load); (case hg | ht | hk | hx => exact rfl); (case hc => exact own_cell (i := 1) rfl rfl)) | (with_reducible apply XL.nilT) | (with_reducible apply XC.seq) | (with_reducible apply XC.region (Γ := Γ))))
  ((with_reducible apply XOp.buildSlice); (case hg | ht | hk | he | hz | hzl | hf => exact rfl); intro lb2)
  (repeat ((with_reducible apply XL.op)))
  (refine (show XOp _ _ _ _ _ _ _ _ ((lb2, Obj.cells ⟨[slv x.E.d]⟩ 24 (0, 0)) :: ([(cb, Obj.cells ⟨x.C.cells⟩ 23 (0, 0)), (wb, Obj.cells ⟨x.cells⟩ 31 (0, 0))] ++ F1)) from XOp.perm (L' :=  ((lb2, Obj.cells ⟨[slv x.E.d]⟩ 24 (0, 0)) :: [(cb, Obj.cells ⟨x.C.cells⟩ 23 (0, 0)), (wb, Obj.cells ⟨x.cells⟩ 31 (0, 0))] ++ F1) ++ []) rfl ?_ (by (first | (with_reducible exact List.Perm.refl _) | refine perm_of_cnt fun p_ => ?_; simp only [List.countP_append, List.countP_cons, List.countP_nil]; omega))))
  ((with_reducible apply XOp.callD (R := (lb2, Obj.cells ⟨[slv x.E.d]⟩ 24 (0, 0)) :: [(cb, Obj.cells ⟨x.C.cells⟩ 23 (0, 0)), (wb, Obj.cells ⟨x.cells⟩ 31 (0, 0))] ++ F1) (R' := [(cb, Obj.cells ⟨x.C.cells⟩ 23 (0, 0)), (wb, Obj.cells ⟨x.cells⟩ 31 (0, 0))] ++ F1) (F := []) (hF := bytes1_fn (.slice none 0 0) 0 [] [] (OwnS.nil _ _) x.E.d lb2 (by omega))); (case hg => exact rfl); (case hc => exact rfl); (case ha => exact rfl); (case hL => first | exact List.Perm.refl _ | (first | (with_reducible exact List.Perm.refl _) | refine perm_of_cnt fun p_ => ?_; simp only [List.countP_append, List.countP_cons, List.countP_nil]; omega)); (case hs => ((try simp only [List.append_eq, List.cons_append, List.nil_append, List.append_assoc]); repeat (first | exact List.Sublist.refl _ | exact List.nil_sublist _ | (with_reducible apply List.Sublist.cons_cons) | (with_reducible apply List.Sublist.cons) | exact List.sublist_append_right _ _))); try (case hA => exact Known.true))
  case hA => exact Known.and (own_row (i := 0) (m := 1) rfl rfl) (Known.of_old hA.e (lv_mono _))
  intro w2 G2 g2
  rw [List.nil_append, Nat.zero_add] at g2
  have l2 : (x.E.d.1.map toB).length ≤ 100000 := by rw [List.length_map]; omega
  obtain ⟨b2, d2, rfl, hb2, s2⟩ := own_body g2 (isB_map _) (by omega)
  (repeat ((with_reducible apply XL.op)))
  ((with_reducible apply XOp.callD (R := [(cb, Obj.cells ⟨x.C.cells⟩ 23 (0, 0)), (wb, Obj.cells ⟨x.cells⟩ 31 (0, 0))] ++ G2) (R' := [(cb, Obj.cells ⟨x.C.cells⟩ 23 (0, 0)), (wb, Obj.cells ⟨x.cells⟩ 31 (0, 0))]) (F := F1) (hF := section_fn (.slice a1 _ c1) _ (beginB ++ secB 67 (x.C.list.map toB)) F1 h1 69 (x.E.d.1.map toB) b2 d2 (by omega))); (case hg => exact rfl); (case hc => exact rfl); (case ha => exact rfl); (case hL => first | exact List.Perm.refl _ | (first | (with_reducible exact List.Perm.refl _) | refine perm_of_cnt fun p_ => ?_; simp only [List.countP_append, List.countP_cons, List.countP_nil]; omega)); (case hs => ((try simp only [List.append_eq, List.cons_append, List.nil_append, List.append_assoc]); repeat (first | exact List.Sublist.refl _ | exact List.nil_sublist _ | (with_reducible apply List.Sublist.cons_cons) | (with_reducible apply List.Sublist.cons) | exact List.sublist_append_right _ _))); try (case hA => exact Known.true))
  case hA => exact Known.of_frag s2 (Mono.sl _ _ _ _ _) (fun z_ hz_ => by first | exact hz_ | (simp only [List.mem_cons, List.mem_append, hz_, true_or, or_true]; done) | ((repeat (first | exact hz_ | exact List.mem_append_left _ hz_ | (apply List.mem_cons_of_mem) | (apply List.mem_append_right))); done))
  intro v2 F2 h2
  obtain ⟨a2, c2, rfl⟩ := h2.val
  (repeat (first | (with_reducible apply XL.op) | ((with_reducible apply XOp.p1); (case hg | hv => exact rfl)) | ((with_reducible apply XOp.load); (case hg | ht | hk | hx => exact rfl); (case hc => exact own_cell (i := 1) rfl rfl)) | (with_reducible apply XL.nilT) | (with_reducible apply XC.seq) | (with_reducible apply XC.region (Γ := Γ)) | (with_reducible apply XC.block)))
  have hT := hA.t
  have hTa := hT.at_
  have hTb := hT.bytes
  generalize hX2 : beginB ++ secB 67 (x.C.list.map toB) ++ secB 69 (x.E.d.1.map toB) = X2 at h2
  refine XC.loopP (fun k ρ L => ∃ (i : Nat) (v : Value) (F : HL), i + k = x.T.1.length ∧ OwnS 5 1 v (i * 4) (((x.T.1.take i).flatMap turnB).map (.int .u8)) F ∧ L = ([(cb, Obj.cells ⟨x.C.cells⟩ 23 (0, 0)), (wb, Obj.cells ⟨x.cells⟩ 31 (0, 0))] ++ F2) ++ F ∧ Slots ρ [(1, .pointer (some ⟨wb, 0, none⟩)), (5, .pointer (some ⟨cb, 0, none⟩)), (6, .slice a2 (19 + 5 + (x.E.d.1.map toB).length) c2), (7, v), (62, sla x.T), (63, .int .i64 x.T.1.length), (64, .int .i64 i)])
    x.T.1.length ⟨0, _, [], by simp, OwnS.nil _ _, (List.append_nil _).symm, rfl, rfl, rfl, rfl, rfl, rfl, rfl, trivial⟩ ?_
  rintro k ρ L ⟨i, v, F, hik, hown, rfl, hs⟩
  obtain ⟨a', c', rfl⟩ := hown.val
  refine XC.slots _ hs ?_
  (repeat (first | (with_reducible apply XL.op) | ((with_reducible apply XOp.p1); (case hg | hv => exact rfl)) | (with_reducible apply XL.nilT) | (with_reducible apply XC.seq) | (with_reducible apply XC.region (Γ := Γ))))
  ((with_reducible apply XC.cond); (case hc => exact rfl); all_goals (intro hb_; try simp only [pd_true, pd_false, Bool.not_eq_true', Bool.not_eq_false', Bool.and_eq_true, Bool.and_eq_false_iff, Bool.or_eq_true, Bool.or_eq_false_iff, not_true_eq_false, not_false_eq_true, Int.not_lt, Int.not_le] at hb_))
  · obtain ⟨y, hi⟩ : ∃ y, x.T.1[i]? = some y := ⟨_, List.getElem?_eq_getElem (by omega)⟩
    (repeat (first | (with_reducible apply XL.op) | ((with_reducible apply XOp.pr); (case hg => exact rfl); (case hr => ((with_reducible apply PR.idxA); (case ht | hk | he | hx | hi => exact rfl); (case hr => first | assumption | omega); (case ha => first | assumption | exact SlA.at_ (by assumption))))) | (with_reducible apply XC.seq) | (with_reducible apply XC.region (Γ := Γ)) | (with_reducible apply XQ.skip) | (with_reducible apply XQ.nt) | (with_reducible apply XC.block) | (first | ((with_reducible apply XOp.loadN); (case hg | ht | hk | hx => exact rfl); (case hc => exact Known.of_old (hT.rawAt hi) (Mono.row _ _ _)); (case hl => exact rfl)) | ((with_reducible apply XP.loadN); (case ho | hg | ht | hk | hx => exact rfl); (case hc => exact Known.of_old (hT.rawAt hi) (Mono.row _ _ _)); (case hl => exact rfl)))))
    ((with_reducible apply XOp.alloc); (case hg | ht | hx' => exact rfl); intro tb)
    (repeat (first | (with_reducible apply XL.op) | ((with_reducible apply XOp.storeN (i := 0)); (case hg | ht | hx | hv' | hk | h1 | hi | hs | ha => exact rfl)) | (with_reducible apply XL.nilT)))
    ((with_reducible apply XC.regionL (Γ := Γ) mixed (.q 0 (.q 1 (.q 2 (.q 3 (.q 5 (.q 6 (.q 7 (.e 4 (.e 8 (.q 9 (.done))))))))))) [] ([(tb, Obj.cells ⟨turnV y⟩ 70 (0, 0))])); (case hc => kernel_rfl); (case hs => first | exact List.nil_sublist _ | exact List.Sublist.refl _ | exact List.sublist_append_right _ _ | (refine List.Sublist.cons_cons _ (List.nil_sublist _)) | (refine List.Sublist.cons_cons _ (List.Sublist.cons_cons _ (List.nil_sublist _))) | (refine List.Sublist.cons_cons _ (List.Sublist.cons_cons _ (List.Sublist.cons_cons _ (List.nil_sublist _)))) | (refine List.Sublist.cons_cons _ (List.Sublist.cons_cons _ (List.Sublist.cons_cons _ (List.Sublist.cons_cons _ (List.nil_sublist _)))))))
    (repeat (first | ((with_reducible apply XP.p1); (case ho | hg | hv => exact rfl)) | ((with_reducible apply XP.load); (case ho | hg | ht | hk | hx => exact rfl); (case hc => exact own_cell (i := 0) rfl rfl)) | ((with_reducible apply XP.e); (first | ((with_reducible apply XE.d); (case ho => exact rfl); (case hd => exact rfl)) | ((with_reducible apply XE.e); (case ho => exact rfl))))))
    ((with_reducible apply XOp.callD (R := (tb, Obj.cells ⟨turnV y⟩ 70 (0, 0)) :: [(cb, Obj.cells ⟨x.C.cells⟩ 23 (0, 0)), (wb, Obj.cells ⟨x.cells⟩ 31 (0, 0))] ++ F2) (R' := (tb, Obj.cells ⟨turnV y⟩ 70 (0, 0)) :: [(cb, Obj.cells ⟨x.C.cells⟩ 23 (0, 0)), (wb, Obj.cells ⟨x.cells⟩ 31 (0, 0))] ++ F2) (F := F) (hF := number_fn (.slice a' _ c') (i * 4) _ F hown (IntKind.u64.wrap y.1) (inK_wrap _ _) 2 (by omega))); (case hg => exact rfl); (case hc => exact rfl); (case ha => exact rfl); (case hL => first | exact List.Perm.refl _ | (first | (with_reducible exact List.Perm.refl _) | refine perm_of_cnt fun p_ => ?_; simp only [List.countP_append, List.countP_cons, List.countP_nil]; omega)); (case hs => ((try simp only [List.append_eq, List.cons_append, List.nil_append, List.append_assoc]); repeat (first | exact List.Sublist.refl _ | exact List.nil_sublist _ | (with_reducible apply List.Sublist.cons_cons) | (with_reducible apply List.Sublist.cons) | exact List.sublist_append_right _ _))); try (case hA => exact Known.true))
    intro v3 F3 h3
    obtain ⟨a3, c3, rfl⟩ := h3.val
    (repeat (first | ((with_reducible apply XP.e); (first | ((with_reducible apply XE.d); (case ho => exact rfl); (case hd => exact rfl)) | ((with_reducible apply XE.e); (case ho => exact rfl)))) | ((with_reducible apply XP.keep); (case hk => first | ((repeat' (first | exact List.forall_mem_nil _ | (with_reducible refine List.forall_mem_cons.2 ⟨?_, ?_⟩) | exact List.mem_cons_self .. | (with_reducible apply List.mem_cons_of_mem) | (with_reducible apply List.mem_append_right))); done) | (intro x hx; first | exact sel_in hx | exact List.mem_cons_of_mem _ (sel_in hx) | exact List.mem_append_right _ (sel_in hx) | exact hx | exact List.mem_cons_of_mem _ hx | exact List.mem_append_right _ hx | ((repeat (first | exact sel_in hx | exact hx | (with_reducible apply List.mem_cons_of_mem) | (with_reducible apply List.mem_append_right))); done) | cases hx)))))
    ((with_reducible apply XOp.callD (R := (tb, Obj.cells ⟨turnV y⟩ 70 (0, 0)) :: [(cb, Obj.cells ⟨x.C.cells⟩ 23 (0, 0)), (wb, Obj.cells ⟨x.cells⟩ 31 (0, 0))] ++ F2) (R' := (tb, Obj.cells ⟨turnV y⟩ 70 (0, 0)) :: [(cb, Obj.cells ⟨x.C.cells⟩ 23 (0, 0)), (wb, Obj.cells ⟨x.cells⟩ 31 (0, 0))] ++ F2) (F := F3) (hF := number_fn (.slice a3 _ c3) _ _ F3 h3 (IntKind.u64.wrap y.2) (inK_wrap _ _) 2 (by omega))); (case hg => exact rfl); (case hc => exact rfl); (case ha => exact rfl); (case hL => first | exact List.Perm.refl _ | (first | (with_reducible exact List.Perm.refl _) | refine perm_of_cnt fun p_ => ?_; simp only [List.countP_append, List.countP_cons, List.countP_nil]; omega)); (case hs => ((try simp only [List.append_eq, List.cons_append, List.nil_append, List.append_assoc]); repeat (first | exact List.Sublist.refl _ | exact List.nil_sublist _ | (with_reducible apply List.Sublist.cons_cons) | (with_reducible apply List.Sublist.cons) | exact List.sublist_append_right _ _))); try (case hA => exact Known.true))
    intro v4 F4 h4
    obtain ⟨a4, c4, rfl⟩ := h4.val
    (repeat (first | (with_reducible apply XL.op) | ((with_reducible apply XOp.p1); (case hg | hv => exact rfl)) | (with_reducible apply XL.nilT) | (with_reducible apply XC.region (Γ := Γ)) | (with_reducible apply XQ.nt) | (with_reducible apply XQ.nb) | ((with_reducible apply XP.p1); (case ho | hg | hv => exact rfl)) | (with_reducible apply XP.done) | ((with_reducible apply XP.keep); (case hk => first | ((repeat' (first | exact List.forall_mem_nil _ | (with_reducible refine List.forall_mem_cons.2 ⟨?_, ?_⟩) | exact List.mem_cons_self .. | (with_reducible apply List.mem_cons_of_mem) | (with_reducible apply List.mem_append_right))); done) | (intro x hx; first | exact sel_in hx | exact List.mem_cons_of_mem _ (sel_in hx) | exact List.mem_append_right _ (sel_in hx) | exact hx | exact List.mem_cons_of_mem _ hx | exact List.mem_append_right _ hx | ((repeat (first | exact sel_in hx | exact hx | (with_reducible apply List.mem_cons_of_mem) | (with_reducible apply List.mem_append_right))); done) | cases hx)))))
    exact ⟨k - 1, by omega, _, .of (List.sublist_cons_self _ _), i + 1, _, F4, by omega, h4.conv (by omega) (by rw [take_snocD hi, num2, num2]; simp [turnB]), rfl, rfl, rfl, rfl, rfl, rfl, rfl, intS2 (m := x.T.1.length) (by omega) (by omega), trivial⟩
  obtain rfl : i = x.T.1.length := by omega
  rw [List.take_length] at hown
  have l3 : (x.T.1.flatMap turnB).length ≤ 100000 := by rw [turnsLen]; omega
  obtain ⟨b3, d3, e3, hb3, s3⟩ := own_body hown (isB_turns _) (by omega)
  rw [hb3] at e3 ⊢
  obtain ⟨rfl, _, rfl⟩ := Value.slice.inj e3
  (repeat (first | (with_reducible apply XL.op) | ((with_reducible apply XOp.p1); (case hg | hv => exact rfl)) | (with_reducible apply XC.seq) | (with_reducible apply XC.region (Γ := Γ)) | (with_reducible apply XQ.exit) | (with_reducible apply XQ.nt) | (with_reducible apply XQ.et) | ((with_reducible apply XQ.eb); (case hb => exact rfl))))
  ((with_reducible apply XOp.callD (R := [(cb, Obj.cells ⟨x.C.cells⟩ 23 (0, 0)), (wb, Obj.cells ⟨x.cells⟩ 31 (0, 0))] ++ F) (R' := [(cb, Obj.cells ⟨x.C.cells⟩ 23 (0, 0)), (wb, Obj.cells ⟨x.cells⟩ 31 (0, 0))]) (F := F2) (hF := section_fn (.slice a2 _ c2) _ X2 F2 h2 84 (x.T.1.flatMap turnB) a' c' (by omega))); (case hg => exact rfl); (case hc => exact rfl); (case ha => exact rfl); (case hL => first | exact List.Perm.refl _ | (first | (with_reducible exact List.Perm.refl _) | refine perm_of_cnt fun p_ => ?_; simp only [List.countP_append, List.countP_cons, List.countP_nil]; omega)); (case hs => ((try simp only [List.append_eq, List.cons_append, List.nil_append, List.append_assoc]); repeat (first | exact List.Sublist.refl _ | exact List.nil_sublist _ | (with_reducible apply List.Sublist.cons_cons) | (with_reducible apply List.Sublist.cons) | exact List.sublist_append_right _ _))); try (case hA => exact Known.true))
  case hA => exact Known.of_frag s3 (Mono.sl _ _ _ _ _) (fun z_ hz_ => by first | exact hz_ | (simp only [List.mem_cons, List.mem_append, hz_, true_or, or_true]; done) | ((repeat (first | exact hz_ | exact List.mem_append_left _ hz_ | (apply List.mem_cons_of_mem) | (apply List.mem_append_right))); done))
  intro v5 F5 h5
  obtain ⟨a5, c5, rfl⟩ := h5.val
  (repeat (first | (with_reducible apply XL.op) | ((with_reducible apply XOp.p1); (case hg | hv => exact rfl)) | ((with_reducible apply XOp.load); (case hg | ht | hk | hx => exact rfl); (case hc => exact own_cell (i := 1) rfl rfl)) | (with_reducible apply XL.nilT) | (with_reducible apply XC.seq) | (with_reducible apply XC.region (Γ := Γ)) | (with_reducible apply XC.block)))
  generalize hX3 : X2 ++ secB 84 (x.T.1.flatMap turnB) = X3 at h5
  have hL := hA.l.locRaw
  have hLa := hL.at_
  have hLb := hL.bytes
  refine XC.loopP (fun k ρ L => ∃ (i m : Nat) (v : Value) (F : HL), i + k = x.Ls.1.length ∧ m ≤ 10000 + i * 40000 ∧ OwnS 5 1 v m ((X3 ++ (x.Ls.1.take i).flatMap (fun l => secB 76 (layBody l.lay))).map (.int .u8)) F ∧ L = [(cb, Obj.cells ⟨x.C.cells⟩ 23 (0, 0)), (wb, Obj.cells ⟨x.cells⟩ 31 (0, 0))] ++ F ∧ Slots ρ [(1, .pointer (some ⟨wb, 0, none⟩)), (5, .pointer (some ⟨cb, 0, none⟩)), (6, v), (83, .int .i64 x.Ls.1.length), (84, .int .i64 i)])
    x.Ls.1.length ⟨0, _, _, F5, by omega, ?_, h5.conv rfl (by simp), rfl, rfl, rfl, rfl, rfl, rfl, trivial⟩ ?_
  · simp only [List.length_map, turnsLen]; omega
  clear h0s h1 h2 hown h5 g2 s1 s2 s3
  rintro k ρ L ⟨i, m, v, F, hik, hm, hown, rfl, hs⟩
  obtain ⟨a', c', rfl⟩ := hown.val
  refine XC.slots _ hs ?_
  (repeat (first | (with_reducible apply XL.op) | ((with_reducible apply XOp.p1); (case hg | hv => exact rfl)) | (with_reducible apply XL.nilT) | (with_reducible apply XC.seq) | (with_reducible apply XC.region (Γ := Γ))))
  ((with_reducible apply XC.cond); (case hc => exact rfl); all_goals (intro hb_; try simp only [pd_true, pd_false, Bool.not_eq_true', Bool.not_eq_false', Bool.and_eq_true, Bool.and_eq_false_iff, Bool.or_eq_true, Bool.or_eq_false_iff, not_true_eq_false, not_false_eq_true, Int.not_lt, Int.not_le] at hb_))
  · obtain ⟨l, hi⟩ : ∃ l, x.Ls.1[i]? = some l := ⟨_, List.getElem?_eq_getElem (by omega)⟩
    have hl := hA.l.locAt (List.mem_of_getElem? hi)
    have hll := slb l (List.mem_of_getElem? hi)
    have hsum := layBody_sum l
    have hR : rowv (oldv w0 (keys [])) (ablk x.Ls.2.1) (aoff x.Ls.2.1 + i * 30) l.cells := hL.rawAt hi
    (repeat (first | (with_reducible apply XL.op) | ((with_reducible apply XOp.p1); (case hg | hv => exact rfl)) | ((with_reducible apply XOp.load); (case hg | ht | hk | hx => exact rfl); (case hc => exact own_cell (i := 1) rfl rfl)) | ((with_reducible apply XOp.pr); (case hg => exact rfl); (case hr => ((with_reducible apply PR.idxA); (case ht | hk | he | hx | hi => exact rfl); (case hr => first | assumption | omega); (case ha => first | assumption | exact SlA.at_ (by assumption))))) | (with_reducible apply XL.nilT) | (with_reducible apply XC.seq) | (with_reducible apply XC.region (Γ := Γ)) | (with_reducible apply XQ.skip) | (with_reducible apply XQ.nt) | (with_reducible apply XC.block)))
    have hlo : aoff x.Ls.2.1 + ((i : Nat) : Int).toNat * 30 = aoff x.Ls.2.1 + i * 30 := rfl
    generalize hlp : ablk x.Ls.2.1 = lp at hR ⊢
    generalize aoff x.Ls.2.1 + i * 30 = lo at hR hlo
    have hN0 : cellv (oldv w0 (keys [])) ⟨lp, lo + 0, none⟩ = some (slv l.n1) := hR 0 _ rfl
    have hN1 : cellv (oldv w0 (keys [])) ⟨lp, lo + 1, none⟩ = some (slv l.n2) := hR 1 _ rfl
    have q0 : cellv (oldv w0 (keys [])) ⟨lp, lo + 2 + 2, none⟩ = some (slv l.q.d) := hR 4 _ rfl
    have q1 : cellv (oldv w0 (keys [])) ⟨lp, lo + 5 + 2, none⟩ = some (slv l.k.d) := hR 7 _ rfl
    have q2 : cellv (oldv w0 (keys [])) ⟨lp, lo + 8 + 2, none⟩ = some (slv l.v.d) := hR 10 _ rfl
    have q3 : cellv (oldv w0 (keys [])) ⟨lp, lo + 11 + 2, none⟩ = some (slv l.o.d) := hR 13 _ rfl
    have q4 : cellv (oldv w0 (keys [])) ⟨lp, lo + 14 + 2, none⟩ = some (slv l.g.d) := hR 16 _ rfl
    have q5 : cellv (oldv w0 (keys [])) ⟨lp, lo + 17 + 2, none⟩ = some (slv l.u.d) := hR 19 _ rfl
    have q6 : cellv (oldv w0 (keys [])) ⟨lp, lo + 20 + 2, none⟩ = some (slv l.d.d) := hR 22 _ rfl
    have hBy : rowv (oldv w0 (keys [])) lp (lo + 23) (l.by_.map (Value.int .i64)) := rowv_sub hR 23 7
    ((with_reducible apply XC.regionL (Γ := Γ) mixed (.q 0 (.q 1 (.q 2 (.q 3 (.q 4 (.q 5 (.q 6 (.q 7 (.e 8 (.e 9 (.q 10 (.done)))))))))))) [] ([])); (case hc => kernel_rfl); (case hs => first | exact List.nil_sublist _ | exact List.Sublist.refl _ | exact List.sublist_append_right _ _ | (refine List.Sublist.cons_cons _ (List.nil_sublist _)) | (refine List.Sublist.cons_cons _ (List.Sublist.cons_cons _ (List.nil_sublist _))) | (refine List.Sublist.cons_cons _ (List.Sublist.cons_cons _ (List.Sublist.cons_cons _ (List.nil_sublist _)))) | (refine List.Sublist.cons_cons _ (List.Sublist.cons_cons _ (List.Sublist.cons_cons _ (List.Sublist.cons_cons _ (List.nil_sublist _)))))))
    (repeat (first | ((with_reducible apply XP.p1); (case ho | hg | hv => exact rfl)) | ((with_reducible apply XP.e); (first | ((with_reducible apply XE.d); (case ho => exact rfl); (case hd => exact rfl)) | ((with_reducible apply XE.e); (case ho => exact rfl)))) | (first | ((with_reducible apply XOp.load); (case hg | ht | hk | hx => exact rfl); (case hc => rw [hlo]; exact Known.of_old hN0 (Mono.cell _ _))) | ((with_reducible apply XP.load); (case ho | hg | ht | hk | hx => exact rfl); (case hc => rw [hlo]; exact Known.of_old hN0 (Mono.cell _ _)))) | (first | ((with_reducible apply XOp.load); (case hg | ht | hk | hx => exact rfl); (case hc => rw [hlo]; exact Known.of_old hN1 (Mono.cell _ _))) | ((with_reducible apply XP.load); (case ho | hg | ht | hk | hx => exact rfl); (case hc => rw [hlo]; exact Known.of_old hN1 (Mono.cell _ _))))))
    ((with_reducible apply XOp.buildSlice); (case hg | ht | hk | he | hz | hzl | hf => exact rfl); intro lb)
    (repeat (first | ((with_reducible apply XP.e); (first | ((with_reducible apply XE.d); (case ho => exact rfl); (case hd => exact rfl)) | ((with_reducible apply XE.e); (case ho => exact rfl)))) | ((with_reducible apply XP.keep); (case hk => first | ((repeat' (first | exact List.forall_mem_nil _ | (with_reducible refine List.forall_mem_cons.2 ⟨?_, ?_⟩) | exact List.mem_cons_self .. | (with_reducible apply List.mem_cons_of_mem) | (with_reducible apply List.mem_append_right))); done) | (intro x hx; first | exact sel_in hx | exact List.mem_cons_of_mem _ (sel_in hx) | exact List.mem_append_right _ (sel_in hx) | exact hx | exact List.mem_cons_of_mem _ hx | exact List.mem_append_right _ hx | ((repeat (first | exact sel_in hx | exact hx | (with_reducible apply List.mem_cons_of_mem) | (with_reducible apply List.mem_append_right))); done) | cases hx)))))
    (refine (show XOp _ _ _ _ _ _ _ _ ((lb, Obj.cells ⟨[slv l.n1, slv l.n2]⟩ 24 (0, 0)) :: ([(cb, Obj.cells ⟨x.C.cells⟩ 23 (0, 0)), (wb, Obj.cells ⟨x.cells⟩ 31 (0, 0))] ++ F)) from XOp.perm (L' :=  ((lb, Obj.cells ⟨[slv l.n1, slv l.n2]⟩ 24 (0, 0)) :: [(cb, Obj.cells ⟨x.C.cells⟩ 23 (0, 0)), (wb, Obj.cells ⟨x.cells⟩ 31 (0, 0))] ++ F) ++ []) rfl ?_ (by (first | (with_reducible exact List.Perm.refl _) | refine perm_of_cnt fun p_ => ?_; simp only [List.countP_append, List.countP_cons, List.countP_nil]; omega))))
    ((with_reducible apply XOp.callD (R := (lb, Obj.cells ⟨[slv l.n1, slv l.n2]⟩ 24 (0, 0)) :: [(cb, Obj.cells ⟨x.C.cells⟩ 23 (0, 0)), (wb, Obj.cells ⟨x.cells⟩ 31 (0, 0))] ++ F) (R' := [(cb, Obj.cells ⟨x.C.cells⟩ 23 (0, 0)), (wb, Obj.cells ⟨x.cells⟩ 31 (0, 0))] ++ F) (F := []) (hF := bytes2_fn (.slice none 0 0) 0 [] [] (OwnS.nil _ _) l.n1 l.n2 lb (by omega))); (case hg => exact rfl); (case hc => exact rfl); (case ha => exact rfl); (case hL => first | exact List.Perm.refl _ | (first | (with_reducible exact List.Perm.refl _) | refine perm_of_cnt fun p_ => ?_; simp only [List.countP_append, List.countP_cons, List.countP_nil]; omega)); (case hs => ((try simp only [List.append_eq, List.cons_append, List.nil_append, List.append_assoc]); repeat (first | exact List.Sublist.refl _ | exact List.nil_sublist _ | (with_reducible apply List.Sublist.cons_cons) | (with_reducible apply List.Sublist.cons) | exact List.sublist_append_right _ _))); try (case hA => exact Known.true))
    case hA => exact Known.and (own_row (i := 0) (m := 2) rfl rfl) (Known.and (Known.of_old hl.n1 (lv_mono _)) (Known.of_old hl.n2 (lv_mono _)))
    intro v6 F6 h6
    obtain ⟨a6, c6, rfl⟩ := h6.val
    (repeat (first | (with_reducible apply XL.op) | ((with_reducible apply XOp.loadO (i := 0)); (case hg | ht | hk | hx | hi | hc => exact rfl)) | (with_reducible apply XC.seq) | (with_reducible apply XC.region (Γ := Γ)) | (with_reducible apply XQ.nt) | ((with_reducible apply XP.p1); (case ho | hg | hv => exact rfl)) | (with_reducible apply XP.done) | ((with_reducible apply XP.keep); (case hk => first | ((repeat' (first | exact List.forall_mem_nil _ | (with_reducible refine List.forall_mem_cons.2 ⟨?_, ?_⟩) | exact List.mem_cons_self .. | (with_reducible apply List.mem_cons_of_mem) | (with_reducible apply List.mem_append_right))); done) | (intro x hx; first | exact sel_in hx | exact List.mem_cons_of_mem _ (sel_in hx) | exact List.mem_append_right _ (sel_in hx) | exact hx | exact List.mem_cons_of_mem _ hx | exact List.mem_append_right _ hx | ((repeat (first | exact sel_in hx | exact hx | (with_reducible apply List.mem_cons_of_mem) | (with_reducible apply List.mem_append_right))); done) | cases hx)))))
    ((with_reducible apply XOp.call (hF := shapes_fn x.C hcm)); (case hg => exact rfl); (case hc => exact rfl); (case ha => exact rfl); (case hL => exact (List.nil_append _).symm); try (case hA => exact Known.true))
    case hA => exact Known.of_old hS sides_mono
    rintro _ _ ⟨sb, rfl, rfl⟩
    (repeat (first | (with_reducible apply XL.op) | ((with_reducible apply XOp.p1); (case hg | hv => exact rfl)) | (with_reducible apply XL.nilT) | (with_reducible apply XC.block)))
    refine XC.loopP (fun k2 ρ L => ∃ (j mm : Nat) (v : Value) (G : HL), j + k2 = 7 ∧ mm ≤ 30000 * (j + 2) ∧ OwnS 5 1 v mm ((l.n1.1.map toB ++ l.n2.1.map toB ++ ((mlist l).take j).flatMap lvB).map (.int .u8)) G ∧ L = ((sb, Obj.cells ⟨shC x.C 7⟩ 80 (0, 0)) :: [(cb, Obj.cells ⟨x.C.cells⟩ 23 (0, 0)), (wb, Obj.cells ⟨x.cells⟩ 31 (0, 0))] ++ F) ++ G ∧ Slots ρ [(1, .pointer (some ⟨wb, 0, none⟩)), (5, .pointer (some ⟨cb, 0, none⟩)), (6, .slice a' m c'), (11, .pointer (some ⟨lp, lo, none⟩)), (12, v), (83, .int .i64 x.Ls.1.length), (84, .int .i64 i), (102, .slice (some ⟨sb, 0, none⟩) 7 7), (103, .int .i64 7), (104, .int .i64 j)])
      7 ⟨0, _, _, F6, by omega, by omega, h6.conv rfl (by simp [mlist]), rfl, rfl, rfl, rfl, (by show Value.pointer _ = _; rw [← hlo]), rfl, rfl, rfl, rfl, rfl, rfl, trivial⟩ ?_
    clear h6
    rintro k2 ρ L ⟨j, mm, v, G, hjk, hmm, hownG, rfl, hs⟩
    obtain ⟨a7, c7, rfl⟩ := hownG.val
    refine XC.slots _ hs ?_
    (repeat (first | (with_reducible apply XL.op) | ((with_reducible apply XOp.p1); (case hg | hv => exact rfl)) | (with_reducible apply XL.nilT) | (with_reducible apply XC.seq) | (with_reducible apply XC.region (Γ := Γ))))
    ((with_reducible apply XC.cond); (case hc => exact rfl); all_goals (intro hb_; try simp only [pd_true, pd_false, Bool.not_eq_true', Bool.not_eq_false', Bool.and_eq_true, Bool.and_eq_false_iff, Bool.or_eq_true, Bool.or_eq_false_iff, not_true_eq_false, not_false_eq_true, Int.not_lt, Int.not_le] at hb_))
    · rcases (by omega : j = 0 ∨ j = 1 ∨ j = 2 ∨ j = 3 ∨ j = 4 ∨ j = 5 ∨ j = 6) with rfl | rfl | rfl | rfl | rfl | rfl | rfl
      all_goals (repeat (first | (with_reducible apply XL.op) | ((with_reducible apply XOp.p1); (case hg | hv => exact rfl)) | ((with_reducible apply XOp.loadO (i := 0)); (case hg | ht | hk | hx | hi | hc => exact rfl)) | (with_reducible apply XC.seq) | (with_reducible apply XC.region (Γ := Γ)) | (with_reducible apply XQ.skip) | (with_reducible apply XQ.nt) | (with_reducible apply XC.block)))
      all_goals ((with_reducible apply XOp.alloc); (case hg | ht | hx' => exact rfl); intro zb)
      all_goals (repeat (first | (with_reducible apply XL.op) | ((with_reducible apply XOp.p1); (case hg | hv => exact rfl)) | ((with_reducible apply XOp.load); (case hg | ht | hk | hx => exact rfl); (case hc => exact own_cell (i := 0) rfl rfl)) | ((with_reducible apply XOp.storeN (i := 0)); (case hg | ht | hx | hv' | hk | h1 | hi | hs | ha => exact rfl)) | (with_reducible apply XL.nilT) | (with_reducible apply XC.region (Γ := Γ)) | (((with_reducible apply XOp.callQ (hF := shape1_fn lp lo)); (case hg => exact rfl); (case hc => exact rfl); (case ha => exact rfl); try (case hA => exact Known.true)); rintro _ rfl) | (((with_reducible apply XOp.callQ (hF := shape2_fn lp lo)); (case hg => exact rfl); (case hc => exact rfl); (case ha => exact rfl); try (case hA => exact Known.true)); rintro _ rfl) | (((with_reducible apply XOp.callQ (hF := shape3_fn lp lo)); (case hg => exact rfl); (case hc => exact rfl); (case ha => exact rfl); try (case hA => exact Known.true)); rintro _ rfl) | (((with_reducible apply XOp.callQ (hF := shape4_fn lp lo)); (case hg => exact rfl); (case hc => exact rfl); (case ha => exact rfl); try (case hA => exact Known.true)); rintro _ rfl) | (((with_reducible apply XOp.callQ (hF := shape5_fn lp lo)); (case hg => exact rfl); (case hc => exact rfl); (case ha => exact rfl); try (case hA => exact Known.true)); rintro _ rfl) | (((with_reducible apply XOp.callQ (hF := shape6_fn lp lo)); (case hg => exact rfl); (case hc => exact rfl); (case ha => exact rfl); try (case hA => exact Known.true)); rintro _ rfl) | (((with_reducible apply XOp.callQ (hF := shape7_fn lp lo)); (case hg => exact rfl); (case hc => exact rfl); (case ha => exact rfl); try (case hA => exact Known.true)); rintro _ rfl) | (first | ((with_reducible apply XOp.load); (case hg | ht | hk | hx => exact rfl); (case hc => exact Known.of_old q0 (Mono.cell _ _))) | ((with_reducible apply XP.load); (case ho | hg | ht | hk | hx => exact rfl); (case hc => exact Known.of_old q0 (Mono.cell _ _)))) | (first | ((with_reducible apply XOp.load); (case hg | ht | hk | hx => exact rfl); (case hc => exact Known.of_old q1 (Mono.cell _ _))) | ((with_reducible apply XP.load); (case ho | hg | ht | hk | hx => exact rfl); (case hc => exact Known.of_old q1 (Mono.cell _ _)))) | (first | ((with_reducible apply XOp.load); (case hg | ht | hk | hx => exact rfl); (case hc => exact Known.of_old q2 (Mono.cell _ _))) | ((with_reducible apply XP.load); (case ho | hg | ht | hk | hx => exact rfl); (case hc => exact Known.of_old q2 (Mono.cell _ _)))) | (first | ((with_reducible apply XOp.load); (case hg | ht | hk | hx => exact rfl); (case hc => exact Known.of_old q3 (Mono.cell _ _))) | ((with_reducible apply XP.load); (case ho | hg | ht | hk | hx => exact rfl); (case hc => exact Known.of_old q3 (Mono.cell _ _)))) | (first | ((with_reducible apply XOp.load); (case hg | ht | hk | hx => exact rfl); (case hc => exact Known.of_old q4 (Mono.cell _ _))) | ((with_reducible apply XP.load); (case ho | hg | ht | hk | hx => exact rfl); (case hc => exact Known.of_old q4 (Mono.cell _ _)))) | (first | ((with_reducible apply XOp.load); (case hg | ht | hk | hx => exact rfl); (case hc => exact Known.of_old q5 (Mono.cell _ _))) | ((with_reducible apply XP.load); (case ho | hg | ht | hk | hx => exact rfl); (case hc => exact Known.of_old q5 (Mono.cell _ _)))) | (first | ((with_reducible apply XOp.load); (case hg | ht | hk | hx => exact rfl); (case hc => exact Known.of_old q6 (Mono.cell _ _))) | ((with_reducible apply XP.load); (case ho | hg | ht | hk | hx => exact rfl); (case hc => exact Known.of_old q6 (Mono.cell _ _))))))
      · ((with_reducible apply XOp.buildSlice); (case hg | ht | hk | he | hz | hzl | hf => exact rfl); intro xb)
        (repeat ((with_reducible apply XL.op)))
        refine XOp.subl rfl (L' := (xb, Obj.cells ⟨[slv l.q.d]⟩ 24 (0, 0)) :: ((sb, Obj.cells ⟨shC x.C 7⟩ 80 (0, 0)) :: [(cb, Obj.cells ⟨x.C.cells⟩ 23 (0, 0)), (wb, Obj.cells ⟨x.cells⟩ 31 (0, 0))] ++ F) ++ G) ?_ (List.Sublist.cons_cons _ (List.sublist_cons_self _ _))
        ((with_reducible apply XOp.callD (R := (xb, Obj.cells ⟨[slv l.q.d]⟩ 24 (0, 0)) :: (sb, Obj.cells ⟨shC x.C 7⟩ 80 (0, 0)) :: [(cb, Obj.cells ⟨x.C.cells⟩ 23 (0, 0)), (wb, Obj.cells ⟨x.cells⟩ 31 (0, 0))] ++ F) (R' := (sb, Obj.cells ⟨shC x.C 7⟩ 80 (0, 0)) :: [(cb, Obj.cells ⟨x.C.cells⟩ 23 (0, 0)), (wb, Obj.cells ⟨x.cells⟩ 31 (0, 0))] ++ F) (F := G) (hF := bytes1_fn (.slice a7 _ c7) _ _ G hownG l.q.d xb (by omega))); (case hg => exact rfl); (case hc => exact rfl); (case ha => exact rfl); (case hL => first | exact List.Perm.refl _ | (first | (with_reducible exact List.Perm.refl _) | refine perm_of_cnt fun p_ => ?_; simp only [List.countP_append, List.countP_cons, List.countP_nil]; omega)); (case hs => ((try simp only [List.append_eq, List.cons_append, List.nil_append, List.append_assoc]); repeat (first | exact List.Sublist.refl _ | exact List.nil_sublist _ | (with_reducible apply List.Sublist.cons_cons) | (with_reducible apply List.Sublist.cons) | exact List.sublist_append_right _ _))); try (case hA => exact Known.true))
        case hA => exact Known.and (own_row (i := 0) (m := 1) rfl rfl) (Known.of_old hl.q (lm_mono _))
        intro v8 F8 h8
        obtain ⟨a8, c8, rfl⟩ := h8.val
        (repeat (first | (with_reducible apply XL.op) | ((with_reducible apply XOp.p1); (case hg | hv => exact rfl)) | (with_reducible apply XL.nilT) | (with_reducible apply XC.region (Γ := Γ)) | (with_reducible apply XL.nilQ) | (with_reducible apply XQ.nt) | (with_reducible apply XQ.nb)))
        exact ⟨k2 - 1, by omega, _, .of (List.Sublist.refl _), 1, _, _, F8, by omega, by omega, h8.conv rfl (by rw [take_snocD (show (mlist l)[0]? = some l.q.d from rfl)]; simp [lvB]), rfl, rfl, rfl, rfl, rfl, rfl, rfl, rfl, rfl, rfl, intS2 (i := 0) (m := 7) (by omega) (by omega), trivial⟩
      · ((with_reducible apply XOp.buildSlice); (case hg | ht | hk | he | hz | hzl | hf => exact rfl); intro xb)
        (repeat ((with_reducible apply XL.op)))
        refine XOp.subl rfl (L' := (xb, Obj.cells ⟨[slv l.k.d]⟩ 24 (0, 0)) :: ((sb, Obj.cells ⟨shC x.C 7⟩ 80 (0, 0)) :: [(cb, Obj.cells ⟨x.C.cells⟩ 23 (0, 0)), (wb, Obj.cells ⟨x.cells⟩ 31 (0, 0))] ++ F) ++ G) ?_ (List.Sublist.cons_cons _ (List.sublist_cons_self _ _))
        ((with_reducible apply XOp.callD (R := (xb, Obj.cells ⟨[slv l.k.d]⟩ 24 (0, 0)) :: (sb, Obj.cells ⟨shC x.C 7⟩ 80 (0, 0)) :: [(cb, Obj.cells ⟨x.C.cells⟩ 23 (0, 0)), (wb, Obj.cells ⟨x.cells⟩ 31 (0, 0))] ++ F) (R' := (sb, Obj.cells ⟨shC x.C 7⟩ 80 (0, 0)) :: [(cb, Obj.cells ⟨x.C.cells⟩ 23 (0, 0)), (wb, Obj.cells ⟨x.cells⟩ 31 (0, 0))] ++ F) (F := G) (hF := bytes1_fn (.slice a7 _ c7) _ _ G hownG l.k.d xb (by omega))); (case hg => exact rfl); (case hc => exact rfl); (case ha => exact rfl); (case hL => first | exact List.Perm.refl _ | (first | (with_reducible exact List.Perm.refl _) | refine perm_of_cnt fun p_ => ?_; simp only [List.countP_append, List.countP_cons, List.countP_nil]; omega)); (case hs => ((try simp only [List.append_eq, List.cons_append, List.nil_append, List.append_assoc]); repeat (first | exact List.Sublist.refl _ | exact List.nil_sublist _ | (with_reducible apply List.Sublist.cons_cons) | (with_reducible apply List.Sublist.cons) | exact List.sublist_append_right _ _))); try (case hA => exact Known.true))
        case hA => exact Known.and (own_row (i := 0) (m := 1) rfl rfl) (Known.of_old hl.k (lm_mono _))
        intro v8 F8 h8
        obtain ⟨a8, c8, rfl⟩ := h8.val
        (repeat (first | (with_reducible apply XL.op) | ((with_reducible apply XOp.p1); (case hg | hv => exact rfl)) | (with_reducible apply XL.nilT) | (with_reducible apply XC.region (Γ := Γ)) | (with_reducible apply XL.nilQ) | (with_reducible apply XQ.nt) | (with_reducible apply XQ.nb)))
        exact ⟨k2 - 1, by omega, _, .of (List.Sublist.refl _), 2, _, _, F8, by omega, by omega, h8.conv rfl (by rw [take_snocD (show (mlist l)[1]? = some l.k.d from rfl)]; simp [lvB]), rfl, rfl, rfl, rfl, rfl, rfl, rfl, rfl, rfl, rfl, intS2 (i := 1) (m := 7) (by omega) (by omega), trivial⟩
      · ((with_reducible apply XOp.buildSlice); (case hg | ht | hk | he | hz | hzl | hf => exact rfl); intro xb)
        (repeat ((with_reducible apply XL.op)))
        refine XOp.subl rfl (L' := (xb, Obj.cells ⟨[slv l.v.d]⟩ 24 (0, 0)) :: ((sb, Obj.cells ⟨shC x.C 7⟩ 80 (0, 0)) :: [(cb, Obj.cells ⟨x.C.cells⟩ 23 (0, 0)), (wb, Obj.cells ⟨x.cells⟩ 31 (0, 0))] ++ F) ++ G) ?_ (List.Sublist.cons_cons _ (List.sublist_cons_self _ _))
        ((with_reducible apply XOp.callD (R := (xb, Obj.cells ⟨[slv l.v.d]⟩ 24 (0, 0)) :: (sb, Obj.cells ⟨shC x.C 7⟩ 80 (0, 0)) :: [(cb, Obj.cells ⟨x.C.cells⟩ 23 (0, 0)), (wb, Obj.cells ⟨x.cells⟩ 31 (0, 0))] ++ F) (R' := (sb, Obj.cells ⟨shC x.C 7⟩ 80 (0, 0)) :: [(cb, Obj.cells ⟨x.C.cells⟩ 23 (0, 0)), (wb, Obj.cells ⟨x.cells⟩ 31 (0, 0))] ++ F) (F := G) (hF := bytes1_fn (.slice a7 _ c7) _ _ G hownG l.v.d xb (by omega))); (case hg => exact rfl); (case hc => exact rfl); (case ha => exact rfl); (case hL => first | exact List.Perm.refl _ | (first | (with_reducible exact List.Perm.refl _) | refine perm_of_cnt fun p_ => ?_; simp only [List.countP_append, List.countP_cons, List.countP_nil]; omega)); (case hs => ((try simp only [List.append_eq, List.cons_append, List.nil_append, List.append_assoc]); repeat (first | exact List.Sublist.refl _ | exact List.nil_sublist _ | (with_reducible apply List.Sublist.cons_cons) | (with_reducible apply List.Sublist.cons) | exact List.sublist_append_right _ _))); try (case hA => exact Known.true))
        case hA => exact Known.and (own_row (i := 0) (m := 1) rfl rfl) (Known.of_old hl.v (lm_mono _))
        intro v8 F8 h8
        obtain ⟨a8, c8, rfl⟩ := h8.val
        (repeat (first | (with_reducible apply XL.op) | ((with_reducible apply XOp.p1); (case hg | hv => exact rfl)) | (with_reducible apply XL.nilT) | (with_reducible apply XC.region (Γ := Γ)) | (with_reducible apply XL.nilQ) | (with_reducible apply XQ.nt) | (with_reducible apply XQ.nb)))
        exact ⟨k2 - 1, by omega, _, .of (List.Sublist.refl _), 3, _, _, F8, by omega, by omega, h8.conv rfl (by rw [take_snocD (show (mlist l)[2]? = some l.v.d from rfl)]; simp [lvB]), rfl, rfl, rfl, rfl, rfl, rfl, rfl, rfl, rfl, rfl, intS2 (i := 2) (m := 7) (by omega) (by omega), trivial⟩
      · ((with_reducible apply XOp.buildSlice); (case hg | ht | hk | he | hz | hzl | hf => exact rfl); intro xb)
        (repeat ((with_reducible apply XL.op)))
        refine XOp.subl rfl (L' := (xb, Obj.cells ⟨[slv l.o.d]⟩ 24 (0, 0)) :: ((sb, Obj.cells ⟨shC x.C 7⟩ 80 (0, 0)) :: [(cb, Obj.cells ⟨x.C.cells⟩ 23 (0, 0)), (wb, Obj.cells ⟨x.cells⟩ 31 (0, 0))] ++ F) ++ G) ?_ (List.Sublist.cons_cons _ (List.sublist_cons_self _ _))
        ((with_reducible apply XOp.callD (R := (xb, Obj.cells ⟨[slv l.o.d]⟩ 24 (0, 0)) :: (sb, Obj.cells ⟨shC x.C 7⟩ 80 (0, 0)) :: [(cb, Obj.cells ⟨x.C.cells⟩ 23 (0, 0)), (wb, Obj.cells ⟨x.cells⟩ 31 (0, 0))] ++ F) (R' := (sb, Obj.cells ⟨shC x.C 7⟩ 80 (0, 0)) :: [(cb, Obj.cells ⟨x.C.cells⟩ 23 (0, 0)), (wb, Obj.cells ⟨x.cells⟩ 31 (0, 0))] ++ F) (F := G) (hF := bytes1_fn (.slice a7 _ c7) _ _ G hownG l.o.d xb (by omega))); (case hg => exact rfl); (case hc => exact rfl); (case ha => exact rfl); (case hL => first | exact List.Perm.refl _ | (first | (with_reducible exact List.Perm.refl _) | refine perm_of_cnt fun p_ => ?_; simp only [List.countP_append, List.countP_cons, List.countP_nil]; omega)); (case hs => ((try simp only [List.append_eq, List.cons_append, List.nil_append, List.append_assoc]); repeat (first | exact List.Sublist.refl _ | exact List.nil_sublist _ | (with_reducible apply List.Sublist.cons_cons) | (with_reducible apply List.Sublist.cons) | exact List.sublist_append_right _ _))); try (case hA => exact Known.true))
        case hA => exact Known.and (own_row (i := 0) (m := 1) rfl rfl) (Known.of_old hl.o (lm_mono _))
        intro v8 F8 h8
        obtain ⟨a8, c8, rfl⟩ := h8.val
        (repeat (first | (with_reducible apply XL.op) | ((with_reducible apply XOp.p1); (case hg | hv => exact rfl)) | (with_reducible apply XL.nilT) | (with_reducible apply XC.region (Γ := Γ)) | (with_reducible apply XL.nilQ) | (with_reducible apply XQ.nt) | (with_reducible apply XQ.nb)))
        exact ⟨k2 - 1, by omega, _, .of (List.Sublist.refl _), 4, _, _, F8, by omega, by omega, h8.conv rfl (by rw [take_snocD (show (mlist l)[3]? = some l.o.d from rfl)]; simp [lvB]), rfl, rfl, rfl, rfl, rfl, rfl, rfl, rfl, rfl, rfl, intS2 (i := 3) (m := 7) (by omega) (by omega), trivial⟩
      · ((with_reducible apply XOp.buildSlice); (case hg | ht | hk | he | hz | hzl | hf => exact rfl); intro xb)
        (repeat ((with_reducible apply XL.op)))
        refine XOp.subl rfl (L' := (xb, Obj.cells ⟨[slv l.g.d]⟩ 24 (0, 0)) :: ((sb, Obj.cells ⟨shC x.C 7⟩ 80 (0, 0)) :: [(cb, Obj.cells ⟨x.C.cells⟩ 23 (0, 0)), (wb, Obj.cells ⟨x.cells⟩ 31 (0, 0))] ++ F) ++ G) ?_ (List.Sublist.cons_cons _ (List.sublist_cons_self _ _))
        ((with_reducible apply XOp.callD (R := (xb, Obj.cells ⟨[slv l.g.d]⟩ 24 (0, 0)) :: (sb, Obj.cells ⟨shC x.C 7⟩ 80 (0, 0)) :: [(cb, Obj.cells ⟨x.C.cells⟩ 23 (0, 0)), (wb, Obj.cells ⟨x.cells⟩ 31 (0, 0))] ++ F) (R' := (sb, Obj.cells ⟨shC x.C 7⟩ 80 (0, 0)) :: [(cb, Obj.cells ⟨x.C.cells⟩ 23 (0, 0)), (wb, Obj.cells ⟨x.cells⟩ 31 (0, 0))] ++ F) (F := G) (hF := bytes1_fn (.slice a7 _ c7) _ _ G hownG l.g.d xb (by omega))); (case hg => exact rfl); (case hc => exact rfl); (case ha => exact rfl); (case hL => first | exact List.Perm.refl _ | (first | (with_reducible exact List.Perm.refl _) | refine perm_of_cnt fun p_ => ?_; simp only [List.countP_append, List.countP_cons, List.countP_nil]; omega)); (case hs => ((try simp only [List.append_eq, List.cons_append, List.nil_append, List.append_assoc]); repeat (first | exact List.Sublist.refl _ | exact List.nil_sublist _ | (with_reducible apply List.Sublist.cons_cons) | (with_reducible apply List.Sublist.cons) | exact List.sublist_append_right _ _))); try (case hA => exact Known.true))
        case hA => exact Known.and (own_row (i := 0) (m := 1) rfl rfl) (Known.of_old hl.g (lm_mono _))
        intro v8 F8 h8
        obtain ⟨a8, c8, rfl⟩ := h8.val
        (repeat (first | (with_reducible apply XL.op) | ((with_reducible apply XOp.p1); (case hg | hv => exact rfl)) | (with_reducible apply XL.nilT) | (with_reducible apply XC.region (Γ := Γ)) | (with_reducible apply XL.nilQ) | (with_reducible apply XQ.nt) | (with_reducible apply XQ.nb)))
        exact ⟨k2 - 1, by omega, _, .of (List.Sublist.refl _), 5, _, _, F8, by omega, by omega, h8.conv rfl (by rw [take_snocD (show (mlist l)[4]? = some l.g.d from rfl)]; simp [lvB]), rfl, rfl, rfl, rfl, rfl, rfl, rfl, rfl, rfl, rfl, intS2 (i := 4) (m := 7) (by omega) (by omega), trivial⟩
      · ((with_reducible apply XOp.buildSlice); (case hg | ht | hk | he | hz | hzl | hf => exact rfl); intro xb)
        (repeat ((with_reducible apply XL.op)))
        refine XOp.subl rfl (L' := (xb, Obj.cells ⟨[slv l.u.d]⟩ 24 (0, 0)) :: ((sb, Obj.cells ⟨shC x.C 7⟩ 80 (0, 0)) :: [(cb, Obj.cells ⟨x.C.cells⟩ 23 (0, 0)), (wb, Obj.cells ⟨x.cells⟩ 31 (0, 0))] ++ F) ++ G) ?_ (List.Sublist.cons_cons _ (List.sublist_cons_self _ _))
        ((with_reducible apply XOp.callD (R := (xb, Obj.cells ⟨[slv l.u.d]⟩ 24 (0, 0)) :: (sb, Obj.cells ⟨shC x.C 7⟩ 80 (0, 0)) :: [(cb, Obj.cells ⟨x.C.cells⟩ 23 (0, 0)), (wb, Obj.cells ⟨x.cells⟩ 31 (0, 0))] ++ F) (R' := (sb, Obj.cells ⟨shC x.C 7⟩ 80 (0, 0)) :: [(cb, Obj.cells ⟨x.C.cells⟩ 23 (0, 0)), (wb, Obj.cells ⟨x.cells⟩ 31 (0, 0))] ++ F) (F := G) (hF := bytes1_fn (.slice a7 _ c7) _ _ G hownG l.u.d xb (by omega))); (case hg => exact rfl); (case hc => exact rfl); (case ha => exact rfl); (case hL => first | exact List.Perm.refl _ | (first | (with_reducible exact List.Perm.refl _) | refine perm_of_cnt fun p_ => ?_; simp only [List.countP_append, List.countP_cons, List.countP_nil]; omega)); (case hs => ((try simp only [List.append_eq, List.cons_append, List.nil_append, List.append_assoc]); repeat (first | exact List.Sublist.refl _ | exact List.nil_sublist _ | (with_reducible apply List.Sublist.cons_cons) | (with_reducible apply List.Sublist.cons) | exact List.sublist_append_right _ _))); try (case hA => exact Known.true))
        case hA => exact Known.and (own_row (i := 0) (m := 1) rfl rfl) (Known.of_old hl.u (lm_mono _))
        intro v8 F8 h8
        obtain ⟨a8, c8, rfl⟩ := h8.val
        (repeat (first | (with_reducible apply XL.op) | ((with_reducible apply XOp.p1); (case hg | hv => exact rfl)) | (with_reducible apply XL.nilT) | (with_reducible apply XC.region (Γ := Γ)) | (with_reducible apply XL.nilQ) | (with_reducible apply XQ.nt) | (with_reducible apply XQ.nb)))
        exact ⟨k2 - 1, by omega, _, .of (List.Sublist.refl _), 6, _, _, F8, by omega, by omega, h8.conv rfl (by rw [take_snocD (show (mlist l)[5]? = some l.u.d from rfl)]; simp [lvB]), rfl, rfl, rfl, rfl, rfl, rfl, rfl, rfl, rfl, rfl, intS2 (i := 5) (m := 7) (by omega) (by omega), trivial⟩
      · ((with_reducible apply XOp.buildSlice); (case hg | ht | hk | he | hz | hzl | hf => exact rfl); intro xb)
        (repeat ((with_reducible apply XL.op)))
        refine XOp.subl rfl (L' := (xb, Obj.cells ⟨[slv l.d.d]⟩ 24 (0, 0)) :: ((sb, Obj.cells ⟨shC x.C 7⟩ 80 (0, 0)) :: [(cb, Obj.cells ⟨x.C.cells⟩ 23 (0, 0)), (wb, Obj.cells ⟨x.cells⟩ 31 (0, 0))] ++ F) ++ G) ?_ (List.Sublist.cons_cons _ (List.sublist_cons_self _ _))
        ((with_reducible apply XOp.callD (R := (xb, Obj.cells ⟨[slv l.d.d]⟩ 24 (0, 0)) :: (sb, Obj.cells ⟨shC x.C 7⟩ 80 (0, 0)) :: [(cb, Obj.cells ⟨x.C.cells⟩ 23 (0, 0)), (wb, Obj.cells ⟨x.cells⟩ 31 (0, 0))] ++ F) (R' := (sb, Obj.cells ⟨shC x.C 7⟩ 80 (0, 0)) :: [(cb, Obj.cells ⟨x.C.cells⟩ 23 (0, 0)), (wb, Obj.cells ⟨x.cells⟩ 31 (0, 0))] ++ F) (F := G) (hF := bytes1_fn (.slice a7 _ c7) _ _ G hownG l.d.d xb (by omega))); (case hg => exact rfl); (case hc => exact rfl); (case ha => exact rfl); (case hL => first | exact List.Perm.refl _ | (first | (with_reducible exact List.Perm.refl _) | refine perm_of_cnt fun p_ => ?_; simp only [List.countP_append, List.countP_cons, List.countP_nil]; omega)); (case hs => ((try simp only [List.append_eq, List.cons_append, List.nil_append, List.append_assoc]); repeat (first | exact List.Sublist.refl _ | exact List.nil_sublist _ | (with_reducible apply List.Sublist.cons_cons) | (with_reducible apply List.Sublist.cons) | exact List.sublist_append_right _ _))); try (case hA => exact Known.true))
        case hA => exact Known.and (own_row (i := 0) (m := 1) rfl rfl) (Known.of_old hl.d (lm_mono _))
        intro v8 F8 h8
        obtain ⟨a8, c8, rfl⟩ := h8.val
        (repeat (first | (with_reducible apply XL.op) | ((with_reducible apply XOp.p1); (case hg | hv => exact rfl)) | (with_reducible apply XL.nilT) | (with_reducible apply XC.region (Γ := Γ)) | (with_reducible apply XL.nilQ) | (with_reducible apply XQ.nt) | (with_reducible apply XQ.nb)))
        exact ⟨k2 - 1, by omega, _, .of (List.Sublist.refl _), 7, _, _, F8, by omega, by omega, h8.conv rfl (by rw [take_snocD (show (mlist l)[6]? = some l.d.d from rfl)]; simp [lvB]), rfl, rfl, rfl, rfl, rfl, rfl, rfl, rfl, rfl, rfl, intS2 (i := 6) (m := 7) (by omega) (by omega), trivial⟩
    obtain rfl : j = 7 := by omega
    generalize hP : l.n1.1.map toB ++ l.n2.1.map toB ++ ((mlist l).take 7).flatMap lvB = P at hownG
    have hPl : P.length = mm := by have := hownG.1; rw [List.length_map] at this; omega
    have hbody : layBody l.lay = P ++ l.by_.map toB := by rw [← hP]; simp [layBody, mlist, lvB, Mat.bytes, LL.lay, LM.mat]
    (repeat (first | (with_reducible apply XL.op) | ((with_reducible apply XOp.p1); (case hg | hv => exact rfl)) | (with_reducible apply XL.nilT) | (with_reducible apply XC.seq) | (with_reducible apply XC.region (Γ := Γ)) | (with_reducible apply XQ.exit) | (with_reducible apply XQ.nt) | (with_reducible apply XQ.et) | (with_reducible apply XC.block) | ((with_reducible apply XQ.eb); (case hb => exact rfl)) | (first | ((with_reducible apply XOp.loadN); (case hg | ht | hk | hx => exact rfl); (case hc => exact Known.of_old hBy (Mono.row _ _ _)); (case hl => exact rfl)) | ((with_reducible apply XP.loadN); (case ho | hg | ht | hk | hx => exact rfl); (case hc => exact Known.of_old hBy (Mono.row _ _ _)); (case hl => exact rfl)))))
    refine XC.subl (L' := ([(cb, Obj.cells ⟨x.C.cells⟩ 23 (0, 0)), (wb, Obj.cells ⟨x.cells⟩ 31 (0, 0))] ++ F) ++ G) (List.sublist_cons_self _ _) ?_
    refine XC.loopP (fun k2 ρ L => ∃ (j mk : Nat) (v : Value) (G : HL), j + k2 = 7 ∧ mk = mm + j ∧ OwnS 5 1 v mk ((P ++ (l.by_.take j).map toB).map (.int .u8)) G ∧ L = ([(cb, Obj.cells ⟨x.C.cells⟩ 23 (0, 0)), (wb, Obj.cells ⟨x.cells⟩ 31 (0, 0))] ++ F) ++ G ∧ Slots ρ [(1, .pointer (some ⟨wb, 0, none⟩)), (5, .pointer (some ⟨cb, 0, none⟩)), (6, .slice a' m c'), (12, v), (83, .int .i64 x.Ls.1.length), (84, .int .i64 i), (122, .agg ⟨l.by_.map (Value.int .i64)⟩), (123, .int .i64 j)])
      7 ⟨0, _, _, G, by omega, rfl, hownG.conv rfl (by simp), rfl, rfl, rfl, rfl, rfl, rfl, rfl, rfl, rfl, trivial⟩ ?_
    clear hownG
    rintro k2 ρ L ⟨j, mk, v, G, hjk, rfl, hownG, rfl, hs⟩
    obtain ⟨a9, c9, rfl⟩ := hownG.val
    refine XC.slots _ hs ?_
    (repeat (first | (with_reducible apply XL.op) | ((with_reducible apply XOp.p1); (case hg | hv => exact rfl)) | (with_reducible apply XL.nilT) | (with_reducible apply XC.seq) | (with_reducible apply XC.region (Γ := Γ))))
    ((with_reducible apply XC.cond); (case hc => exact rfl); all_goals (intro hb_; try simp only [pd_true, pd_false, Bool.not_eq_true', Bool.not_eq_false', Bool.and_eq_true, Bool.and_eq_false_iff, Bool.or_eq_true, Bool.or_eq_false_iff, not_true_eq_false, not_false_eq_true, Int.not_lt, Int.not_le] at hb_))
    · (repeat (first | (with_reducible apply XL.op) | ((with_reducible apply XOp.p1); (case hg | hv => exact rfl)) | (with_reducible apply XL.nilT) | (with_reducible apply XC.seq) | (with_reducible apply XC.region (Γ := Γ)) | (with_reducible apply XQ.skip) | (with_reducible apply XQ.nt) | (with_reducible apply XC.block) | (first | ((with_reducible apply XOp.pr); (case hg => exact rfl); (case hr => (with_reducible apply PR.arr); (case ht => exact rfl); (case hk => exact rfl); (case he => exact rfl); (case hag => exact rfl); (case hs => exact rfl); (case hx => exact rfl); (case hi => exact rfl); (case hr => first | assumption | omega); (case hc => exact by_get l (i := j) (by omega)))) | ((with_reducible apply XP.pr); (case ho => exact rfl); (case hg => exact rfl); (case hr => (with_reducible apply PR.arr); (case ht => exact rfl); (case hk => exact rfl); (case he => exact rfl); (case hag => exact rfl); (case hs => exact rfl); (case hx => exact rfl); (case hi => exact rfl); (case hr => first | assumption | omega); (case hc => exact by_get l (i := j) (by omega)))))))
      ((with_reducible apply XOp.buildSlice); (case hg | ht | hk | he | hz | hzl | hf => exact rfl); intro bb)
      (repeat ((with_reducible apply XL.op)))
      ((with_reducible apply XOp.append1R (R := [(cb, Obj.cells ⟨x.C.cells⟩ 23 (0, 0)), (wb, Obj.cells ⟨x.cells⟩ 31 (0, 0))] ++ F)); (case hg => exact rfl); (case ht => exact rfl); (case hk => exact rfl); (case he => exact rfl); (case hown => exact hownG); (case hs => exact rfl); (case hx => exact rfl); (case hL => exact rfl); (case hl => exact rfl); (case h1 => exact rfl); (case hz => exact rfl); (case hsz => exact Nat.zero_lt_succ _); (case hk0 => exact Nat.zero_lt_succ _); (case h63 => simp only [maxLen]; omega); (case hb => simp only []; omega); intro v_ F_ hown_; obtain ⟨a_, c_, rfl⟩ := hown_.val)
      (repeat (first | (with_reducible apply XL.op) | ((with_reducible apply XOp.p1); (case hg | hv => exact rfl)) | (with_reducible apply XL.nilT) | (with_reducible apply XC.region (Γ := Γ)) | (with_reducible apply XL.nilQ) | (with_reducible apply XQ.nt) | (with_reducible apply XQ.nb)))
      refine ⟨k2 - 1, by omega, _, .of (List.Sublist.refl _), j + 1, mm + (j + 1), _, F_, by omega, rfl, hown_.conv (by omega) ?_, rfl, rfl, rfl, rfl, rfl, rfl, rfl, rfl, intS2 (m := 7) (by omega) (by omega), trivial⟩
      rw [getD_take (show j < l.by_.length from by show j < 7; omega), i8_byte]
      simp [zerosL]
    obtain rfl : j = 7 := by omega
    have e7 : l.by_.take 7 = l.by_ := rfl
    rw [e7, ← hbody] at hownG
    obtain ⟨b9, d9, e9, hb9, s9⟩ := own_body hownG (isB_lay _) (by omega)
    rw [hb9] at e9 ⊢
    obtain ⟨rfl, _, rfl⟩ := Value.slice.inj e9
    (repeat (first | (with_reducible apply XL.op) | ((with_reducible apply XOp.p1); (case hg | hv => exact rfl)) | (with_reducible apply XC.region (Γ := Γ)) | (with_reducible apply XQ.exit) | (with_reducible apply XQ.nt) | (with_reducible apply XQ.et) | ((with_reducible apply XQ.eb); (case hb => exact rfl))))
    ((with_reducible apply XOp.callD (R := [(cb, Obj.cells ⟨x.C.cells⟩ 23 (0, 0)), (wb, Obj.cells ⟨x.cells⟩ 31 (0, 0))] ++ G) (R' := [(cb, Obj.cells ⟨x.C.cells⟩ 23 (0, 0)), (wb, Obj.cells ⟨x.cells⟩ 31 (0, 0))]) (F := F) (hF := section_fn (.slice a' m c') m _ F hown 76 (layBody l.lay) a9 c9 (by omega))); (case hg => exact rfl); (case hc => exact rfl); (case ha => exact rfl); (case hL => first | exact List.Perm.refl _ | (first | (with_reducible exact List.Perm.refl _) | refine perm_of_cnt fun p_ => ?_; simp only [List.countP_append, List.countP_cons, List.countP_nil]; omega)); (case hs => ((try simp only [List.append_eq, List.cons_append, List.nil_append, List.append_assoc]); repeat (first | exact List.Sublist.refl _ | exact List.nil_sublist _ | (with_reducible apply List.Sublist.cons_cons) | (with_reducible apply List.Sublist.cons) | exact List.sublist_append_right _ _))); try (case hA => exact Known.true))
    case hA => exact Known.of_frag s9 (Mono.sl _ _ _ _ _) (fun z_ hz_ => by first | exact hz_ | (simp only [List.mem_cons, List.mem_append, hz_, true_or, or_true]; done) | ((repeat (first | exact hz_ | exact List.mem_append_left _ hz_ | (apply List.mem_cons_of_mem) | (apply List.mem_append_right))); done))
    intro v8 F8 h8
    obtain ⟨a8, c8, rfl⟩ := h8.val
    (repeat (first | (with_reducible apply XL.op) | ((with_reducible apply XOp.p1); (case hg | hv => exact rfl)) | (with_reducible apply XL.nilT) | (with_reducible apply XC.region (Γ := Γ)) | (with_reducible apply XL.nilQ) | (with_reducible apply XQ.nt) | (with_reducible apply XQ.nb)))
    exact ⟨k - 1, by omega, _, .of (List.Sublist.refl _), i + 1, _, _, F8, by omega, by omega, h8.conv rfl (by rw [inv_snoc hi]), rfl, rfl, rfl, rfl, rfl, intS2 (m := x.Ls.1.length) (by omega) (by omega), trivial⟩
  obtain rfl : i = x.Ls.1.length := by omega
  rw [List.take_length] at hown
  generalize hX : X3 ++ x.Ls.1.flatMap (fun l => secB 76 (layBody l.lay)) = X at hown
  (repeat (first | (with_reducible apply XL.op) | ((with_reducible apply XOp.p1); (case hg | hv => exact rfl)) | ((with_reducible apply XOp.load); (case hg | ht | hk | hx => exact rfl); (case hc => exact own_cell (i := 1) rfl rfl)) | (with_reducible apply XC.seq) | (with_reducible apply XC.region (Γ := Γ)) | (with_reducible apply XQ.exit) | (with_reducible apply XQ.nt) | (with_reducible apply XQ.et) | ((with_reducible apply XQ.eb); (case hb => exact rfl))))

  ((with_reducible apply XOp.buildSlice); (case hg | ht | hk | he | hz | hzl | hf => exact rfl); intro lb11)
  (repeat ((with_reducible apply XL.op)))
  (refine (show XOp _ _ _ _ _ _ _ _ ((lb11, Obj.cells ⟨[slv x.F]⟩ 24 (0, 0)) :: ([(cb, Obj.cells ⟨x.C.cells⟩ 23 (0, 0)), (wb, Obj.cells ⟨x.cells⟩ 31 (0, 0))] ++ F)) from XOp.perm (L' :=  ((lb11, Obj.cells ⟨[slv x.F]⟩ 24 (0, 0)) :: [(cb, Obj.cells ⟨x.C.cells⟩ 23 (0, 0)), (wb, Obj.cells ⟨x.cells⟩ 31 (0, 0))] ++ F) ++ []) rfl ?_ (by (first | (with_reducible exact List.Perm.refl _) | refine perm_of_cnt fun p_ => ?_; simp only [List.countP_append, List.countP_cons, List.countP_nil]; omega))))
  ((with_reducible apply XOp.callD (R := (lb11, Obj.cells ⟨[slv x.F]⟩ 24 (0, 0)) :: [(cb, Obj.cells ⟨x.C.cells⟩ 23 (0, 0)), (wb, Obj.cells ⟨x.cells⟩ 31 (0, 0))] ++ F) (R' := [(cb, Obj.cells ⟨x.C.cells⟩ 23 (0, 0)), (wb, Obj.cells ⟨x.cells⟩ 31 (0, 0))] ++ F) (F := []) (hF := bytes1_fn (.slice none 0 0) 0 [] [] (OwnS.nil _ _) x.F lb11 (by omega))); (case hg => exact rfl); (case hc => exact rfl); (case ha => exact rfl); (case hL => first | exact List.Perm.refl _ | (first | (with_reducible exact List.Perm.refl _) | refine perm_of_cnt fun p_ => ?_; simp only [List.countP_append, List.countP_cons, List.countP_nil]; omega)); (case hs => ((try simp only [List.append_eq, List.cons_append, List.nil_append, List.append_assoc]); repeat (first | exact List.Sublist.refl _ | exact List.nil_sublist _ | (with_reducible apply List.Sublist.cons_cons) | (with_reducible apply List.Sublist.cons) | exact List.sublist_append_right _ _))); try (case hA => exact Known.true))
  case hA => exact Known.and (own_row (i := 0) (m := 1) rfl rfl) (Known.of_old hA.f (lv_mono _))
  intro w11 G11 g11
  rw [List.nil_append, Nat.zero_add] at g11
  have l11 : (x.F.1.map toB).length ≤ 100000 := by rw [List.length_map]; omega
  obtain ⟨b11, d11, rfl, hb11, s11⟩ := own_body g11 (isB_map _) (by omega)
  (repeat ((with_reducible apply XL.op)))
  ((with_reducible apply XOp.callD (R := [(cb, Obj.cells ⟨x.C.cells⟩ 23 (0, 0)), (wb, Obj.cells ⟨x.cells⟩ 31 (0, 0))] ++ G11) (R' := [(cb, Obj.cells ⟨x.C.cells⟩ 23 (0, 0)), (wb, Obj.cells ⟨x.cells⟩ 31 (0, 0))]) (F := F) (hF := section_fn (.slice a' m c') _ (X) F hown 70 (x.F.1.map toB) b11 d11 (by omega))); (case hg => exact rfl); (case hc => exact rfl); (case ha => exact rfl); (case hL => first | exact List.Perm.refl _ | (first | (with_reducible exact List.Perm.refl _) | refine perm_of_cnt fun p_ => ?_; simp only [List.countP_append, List.countP_cons, List.countP_nil]; omega)); (case hs => ((try simp only [List.append_eq, List.cons_append, List.nil_append, List.append_assoc]); repeat (first | exact List.Sublist.refl _ | exact List.nil_sublist _ | (with_reducible apply List.Sublist.cons_cons) | (with_reducible apply List.Sublist.cons) | exact List.sublist_append_right _ _))); try (case hA => exact Known.true))
  case hA => exact Known.of_frag s11 (Mono.sl _ _ _ _ _) (fun z_ hz_ => by first | exact hz_ | (simp only [List.mem_cons, List.mem_append, hz_, true_or, or_true]; done) | ((repeat (first | exact hz_ | exact List.mem_append_left _ hz_ | (apply List.mem_cons_of_mem) | (apply List.mem_append_right))); done))
  intro v11 F11 h11
  obtain ⟨a11, c11, rfl⟩ := h11.val
  (repeat (first | (with_reducible apply XL.op) | ((with_reducible apply XOp.p1); (case hg | hv => exact rfl)) | ((with_reducible apply XOp.load); (case hg | ht | hk | hx => exact rfl); (case hc => exact own_cell (i := 1) rfl rfl)) | (with_reducible apply XL.nilT) | (with_reducible apply XC.seq) | (with_reducible apply XC.region (Γ := Γ))))
  ((with_reducible apply XOp.buildSlice); (case hg | ht | hk | he | hz | hzl | hf => exact rfl); intro lb12)
  (repeat ((with_reducible apply XL.op)))
  (refine (show XOp _ _ _ _ _ _ _ _ ((lb12, Obj.cells ⟨[slv x.H.d]⟩ 24 (0, 0)) :: ([(cb, Obj.cells ⟨x.C.cells⟩ 23 (0, 0)), (wb, Obj.cells ⟨x.cells⟩ 31 (0, 0))] ++ F11)) from XOp.perm (L' :=  ((lb12, Obj.cells ⟨[slv x.H.d]⟩ 24 (0, 0)) :: [(cb, Obj.cells ⟨x.C.cells⟩ 23 (0, 0)), (wb, Obj.cells ⟨x.cells⟩ 31 (0, 0))] ++ F11) ++ []) rfl ?_ (by (first | (with_reducible exact List.Perm.refl _) | refine perm_of_cnt fun p_ => ?_; simp only [List.countP_append, List.countP_cons, List.countP_nil]; omega))))
  ((with_reducible apply XOp.callD (R := (lb12, Obj.cells ⟨[slv x.H.d]⟩ 24 (0, 0)) :: [(cb, Obj.cells ⟨x.C.cells⟩ 23 (0, 0)), (wb, Obj.cells ⟨x.cells⟩ 31 (0, 0))] ++ F11) (R' := [(cb, Obj.cells ⟨x.C.cells⟩ 23 (0, 0)), (wb, Obj.cells ⟨x.cells⟩ 31 (0, 0))] ++ F11) (F := []) (hF := bytes1_fn (.slice none 0 0) 0 [] [] (OwnS.nil _ _) x.H.d lb12 (by omega))); (case hg => exact rfl); (case hc => exact rfl); (case ha => exact rfl); (case hL => first | exact List.Perm.refl _ | (first | (with_reducible exact List.Perm.refl _) | refine perm_of_cnt fun p_ => ?_; simp only [List.countP_append, List.countP_cons, List.countP_nil]; omega)); (case hs => ((try simp only [List.append_eq, List.cons_append, List.nil_append, List.append_assoc]); repeat (first | exact List.Sublist.refl _ | exact List.nil_sublist _ | (with_reducible apply List.Sublist.cons_cons) | (with_reducible apply List.Sublist.cons) | exact List.sublist_append_right _ _))); try (case hA => exact Known.true))
  case hA => exact Known.and (own_row (i := 0) (m := 1) rfl rfl) (Known.of_old hA.hd (lv_mono _))
  intro w12 G12 g12
  rw [List.nil_append, Nat.zero_add] at g12
  have l12 : (x.H.d.1.map toB).length ≤ 100000 := by rw [List.length_map]; omega
  obtain ⟨b12, d12, rfl, hb12, s12⟩ := own_body g12 (isB_map _) (by omega)
  (repeat ((with_reducible apply XL.op)))
  ((with_reducible apply XOp.callD (R := [(cb, Obj.cells ⟨x.C.cells⟩ 23 (0, 0)), (wb, Obj.cells ⟨x.cells⟩ 31 (0, 0))] ++ G12) (R' := [(cb, Obj.cells ⟨x.C.cells⟩ 23 (0, 0)), (wb, Obj.cells ⟨x.cells⟩ 31 (0, 0))]) (F := F11) (hF := section_fn (.slice a11 _ c11) _ (X ++ secB 70 (x.F.1.map toB)) F11 h11 72 (x.H.d.1.map toB) b12 d12 (by omega))); (case hg => exact rfl); (case hc => exact rfl); (case ha => exact rfl); (case hL => first | exact List.Perm.refl _ | (first | (with_reducible exact List.Perm.refl _) | refine perm_of_cnt fun p_ => ?_; simp only [List.countP_append, List.countP_cons, List.countP_nil]; omega)); (case hs => ((try simp only [List.append_eq, List.cons_append, List.nil_append, List.append_assoc]); repeat (first | exact List.Sublist.refl _ | exact List.nil_sublist _ | (with_reducible apply List.Sublist.cons_cons) | (with_reducible apply List.Sublist.cons) | exact List.sublist_append_right _ _))); try (case hA => exact Known.true))
  case hA => exact Known.of_frag s12 (Mono.sl _ _ _ _ _) (fun z_ hz_ => by first | exact hz_ | (simp only [List.mem_cons, List.mem_append, hz_, true_or, or_true]; done) | ((repeat (first | exact hz_ | exact List.mem_append_left _ hz_ | (apply List.mem_cons_of_mem) | (apply List.mem_append_right))); done))
  intro v12 F12 h12
  obtain ⟨a12, c12, rfl⟩ := h12.val
  (repeat (first | (with_reducible apply XL.op) | ((with_reducible apply XOp.p1); (case hg | hv => exact rfl)) | ((with_reducible apply XOp.load); (case hg | ht | hk | hx => exact rfl); (case hc => exact own_cell (i := 1) rfl rfl)) | (with_reducible apply XL.nilT) | (with_reducible apply XC.seq) | (with_reducible apply XC.region (Γ := Γ)) | (with_reducible apply XC.block)))
  have hM := hA.m.locRaw
  have hMa := hM.at_
  have hMb := hM.bytes
  refine XC.loopP (fun k ρ L => ∃ (i m : Nat) (v : Value) (F : HL), i + k = x.M.1.length ∧ m ≤ 400000 + i * 3000 ∧ OwnS 5 1 v m ((X ++ secB 70 (x.F.1.map toB) ++ secB 72 (x.H.d.1.map toB) ++ (x.M.1.take i).flatMap (fun l => secB 77 (l.d.1.map toB))).map (.int .u8)) F ∧ L = [(cb, Obj.cells ⟨x.C.cells⟩ 23 (0, 0)), (wb, Obj.cells ⟨x.cells⟩ 31 (0, 0))] ++ F ∧ Slots ρ [(1, .pointer (some ⟨wb, 0, none⟩)), (5, .pointer (some ⟨cb, 0, none⟩)), (6, v), (150, sla x.M), (151, .int .i64 x.M.1.length), (152, .int .i64 i)])
    x.M.1.length ⟨0, _, _, F12, by omega, ?_, h12.conv rfl (by simp), rfl, rfl, rfl, rfl, rfl, rfl, rfl, trivial⟩ ?_
  · simp only [List.length_map]; omega
  clear hown h11 h12 g11 g12 s11 s12
  rintro k ρ L ⟨i, m, v, F, hik, hm, hown, rfl, hs⟩
  obtain ⟨a', c', rfl⟩ := hown.val
  refine XC.slots _ hs ?_
  (repeat (first | (with_reducible apply XL.op) | ((with_reducible apply XOp.p1); (case hg | hv => exact rfl)) | (with_reducible apply XL.nilT) | (with_reducible apply XC.seq) | (with_reducible apply XC.region (Γ := Γ))))
  ((with_reducible apply XC.cond); (case hc => exact rfl); all_goals (intro hb_; try simp only [pd_true, pd_false, Bool.not_eq_true', Bool.not_eq_false', Bool.and_eq_true, Bool.and_eq_false_iff, Bool.or_eq_true, Bool.or_eq_false_iff, not_true_eq_false, not_false_eq_true, Int.not_lt, Int.not_le] at hb_))
  · obtain ⟨l, hi⟩ : ∃ l, x.M.1[i]? = some l := ⟨_, List.getElem?_eq_getElem (by omega)⟩
    have hl := hA.m.locAt (List.mem_of_getElem? hi)
    have hll := smb l (List.mem_of_getElem? hi)
    (repeat (first | (with_reducible apply XL.op) | ((with_reducible apply XOp.pr); (case hg => exact rfl); (case hr => ((with_reducible apply PR.idxA); (case ht | hk | he | hx | hi => exact rfl); (case hr => first | assumption | omega); (case ha => first | assumption | exact SlA.at_ (by assumption))))) | (with_reducible apply XC.seq) | (with_reducible apply XC.region (Γ := Γ)) | (with_reducible apply XQ.skip) | (with_reducible apply XQ.nt) | (with_reducible apply XC.block) | (first | ((with_reducible apply XOp.loadN); (case hg | ht | hk | hx => exact rfl); (case hc => exact Known.of_old (hM.rawAt hi) (Mono.row _ _ _)); (case hl => exact rfl)) | ((with_reducible apply XP.loadN); (case ho | hg | ht | hk | hx => exact rfl); (case hc => exact Known.of_old (hM.rawAt hi) (Mono.row _ _ _)); (case hl => exact rfl)))))
    ((with_reducible apply XOp.alloc); (case hg | ht | hx' => exact rfl); intro mb)
    (repeat (first | (with_reducible apply XL.op) | ((with_reducible apply XOp.p1); (case hg | hv => exact rfl)) | ((with_reducible apply XOp.load); (case hg | ht | hk | hx => exact rfl); (case hc => exact own_cell (i := 0) rfl rfl)) | ((with_reducible apply XOp.storeN (i := 0)); (case hg | ht | hx | hv' | hk | h1 | hi | hs | ha => exact rfl)) | (with_reducible apply XL.nilT) | (with_reducible apply XC.region (Γ := Γ))))
    ((with_reducible apply XOp.buildSlice); (case hg | ht | hk | he | hz | hzl | hf => exact rfl); intro xb)
    (repeat ((with_reducible apply XL.op)))
    (refine (show XOp _ _ _ _ _ _ _ _ ((xb, Obj.cells ⟨[slv l.d]⟩ 24 (0, 0)) :: (mb, Obj.cells ⟨l.cells⟩ 26 (0, 0)) :: ([(cb, Obj.cells ⟨x.C.cells⟩ 23 (0, 0)), (wb, Obj.cells ⟨x.cells⟩ 31 (0, 0))] ++ F)) from XOp.perm (L' :=  ((xb, Obj.cells ⟨[slv l.d]⟩ 24 (0, 0)) :: (mb, Obj.cells ⟨l.cells⟩ 26 (0, 0)) :: [(cb, Obj.cells ⟨x.C.cells⟩ 23 (0, 0)), (wb, Obj.cells ⟨x.cells⟩ 31 (0, 0))] ++ F) ++ []) rfl ?_ (by (first | (with_reducible exact List.Perm.refl _) | refine perm_of_cnt fun p_ => ?_; simp only [List.countP_append, List.countP_cons, List.countP_nil]; omega))))
    ((with_reducible apply XOp.callD (R := (xb, Obj.cells ⟨[slv l.d]⟩ 24 (0, 0)) :: (mb, Obj.cells ⟨l.cells⟩ 26 (0, 0)) :: [(cb, Obj.cells ⟨x.C.cells⟩ 23 (0, 0)), (wb, Obj.cells ⟨x.cells⟩ 31 (0, 0))] ++ F) (R' := [(cb, Obj.cells ⟨x.C.cells⟩ 23 (0, 0)), (wb, Obj.cells ⟨x.cells⟩ 31 (0, 0))] ++ F) (F := []) (hF := bytes1_fn (.slice none 0 0) 0 [] [] (OwnS.nil _ _) l.d xb (by omega))); (case hg => exact rfl); (case hc => exact rfl); (case ha => exact rfl); (case hL => first | exact List.Perm.refl _ | (first | (with_reducible exact List.Perm.refl _) | refine perm_of_cnt fun p_ => ?_; simp only [List.countP_append, List.countP_cons, List.countP_nil]; omega)); (case hs => ((try simp only [List.append_eq, List.cons_append, List.nil_append, List.append_assoc]); repeat (first | exact List.Sublist.refl _ | exact List.nil_sublist _ | (with_reducible apply List.Sublist.cons_cons) | (with_reducible apply List.Sublist.cons) | exact List.sublist_append_right _ _))); try (case hA => exact Known.true))
    case hA => exact Known.and (own_row (i := 0) (m := 1) rfl rfl) (Known.of_old hl (lm_mono _))
    intro w4 G4 g4
    rw [List.nil_append, Nat.zero_add] at g4
    have l4 : (l.d.1.map toB).length ≤ 100000 := by rw [List.length_map]; omega
    obtain ⟨b4, d4, rfl, hb4, s4⟩ := own_body g4 (isB_map _) (by omega)
    (repeat ((with_reducible apply XL.op)))
    ((with_reducible apply XOp.callD (R := [(cb, Obj.cells ⟨x.C.cells⟩ 23 (0, 0)), (wb, Obj.cells ⟨x.cells⟩ 31 (0, 0))] ++ G4) (R' := [(cb, Obj.cells ⟨x.C.cells⟩ 23 (0, 0)), (wb, Obj.cells ⟨x.cells⟩ 31 (0, 0))]) (F := F) (hF := section_fn (.slice a' m c') m _ F hown 77 (l.d.1.map toB) b4 d4 (by omega))); (case hg => exact rfl); (case hc => exact rfl); (case ha => exact rfl); (case hL => first | exact List.Perm.refl _ | (first | (with_reducible exact List.Perm.refl _) | refine perm_of_cnt fun p_ => ?_; simp only [List.countP_append, List.countP_cons, List.countP_nil]; omega)); (case hs => ((try simp only [List.append_eq, List.cons_append, List.nil_append, List.append_assoc]); repeat (first | exact List.Sublist.refl _ | exact List.nil_sublist _ | (with_reducible apply List.Sublist.cons_cons) | (with_reducible apply List.Sublist.cons) | exact List.sublist_append_right _ _))); try (case hA => exact Known.true))
    case hA => exact Known.of_frag s4 (Mono.sl _ _ _ _ _) (fun z_ hz_ => by first | exact hz_ | (simp only [List.mem_cons, List.mem_append, hz_, true_or, or_true]; done) | ((repeat (first | exact hz_ | exact List.mem_append_left _ hz_ | (apply List.mem_cons_of_mem) | (apply List.mem_append_right))); done))
    intro v4 F4 h4
    obtain ⟨a4, c4, rfl⟩ := h4.val
    (repeat (first | (with_reducible apply XL.op) | ((with_reducible apply XOp.p1); (case hg | hv => exact rfl)) | (with_reducible apply XL.nilT) | (with_reducible apply XC.region (Γ := Γ)) | (with_reducible apply XL.nilQ) | (with_reducible apply XQ.nt) | (with_reducible apply XQ.nb)))
    exact ⟨k - 1, by omega, _, .of (List.Sublist.refl _), i + 1, _, _, F4, by omega, by rw [List.length_map]; omega, h4.conv rfl (by rw [inv_snoc hi]), rfl, rfl, rfl, rfl, rfl, rfl, intS2 (m := x.M.1.length) (by omega) (by omega), trivial⟩
  obtain rfl : i = x.M.1.length := by omega
  rw [List.take_length] at hown
  have hfile := fileOf_eq x
  have hXs : X = secsL x ++ x.Ls.1.flatMap (fun l => secB 76 (layBody l.lay)) := by rw [← hX, ← hX3, ← hX2]; simp [secsL]
  rw [← hXs] at hfile
  simp only [] at hfile
  have hXB : isB X := by
    rw [hXs]
    exact isB_app (isB_app (isB_app (isB_app isB_begin (isB_sec (by omega) (isB_map _))) (isB_sec (by omega) (isB_map _))) (isB_sec (by omega) (isB_turns _))) (isB_flat fun l _ => isB_sec (by omega) (isB_lay _))
  have hB : isB (X ++ secB 70 (x.F.1.map toB) ++ secB 72 (x.H.d.1.map toB) ++ x.M.1.flatMap (fun l => secB 77 (l.d.1.map toB))) :=
    isB_app (isB_app (isB_app hXB (isB_sec (by omega) (isB_map _))) (isB_sec (by omega) (isB_map _))) (isB_flat fun l _ => isB_sec (by omega) (isB_map _))
  generalize X ++ secB 70 (x.F.1.map toB) ++ secB 72 (x.H.d.1.map toB) ++ x.M.1.flatMap (fun l => secB 77 (l.d.1.map toB)) = Y at hown hfile hB
  have hYl : Y.length ≤ 1000000000 := by have := hown.1; rw [List.length_map] at this; omega
  obtain ⟨a2, c2, e2, hm2, s2⟩ := own_body hown hB hYl
  obtain ⟨rfl, rfl, rfl⟩ := Value.slice.inj e2
  (repeat (first | (with_reducible apply XL.op) | ((with_reducible apply XOp.p1); (case hg | hv => exact rfl)) | (with_reducible apply XC.seq) | (with_reducible apply XC.region (Γ := Γ)) | (with_reducible apply XQ.exit) | (with_reducible apply XQ.nt) | (with_reducible apply XQ.et) | ((with_reducible apply XQ.eb); (case hb => exact rfl)) | (((with_reducible apply XOp.callQ (hF := digest_fn Y a' c')); (case hg => exact rfl); (case hc => exact rfl); (case ha => exact rfl); try (case hA => exact Known.true)); (case hA => exact Known.of_frag s2 (Mono.sl _ _ _ _ _) (fun z_ hz_ => by first | exact hz_ | (simp only [List.mem_cons, List.mem_append, hz_, true_or, or_true]; done) | ((repeat (first | exact hz_ | exact List.mem_append_left _ hz_ | (apply List.mem_cons_of_mem) | (apply List.mem_append_right))); done))); rintro _ rfl)))
  have hd := digS_u64 Y
  ((with_reducible apply XOp.callD (R := [(cb, Obj.cells ⟨x.C.cells⟩ 23 (0, 0)), (wb, Obj.cells ⟨x.cells⟩ 31 (0, 0))] ++ F) (R' := [(cb, Obj.cells ⟨x.C.cells⟩ 23 (0, 0)), (wb, Obj.cells ⟨x.cells⟩ 31 (0, 0))] ++ F) (F := []) (hF := number_fn (.slice none 0 0) 0 [] [] (OwnS.nil _ _) (digS Y) hd 8 (by omega))); (case hg => exact rfl); (case hc => exact rfl); (case ha => exact rfl); (case hL => first | exact List.Perm.refl _ | (first | (with_reducible exact List.Perm.refl _) | refine perm_of_cnt fun p_ => ?_; simp only [List.countP_append, List.countP_cons, List.countP_nil]; omega)); (case hs => ((try simp only [List.append_eq, List.cons_append, List.nil_append, List.append_assoc]); repeat (first | exact List.Sublist.refl _ | exact List.nil_sublist _ | (with_reducible apply List.Sublist.cons_cons) | (with_reducible apply List.Sublist.cons) | exact List.sublist_append_right _ _))); try (case hA => exact Known.true))
  intro w7 G7 g7
  rw [List.nil_append] at g7
  obtain ⟨b7, d7, rfl, hb7, s7⟩ := own_body g7 (numB_isB _ _) (by rw [numB_len]; omega)
  (repeat ((with_reducible apply XL.op)))
  ((with_reducible apply XOp.callD (R := [(cb, Obj.cells ⟨x.C.cells⟩ 23 (0, 0)), (wb, Obj.cells ⟨x.cells⟩ 31 (0, 0))] ++ G7) (R' := [(cb, Obj.cells ⟨x.C.cells⟩ 23 (0, 0)), (wb, Obj.cells ⟨x.cells⟩ 31 (0, 0))]) (F := F) (hF := section_fn (.slice a' _ c') _ _ F hown 90 (numB (digS Y) 8) b7 d7 (by rw [numB_len]; omega))); (case hg => exact rfl); (case hc => exact rfl); (case ha => exact rfl); (case hL => first | exact List.Perm.refl _ | (first | (with_reducible exact List.Perm.refl _) | refine perm_of_cnt fun p_ => ?_; simp only [List.countP_append, List.countP_cons, List.countP_nil]; omega)); (case hs => ((try simp only [List.append_eq, List.cons_append, List.nil_append, List.append_assoc]); repeat (first | exact List.Sublist.refl _ | exact List.nil_sublist _ | (with_reducible apply List.Sublist.cons_cons) | (with_reducible apply List.Sublist.cons) | exact List.sublist_append_right _ _))); try (case hA => exact Known.true))
  case hA => exact Known.of_frag s7 (Mono.sl _ _ _ _ _) (fun z_ hz_ => by first | exact hz_ | (simp only [List.mem_cons, List.mem_append, hz_, true_or, or_true]; done) | ((repeat (first | exact hz_ | exact List.mem_append_left _ hz_ | (apply List.mem_cons_of_mem) | (apply List.mem_append_right))); done))
  intro v8 F8 h8
  obtain ⟨a8, c8, rfl⟩ := h8.val
  (repeat (first | (with_reducible apply XL.op) | ((with_reducible apply XOp.p1); (case hg | hv => exact rfl)) | (with_reducible apply XL.nilT) | (with_reducible apply XQ.ret)))
  ((with_reducible apply XQ.retE); (case hr => exact .t rfl (.t rfl .nil)))
  exact ⟨F8, .of (List.sublist_append_right _ _), _, _, by rw [h0]; rfl, by rw [encS_ok hok]; exact h8.conv rfl (by rw [hfile]), by rw [numB_len]; omega⟩
end Go.Proofs.YtppggaiahkecoaaDoorX
/- Are two weights the same? -/
namespace Go.Proofs.YtppggaiahkecoaaDoorX
open Go Go.SX

theorem eqNarrow_fn (x y : LV) : FC Tryd.prog 61 [slv x, slv y] []
    (fun h => lvAt h x ∧ lvAt h y) (fun v L => v = .bool (pd (x.1 = y.1)) ∧ L = []) := by
  refine FC.nil ?_
  obtain ⟨xs, a, ca⟩ := x
  obtain ⟨ys, b, cb⟩ := y
  refine FC.intro Tryd.func61 rfl (by kernel_rfl) 26 [.tmp 4] rfl rfl rfl ?_
  rintro w0 ⟨hA, hB⟩
  have hsm := hA.bytes
  simp only [] at hsm
  change SlA (Kd.int .i8) 1 _ xs a ca at hA
  change SlA (Kd.int .i8) 1 _ ys b cb at hB
  (repeat (first | (with_reducible apply XL.op) | ((with_reducible apply XOp.p1); (case hg | hv => exact rfl)) | (with_reducible apply XL.nilT) | (with_reducible apply XC.seq) | (with_reducible apply XC.region (Γ := Γ))))
  ((with_reducible apply XC.cond); (case hc => exact rfl); all_goals (intro hb_; try simp only [pd_true, pd_false, Bool.not_eq_true', Bool.not_eq_false', Bool.and_eq_true, Bool.and_eq_false_iff, Bool.or_eq_true, Bool.or_eq_false_iff, not_true_eq_false, not_false_eq_true, Int.not_lt, Int.not_le] at hb_))
  · (repeat (first | (with_reducible apply XL.op) | ((with_reducible apply XOp.p1); (case hg | hv => exact rfl)) | (with_reducible apply XL.nilT) | (with_reducible apply XC.seq) | (with_reducible apply XC.region (Γ := Γ)) | (with_reducible apply XQ.ret) | (with_reducible apply XQ.rt)))
    ((with_reducible apply XQ.retE); (case hr => exact .t rfl .nil))
    exact congrArg Value.bool (pdf (fun h => hb_ (by rw [show xs = ys from h]))).symm
  (repeat (first | (with_reducible apply XL.op) | ((with_reducible apply XOp.p1); (case hg | hv => exact rfl)) | (with_reducible apply XL.nilT) | (with_reducible apply XC.seq) | (with_reducible apply XC.region (Γ := Γ)) | (with_reducible apply XQ.skip) | (with_reducible apply XQ.nt) | (with_reducible apply XC.block)))
  refine XC.loop (fun k ρ L => ∃ (i : Nat), i + k = xs.length ∧ L = [] ∧ (∀ j, j < i → xs[j]? = ys[j]?) ∧ Slots ρ [(0, .slice a xs.length ca), (1, .slice b ys.length cb), (5, .int .i64 i)])
    xs.length ⟨0, by simp, rfl, by simp, rfl, rfl, rfl, trivial⟩ ?_
  rintro k ρ L ⟨i, hik, rfl, hq, hs⟩
  have hlen : (xs.length : Int) = ys.length := by first | assumption | omega
  refine XC.slots _ hs ?_
  (repeat' (first | (with_reducible apply XL.op) | ((with_reducible apply XOp.p1); (case hg | hv => exact rfl)) | (with_reducible apply XL.nilT) | (with_reducible apply XC.seq) | (with_reducible apply XC.region (Γ := Γ)) | (with_reducible apply XQ.skip) | (with_reducible apply XQ.ret) | (with_reducible apply XQ.exit) | (with_reducible apply XQ.nt) | (with_reducible apply XQ.nb) | (with_reducible apply XQ.rt) | (with_reducible apply XQ.rb) | (with_reducible apply XQ.et) | (with_reducible apply XC.block) | ((with_reducible apply XP.p1); (case ho | hg | hv => exact rfl)) | ((with_reducible apply XP.pr); (case ho => exact rfl); (case hg => exact rfl); (case hr => ((with_reducible apply PR.idxA); (case ht | hk | he | hx | hi => exact rfl); (case hr => first | assumption | omega); (case ha => first | assumption | exact SlA.at_ (by assumption))))) | (with_reducible apply XP.done) | ((with_reducible apply XQ.eb); (case hb => exact rfl)) | ((with_reducible apply XC.regionD (Γ := Γ) mixed (.q 0 (.q 1 (.q 2 (.q 3 (.q 4 (.q 5 (.q 6 (.q 7 (.q 8 (.done)))))))))) [] []); (case hc => kernel_rfl)) | (first | ((with_reducible apply XOp.load); (case hg | ht | hk | hx => exact rfl); (case hc => exact Known.of_old (hA.int i (by omega)).1 (Mono.cell _ _))) | ((with_reducible apply XP.load); (case ho | hg | ht | hk | hx => exact rfl); (case hc => exact Known.of_old (hA.int i (by omega)).1 (Mono.cell _ _)))) | (first | ((with_reducible apply XOp.load); (case hg | ht | hk | hx => exact rfl); (case hc => exact Known.of_old (hB.int i (by omega)).1 (Mono.cell _ _))) | ((with_reducible apply XP.load); (case ho | hg | ht | hk | hx => exact rfl); (case hc => exact Known.of_old (hB.int i (by omega)).1 (Mono.cell _ _)))) | ((with_reducible apply XC.cond); (case hc => exact rfl); all_goals (intro hb_; try simp only [pd_true, pd_false, Bool.not_eq_true', Bool.not_eq_false', Bool.and_eq_true, Bool.and_eq_false_iff, Bool.or_eq_true, Bool.or_eq_false_iff, not_true_eq_false, not_false_eq_true, Int.not_lt, Int.not_le] at hb_))))
  · ((with_reducible apply XQ.retE); (case hr => exact .t rfl .nil))
    exact congrArg Value.bool (pdf (fun h => hb_ (by rw [show xs = ys from h]))).symm
  · refine ⟨k - 1, by omega, i + 1, by omega, rfl, fun j hj => ?_, rfl, rfl, intS (m := xs.length) (by omega) (by omega), trivial⟩
    by_cases h : j = i
    · subst h; rw [List.getElem?_eq_getElem (by omega), List.getElem?_eq_getElem (by omega)] at hb_ ⊢; simpa using hb_
    · exact hq j (by omega)
  · ((with_reducible apply XQ.retE); (case hr => exact .t rfl .nil))
    refine congrArg Value.bool (pdt (show xs = ys from List.ext_getElem? fun j => ?_)).symm
    by_cases h : j < i
    · exact hq j h
    · rw [List.getElem?_eq_none (by omega), List.getElem?_eq_none (by omega)]

theorem mat_eq (x y : LM) : x.mat = y.mat ↔ x.r = y.r ∧ x.c = y.c ∧ x.d.1 = y.d.1 := by
  simp only [LM.mat, Mat.mk.injEq]
theorem eqMat_fn (x y : LM) : FC Tryd.prog 58 [.agg ⟨x.cells⟩, .agg ⟨y.cells⟩] []
    (fun h => lmAt h x ∧ lmAt h y) (fun v L => v = .bool (pd (x.mat = y.mat)) ∧ L = []) := by
  refine FC.nil ?_
  refine FC.intro Tryd.func58 rfl (by kernel_rfl) 24 [.tmp 4] rfl rfl rfl ?_
  rintro w0 ⟨hA, hB⟩
  (repeat (first | (with_reducible apply XL.op) | (with_reducible apply XC.seq) | (with_reducible apply XC.region (Γ := Γ))))
  ((with_reducible apply XOp.box); (case hg | hx' => exact rfl); intro xb)
  (repeat ((with_reducible apply XL.op)))
  ((with_reducible apply XOp.box); (case hg | hx' => exact rfl); intro yb)
  (repeat' (first | (with_reducible apply XL.op) | ((with_reducible apply XOp.p1); (case hg | hv => exact rfl)) | ((with_reducible apply XOp.p0); (case hg => exact rfl)) | ((with_reducible apply XOp.load); (case hg | ht | hk | hx => exact rfl); (case hc => exact own_cell (i := 0) rfl rfl)) | ((with_reducible apply XOp.load); (case hg | ht | hk | hx => exact rfl); (case hc => exact own_cell (i := 1) rfl rfl)) | (with_reducible apply XL.nilT) | (with_reducible apply XC.seq) | (with_reducible apply XC.region (Γ := Γ)) | (with_reducible apply XQ.ret) | (((with_reducible apply XOp.callQ (hF := eqNarrow_fn x.d y.d)); (case hg => exact rfl); (case hc => exact rfl); (case ha => exact rfl); try (case hA => exact Known.true)); (case hA => exact Known.and (Known.of_old hA (lv_mono _)) (Known.of_old hB (lv_mono _))); rintro _ rfl) | ((with_reducible apply XOp.split); (case hg | hj | hd | hb => exact rfl); (fail_if_success (case hf => exact fun h => Bool.noConfusion h)); (fail_if_success (case ht => exact fun h => Bool.noConfusion h)); all_goals (intro hb_; try simp only [pd_true, pd_false, Bool.not_eq_true', Bool.not_eq_false', Bool.and_eq_true, Bool.and_eq_false_iff, Bool.or_eq_true, Bool.or_eq_false_iff, not_true_eq_false, not_false_eq_true, Int.not_lt, Int.not_le] at hb_))))
  all_goals ((with_reducible apply XQ.retE); (case hr => exact .t rfl .nil))
  all_goals refine congrArg Value.bool ?_
  all_goals rw [pdc (mat_eq x y)]
  · exact pdc ⟨fun h => ⟨by assumption, by assumption, h⟩, fun h => h.2.2⟩
  · exact (pdf fun h => hb_ h.2.1).symm
  · exact (pdf fun h => hb_ h.1).symm

set_option maxHeartbeats 4000000 in
theorem eqTurns_fn (x y : LA (Int × Int)) : FC Tryd.prog 59 [sla x, sla y] []
    (fun h => SlA turnK 16 h x.1 x.2.1 x.2.2 ∧ SlA turnK 16 h y.1 y.2.1 y.2.2) (fun v L => v = .bool (pd (x.1 = y.1)) ∧ L = []) := by
  refine FC.nil ?_
  obtain ⟨xs, a, ca⟩ := x
  obtain ⟨ys, b, cb⟩ := y
  refine FC.intro Tryd.func59 rfl (by kernel_rfl) 41 [.tmp 4] rfl rfl rfl ?_
  rintro w0 ⟨hA, hB⟩
  have hsm := hA.bytes
  simp only [] at hsm
  change SlA turnK 16 _ xs a ca at hA
  change SlA turnK 16 _ ys b cb at hB
  (repeat (first | (with_reducible apply XL.op) | ((with_reducible apply XOp.p1); (case hg | hv => exact rfl)) | (with_reducible apply XL.nilT) | (with_reducible apply XC.seq) | (with_reducible apply XC.region (Γ := Γ))))
  ((with_reducible apply XC.cond); (case hc => exact rfl); all_goals (intro hb_; try simp only [pd_true, pd_false, Bool.not_eq_true', Bool.not_eq_false', Bool.and_eq_true, Bool.and_eq_false_iff, Bool.or_eq_true, Bool.or_eq_false_iff, not_true_eq_false, not_false_eq_true, Int.not_lt, Int.not_le] at hb_))
  · (repeat (first | (with_reducible apply XL.op) | ((with_reducible apply XOp.p1); (case hg | hv => exact rfl)) | (with_reducible apply XL.nilT) | (with_reducible apply XC.seq) | (with_reducible apply XC.region (Γ := Γ)) | (with_reducible apply XQ.ret) | (with_reducible apply XQ.rt)))
    ((with_reducible apply XQ.retE); (case hr => exact .t rfl .nil))
    exact congrArg Value.bool (pdf (fun h => hb_ (by rw [show xs = ys from h]))).symm
  (repeat (first | (with_reducible apply XL.op) | ((with_reducible apply XOp.p1); (case hg | hv => exact rfl)) | (with_reducible apply XL.nilT) | (with_reducible apply XC.seq) | (with_reducible apply XC.region (Γ := Γ)) | (with_reducible apply XQ.skip) | (with_reducible apply XQ.nt) | (with_reducible apply XC.block)))
  refine XC.loop (fun k ρ L => ∃ (i : Nat), i + k = xs.length ∧ L = [] ∧ (∀ j, j < i → xs[j]? = ys[j]?) ∧ Slots ρ [(0, .slice a xs.length ca), (1, .slice b ys.length cb), (5, .int .i64 i)])
    xs.length ⟨0, by simp, rfl, by simp, rfl, rfl, rfl, trivial⟩ ?_
  rintro k ρ L ⟨i, hik, rfl, hq, hs⟩
  have hlen : (xs.length : Int) = ys.length := by first | assumption | omega
  refine XC.slots _ hs ?_
  (repeat (first | (with_reducible apply XL.op) | ((with_reducible apply XOp.p1); (case hg | hv => exact rfl)) | (with_reducible apply XL.nilT) | (with_reducible apply XC.seq) | (with_reducible apply XC.region (Γ := Γ))))
  ((with_reducible apply XC.cond); (case hc => exact rfl); all_goals (intro hb_; try simp only [pd_true, pd_false, Bool.not_eq_true', Bool.not_eq_false', Bool.and_eq_true, Bool.and_eq_false_iff, Bool.or_eq_true, Bool.or_eq_false_iff, not_true_eq_false, not_false_eq_true, Int.not_lt, Int.not_le] at hb_))
  · obtain ⟨x, hi⟩ : ∃ x, xs[i]? = some x := ⟨_, List.getElem?_eq_getElem (by omega)⟩
    obtain ⟨y, hj⟩ : ∃ y, ys[i]? = some y := ⟨_, List.getElem?_eq_getElem (by omega)⟩
    have c0 : cellv (oldv w0 (keys [])) ⟨ablk a, aoff a + i * 2 + 0, none⟩ = some (.int .i64 x.1) := hA.rawAt hi 0 _ rfl
    have c1 : cellv (oldv w0 (keys [])) ⟨ablk a, aoff a + i * 2 + 1, none⟩ = some (.int .i64 x.2) := hA.rawAt hi 1 _ rfl
    have d0 : cellv (oldv w0 (keys [])) ⟨ablk b, aoff b + i * 2 + 0, none⟩ = some (.int .i64 y.1) := hB.rawAt hj 0 _ rfl
    have d1 : cellv (oldv w0 (keys [])) ⟨ablk b, aoff b + i * 2 + 1, none⟩ = some (.int .i64 y.2) := hB.rawAt hj 1 _ rfl
    have hAa := hA.at_
    have hBa := hB.at_
    (repeat (first | (with_reducible apply XC.seq) | (with_reducible apply XQ.skip) | (with_reducible apply XQ.nt) | (with_reducible apply XC.block)))
    ((with_reducible apply XC.regionD (Γ := Γ) mixed (.q 0 (.q 1 (.q 2 (.q 3 (.q 4 (.q 5 (.q 6 (.q 7 (.q 8 (.q 9 (.q 10 (.q 11 (.q 12 (.q 13 (.q 14 (.q 15 (.q 16 (.q 17 (.q 18 (.q 19 (.q 20 (.q 21 (.q 22 (.q 23 (.done))))))))))))))))))))))))) [] []); (case hc => kernel_rfl))
    (repeat' (first | (with_reducible apply XL.op) | ((with_reducible apply XOp.p1); (case hg | hv => exact rfl)) | (with_reducible apply XL.nilT) | (with_reducible apply XC.seq) | (with_reducible apply XC.region (Γ := Γ)) | (with_reducible apply XQ.skip) | (with_reducible apply XQ.ret) | (with_reducible apply XQ.nt) | (with_reducible apply XQ.nb) | (with_reducible apply XQ.rt) | (with_reducible apply XQ.rb) | ((with_reducible apply XP.p1); (case ho | hg | hv => exact rfl)) | ((with_reducible apply XP.p0); (case ho | hg => exact rfl)) | ((with_reducible apply XP.pr); (case ho => exact rfl); (case hg => exact rfl); (case hr => ((with_reducible apply PR.idxA); (case ht | hk | he | hx | hi => exact rfl); (case hr => first | assumption | omega); (case ha => first | assumption | exact SlA.at_ (by assumption))))) | (with_reducible apply XP.done) | ((with_reducible apply XC.condT); (case hc => exact rfl)) | (first | ((with_reducible apply XOp.load); (case hg | ht | hk | hx => exact rfl); (case hc => exact Known.of_old c0 (Mono.cell _ _))) | ((with_reducible apply XP.load); (case ho | hg | ht | hk | hx => exact rfl); (case hc => exact Known.of_old c0 (Mono.cell _ _)))) | (first | ((with_reducible apply XOp.load); (case hg | ht | hk | hx => exact rfl); (case hc => exact Known.of_old c1 (Mono.cell _ _))) | ((with_reducible apply XP.load); (case ho | hg | ht | hk | hx => exact rfl); (case hc => exact Known.of_old c1 (Mono.cell _ _)))) | (first | ((with_reducible apply XOp.load); (case hg | ht | hk | hx => exact rfl); (case hc => exact Known.of_old d0 (Mono.cell _ _))) | ((with_reducible apply XP.load); (case ho | hg | ht | hk | hx => exact rfl); (case hc => exact Known.of_old d0 (Mono.cell _ _)))) | (first | ((with_reducible apply XOp.load); (case hg | ht | hk | hx => exact rfl); (case hc => exact Known.of_old d1 (Mono.cell _ _))) | ((with_reducible apply XP.load); (case ho | hg | ht | hk | hx => exact rfl); (case hc => exact Known.of_old d1 (Mono.cell _ _)))) | ((with_reducible apply XP.split); (case ho | hg | hj | hd | hb => exact rfl); (fail_if_success (case hf => exact fun h => Bool.noConfusion h)); (fail_if_success (case ht => exact fun h => Bool.noConfusion h)); all_goals (intro hb_; try simp only [pd_true, pd_false, Bool.not_eq_true', Bool.not_eq_false', Bool.and_eq_true, Bool.and_eq_false_iff, Bool.or_eq_true, Bool.or_eq_false_iff, not_true_eq_false, not_false_eq_true, Int.not_lt, Int.not_le] at hb_)) | ((with_reducible apply XC.cond); (case hc => exact rfl); all_goals (intro hb_; try simp only [pd_true, pd_false, Bool.not_eq_true', Bool.not_eq_false', Bool.and_eq_true, Bool.and_eq_false_iff, Bool.or_eq_true, Bool.or_eq_false_iff, not_true_eq_false, not_false_eq_true, Int.not_lt, Int.not_le] at hb_))))
    iterate 2
      (((with_reducible apply XQ.retE); (case hr => exact .t rfl .nil))
       refine congrArg Value.bool (pdf (fun h => ?_)).symm
       have h2 : xs = ys := h
       rw [h2, hj] at hi
       obtain rfl := Option.some.inj hi
       exact hb_ rfl)
    refine ⟨k - 1, by omega, i + 1, by omega, rfl, fun j hj2 => ?_, rfl, rfl, intS (m := xs.length) (by omega) (by omega), trivial⟩
    by_cases h : j = i
    · subst h; rw [hi, hj]; congr 1; exact Prod.ext (by assumption) (by assumption)
    · exact hq j (by omega)
  · (repeat (first | (with_reducible apply XL.op) | ((with_reducible apply XOp.p1); (case hg | hv => exact rfl)) | (with_reducible apply XL.nilT) | (with_reducible apply XC.seq) | (with_reducible apply XC.region (Γ := Γ)) | (with_reducible apply XQ.ret) | (with_reducible apply XQ.exit) | (with_reducible apply XQ.nt) | (with_reducible apply XQ.et) | ((with_reducible apply XQ.eb); (case hb => exact rfl))))
    ((with_reducible apply XQ.retE); (case hr => exact .t rfl .nil))
    refine congrArg Value.bool (pdt (show xs = ys from List.ext_getElem? fun j => ?_)).symm
    by_cases h : j < i
    · exact hq j h
    · rw [List.getElem?_eq_none (by omega), List.getElem?_eq_none (by omega)]
set_option maxHeartbeats 4000000 in
theorem eqConfig_fn (c d : Cfg) : FC Tryd.prog 57 [.agg ⟨c.cells⟩, .agg ⟨d.cells⟩] [] (fun _ => True) (fun v L => v = .bool (pd (c = d)) ∧ L = []) := by
  refine FC.nil ?_
  refine FC.intro Tryd.func57 rfl (by kernel_rfl) 57 [.tmp 4] rfl rfl rfl ?_
  intro w0 _
  (repeat (first | (with_reducible apply XL.op) | (with_reducible apply XC.seq) | (with_reducible apply XC.region (Γ := Γ))))
  ((with_reducible apply XOp.box); (case hg | hx' => exact rfl); intro xb)
  (repeat ((with_reducible apply XL.op)))
  ((with_reducible apply XOp.box); (case hg | hx' => exact rfl); intro yb)
  (repeat' (first | (with_reducible apply XL.op) | ((with_reducible apply XOp.p1); (case hg | hv => exact rfl)) | ((with_reducible apply XOp.p0); (case hg => exact rfl)) | ((with_reducible apply XOp.load); (case hg | ht | hk | hx => exact rfl); (case hc => exact own_cell (i := 0) rfl rfl)) | ((with_reducible apply XOp.load); (case hg | ht | hk | hx => exact rfl); (case hc => exact own_cell (i := 1) rfl rfl)) | (with_reducible apply XL.nilT) | (with_reducible apply XC.seq) | (with_reducible apply XC.region (Γ := Γ)) | (with_reducible apply XQ.skip) | (with_reducible apply XQ.ret) | (with_reducible apply XQ.nt) | (with_reducible apply XQ.rt) | ((with_reducible apply XC.condT); (case hc => exact rfl)) | ((with_reducible apply XOp.split); (case hg | hj | hd | hb => exact rfl); (fail_if_success (case hf => exact fun h => Bool.noConfusion h)); (fail_if_success (case ht => exact fun h => Bool.noConfusion h)); all_goals (intro hb_; try simp only [pd_true, pd_false, Bool.not_eq_true', Bool.not_eq_false', Bool.and_eq_true, Bool.and_eq_false_iff, Bool.or_eq_true, Bool.or_eq_false_iff, not_true_eq_false, not_false_eq_true, Int.not_lt, Int.not_le] at hb_)) | ((with_reducible apply XC.cond); (case hc => exact rfl); all_goals (intro hb_; try simp only [pd_true, pd_false, Bool.not_eq_true', Bool.not_eq_false', Bool.and_eq_true, Bool.and_eq_false_iff, Bool.or_eq_true, Bool.or_eq_false_iff, not_true_eq_false, not_false_eq_true, Int.not_lt, Int.not_le] at hb_))))
  all_goals ((with_reducible apply XQ.retE); (case hr => exact .t rfl .nil))
  all_goals refine congrArg Value.bool ?_
  all_goals first
    | exact (pdf fun h => by rw [h] at hb_; exact hb_ rfl).symm
    | (refine pdc ⟨fun h => ?_, fun h => by rw [h]⟩
       cases c; cases d
       simp only [] at *
       simp only [Cfg.mk.injEq]
       refine ⟨?_, ?_, ?_, ?_, ?_, ?_, ?_, ?_⟩ <;> assumption)
theorem lay_eq (x y : LL) : x.lay = y.lay ↔ x.n1.1 = y.n1.1 ∧ x.n2.1 = y.n2.1 ∧ x.q.mat = y.q.mat ∧ x.k.mat = y.k.mat ∧ x.v.mat = y.v.mat ∧ x.o.mat = y.o.mat ∧ x.g.mat = y.g.mat ∧ x.u.mat = y.u.mat ∧ x.d.mat = y.d.mat ∧ x.by_ = y.by_ := by
  simp only [LL.lay, Lay.mk.injEq]
set_option maxHeartbeats 8000000 in
theorem eqLayer_fn (x y : LL) : FC Tryd.prog 60 [.agg ⟨x.cells⟩, .agg ⟨y.cells⟩] []
    (fun h => llAt h x ∧ llAt h y) (fun v L => v = .bool (pd (x.lay = y.lay)) ∧ L = []) := by
  refine FC.nil ?_
  refine FC.intro Tryd.func60 rfl (by kernel_rfl) 75 [.tmp 4] rfl rfl rfl ?_
  rintro w0 ⟨hA, hB⟩
  (repeat (first | (with_reducible apply XL.op) | (with_reducible apply XC.seq) | (with_reducible apply XC.region (Γ := Γ))))
  ((with_reducible apply XOp.box); (case hg | hx' => exact rfl); intro xb)
  (repeat ((with_reducible apply XL.op)))
  ((with_reducible apply XOp.box); (case hg | hx' => exact rfl); intro yb)
  (repeat' (first | (with_reducible apply XL.op) | ((with_reducible apply XOp.p1); (case hg | hv => exact rfl)) | ((with_reducible apply XOp.p0); (case hg => exact rfl)) | ((with_reducible apply XOp.load); (case hg | ht | hk | hx => exact rfl); (case hc => exact own_cell (i := 0) rfl rfl)) | ((with_reducible apply XOp.load); (case hg | ht | hk | hx => exact rfl); (case hc => exact own_cell (i := 1) rfl rfl)) | ((with_reducible apply XOp.loadO (i := 0)); (case hg | ht | hk | hx | hi | hc => exact rfl)) | ((with_reducible apply XOp.loadO (i := 1)); (case hg | ht | hk | hx | hi | hc => exact rfl)) | (with_reducible apply XL.nilT) | (with_reducible apply XC.seq) | (with_reducible apply XC.region (Γ := Γ)) | (with_reducible apply XQ.skip) | (with_reducible apply XQ.ret) | (with_reducible apply XQ.nt) | (with_reducible apply XQ.rt) | ((with_reducible apply XC.condT); (case hc => exact rfl)) | (((with_reducible apply XOp.callQ (hF := eqNarrow_fn _ _)); (case hg => exact rfl); (case hc => exact rfl); (case ha => exact rfl); try (case hA => exact Known.true)); (case hA => first | exact Known.and (Known.of_old hA.n1 (lv_mono _)) (Known.of_old hB.n1 (lv_mono _)) | exact Known.and (Known.of_old hA.n2 (lv_mono _)) (Known.of_old hB.n2 (lv_mono _))); rintro _ rfl) | (((with_reducible apply XOp.callQ (hF := eqMat_fn _ _)); (case hg => exact rfl); (case hc => exact rfl); (case ha => exact rfl); try (case hA => exact Known.true)); (case hA => first | exact Known.and (Known.of_old hA.q (lm_mono _)) (Known.of_old hB.q (lm_mono _)) | exact Known.and (Known.of_old hA.k (lm_mono _)) (Known.of_old hB.k (lm_mono _)) | exact Known.and (Known.of_old hA.v (lm_mono _)) (Known.of_old hB.v (lm_mono _)) | exact Known.and (Known.of_old hA.o (lm_mono _)) (Known.of_old hB.o (lm_mono _)) | exact Known.and (Known.of_old hA.g (lm_mono _)) (Known.of_old hB.g (lm_mono _)) | exact Known.and (Known.of_old hA.u (lm_mono _)) (Known.of_old hB.u (lm_mono _)) | exact Known.and (Known.of_old hA.d (lm_mono _)) (Known.of_old hB.d (lm_mono _))); rintro _ rfl) | ((with_reducible apply XOp.pr); (case hg => exact rfl); (case hr => exact PR.neqArr (xs := x.by_) (ys := y.by_) (by kernel_rfl) rfl rfl rfl rfl rfl ⟨rfl, rfl⟩ rfl rfl)) | ((with_reducible apply XOp.split); (case hg | hj | hd | hb => exact rfl); (fail_if_success (case hf => exact fun h => Bool.noConfusion h)); (fail_if_success (case ht => exact fun h => Bool.noConfusion h)); all_goals (intro hb_; try simp only [pd_true, pd_false, Bool.not_eq_true', Bool.not_eq_false', Bool.and_eq_true, Bool.and_eq_false_iff, Bool.or_eq_true, Bool.or_eq_false_iff, not_true_eq_false, not_false_eq_true, Int.not_lt, Int.not_le] at hb_)) | ((with_reducible apply XC.cond); (case hc => exact rfl); all_goals (intro hb_; try simp only [pd_true, pd_false, Bool.not_eq_true', Bool.not_eq_false', Bool.and_eq_true, Bool.and_eq_false_iff, Bool.or_eq_true, Bool.or_eq_false_iff, not_true_eq_false, not_false_eq_true, Int.not_lt, Int.not_le] at hb_))))
  all_goals ((with_reducible apply XQ.retE); (case hr => exact .t rfl .nil))
  all_goals refine congrArg Value.bool ?_
  all_goals rw [pdc (lay_eq x y)]
  all_goals first
    | exact (pdf fun h => by first | exact hb_ h.1 | exact hb_ h.2.1 | exact hb_ h.2.2.1 | exact hb_ h.2.2.2.1 | exact hb_ h.2.2.2.2.1 | exact hb_ h.2.2.2.2.2.1 | exact hb_ h.2.2.2.2.2.2.1 | exact hb_ h.2.2.2.2.2.2.2.1 | exact hb_ h.2.2.2.2.2.2.2.2.1 | exact hb_ h.2.2.2.2.2.2.2.2.2).symm
    | exact pdc ⟨fun h => ⟨by assumption, by assumption, by assumption, by assumption, by assumption, by assumption, by assumption, by assumption, h, by assumption⟩, fun h => h.2.2.2.2.2.2.2.2.1⟩
end Go.Proofs.YtppggaiahkecoaaDoorX
/- Are two weights the same? -/
namespace Go.Proofs.YtppggaiahkecoaaDoorX
open Go Go.SX

theorem w_eq (x y : LW) : x.w = y.w ↔ x.C = y.C ∧ x.E.mat = y.E.mat ∧ x.T.1 = y.T.1 ∧ x.Ls.1.map LL.lay = y.Ls.1.map LL.lay ∧ x.F.1 = y.F.1 ∧ x.H.mat = y.H.mat ∧ x.M.1.map LM.mat = y.M.1.map LM.mat := by
  simp only [LW.w, Wts.mk.injEq]
theorem map_len {α β γ : Type} {f : α → γ} {g : β → γ} {a : List α} {b : List β} (h : a.map f = b.map g) : a.length = b.length := by
  have := congrArg List.length h; simpa using this
theorem map_at {α β γ : Type} {f : α → γ} {g : β → γ} {a : List α} {b : List β} (h : a.map f = b.map g) {i : Nat} {x : α} {y : β} (hx : a[i]? = some x) (hy : b[i]? = some y) : f x = g y := by
  have := congrArg (·[i]?) h
  simpa [hx, hy] using this
theorem map_upto {α β γ : Type} {f : α → γ} {g : β → γ} {a : List α} {b : List β} {i : Nat} (hl : a.length = b.length) (hi : i = a.length) (h : ∀ j, j < i → a[j]?.map f = b[j]?.map g) : a.map f = b.map g := by
  refine List.ext_getElem? fun j => ?_
  rw [List.getElem?_map, List.getElem?_map]
  by_cases hj : j < i
  · exact h j hj
  · rw [List.getElem?_eq_none (by omega), List.getElem?_eq_none (by omega)]; rfl
set_option maxHeartbeats 16000000 in
theorem eqWeights_fn (x y : LW) : FC Tryd.prog 23 [.agg ⟨x.cells⟩, .agg ⟨y.cells⟩] []
    (fun h => lwAt h x ∧ lwAt h y) (fun v L => v = .bool (pd (x.w = y.w)) ∧ L = []) := by
  refine FC.nil ?_
  refine FC.intro Tryd.func23 rfl (by kernel_rfl) 101 [.tmp 4] rfl rfl rfl ?_
  rintro w0 ⟨hA, hB⟩
  have hbad : ∀ {p : Prop}, (x.w = y.w → p) → ¬ p → Value.bool false = Value.bool (pd (x.w = y.w)) := fun f hp => congrArg Value.bool (pdf fun h => hp (f h)).symm
  (repeat (first | (with_reducible apply XL.op) | (with_reducible apply XC.seq) | (with_reducible apply XC.region (Γ := Γ))))
  ((with_reducible apply XOp.box); (case hg | hx' => exact rfl); intro xb)
  (repeat ((with_reducible apply XL.op)))
  ((with_reducible apply XOp.box); (case hg | hx' => exact rfl); intro yb)
  (repeat' (first | (with_reducible apply XL.op) | ((with_reducible apply XOp.p1); (case hg | hv => exact rfl)) | ((with_reducible apply XOp.p0); (case hg => exact rfl)) | ((with_reducible apply XOp.load); (case hg | ht | hk | hx => exact rfl); (case hc => exact own_cell (i := 0) rfl rfl)) | ((with_reducible apply XOp.load); (case hg | ht | hk | hx => exact rfl); (case hc => exact own_cell (i := 1) rfl rfl)) | ((with_reducible apply XOp.loadO (i := 0)); (case hg | ht | hk | hx | hi | hc => exact rfl)) | ((with_reducible apply XOp.loadO (i := 1)); (case hg | ht | hk | hx | hi | hc => exact rfl)) | (with_reducible apply XL.nilT) | (with_reducible apply XC.seq) | (with_reducible apply XC.region (Γ := Γ)) | (with_reducible apply XQ.skip) | (with_reducible apply XQ.ret) | (with_reducible apply XQ.nt) | (with_reducible apply XQ.rt) | (with_reducible apply XC.block) | ((with_reducible apply XC.condT); (case hc => exact rfl)) | (((with_reducible apply XOp.callQ (hF := eqConfig_fn x.C y.C)); (case hg => exact rfl); (case hc => exact rfl); (case ha => exact rfl); try (case hA => exact Known.true)); rintro _ rfl) | (((with_reducible apply XOp.callQ (hF := eqTurns_fn x.T y.T)); (case hg => exact rfl); (case hc => exact rfl); (case ha => exact rfl); try (case hA => exact Known.true)); (case hA => exact Known.and (Known.of_old hA.t (Mono.sl _ _ _ _ _)) (Known.of_old hB.t (Mono.sl _ _ _ _ _))); rintro _ rfl) | (((with_reducible apply XOp.callQ (hF := eqMat_fn x.E y.E)); (case hg => exact rfl); (case hc => exact rfl); (case ha => exact rfl); try (case hA => exact Known.true)); (case hA => exact Known.and (Known.of_old hA.e (lm_mono _)) (Known.of_old hB.e (lm_mono _))); rintro _ rfl) | ((with_reducible apply XOp.split); (case hg | hj | hd | hb => exact rfl); (fail_if_success (case hf => exact fun h => Bool.noConfusion h)); (fail_if_success (case ht => exact fun h => Bool.noConfusion h)); all_goals (intro hb_; try simp only [pd_true, pd_false, Bool.not_eq_true', Bool.not_eq_false', Bool.and_eq_true, Bool.and_eq_false_iff, Bool.or_eq_true, Bool.or_eq_false_iff, not_true_eq_false, not_false_eq_true, Int.not_lt, Int.not_le] at hb_)) | ((with_reducible apply XC.cond); (case hc => exact rfl); all_goals (intro hb_; try simp only [pd_true, pd_false, Bool.not_eq_true', Bool.not_eq_false', Bool.and_eq_true, Bool.and_eq_false_iff, Bool.or_eq_true, Bool.or_eq_false_iff, not_true_eq_false, not_false_eq_true, Int.not_lt, Int.not_le] at hb_))))
  iterate 5
    (((with_reducible apply XQ.retE); (case hr => exact .t rfl .nil))
     first
     | exact hbad (fun h => ((w_eq x y).1 h).1) hb_
     | exact hbad (fun h => ((w_eq x y).1 h).2.1) hb_
     | exact hbad (fun h => ((w_eq x y).1 h).2.2.1) hb_
     | exact hbad (fun h => by have := map_len ((w_eq x y).1 h).2.2.2.1; show (_ : Int) = _; omega) hb_
     | exact hbad (fun h => by have := map_len ((w_eq x y).1 h).2.2.2.2.2.2; show (_ : Int) = _; omega) hb_)
  rename_i p1 p2 p3 p4 
  have hll : x.Ls.1.length = y.Ls.1.length := by omega
  have hml : x.M.1.length = y.M.1.length := by omega
  have hL := hA.l.locRaw
  have hLa := hL.at_
  have hLb := hL.bytes
  have hL' := hB.l.locRaw
  have hLa' := hL'.at_
  have hM := hA.m.locRaw
  have hMa := hM.at_
  have hMb := hM.bytes
  have hM' := hB.m.locRaw
  have hMa' := hM'.at_
  refine XC.loop (fun k ρ L => ∃ i : Nat, i + k = x.Ls.1.length ∧ L = [(yb, .cells ⟨y.cells⟩ 31 (0, 0)), (xb, .cells ⟨x.cells⟩ 31 (0, 0))] ∧ (∀ j, j < i → x.Ls.1[j]?.map LL.lay = y.Ls.1[j]?.map LL.lay) ∧ Slots ρ [(2, .pointer (some ⟨xb, 0, none⟩)), (3, .pointer (some ⟨yb, 0, none⟩)), (5, .int .i64 i)])
    x.Ls.1.length ⟨0, by simp, rfl, by simp, rfl, rfl, rfl, trivial⟩ ?_
  rintro k ρ L ⟨i, hik, rfl, hq, hs⟩
  refine XC.slots _ hs ?_
  (repeat (first | (with_reducible apply XL.op) | ((with_reducible apply XOp.p1); (case hg | hv => exact rfl)) | ((with_reducible apply XOp.load); (case hg | ht | hk | hx => exact rfl); (case hc => exact own_cell (i := 1) rfl rfl)) | (with_reducible apply XL.nilT) | (with_reducible apply XC.seq) | (with_reducible apply XC.region (Γ := Γ))))
  ((with_reducible apply XC.cond); (case hc => exact rfl); all_goals (intro hb_; try simp only [pd_true, pd_false, Bool.not_eq_true', Bool.not_eq_false', Bool.and_eq_true, Bool.and_eq_false_iff, Bool.or_eq_true, Bool.or_eq_false_iff, not_true_eq_false, not_false_eq_true, Int.not_lt, Int.not_le] at hb_))
  · obtain ⟨l, hi⟩ : ∃ l, x.Ls.1[i]? = some l := ⟨_, List.getElem?_eq_getElem (by omega)⟩
    obtain ⟨l', hi'⟩ : ∃ l, y.Ls.1[i]? = some l := ⟨_, List.getElem?_eq_getElem (by omega)⟩
    have hl := hA.l.locAt (List.mem_of_getElem? hi)
    have hl' := hB.l.locAt (List.mem_of_getElem? hi')
    (repeat (first | (with_reducible apply XC.seq) | (with_reducible apply XQ.skip) | (with_reducible apply XQ.nt) | (with_reducible apply XC.block)))
    ((with_reducible apply XC.regionD (Γ := Γ) mixed (.q 0 (.q 1 (.q 2 (.q 3 (.q 4 (.q 5 (.q 6 (.q 7 (.q 8 (.q 9 (.e 10 (.q 11 (.done))))))))))))) [] []); (case hc => kernel_rfl))
    (repeat' (first | (with_reducible apply XL.op) | ((with_reducible apply XOp.p1); (case hg | hv => exact rfl)) | (with_reducible apply XL.nilT) | (with_reducible apply XC.seq) | (with_reducible apply XC.region (Γ := Γ)) | (with_reducible apply XQ.skip) | (with_reducible apply XQ.ret) | (with_reducible apply XQ.nt) | (with_reducible apply XQ.nb) | (with_reducible apply XQ.rt) | (with_reducible apply XQ.rb) | ((with_reducible apply XP.p1); (case ho | hg | hv => exact rfl)) | ((with_reducible apply XP.load); (case ho | hg | ht | hk | hx => exact rfl); (case hc => exact own_cell (i := 0) rfl rfl)) | ((with_reducible apply XP.load); (case ho | hg | ht | hk | hx => exact rfl); (case hc => exact own_cell (i := 1) rfl rfl)) | ((with_reducible apply XP.pr); (case ho => exact rfl); (case hg => exact rfl); (case hr => ((with_reducible apply PR.idxA); (case ht | hk | he | hx | hi => exact rfl); (case hr => first | assumption | omega); (case ha => first | assumption | exact SlA.at_ (by assumption))))) | (with_reducible apply XP.done) | ((with_reducible apply XP.e); (first | ((with_reducible apply XE.d); (case ho => exact rfl); (case hd => exact rfl)) | ((with_reducible apply XE.e); (case ho => exact rfl)))) | ((with_reducible apply XP.keep); (case hk => first | ((repeat' (first | exact List.forall_mem_nil _ | (with_reducible refine List.forall_mem_cons.2 ⟨?_, ?_⟩) | exact List.mem_cons_self .. | (with_reducible apply List.mem_cons_of_mem) | (with_reducible apply List.mem_append_right))); done) | (intro x hx; first | exact sel_in hx | exact List.mem_cons_of_mem _ (sel_in hx) | exact List.mem_append_right _ (sel_in hx) | exact hx | exact List.mem_cons_of_mem _ hx | exact List.mem_append_right _ hx | ((repeat (first | exact sel_in hx | exact hx | (with_reducible apply List.mem_cons_of_mem) | (with_reducible apply List.mem_append_right))); done) | cases hx))) | (first | ((with_reducible apply XOp.loadN); (case hg | ht | hk | hx => exact rfl); (case hc => exact Known.of_old (hL.rawAt hi) (Mono.row _ _ _)); (case hl => exact rfl)) | ((with_reducible apply XP.loadN); (case ho | hg | ht | hk | hx => exact rfl); (case hc => exact Known.of_old (hL.rawAt hi) (Mono.row _ _ _)); (case hl => exact rfl))) | (first | ((with_reducible apply XOp.loadN); (case hg | ht | hk | hx => exact rfl); (case hc => exact Known.of_old (hL'.rawAt hi') (Mono.row _ _ _)); (case hl => exact rfl)) | ((with_reducible apply XP.loadN); (case ho | hg | ht | hk | hx => exact rfl); (case hc => exact Known.of_old (hL'.rawAt hi') (Mono.row _ _ _)); (case hl => exact rfl))) | (((with_reducible apply XOp.callQ (hF := eqLayer_fn l l')); (case hg => exact rfl); (case hc => exact rfl); (case ha => exact rfl); try (case hA => exact Known.true)); (case hA => exact Known.and (Known.of_old hl (ll_mono _)) (Known.of_old hl' (ll_mono _))); rintro _ rfl) | ((with_reducible apply XC.cond); (case hc => exact rfl); all_goals (intro hb_; try simp only [pd_true, pd_false, Bool.not_eq_true', Bool.not_eq_false', Bool.and_eq_true, Bool.and_eq_false_iff, Bool.or_eq_true, Bool.or_eq_false_iff, not_true_eq_false, not_false_eq_true, Int.not_lt, Int.not_le] at hb_))))
    · ((with_reducible apply XQ.retE); (case hr => exact .t rfl .nil))
      exact hbad (fun h => map_at ((w_eq x y).1 h).2.2.2.1 hi hi') hb_
    · refine ⟨k - 1, by omega, i + 1, by omega, rfl, fun j hj => ?_, rfl, rfl, intS (m := x.Ls.1.length) (by omega) (by omega), trivial⟩
      by_cases h : j = i
      · subst h; rw [hi, hi']; exact congrArg some (by assumption)
      · exact hq j (by omega)
  have hLs := map_upto (f := LL.lay) (g := LL.lay) hll (i := i) (by omega) hq
  (repeat (first | (with_reducible apply XL.op) | ((with_reducible apply XOp.p1); (case hg | hv => exact rfl)) | (with_reducible apply XL.nilT) | (with_reducible apply XC.seq) | (with_reducible apply XC.region (Γ := Γ)) | (with_reducible apply XQ.exit) | (with_reducible apply XQ.nt) | (with_reducible apply XQ.et) | (with_reducible apply XC.block) | ((with_reducible apply XQ.eb); (case hb => exact rfl))))
  refine XC.loop (fun k ρ L => ∃ i : Nat, i + k = x.M.1.length ∧ L = [(yb, .cells ⟨y.cells⟩ 31 (0, 0)), (xb, .cells ⟨x.cells⟩ 31 (0, 0))] ∧ (∀ j, j < i → x.M.1[j]?.map LM.mat = y.M.1[j]?.map LM.mat) ∧ Slots ρ [(2, .pointer (some ⟨xb, 0, none⟩)), (3, .pointer (some ⟨yb, 0, none⟩)), (7, .int .i64 i)])
    x.M.1.length ⟨0, by simp, rfl, by simp, rfl, rfl, rfl, trivial⟩ ?_
  clear hq hs
  rintro k ρ L ⟨i, hik, rfl, hq, hs⟩
  refine XC.slots _ hs ?_
  (repeat (first | (with_reducible apply XL.op) | ((with_reducible apply XOp.p1); (case hg | hv => exact rfl)) | ((with_reducible apply XOp.load); (case hg | ht | hk | hx => exact rfl); (case hc => exact own_cell (i := 1) rfl rfl)) | (with_reducible apply XL.nilT) | (with_reducible apply XC.seq) | (with_reducible apply XC.region (Γ := Γ))))
  ((with_reducible apply XC.cond); (case hc => exact rfl); all_goals (intro hb_; try simp only [pd_true, pd_false, Bool.not_eq_true', Bool.not_eq_false', Bool.and_eq_true, Bool.and_eq_false_iff, Bool.or_eq_true, Bool.or_eq_false_iff, not_true_eq_false, not_false_eq_true, Int.not_lt, Int.not_le] at hb_))
  · obtain ⟨l, hi⟩ : ∃ l, x.M.1[i]? = some l := ⟨_, List.getElem?_eq_getElem (by omega)⟩
    obtain ⟨l', hi'⟩ : ∃ l, y.M.1[i]? = some l := ⟨_, List.getElem?_eq_getElem (by omega)⟩
    have hl := hA.m.locAt (List.mem_of_getElem? hi)
    have hl' := hB.m.locAt (List.mem_of_getElem? hi')
    (repeat (first | (with_reducible apply XC.seq) | (with_reducible apply XQ.skip) | (with_reducible apply XQ.nt) | (with_reducible apply XC.block)))
    ((with_reducible apply XC.regionD (Γ := Γ) mixed (.q 0 (.q 1 (.q 2 (.q 3 (.q 4 (.q 5 (.q 6 (.q 7 (.q 8 (.q 9 (.e 10 (.q 11 (.done))))))))))))) [] []); (case hc => kernel_rfl))
    (repeat' (first | (with_reducible apply XL.op) | ((with_reducible apply XOp.p1); (case hg | hv => exact rfl)) | (with_reducible apply XL.nilT) | (with_reducible apply XC.seq) | (with_reducible apply XC.region (Γ := Γ)) | (with_reducible apply XQ.skip) | (with_reducible apply XQ.ret) | (with_reducible apply XQ.nt) | (with_reducible apply XQ.nb) | (with_reducible apply XQ.rt) | (with_reducible apply XQ.rb) | ((with_reducible apply XP.p1); (case ho | hg | hv => exact rfl)) | ((with_reducible apply XP.load); (case ho | hg | ht | hk | hx => exact rfl); (case hc => exact own_cell (i := 0) rfl rfl)) | ((with_reducible apply XP.load); (case ho | hg | ht | hk | hx => exact rfl); (case hc => exact own_cell (i := 1) rfl rfl)) | ((with_reducible apply XP.pr); (case ho => exact rfl); (case hg => exact rfl); (case hr => ((with_reducible apply PR.idxA); (case ht | hk | he | hx | hi => exact rfl); (case hr => first | assumption | omega); (case ha => first | assumption | exact SlA.at_ (by assumption))))) | (with_reducible apply XP.done) | ((with_reducible apply XP.e); (first | ((with_reducible apply XE.d); (case ho => exact rfl); (case hd => exact rfl)) | ((with_reducible apply XE.e); (case ho => exact rfl)))) | ((with_reducible apply XP.keep); (case hk => first | ((repeat' (first | exact List.forall_mem_nil _ | (with_reducible refine List.forall_mem_cons.2 ⟨?_, ?_⟩) | exact List.mem_cons_self .. | (with_reducible apply List.mem_cons_of_mem) | (with_reducible apply List.mem_append_right))); done) | (intro x hx; first | exact sel_in hx | exact List.mem_cons_of_mem _ (sel_in hx) | exact List.mem_append_right _ (sel_in hx) | exact hx | exact List.mem_cons_of_mem _ hx | exact List.mem_append_right _ hx | ((repeat (first | exact sel_in hx | exact hx | (with_reducible apply List.mem_cons_of_mem) | (with_reducible apply List.mem_append_right))); done) | cases hx))) | (first | ((with_reducible apply XOp.loadN); (case hg | ht | hk | hx => exact rfl); (case hc => exact Known.of_old (hM.rawAt hi) (Mono.row _ _ _)); (case hl => exact rfl)) | ((with_reducible apply XP.loadN); (case ho | hg | ht | hk | hx => exact rfl); (case hc => exact Known.of_old (hM.rawAt hi) (Mono.row _ _ _)); (case hl => exact rfl))) | (first | ((with_reducible apply XOp.loadN); (case hg | ht | hk | hx => exact rfl); (case hc => exact Known.of_old (hM'.rawAt hi') (Mono.row _ _ _)); (case hl => exact rfl)) | ((with_reducible apply XP.loadN); (case ho | hg | ht | hk | hx => exact rfl); (case hc => exact Known.of_old (hM'.rawAt hi') (Mono.row _ _ _)); (case hl => exact rfl))) | (((with_reducible apply XOp.callQ (hF := eqMat_fn l l')); (case hg => exact rfl); (case hc => exact rfl); (case ha => exact rfl); try (case hA => exact Known.true)); (case hA => exact Known.and (Known.of_old hl (lm_mono _)) (Known.of_old hl' (lm_mono _))); rintro _ rfl) | ((with_reducible apply XC.cond); (case hc => exact rfl); all_goals (intro hb_; try simp only [pd_true, pd_false, Bool.not_eq_true', Bool.not_eq_false', Bool.and_eq_true, Bool.and_eq_false_iff, Bool.or_eq_true, Bool.or_eq_false_iff, not_true_eq_false, not_false_eq_true, Int.not_lt, Int.not_le] at hb_))))
    · ((with_reducible apply XQ.retE); (case hr => exact .t rfl .nil))
      exact hbad (fun h => map_at ((w_eq x y).1 h).2.2.2.2.2.2 hi hi') hb_
    · refine ⟨k - 1, by omega, i + 1, by omega, rfl, fun j hj => ?_, rfl, rfl, intS (m := x.M.1.length) (by omega) (by omega), trivial⟩
      by_cases h : j = i
      · subst h; rw [hi, hi']; exact congrArg some (by assumption)
      · exact hq j (by omega)
  have hMs := map_upto (f := LM.mat) (g := LM.mat) hml (i := i) (by omega) hq
  (repeat' (first | (with_reducible apply XL.op) | ((with_reducible apply XOp.p1); (case hg | hv => exact rfl)) | ((with_reducible apply XOp.p0); (case hg => exact rfl)) | ((with_reducible apply XOp.load); (case hg | ht | hk | hx => exact rfl); (case hc => exact own_cell (i := 0) rfl rfl)) | ((with_reducible apply XOp.load); (case hg | ht | hk | hx => exact rfl); (case hc => exact own_cell (i := 1) rfl rfl)) | ((with_reducible apply XOp.loadO (i := 0)); (case hg | ht | hk | hx | hi | hc => exact rfl)) | ((with_reducible apply XOp.loadO (i := 1)); (case hg | ht | hk | hx | hi | hc => exact rfl)) | (with_reducible apply XL.nilT) | (with_reducible apply XC.seq) | (with_reducible apply XC.region (Γ := Γ)) | (with_reducible apply XQ.ret) | (with_reducible apply XQ.exit) | (with_reducible apply XQ.nt) | (with_reducible apply XQ.et) | ((with_reducible apply XQ.eb); (case hb => exact rfl)) | (((with_reducible apply XOp.callQ (hF := eqNarrow_fn x.F y.F)); (case hg => exact rfl); (case hc => exact rfl); (case ha => exact rfl); try (case hA => exact Known.true)); (case hA => exact Known.and (Known.of_old hA.f (lv_mono _)) (Known.of_old hB.f (lv_mono _))); rintro _ rfl) | (((with_reducible apply XOp.callQ (hF := eqMat_fn x.H y.H)); (case hg => exact rfl); (case hc => exact rfl); (case ha => exact rfl); try (case hA => exact Known.true)); (case hA => exact Known.and (Known.of_old hA.hd (lm_mono _)) (Known.of_old hB.hd (lm_mono _))); rintro _ rfl) | ((with_reducible apply XOp.split); (case hg | hj | hd | hb => exact rfl); (fail_if_success (case hf => exact fun h => Bool.noConfusion h)); (fail_if_success (case ht => exact fun h => Bool.noConfusion h)); all_goals (intro hb_; try simp only [pd_true, pd_false, Bool.not_eq_true', Bool.not_eq_false', Bool.and_eq_true, Bool.and_eq_false_iff, Bool.or_eq_true, Bool.or_eq_false_iff, not_true_eq_false, not_false_eq_true, Int.not_lt, Int.not_le] at hb_))))
  · ((with_reducible apply XQ.retE); (case hr => exact .t rfl .nil))
    exact congrArg Value.bool (pdc ⟨fun h => (w_eq x y).2 ⟨by assumption, by assumption, by assumption, hLs, by assumption, h, hMs⟩, fun h => ((w_eq x y).1 h).2.2.2.2.2.1⟩)
  · ((with_reducible apply XQ.retE); (case hr => exact .t rfl .nil))
    exact hbad (fun h => ((w_eq x y).1 h).2.2.2.2.1) hb_
end Go.Proofs.YtppggaiahkecoaaDoorX
/- What some blocks show of themselves; a layer whose lists have marks behind them. -/
namespace Go.Proofs.YtppggaiahkecoaaDoorX
open Go Go.SX

/-- Whoever sees the blocks F sees A. -/
def Held (F : HL) (A : HV → Prop) : Prop := ∀ h : HV, (∀ x ∈ F, h x.1 = some x.2) → A h
theorem Held.known {F : HL} {A : HV → Prop} (a : Held F A) {w0 : World} {K : List Nat} {L : HL} (s : ∀ x ∈ F, x ∈ L) : Known w0 K L A := fun h e => a h fun x hx => e.1 x (s x hx)
theorem Held.sub {F G : HL} {A : HV → Prop} (a : Held F A) (s : ∀ x ∈ F, x ∈ G) : Held G A := fun h hh => a h fun x hx => hh x (s x hx)
theorem Held.and {F : HL} {A B : HV → Prop} (a : Held F A) (b : Held F B) : Held F (fun h => A h ∧ B h) := fun h hh => ⟨a h hh, b h hh⟩
theorem Held.imp {F : HL} {A B : HV → Prop} (a : Held F A) (f : ∀ h, A h → B h) : Held F B := fun h hh => f h (a h hh)
theorem Held.frag {F : HL} {B : HV → Prop} (hb : B (fv F)) (m : Mono B) : Held F B := fun h hh => m _ _ (fun b o ho => by
  unfold fv at ho
  obtain ⟨x, hx, rfl⟩ := Option.map_eq_some_iff.1 ho
  have h1 := List.mem_of_find?_eq_some hx
  have h2 : x.1 = b := by simpa using List.find?_some hx
  rw [← h2]; exact hh x h1) hb
theorem Held.nil {A : HV → Prop} (h : ∀ h, A h) : Held [] A := fun x _ => h x
theorem Held.row {b : Nat} {cs : List Value} {t : Nat} {fz : Nat × Nat} {F : HL} (hm : (b, Obj.cells ⟨cs⟩ t fz) ∈ F) : Held F (fun h => rowv h b 0 cs) := fun h hh i v hv => by
  have h1 := hh _ hm
  simp only at h1
  simp [cellv, h1, hv]

/-- A list with 64 marks behind it, in a block of its own. -/
structure mkLv (h : HV) (x : LV) : Prop where
  at_ : lvAt h x
  marks : ∃ b, x.2 = (some ⟨b, 0, none⟩, x.1.length + 64) ∧ rowv h b 0 ((x.1 ++ mk64).map (.int .i8))
structure wideL (h : HV) (l : LL) : Prop where
  n1 : mkLv h l.n1
  n2 : mkLv h l.n2
  q : mkLv h l.q.d
  k : mkLv h l.k.d
  v : mkLv h l.v.d
  o : mkLv h l.o.d
  g : mkLv h l.g.d
  u : mkLv h l.u.d
  d : mkLv h l.d.d
theorem wideL.at {h : HV} {l : LL} (p : wideL h l) : llAt h l := ⟨p.n1.at_, p.n2.at_, p.q.at_, p.k.at_, p.v.at_, p.o.at_, p.g.at_, p.u.at_, p.d.at_⟩
/-- The same list, at another place. -/
abbrev mvd (x : LV) (b : Nat) : LV := (x.1, some ⟨b, 0, none⟩, x.1.length + 64)
end Go.Proofs.YtppggaiahkecoaaDoorX
/- Weights of their own, each list with marks behind it. -/
namespace Go.Proofs.YtppggaiahkecoaaDoorX
open Go Go.SX

def zlv : LV := ([], none, 0)
def zmat : LM := ⟨0, 0, zlv⟩
def zeroM : List Value := zmat.cells
def zeroT : List Value := turnV (0, 0)
def zlay (v : LV) : LL := ⟨v, zlv, zmat, zmat, zmat, zmat, zmat, zmat, zmat, 0, 0, 0, 0, 0, 0, 0⟩
def zeroL : List Value := (zlay zlv).cells
def zeroW : List Value := (⟨⟨0, 0, 0, 0, 0, 0, 0, 0⟩, zmat, ([], none, 0), ([], none, 0), zlv, zmat, ([], none, 0)⟩ : LW).cells
/-- A layer behind the end: its first list is one mark. -/
def tailL (h : HV) (l : LL) : Prop := ∃ b, l = zlay ([-77], some ⟨b, 0, none⟩, 1) ∧ cellv h ⟨b, 0, none⟩ = some (.int .i8 (-77))
def tailM : LM := ⟨-77, 0, zlv⟩
def tk64 : List (Int × Int) := List.replicate 64 (-77, 0)
def xcells (x : LW) (eb fb hb : Nat) : List Value := [.int .i64 x.C.Vocab, .int .i64 x.C.Width, .int .i64 x.C.Heads, .int .i64 x.C.KV, .int .i64 x.C.Layers, .int .i64 x.C.Hidden, .int .i64 x.C.Len, .int .i64 x.C.Medusa,
  .int .i64 x.E.r, .int .i64 x.E.c, slv (mvd x.E.d eb), sla x.T, sla x.Ls, slv (mvd x.F fb), .int .i64 x.H.r, .int .i64 x.H.c, slv (mvd x.H.d hb), sla x.M]
theorem flat_len {α : Type} (f : α → List Value) (k : Nat) (hk : ∀ x, (f x).length = k) : ∀ l : List α, (l.flatMap f).length = l.length * k
  | [] => by simp
  | x :: l => by rw [List.flatMap_cons, List.length_append, hk, flat_len f k hk l, List.length_cons, Nat.succ_mul]; omega
/-- What the blocks of such weights show, but for the list Final. -/
structure wideR (h : HV) (x : LW) : Prop where
  e : mkLv h x.E.d
  hd : mkLv h x.H.d
  t : ∃ b, x.T.2 = (some ⟨b, 0, none⟩, x.T.1.length + 64) ∧ rowv h b 0 ((x.T.1 ++ tk64).flatMap turnV)
  l : ∃ b tl, x.Ls.2 = (some ⟨b, 0, none⟩, x.Ls.1.length + 8) ∧ tl.length = 8 ∧ rowv h b 0 ((x.Ls.1 ++ tl).flatMap LL.cells) ∧ ∀ l ∈ tl, tailL h l
  ll : ∀ l ∈ x.Ls.1, wideL h l
  m : ∃ b, x.M.2 = (some ⟨b, 0, none⟩, x.M.1.length + 8) ∧ rowv h b 0 ((x.M.1 ++ List.replicate 8 tailM).flatMap LM.cells)
  mm : ∀ m ∈ x.M.1, mkLv h m.d
/-- Where the lists of such weights lie. -/
structure formW (x : LW) : Prop where
  t : ∃ b, x.T.2 = (some ⟨b, 0, none⟩, x.T.1.length + 64)
  l : ∃ b, x.Ls.2 = (some ⟨b, 0, none⟩, x.Ls.1.length + 8)
  m : ∃ b, x.M.2 = (some ⟨b, 0, none⟩, x.M.1.length + 8)
end Go.Proofs.YtppggaiahkecoaaDoorX
/- Are such weights as they were made, with the marks? -/
namespace Go.Proofs.YtppggaiahkecoaaDoorX
open Go Go.SX

theorem rowv_flat {α : Type} {f : α → List Value} {k : Nat} (hk : ∀ x, (f x).length = k) {h : HV} {b : Nat} {l : List α} (r : rowv h b 0 (l.flatMap f)) {i : Nat} {x : α} (hi : l[i]? = some x) : rowv h b (0 + i * k) (f x) := fun j v hj => by
  have hjk : j < k := by have := (List.getElem?_eq_some_iff.1 hj).1; rwa [hk] at this
  have := flat_get f k hk [] l i j x hi hjk
  rw [List.append_nil] at this
  have h2 := r (i * k + j) v (this.trans hj)
  rwa [show 0 + i * k + j = 0 + (i * k + j) by omega]
theorem sla_of_row {α : Type} {f : α → List Value} {k by_ : Nat} {hk : ∀ x, (f x).length = k} {h : HV} {b : Nat} {l tl : List α} {c : Nat} (r : rowv h b 0 ((l ++ tl).flatMap f)) (hb : l.length * by_ ≤ 140737488355328) (hc : l.length ≤ c) :
    SlA (Kd.raw f k hk) by_ h l (some ⟨b, 0, none⟩) c :=
  ⟨hc, hb, (fun h => by cases h), fun _ => rfl, fun i x hx => ⟨f x, rfl, rowv_flat hk r (by rw [List.getElem?_append_left (List.getElem?_eq_some_iff.1 hx).1]; exact hx)⟩⟩
theorem eqWeightsT_fn (x y : LW) (he : x.w = y.w) : FC Tryd.prog 23 [.agg ⟨x.cells⟩, .agg ⟨y.cells⟩] []
    (fun h => lwAt h x ∧ lwAt h y) (fun v L => v = .bool true ∧ L = []) := (eqWeights_fn x y).mono fun v L h => ⟨by rw [h.1, pdt he], h.2⟩
end Go.Proofs.YtppggaiahkecoaaDoorX
/- Lists in memory of their own. -/
namespace Go.Proofs.YtppggaiahkecoaaDoorX
open Go Go.SX
/-- A list of numbers in memory of its own. -/
def OwnV (x : LV) (F : HL) : Prop := OwnS 39 1 (slv x) x.1.length (x.1.map (.int .i8)) F ∧ x.1.length * 1 ≤ 140737488355328 ∧ ∀ y ∈ x.1, inK .i8 y
theorem OwnV.held {x : LV} {F : HL} (h : OwnV x F) : Held F (fun h => lvAt h x) := by
  obtain ⟨xs, a, c⟩ := x
  obtain ⟨h1, h2, h3⟩ := h
  obtain ⟨a2, c2, e2, _, s2⟩ := h1.slA (by_ := 1) h3 h2
  obtain ⟨rfl, _, rfl⟩ := Value.slice.inj e2
  exact Held.frag s2 (Mono.sl _ _ _ _ _)
/-- Lists of numbers, each in memory of its own. -/
def OwnAll : List LV → HL → Prop
  | [], L => L = []
  | x :: xs, L => ∃ F G, OwnV x F ∧ OwnAll xs G ∧ L = F ++ G
theorem OwnAll.nil : OwnAll [] [] := rfl
theorem OwnV.all {x : LV} {F : HL} (h : OwnV x F) : OwnAll [x] F := ⟨F, [], h, rfl, (List.append_nil F).symm⟩
theorem OwnAll.app {xs ys : List LV} {F G : HL} (h : OwnAll xs F) (h2 : OwnAll ys G) : OwnAll (xs ++ ys) (F ++ G) := by
  induction xs generalizing F with
  | nil => obtain rfl := h; exact h2
  | cons x xs ih =>
    obtain ⟨A, B, ha, hb, rfl⟩ := h
    exact ⟨A, B ++ G, ha, ih hb, List.append_assoc _ _ _⟩
theorem OwnAll.held {xs : List LV} {F : HL} (h : OwnAll xs F) : Held F (fun h => ∀ x ∈ xs, lvAt h x) := by
  induction xs generalizing F with
  | nil => exact fun _ _ x hx => by simp at hx
  | cons x xs ih =>
    obtain ⟨A, B, ha, hb, rfl⟩ := h
    intro h hh y hy
    rcases List.mem_cons.1 hy with rfl | hy
    · exact ha.held h fun z hz => hh z (List.mem_append_left _ hz)
    · exact ih hb h (fun z hz => hh z (List.mem_append_right _ hz)) y hy
def LL.nl (l : LL) : List LV := [l.n1, l.n2, l.q.d, l.k.d, l.v.d, l.o.d, l.g.d, l.u.d, l.d.d]
def LW.nl (x : LW) : List LV := [x.E.d, x.F, x.H.d] ++ (x.Ls.1.flatMap LL.nl ++ x.M.1.map (·.d))
/-- Weights whose lists lie each in memory of its own. -/
structure OwnW (x : LW) (L : HL) : Prop where
  bt : x.T.1.length * 16 ≤ 140737488355328
  bl : x.Ls.1.length * 384 ≤ 140737488355328
  bm : x.M.1.length * 40 ≤ 140737488355328
  lists : ∃ Fn Ft Fl Fm : HL, OwnAll x.nl Fn ∧ OwnS 70 2 (sla x.T) x.T.1.length (x.T.1.flatMap turnV) Ft ∧ OwnS 67 30 (sla x.Ls) x.Ls.1.length (x.Ls.1.flatMap LL.cells) Fl ∧ OwnS 26 3 (sla x.M) x.M.1.length (x.M.1.flatMap LM.cells) Fm ∧ L.Perm (Fn ++ (Ft ++ (Fl ++ Fm)))
theorem raw_at {α : Type} {f : α → List Value} {k : Nat} {hk : ∀ x, (f x).length = k} {by_ e : Nat} {xs : List α} {a : Option Addr} {c : Nat} {F : HL} (h : OwnS e k (.slice a xs.length c) xs.length (xs.flatMap f) F) (hb : xs.length * by_ ≤ 140737488355328) :
    Held F (fun h => SlA (Kd.raw f k hk) by_ h xs a c) := by
  obtain ⟨a2, c2, e2, s2⟩ := h.raw (f := f) (k := k) (hk := hk) (by_ := by_) rfl hb
  obtain ⟨rfl, _, rfl⟩ := Value.slice.inj e2
  exact Held.frag s2 (Mono.sl _ _ _ _ _)
theorem OwnW.held {x : LW} {L : HL} (h : OwnW x L) : Held L (fun h => lwAt h x) := by
  obtain ⟨bt, bl, bm, Fn, Ft, Fl, Fm, h1, h2, h3, h4, hp⟩ := h
  intro h hh
  have g : ∀ {A : HL}, (∀ y ∈ A, y ∈ Fn ++ (Ft ++ (Fl ++ Fm))) → ∀ y ∈ A, _ := fun s y hy => hh y (hp.mem_iff.2 (s y hy))
  have q1 := h1.held h (g (A := Fn) fun y hy => by simp [hy])
  have q2 := raw_at (f := turnV) (k := 2) (hk := fun _ => rfl) (a := x.T.2.1) (c := x.T.2.2) h2 bt h (g (A := Ft) fun y hy => by simp [hy])
  have q3 := raw_at (f := LL.cells) (k := 30) (hk := fun _ => rfl) (a := x.Ls.2.1) (c := x.Ls.2.2) h3 bl h (g (A := Fl) fun y hy => by simp [hy])
  have q4 := raw_at (f := LM.cells) (k := 3) (hk := fun _ => rfl) (a := x.M.2.1) (c := x.M.2.2) h4 bm h (g (A := Fm) fun y hy => by simp [hy])
  refine ⟨q1 _ (by simp [LW.nl]), q2, SlA.ofRaw q3 fun l hl => ?_, q1 _ (by simp [LW.nl]), q1 _ (by simp [LW.nl]), SlA.ofRaw q4 fun m hm => q1 _ ?_⟩
  · have hin : ∀ y ∈ l.nl, lvAt h y := fun y hy => q1 y (by
      unfold LW.nl
      exact List.mem_append_right _ (List.mem_append_left _ (List.mem_flatMap.2 ⟨l, hl, hy⟩)))
    exact ⟨hin _ (by simp [LL.nl]), hin _ (by simp [LL.nl]), hin _ (by simp [LL.nl]), hin _ (by simp [LL.nl]), hin _ (by simp [LL.nl]), hin _ (by simp [LL.nl]), hin _ (by simp [LL.nl]), hin _ (by simp [LL.nl]), hin _ (by simp [LL.nl])⟩
  · unfold LW.nl
    exact List.mem_append_right _ (List.mem_append_right _ (List.mem_map.2 ⟨m, hm, rfl⟩))
theorem OwnAll.cons {x : LV} {xs : List LV} {F G : HL} (h : OwnV x F) (g : OwnAll xs G) : OwnAll (x :: xs) (F ++ G) := ⟨F, G, h, g, rfl⟩
/-- The same, in any order. -/
def OwnP (xs : List LV) (L : HL) : Prop := ∃ F, OwnAll xs F ∧ L.Perm F
theorem OwnP.nil : OwnP [] [] := ⟨[], rfl, List.Perm.refl _⟩
theorem OwnP.one {x : LV} {F : HL} (h : OwnV x F) : OwnP [x] F := ⟨F, h.all, List.Perm.refl _⟩
theorem OwnP.app {xs ys : List LV} {F G : HL} (h : OwnP xs F) (g : OwnP ys G) : OwnP (xs ++ ys) (F ++ G) := by
  obtain ⟨A, ha, pa⟩ := h
  obtain ⟨B, hb, pb⟩ := g
  exact ⟨A ++ B, ha.app hb, pa.append pb⟩
theorem OwnP.perm {xs : List LV} {F G : HL} (h : OwnP xs F) (p : G.Perm F) : OwnP xs G := by
  obtain ⟨A, ha, pa⟩ := h
  exact ⟨A, ha, p.trans pa⟩
theorem OwnP.snoc {D : List LM} {m : LM} {F G : HL} (h : OwnP (D.map (·.d)) G) (g : OwnV m.d F) : OwnP ((D ++ [m]).map (·.d)) (F ++ G) := by
  rw [List.map_append]
  exact OwnP.perm (h.app (OwnP.one g)) List.perm_append_comm
/-- These blocks, the lists' own, and others that nobody looks at. -/
def OwnX (B : HL) (xs : List LV) (G : HL) : Prop := ∃ G0 J, OwnAll xs G0 ∧ G.Perm (B ++ (G0 ++ J))
theorem OwnX.nil (B : HL) : OwnX B [] B := ⟨[], [], rfl, by simp⟩
theorem OwnX.add {B : HL} {xs ys : List LV} {F G : HL} (h : OwnX B xs G) (g : OwnP ys F) : OwnX B (xs ++ ys) (F ++ G) := by
  obtain ⟨A, J, ha, pa⟩ := h
  obtain ⟨C, hc, pc⟩ := g
  refine ⟨A ++ C, J, ha.app hc, (pc.append pa).trans ?_⟩
  refine perm_of_cnt fun p_ => ?_
  simp only [List.countP_append]; omega
end Go.Proofs.YtppggaiahkecoaaDoorX
/- gather: the lists of weights. -/
namespace Go.Proofs.YtppggaiahkecoaaDoorX
open Go Go.SX
/-- The lists as they are gathered. -/
structure GL where
  N : List LV
  T : List (LA (Int × Int))
  L : List (LA LL)
  M : List (LA LM)
def GL.add (g : GL) (x : LW) : GL := ⟨g.N ++ x.nl, g.T ++ [x.T], g.L ++ [x.Ls], g.M ++ [x.M]⟩
theorem nl_len : ∀ l : List LL, (l.flatMap LL.nl).length = l.length * 9
  | [] => rfl
  | a :: l => by rw [List.flatMap_cons, List.length_append, nl_len l, List.length_cons]; simp only [LL.nl, List.length_cons, List.length_nil]; omega
abbrev LsB (lb : Nat) (a b c d : Value) : Nat × Obj := (lb, .cells ⟨[a, b, c, d]⟩ 52 (0, 0))
/-- A block of the four lists of lists. -/
def GatR (lb : Nat) (g : GL) (L : HL) : Prop := ∃ vN vT vL vM FN FT FL FM, OwnS 24 1 vN g.N.length (g.N.map slv) FN ∧ OwnS 27 1 vT g.T.length (g.T.map sla) FT ∧ OwnS 28 1 vL g.L.length (g.L.map sla) FL ∧ OwnS 29 1 vM g.M.length (g.M.map sla) FM ∧
  L = LsB lb vN vT vL vM :: (FN ++ (FT ++ (FL ++ FM)))
set_option maxHeartbeats 16000000 in
theorem gather_fn (lb : Nat) (x : LW) (g : GL) (vN vT vL vM : Value) (FN FT FL FM : HL) (hN : OwnS 24 1 vN g.N.length (g.N.map slv) FN) (hT : OwnS 27 1 vT g.T.length (g.T.map sla) FT) (hL : OwnS 28 1 vL g.L.length (g.L.map sla) FL) (hM : OwnS 29 1 vM g.M.length (g.M.map sla) FM)
    (hb : g.N.length ≤ 1000000 ∧ x.Ls.1.length ≤ 1000000 ∧ x.M.1.length ≤ 1000000 ∧ g.T.length ≤ 10 ∧ g.L.length ≤ 10 ∧ g.M.length ≤ 10) :
    FC Tryd.prog 18 [.pointer (some ⟨lb, 0, none⟩), .agg ⟨x.cells⟩] (LsB lb vN vT vL vM :: (FN ++ (FT ++ (FL ++ FM)))) (fun h => lwAt h x) (fun _ L => GatR lb (g.add x) L) := by
  refine FC.sub2 ?_
  refine FC.intro Tryd.func18 rfl (by kernel_rfl) 125 [] rfl rfl rfl ?_
  intro w0 hA
  have hXL := hA.l.locRaw
  have hXM := hA.m.locRaw
  obtain ⟨aN, cN, rfl⟩ := hN.val
  (repeat (first | (with_reducible apply XL.op) | (with_reducible apply XC.seq) | (with_reducible apply XC.region (Γ := Γ))))
  ((with_reducible apply XOp.box); (case hg | hx' => exact rfl); intro wb)
  (repeat (first | (with_reducible apply XL.nilT) | (with_reducible apply XC.seq)))
  ((with_reducible apply XC.regionL (Γ := Γ) mixed (.q 0 (.q 1 (.q 2 (.q 3 (.q 4 (.q 5 (.q 6 (.q 7 (.q 8 (.q 9 (.q 10 (.q 11 (.q 12 (.e 13 (.e 14 (.q 15 (.q 16 (.e 17 (.done))))))))))))))))))) [17] ([(wb, Obj.cells ⟨x.cells⟩ 31 (0, 0)), LsB lb (.slice aN g.N.length cN) vT vL vM])); (case hc => kernel_rfl); (case hs => first | exact List.nil_sublist _ | exact List.Sublist.refl _ | exact List.sublist_append_right _ _ | (refine List.Sublist.cons_cons _ (List.nil_sublist _)) | (refine List.Sublist.cons_cons _ (List.Sublist.cons_cons _ (List.nil_sublist _))) | (refine List.Sublist.cons_cons _ (List.Sublist.cons_cons _ (List.Sublist.cons_cons _ (List.nil_sublist _)))) | (refine List.Sublist.cons_cons _ (List.Sublist.cons_cons _ (List.Sublist.cons_cons _ (List.Sublist.cons_cons _ (List.nil_sublist _))))) | ((try simp only [List.append_eq, List.cons_append, List.nil_append, List.append_assoc]); (repeat (first | exact List.Sublist.refl _ | exact List.nil_sublist _ | (with_reducible apply List.Sublist.cons_cons) | (with_reducible apply List.Sublist.cons))); done)))
  (repeat (first | ((with_reducible apply XP.p1); (case ho | hg | hv => exact rfl)) | ((with_reducible apply XP.load); (case ho | hg | ht | hk | hx => exact rfl); (case hc => exact own_cell (i := 0) rfl rfl)) | ((with_reducible apply XP.load); (case ho | hg | ht | hk | hx => exact rfl); (case hc => exact own_cell (i := 1) rfl rfl)) | ((with_reducible apply XP.e); (first | ((with_reducible apply XE.d); (case ho => exact rfl); (case hd => exact rfl)) | ((with_reducible apply XE.e); (case ho => exact rfl))))))
  ((with_reducible apply XOp.buildSlice); (case hg | ht | hk | he | hz | hzl | hf => exact rfl); intro bb)
  (repeat (first | ((with_reducible apply XP.e); (first | ((with_reducible apply XE.d); (case ho => exact rfl); (case hd => exact rfl)) | ((with_reducible apply XE.e); (case ho => exact rfl)))) | ((with_reducible apply XP.keep); (case hk => first | ((repeat' (first | exact List.forall_mem_nil _ | (with_reducible refine List.forall_mem_cons.2 ⟨?_, ?_⟩) | exact List.mem_cons_self .. | (with_reducible apply List.mem_cons_of_mem) | (with_reducible apply List.mem_append_right))); done) | (intro x hx; first | exact sel_in hx | exact List.mem_cons_of_mem _ (sel_in hx) | exact List.mem_append_right _ (sel_in hx) | exact hx | exact List.mem_cons_of_mem _ hx | exact List.mem_append_right _ hx | ((repeat (first | exact sel_in hx | exact hx | (with_reducible apply List.mem_cons_of_mem) | (with_reducible apply List.mem_append_right))); done) | (rw [List.mem_singleton.1 hx]; (simp; done)) | (rcases List.mem_cons.1 hx with rfl | hx; (simp; done); (rw [List.mem_singleton.1 hx]; (simp; done))) | cases hx)))))
  (refine (show XOp _ _ _ _ _ _ _ _ ((bb, Obj.cells ⟨[slv x.E.d, slv x.F, slv x.H.d]⟩ 24 (0, 0)) :: (wb, Obj.cells ⟨x.cells⟩ 31 (0, 0)) :: LsB lb (.slice aN g.N.length cN) vT vL vM :: (FN ++ (FT ++ (FL ++ FM)))) from XOp.perm (L' :=  (bb, Obj.cells ⟨[slv x.E.d, slv x.F, slv x.H.d]⟩ 24 (0, 0)) :: (([(wb, Obj.cells ⟨x.cells⟩ 31 (0, 0)), LsB lb (.slice aN g.N.length cN) vT vL vM] ++ (FT ++ (FL ++ FM))) ++ FN)) rfl ?_ (by (first | (with_reducible exact List.Perm.refl _) | refine perm_of_cnt fun p_ => ?_; simp only [List.countP_append, List.countP_cons, List.countP_nil]; omega))))
  ((with_reducible apply XOp.append1R (R := [(wb, Obj.cells ⟨x.cells⟩ 31 (0, 0)), LsB lb (.slice aN g.N.length cN) vT vL vM] ++ (FT ++ (FL ++ FM)))); (case hg => exact rfl); (case ht => exact rfl); (case hk => exact rfl); (case he => exact rfl); (case hown => exact hN); (case hs => exact rfl); (case hx => exact rfl); (case hL => exact rfl); (case hl => exact rfl); (case h1 => exact rfl); (case hz => exact rfl); (case hsz => exact Nat.zero_lt_succ _); (case hk0 => exact Nat.zero_lt_succ _); (case h63 => simp only [maxLen]; omega); (case hb => simp only []; omega); intro v_ F_ hown_; obtain ⟨a_, c_, rfl⟩ := hown_.val)
  (refine ⟨fun y_ hy_ => (by rcases List.mem_cons.1 hy_ with rfl | hy_; simp; (rw [List.mem_singleton.1 hy_]; simp)), ?_⟩)
  (repeat (first | (with_reducible apply XL.op) | ((with_reducible apply XOp.p1); (case hg | hv => exact rfl)) | ((with_reducible apply XOp.store (i := 1)); (case hg | ht | hk | hx | hv | h1 | hi | hs | ha => exact rfl)) | (with_reducible apply XL.nilT) | (with_reducible apply XC.seq) | (with_reducible apply XC.region (Γ := Γ)) | (with_reducible apply XQ.nt) | (with_reducible apply XC.block) | ((with_reducible apply XP.p1); (case ho | hg | hv => exact rfl)) | (with_reducible apply XP.done) | ((with_reducible apply XP.e); (first | ((with_reducible apply XE.d); (case ho => exact rfl); (case hd => exact rfl)) | ((with_reducible apply XE.e); (case ho => exact rfl))))))
  have hN1 := hown_
  clear hown_ hN
  have e3 : [slv x.E.d, slv x.F, slv x.H.d] = [x.E.d, x.F, x.H.d].map slv := rfl
  refine XC.loopP (fun k ρ L => ∃ (i m : Nat) (v : Value) (F : HL), i + k = x.Ls.1.length ∧ m = g.N.length + 3 + i * 9 ∧ OwnS 24 1 v m ((g.N ++ ([x.E.d, x.F, x.H.d] ++ (x.Ls.1.take i).flatMap LL.nl)).map slv) F ∧ L = ([(wb, Obj.cells ⟨x.cells⟩ 31 (0, 0)), LsB lb v vT vL vM] ++ (FT ++ (FL ++ FM))) ++ F ∧
      Slots ρ [(0, .pointer (some ⟨lb, 0, none⟩)), (3, .pointer (some ⟨wb, 0, none⟩)), (4, .int .i64 i)])
    x.Ls.1.length ⟨0, _, _, F_, by simp, by simp, hN1.conv rfl (by simp), rfl, rfl, rfl, rfl, trivial⟩ ?_
  clear hN1
  rintro k ρ L ⟨i, m, v, F, hik, hm, hF, rfl, hs⟩
  obtain ⟨aq, cq, rfl⟩ := hF.val
  refine XC.slots _ hs ?_
  (repeat (first | (with_reducible apply XL.op) | ((with_reducible apply XOp.p1); (case hg | hv => exact rfl)) | ((with_reducible apply XOp.load); (case hg | ht | hk | hx => exact rfl); (case hc => exact own_cell (i := 0) rfl rfl)) | (with_reducible apply XL.nilT) | (with_reducible apply XC.seq) | (with_reducible apply XC.region (Γ := Γ))))
  ((with_reducible apply XC.cond); (case hc => exact rfl); all_goals (intro hb_; try simp only [pd_true, pd_false, Bool.not_eq_true', Bool.not_eq_false', Bool.and_eq_true, Bool.and_eq_false_iff, Bool.or_eq_true, Bool.or_eq_false_iff, not_true_eq_false, not_false_eq_true, Int.not_lt, Int.not_le] at hb_))
  · obtain ⟨l, hi⟩ : ∃ l, x.Ls.1[i]? = some l := ⟨_, List.getElem?_eq_getElem (by omega)⟩
    (repeat (first | (with_reducible apply XL.op) | ((with_reducible apply XOp.p1); (case hg | hv => exact rfl)) | ((with_reducible apply XOp.load); (case hg | ht | hk | hx => exact rfl); (case hc => exact own_cell (i := 0) rfl rfl)) | ((with_reducible apply XOp.pr); (case hg => exact rfl); (case hr => ((with_reducible apply PR.idxA); (case ht | hk | he | hx | hi => exact rfl); (case hr => first | assumption | omega); (case ha => first | assumption | exact SlA.at_ (by assumption))))) | (with_reducible apply XC.seq) | (with_reducible apply XC.region (Γ := Γ)) | (with_reducible apply XQ.skip) | (with_reducible apply XQ.nt) | (with_reducible apply XC.block) | (first | ((with_reducible apply XOp.loadN); (case hg | ht | hk | hx => exact rfl); (case hc => exact Known.of_old (hXL.rawAt hi) (Mono.row _ _ _)); (case hl => exact rfl)) | ((with_reducible apply XP.loadN); (case ho | hg | ht | hk | hx => exact rfl); (case hc => exact Known.of_old (hXL.rawAt hi) (Mono.row _ _ _)); (case hl => exact rfl)))))
    ((with_reducible apply XOp.alloc); (case hg | ht | hx' => exact rfl); intro yb)
    (repeat (first | (with_reducible apply XL.op) | ((with_reducible apply XOp.storeN (i := 0)); (case hg | ht | hx | hv' | hk | h1 | hi | hs | ha => exact rfl)) | (with_reducible apply XL.nilT)))
    ((with_reducible apply XC.regionL (Γ := Γ) mixed (.q 0 (.q 1 (.q 2 (.q 3 (.q 4 (.q 5 (.q 6 (.q 7 (.q 8 (.q 9 (.q 10 (.q 11 (.q 12 (.q 13 (.q 14 (.q 15 (.q 16 (.q 17 (.q 18 (.q 19 (.q 20 (.q 21 (.q 22 (.q 23 (.q 24 (.q 25 (.q 26 (.q 27 (.q 28 (.q 29 (.e 30 (.e 31 (.q 32 (.q 33 (.e 34 (.done)))))))))))))))))))))))))))))))))))) [34] ((yb, Obj.cells ⟨l.cells⟩ 67 (0, 0)) :: [(wb, Obj.cells ⟨x.cells⟩ 31 (0, 0)), LsB lb (.slice aq m cq) vT vL vM])); (case hc => kernel_rfl); (case hs => first | exact List.nil_sublist _ | exact List.Sublist.refl _ | exact List.sublist_append_right _ _ | (refine List.Sublist.cons_cons _ (List.nil_sublist _)) | (refine List.Sublist.cons_cons _ (List.Sublist.cons_cons _ (List.nil_sublist _))) | (refine List.Sublist.cons_cons _ (List.Sublist.cons_cons _ (List.Sublist.cons_cons _ (List.nil_sublist _)))) | (refine List.Sublist.cons_cons _ (List.Sublist.cons_cons _ (List.Sublist.cons_cons _ (List.Sublist.cons_cons _ (List.nil_sublist _))))) | ((try simp only [List.append_eq, List.cons_append, List.nil_append, List.append_assoc]); (repeat (first | exact List.Sublist.refl _ | exact List.nil_sublist _ | (with_reducible apply List.Sublist.cons_cons) | (with_reducible apply List.Sublist.cons))); done)))
    (repeat (first | ((with_reducible apply XP.p1); (case ho | hg | hv => exact rfl)) | ((with_reducible apply XP.load); (case ho | hg | ht | hk | hx => exact rfl); (case hc => exact own_cell (i := 0) rfl rfl)) | ((with_reducible apply XP.load); (case ho | hg | ht | hk | hx => exact rfl); (case hc => exact own_cell (i := 2) rfl rfl)) | ((with_reducible apply XP.e); (first | ((with_reducible apply XE.d); (case ho => exact rfl); (case hd => exact rfl)) | ((with_reducible apply XE.e); (case ho => exact rfl))))))
    ((with_reducible apply XOp.buildSlice); (case hg | ht | hk | he | hz | hzl | hf => exact rfl); intro bb)
    (refine ⟨fun y_ hy_ => (by rcases List.mem_cons.1 hy_ with rfl | hy_; simp [LL.cells]; (rcases List.mem_cons.1 hy_ with rfl | hy_; simp; (rw [List.mem_singleton.1 hy_]; simp))), ?_⟩)
    (repeat (((with_reducible apply XP.e); (first | ((with_reducible apply XE.d); (case ho => exact rfl); (case hd => exact rfl)) | ((with_reducible apply XE.e); (case ho => exact rfl))))))
    (refine (show XOp _ _ _ _ _ _ _ _ ((bb, Obj.cells ⟨[slv l.n1, slv l.n2, slv l.q.d, slv l.k.d, slv l.v.d, slv l.o.d, slv l.g.d, slv l.u.d, slv l.d.d]⟩ 24 (0, 0)) :: (yb, Obj.cells ⟨l.cells⟩ 67 (0, 0)) :: (([(wb, Obj.cells ⟨x.cells⟩ 31 (0, 0)), LsB lb (.slice aq m cq) vT vL vM] ++ (FT ++ (FL ++ FM))) ++ F)) from XOp.perm (L' :=  (bb, Obj.cells ⟨[slv l.n1, slv l.n2, slv l.q.d, slv l.k.d, slv l.v.d, slv l.o.d, slv l.g.d, slv l.u.d, slv l.d.d]⟩ 24 (0, 0)) :: (((yb, Obj.cells ⟨l.cells⟩ 67 (0, 0)) :: ([(wb, Obj.cells ⟨x.cells⟩ 31 (0, 0)), LsB lb (.slice aq m cq) vT vL vM] ++ (FT ++ (FL ++ FM)))) ++ F)) rfl ?_ (by (first | (with_reducible exact List.Perm.refl _) | refine perm_of_cnt fun p_ => ?_; simp only [List.countP_append, List.countP_cons, List.countP_nil]; omega))))
    ((with_reducible apply XOp.append1R (R := (yb, Obj.cells ⟨l.cells⟩ 67 (0, 0)) :: ([(wb, Obj.cells ⟨x.cells⟩ 31 (0, 0)), LsB lb (.slice aq m cq) vT vL vM] ++ (FT ++ (FL ++ FM))))); (case hg => exact rfl); (case ht => exact rfl); (case hk => exact rfl); (case he => exact rfl); (case hown => exact hF); (case hs => exact rfl); (case hx => exact rfl); (case hL => exact rfl); (case hl => exact rfl); (case h1 => exact rfl); (case hz => exact rfl); (case hsz => exact Nat.zero_lt_succ _); (case hk0 => exact Nat.zero_lt_succ _); (case h63 => simp only [maxLen]; omega); (case hb => simp only []; omega); intro v_ F_ hown_; obtain ⟨a_, c_, rfl⟩ := hown_.val)
    (refine ⟨fun y_ hy_ => (by rcases List.mem_cons.1 hy_ with rfl | hy_; simp [LL.cells]; (rcases List.mem_cons.1 hy_ with rfl | hy_; simp; (rw [List.mem_singleton.1 hy_]; simp))), ?_⟩)
    (repeat (first | (with_reducible apply XL.op) | ((with_reducible apply XOp.p1); (case hg | hv => exact rfl)) | ((with_reducible apply XOp.store (i := 2)); (case hg | ht | hk | hx | hv | h1 | hi | hs | ha => exact rfl)) | (with_reducible apply XL.nilT) | (with_reducible apply XC.region (Γ := Γ)) | (with_reducible apply XQ.nt) | (with_reducible apply XQ.nb) | ((with_reducible apply XP.p1); (case ho | hg | hv => exact rfl)) | (with_reducible apply XP.done) | ((with_reducible apply XP.e); (first | ((with_reducible apply XE.d); (case ho => exact rfl); (case hd => exact rfl)) | ((with_reducible apply XE.e); (case ho => exact rfl))))))
    refine ⟨k - 1, by omega, _, .of (List.sublist_cons_self _ _), i + 1, m + 9, _, F_, by omega, by omega, hown_.conv rfl ?_, rfl, rfl, rfl, intS (m := x.Ls.1.length) (by omega) (by omega), trivial⟩
    rw [take_snocD hi, List.flatMap_append]
    simp [LL.nl, zerosL]
  obtain rfl : i = x.Ls.1.length := by omega
  rw [List.take_length] at hF
  clear hs hik
  (repeat (first | (with_reducible apply XL.op) | ((with_reducible apply XOp.p1); (case hg | hv => exact rfl)) | (with_reducible apply XL.nilT) | (with_reducible apply XC.seq) | (with_reducible apply XC.region (Γ := Γ)) | (with_reducible apply XQ.exit) | (with_reducible apply XQ.nt) | (with_reducible apply XQ.et) | (with_reducible apply XC.block) | ((with_reducible apply XQ.eb); (case hb => exact rfl))))
  refine XC.loopP (fun k ρ L => ∃ (i m2 : Nat) (v : Value) (F : HL), i + k = x.M.1.length ∧ m2 = m + i ∧ OwnS 24 1 v m2 ((g.N ++ ([x.E.d, x.F, x.H.d] ++ (x.Ls.1.flatMap LL.nl ++ (x.M.1.take i).map (·.d)))).map slv) F ∧ L = ([(wb, Obj.cells ⟨x.cells⟩ 31 (0, 0)), LsB lb v vT vL vM] ++ (FT ++ (FL ++ FM))) ++ F ∧
      Slots ρ [(0, .pointer (some ⟨lb, 0, none⟩)), (3, .pointer (some ⟨wb, 0, none⟩)), (6, .int .i64 i)])
    x.M.1.length ⟨0, m, _, F, by simp, by simp, hF.conv rfl (by simp), rfl, rfl, rfl, rfl, trivial⟩ ?_
  clear hF
  rintro k ρ L ⟨i, m2, v, F, hik, hm2, hF, rfl, hs⟩
  obtain ⟨aq, cq, rfl⟩ := hF.val
  refine XC.slots _ hs ?_
  (repeat (first | (with_reducible apply XL.op) | ((with_reducible apply XOp.p1); (case hg | hv => exact rfl)) | ((with_reducible apply XOp.load); (case hg | ht | hk | hx => exact rfl); (case hc => exact own_cell (i := 0) rfl rfl)) | (with_reducible apply XL.nilT) | (with_reducible apply XC.seq) | (with_reducible apply XC.region (Γ := Γ))))
  ((with_reducible apply XC.cond); (case hc => exact rfl); all_goals (intro hb_; try simp only [pd_true, pd_false, Bool.not_eq_true', Bool.not_eq_false', Bool.and_eq_true, Bool.and_eq_false_iff, Bool.or_eq_true, Bool.or_eq_false_iff, not_true_eq_false, not_false_eq_true, Int.not_lt, Int.not_le] at hb_))
  · obtain ⟨l, hi⟩ : ∃ l, x.M.1[i]? = some l := ⟨_, List.getElem?_eq_getElem (by omega)⟩
    (repeat (first | (with_reducible apply XC.seq) | (with_reducible apply XQ.skip) | (with_reducible apply XQ.nt) | (with_reducible apply XC.block)))
    ((with_reducible apply XC.regionL (Γ := Γ) mixed (.q 0 (.q 1 (.q 2 (.q 3 (.q 4 (.q 5 (.q 6 (.q 7 (.q 8 (.q 9 (.q 10 (.e 11 (.e 12 (.q 13 (.q 14 (.e 15 (.done))))))))))))))))) [15] ([(wb, Obj.cells ⟨x.cells⟩ 31 (0, 0)), LsB lb (.slice aq m2 cq) vT vL vM])); (case hc => kernel_rfl); (case hs => first | exact List.nil_sublist _ | exact List.Sublist.refl _ | exact List.sublist_append_right _ _ | (refine List.Sublist.cons_cons _ (List.nil_sublist _)) | (refine List.Sublist.cons_cons _ (List.Sublist.cons_cons _ (List.nil_sublist _))) | (refine List.Sublist.cons_cons _ (List.Sublist.cons_cons _ (List.Sublist.cons_cons _ (List.nil_sublist _)))) | (refine List.Sublist.cons_cons _ (List.Sublist.cons_cons _ (List.Sublist.cons_cons _ (List.Sublist.cons_cons _ (List.nil_sublist _))))) | ((try simp only [List.append_eq, List.cons_append, List.nil_append, List.append_assoc]); (repeat (first | exact List.Sublist.refl _ | exact List.nil_sublist _ | (with_reducible apply List.Sublist.cons_cons) | (with_reducible apply List.Sublist.cons))); done)))
    (repeat (first | ((with_reducible apply XP.p1); (case ho | hg | hv => exact rfl)) | ((with_reducible apply XP.load); (case ho | hg | ht | hk | hx => exact rfl); (case hc => exact own_cell (i := 0) rfl rfl)) | ((with_reducible apply XP.load); (case ho | hg | ht | hk | hx => exact rfl); (case hc => exact own_cell (i := 1) rfl rfl)) | ((with_reducible apply XP.pr); (case ho => exact rfl); (case hg => exact rfl); (case hr => ((with_reducible apply PR.idxA); (case ht | hk | he | hx | hi => exact rfl); (case hr => first | assumption | omega); (case ha => first | assumption | exact SlA.at_ (by assumption))))) | ((with_reducible apply XP.e); (first | ((with_reducible apply XE.d); (case ho => exact rfl); (case hd => exact rfl)) | ((with_reducible apply XE.e); (case ho => exact rfl)))) | (first | ((with_reducible apply XOp.load); (case hg | ht | hk | hx => exact rfl); (case hc => exact Known.of_old (hXM.rawAt hi 2 _ rfl) (Mono.cell _ _))) | ((with_reducible apply XP.load); (case ho | hg | ht | hk | hx => exact rfl); (case hc => exact Known.of_old (hXM.rawAt hi 2 _ rfl) (Mono.cell _ _))))))
    ((with_reducible apply XOp.buildSlice); (case hg | ht | hk | he | hz | hzl | hf => exact rfl); intro bb)
    (refine ⟨fun y_ hy_ => (by rcases List.mem_cons.1 hy_ with rfl | hy_; simp; (rw [List.mem_singleton.1 hy_]; simp)), ?_⟩)
    (repeat (((with_reducible apply XP.e); (first | ((with_reducible apply XE.d); (case ho => exact rfl); (case hd => exact rfl)) | ((with_reducible apply XE.e); (case ho => exact rfl))))))
    (refine (show XOp _ _ _ _ _ _ _ _ ((bb, Obj.cells ⟨[slv l.d]⟩ 24 (0, 0)) :: (([(wb, Obj.cells ⟨x.cells⟩ 31 (0, 0)), LsB lb (.slice aq m2 cq) vT vL vM] ++ (FT ++ (FL ++ FM))) ++ F)) from XOp.perm (L' :=  (bb, Obj.cells ⟨[slv l.d]⟩ 24 (0, 0)) :: (([(wb, Obj.cells ⟨x.cells⟩ 31 (0, 0)), LsB lb (.slice aq m2 cq) vT vL vM] ++ (FT ++ (FL ++ FM))) ++ F)) rfl ?_ (by (first | (with_reducible exact List.Perm.refl _) | refine perm_of_cnt fun p_ => ?_; simp only [List.countP_append, List.countP_cons, List.countP_nil]; omega))))
    ((with_reducible apply XOp.append1R (R := [(wb, Obj.cells ⟨x.cells⟩ 31 (0, 0)), LsB lb (.slice aq m2 cq) vT vL vM] ++ (FT ++ (FL ++ FM)))); (case hg => exact rfl); (case ht => exact rfl); (case hk => exact rfl); (case he => exact rfl); (case hown => exact hF); (case hs => exact rfl); (case hx => exact rfl); (case hL => exact rfl); (case hl => exact rfl); (case h1 => exact rfl); (case hz => exact rfl); (case hsz => exact Nat.zero_lt_succ _); (case hk0 => exact Nat.zero_lt_succ _); (case h63 => simp only [maxLen]; omega); (case hb => simp only []; omega); intro v_ F_ hown_; obtain ⟨a_, c_, rfl⟩ := hown_.val)
    (refine ⟨fun y_ hy_ => (by rcases List.mem_cons.1 hy_ with rfl | hy_; simp; (rw [List.mem_singleton.1 hy_]; simp)), ?_⟩)
    (repeat (first | (with_reducible apply XL.op) | ((with_reducible apply XOp.p1); (case hg | hv => exact rfl)) | ((with_reducible apply XOp.store (i := 1)); (case hg | ht | hk | hx | hv | h1 | hi | hs | ha => exact rfl)) | (with_reducible apply XL.nilT) | (with_reducible apply XC.region (Γ := Γ)) | (with_reducible apply XQ.nt) | (with_reducible apply XQ.nb) | ((with_reducible apply XP.p1); (case ho | hg | hv => exact rfl)) | (with_reducible apply XP.done) | ((with_reducible apply XP.e); (first | ((with_reducible apply XE.d); (case ho => exact rfl); (case hd => exact rfl)) | ((with_reducible apply XE.e); (case ho => exact rfl))))))
    refine ⟨k - 1, by omega, _, .of (List.Sublist.refl _), i + 1, m2 + 1, _, F_, by omega, by omega, hown_.conv rfl ?_, rfl, rfl, rfl, intS (m := x.M.1.length) (by omega) (by omega), trivial⟩
    rw [take_snocD hi, List.map_append]
    simp [zerosL]
  obtain rfl : i = x.M.1.length := by omega
  rw [List.take_length] at hF
  clear hs hik
  (repeat (first | (with_reducible apply XC.seq) | (with_reducible apply XQ.exit) | (with_reducible apply XQ.nt) | (with_reducible apply XQ.et) | ((with_reducible apply XQ.eb); (case hb => exact rfl))))
  obtain ⟨aT, cT, rfl⟩ := hT.val
  ((with_reducible apply XC.regionL (Γ := Γ) mixed (.q 0 (.q 1 (.q 2 (.q 3 (.q 4 (.q 5 (.q 6 (.e 7 (.e 8 (.q 9 (.q 10 (.e 11 (.done))))))))))))) [11] ([(wb, Obj.cells ⟨x.cells⟩ 31 (0, 0)), LsB lb (.slice aq m2 cq) (.slice aT g.T.length cT) vL vM])); (case hc => kernel_rfl); (case hs => first | exact List.nil_sublist _ | exact List.Sublist.refl _ | exact List.sublist_append_right _ _ | (refine List.Sublist.cons_cons _ (List.nil_sublist _)) | (refine List.Sublist.cons_cons _ (List.Sublist.cons_cons _ (List.nil_sublist _))) | (refine List.Sublist.cons_cons _ (List.Sublist.cons_cons _ (List.Sublist.cons_cons _ (List.nil_sublist _)))) | (refine List.Sublist.cons_cons _ (List.Sublist.cons_cons _ (List.Sublist.cons_cons _ (List.Sublist.cons_cons _ (List.nil_sublist _))))) | ((try simp only [List.append_eq, List.cons_append, List.nil_append, List.append_assoc]); (repeat (first | exact List.Sublist.refl _ | exact List.nil_sublist _ | (with_reducible apply List.Sublist.cons_cons) | (with_reducible apply List.Sublist.cons))); done)))
  (repeat (first | ((with_reducible apply XP.p1); (case ho | hg | hv => exact rfl)) | ((with_reducible apply XP.load); (case ho | hg | ht | hk | hx => exact rfl); (case hc => exact own_cell (i := 0) rfl rfl)) | ((with_reducible apply XP.load); (case ho | hg | ht | hk | hx => exact rfl); (case hc => exact own_cell (i := 1) rfl rfl)) | ((with_reducible apply XP.e); (first | ((with_reducible apply XE.d); (case ho => exact rfl); (case hd => exact rfl)) | ((with_reducible apply XE.e); (case ho => exact rfl))))))
  ((with_reducible apply XOp.buildSlice); (case hg | ht | hk | he | hz | hzl | hf => exact rfl); intro bb)
  (refine ⟨fun y_ hy_ => (by rcases List.mem_cons.1 hy_ with rfl | hy_; simp; (rw [List.mem_singleton.1 hy_]; simp)), ?_⟩)
  (repeat (((with_reducible apply XP.e); (first | ((with_reducible apply XE.d); (case ho => exact rfl); (case hd => exact rfl)) | ((with_reducible apply XE.e); (case ho => exact rfl))))))
  (refine (show XOp _ _ _ _ _ _ _ _ ((bb, Obj.cells ⟨[sla x.T]⟩ 27 (0, 0)) :: ([(wb, Obj.cells ⟨x.cells⟩ 31 (0, 0)), LsB lb (.slice aq m2 cq) (.slice aT g.T.length cT) vL vM] ++ (FT ++ (FL ++ FM)) ++ F)) from XOp.perm (L' :=  (bb, Obj.cells ⟨[sla x.T]⟩ 27 (0, 0)) :: (([(wb, Obj.cells ⟨x.cells⟩ 31 (0, 0)), LsB lb (.slice aq m2 cq) (.slice aT g.T.length cT) vL vM] ++ (F ++ (FL ++ FM))) ++ FT)) rfl ?_ (by (first | (with_reducible exact List.Perm.refl _) | refine perm_of_cnt fun p_ => ?_; simp only [List.countP_append, List.countP_cons, List.countP_nil]; omega))))
  ((with_reducible apply XOp.append1R (R := [(wb, Obj.cells ⟨x.cells⟩ 31 (0, 0)), LsB lb (.slice aq m2 cq) (.slice aT g.T.length cT) vL vM] ++ (F ++ (FL ++ FM)))); (case hg => exact rfl); (case ht => exact rfl); (case hk => exact rfl); (case he => exact rfl); (case hown => exact hT); (case hs => exact rfl); (case hx => exact rfl); (case hL => exact rfl); (case hl => exact rfl); (case h1 => exact rfl); (case hz => exact rfl); (case hsz => exact Nat.zero_lt_succ _); (case hk0 => exact Nat.zero_lt_succ _); (case h63 => simp only [maxLen]; omega); (case hb => simp only []; omega); intro v_ F_ hown_; obtain ⟨a_, c_, rfl⟩ := hown_.val)
  (refine ⟨fun y_ hy_ => (by rcases List.mem_cons.1 hy_ with rfl | hy_; simp; (rw [List.mem_singleton.1 hy_]; simp)), ?_⟩)
  have oT := hown_
  clear hown_
  generalize F_ = FT' at *
  generalize a_ = aT' at *
  generalize c_ = cT' at *
  (repeat (first | ((with_reducible apply XOp.store (i := 1)); (case hg | ht | hk | hx | hv | h1 | hi | hs | ha => exact rfl)) | (with_reducible apply XC.seq) | (with_reducible apply XQ.nt) | ((with_reducible apply XP.p1); (case ho | hg | hv => exact rfl)) | (with_reducible apply XP.done) | ((with_reducible apply XP.e); (first | ((with_reducible apply XE.d); (case ho => exact rfl); (case hd => exact rfl)) | ((with_reducible apply XE.e); (case ho => exact rfl))))))
  obtain ⟨aL, cL, rfl⟩ := hL.val
  ((with_reducible apply XC.regionL (Γ := Γ) mixed (.q 0 (.q 1 (.q 2 (.q 3 (.q 4 (.q 5 (.q 6 (.e 7 (.e 8 (.q 9 (.q 10 (.e 11 (.done))))))))))))) [11] ([(wb, Obj.cells ⟨x.cells⟩ 31 (0, 0)), LsB lb (.slice aq m2 cq) (.slice aT' (g.T.length + 1) cT') (.slice aL g.L.length cL) vM])); (case hc => kernel_rfl); (case hs => first | exact List.nil_sublist _ | exact List.Sublist.refl _ | exact List.sublist_append_right _ _ | (refine List.Sublist.cons_cons _ (List.nil_sublist _)) | (refine List.Sublist.cons_cons _ (List.Sublist.cons_cons _ (List.nil_sublist _))) | (refine List.Sublist.cons_cons _ (List.Sublist.cons_cons _ (List.Sublist.cons_cons _ (List.nil_sublist _)))) | (refine List.Sublist.cons_cons _ (List.Sublist.cons_cons _ (List.Sublist.cons_cons _ (List.Sublist.cons_cons _ (List.nil_sublist _))))) | ((try simp only [List.append_eq, List.cons_append, List.nil_append, List.append_assoc]); (repeat (first | exact List.Sublist.refl _ | exact List.nil_sublist _ | (with_reducible apply List.Sublist.cons_cons) | (with_reducible apply List.Sublist.cons))); done)))
  (repeat (first | ((with_reducible apply XP.p1); (case ho | hg | hv => exact rfl)) | ((with_reducible apply XP.load); (case ho | hg | ht | hk | hx => exact rfl); (case hc => exact own_cell (i := 0) rfl rfl)) | ((with_reducible apply XP.load); (case ho | hg | ht | hk | hx => exact rfl); (case hc => exact own_cell (i := 1) rfl rfl)) | ((with_reducible apply XP.e); (first | ((with_reducible apply XE.d); (case ho => exact rfl); (case hd => exact rfl)) | ((with_reducible apply XE.e); (case ho => exact rfl))))))
  ((with_reducible apply XOp.buildSlice); (case hg | ht | hk | he | hz | hzl | hf => exact rfl); intro bb)
  (refine ⟨fun y_ hy_ => (by rcases List.mem_cons.1 hy_ with rfl | hy_; simp; (rw [List.mem_singleton.1 hy_]; simp)), ?_⟩)
  (repeat (((with_reducible apply XP.e); (first | ((with_reducible apply XE.d); (case ho => exact rfl); (case hd => exact rfl)) | ((with_reducible apply XE.e); (case ho => exact rfl))))))
  (refine (show XOp _ _ _ _ _ _ _ _ ((bb, Obj.cells ⟨[sla x.Ls]⟩ 28 (0, 0)) :: (([(wb, Obj.cells ⟨x.cells⟩ 31 (0, 0)), LsB lb (.slice aq m2 cq) (.slice aT' (g.T.length + 1) cT') (.slice aL g.L.length cL) vM] ++ (F ++ (FL ++ FM))) ++ FT')) from XOp.perm (L' :=  (bb, Obj.cells ⟨[sla x.Ls]⟩ 28 (0, 0)) :: (([(wb, Obj.cells ⟨x.cells⟩ 31 (0, 0)), LsB lb (.slice aq m2 cq) (.slice aT' (g.T.length + 1) cT') (.slice aL g.L.length cL) vM] ++ (F ++ (FT' ++ FM))) ++ FL)) rfl ?_ (by (first | (with_reducible exact List.Perm.refl _) | refine perm_of_cnt fun p_ => ?_; simp only [List.countP_append, List.countP_cons, List.countP_nil]; omega))))
  ((with_reducible apply XOp.append1R (R := [(wb, Obj.cells ⟨x.cells⟩ 31 (0, 0)), LsB lb (.slice aq m2 cq) (.slice aT' (g.T.length + 1) cT') (.slice aL g.L.length cL) vM] ++ (F ++ (FT' ++ FM)))); (case hg => exact rfl); (case ht => exact rfl); (case hk => exact rfl); (case he => exact rfl); (case hown => exact hL); (case hs => exact rfl); (case hx => exact rfl); (case hL => exact rfl); (case hl => exact rfl); (case h1 => exact rfl); (case hz => exact rfl); (case hsz => exact Nat.zero_lt_succ _); (case hk0 => exact Nat.zero_lt_succ _); (case h63 => simp only [maxLen]; omega); (case hb => simp only []; omega); intro v_ F_ hown_; obtain ⟨a_, c_, rfl⟩ := hown_.val)
  (refine ⟨fun y_ hy_ => (by rcases List.mem_cons.1 hy_ with rfl | hy_; simp; (rw [List.mem_singleton.1 hy_]; simp)), ?_⟩)
  have oL := hown_
  clear hown_
  generalize F_ = FL' at *
  generalize a_ = aL' at *
  generalize c_ = cL' at *
  (repeat (first | ((with_reducible apply XOp.store (i := 1)); (case hg | ht | hk | hx | hv | h1 | hi | hs | ha => exact rfl)) | (with_reducible apply XQ.nt) | ((with_reducible apply XP.p1); (case ho | hg | hv => exact rfl)) | (with_reducible apply XP.done) | ((with_reducible apply XP.e); (first | ((with_reducible apply XE.d); (case ho => exact rfl); (case hd => exact rfl)) | ((with_reducible apply XE.e); (case ho => exact rfl))))))
  obtain ⟨aM, cM, rfl⟩ := hM.val
  ((with_reducible apply XC.regionL (Γ := Γ) mixed (.q 0 (.q 1 (.q 2 (.q 3 (.q 4 (.q 5 (.q 6 (.e 7 (.e 8 (.q 9 (.q 10 (.e 11 (.done))))))))))))) [11] ([(wb, Obj.cells ⟨x.cells⟩ 31 (0, 0)), LsB lb (.slice aq m2 cq) (.slice aT' (g.T.length + 1) cT') (.slice aL' (g.L.length + 1) cL') (.slice aM g.M.length cM)])); (case hc => kernel_rfl); (case hs => first | exact List.nil_sublist _ | exact List.Sublist.refl _ | exact List.sublist_append_right _ _ | (refine List.Sublist.cons_cons _ (List.nil_sublist _)) | (refine List.Sublist.cons_cons _ (List.Sublist.cons_cons _ (List.nil_sublist _))) | (refine List.Sublist.cons_cons _ (List.Sublist.cons_cons _ (List.Sublist.cons_cons _ (List.nil_sublist _)))) | (refine List.Sublist.cons_cons _ (List.Sublist.cons_cons _ (List.Sublist.cons_cons _ (List.Sublist.cons_cons _ (List.nil_sublist _))))) | ((try simp only [List.append_eq, List.cons_append, List.nil_append, List.append_assoc]); (repeat (first | exact List.Sublist.refl _ | exact List.nil_sublist _ | (with_reducible apply List.Sublist.cons_cons) | (with_reducible apply List.Sublist.cons))); done)))
  (repeat (first | ((with_reducible apply XP.p1); (case ho | hg | hv => exact rfl)) | ((with_reducible apply XP.load); (case ho | hg | ht | hk | hx => exact rfl); (case hc => exact own_cell (i := 0) rfl rfl)) | ((with_reducible apply XP.load); (case ho | hg | ht | hk | hx => exact rfl); (case hc => exact own_cell (i := 1) rfl rfl)) | ((with_reducible apply XP.e); (first | ((with_reducible apply XE.d); (case ho => exact rfl); (case hd => exact rfl)) | ((with_reducible apply XE.e); (case ho => exact rfl))))))
  ((with_reducible apply XOp.buildSlice); (case hg | ht | hk | he | hz | hzl | hf => exact rfl); intro bb)
  (refine ⟨fun y_ hy_ => (by rcases List.mem_cons.1 hy_ with rfl | hy_; simp; (rw [List.mem_singleton.1 hy_]; simp)), ?_⟩)
  (repeat (((with_reducible apply XP.e); (first | ((with_reducible apply XE.d); (case ho => exact rfl); (case hd => exact rfl)) | ((with_reducible apply XE.e); (case ho => exact rfl))))))
  (refine (show XOp _ _ _ _ _ _ _ _ ((bb, Obj.cells ⟨[sla x.M]⟩ 29 (0, 0)) :: (([(wb, Obj.cells ⟨x.cells⟩ 31 (0, 0)), LsB lb (.slice aq m2 cq) (.slice aT' (g.T.length + 1) cT') (.slice aL' (g.L.length + 1) cL') (.slice aM g.M.length cM)] ++ (F ++ (FT' ++ FM))) ++ FL')) from XOp.perm (L' :=  (bb, Obj.cells ⟨[sla x.M]⟩ 29 (0, 0)) :: (([(wb, Obj.cells ⟨x.cells⟩ 31 (0, 0)), LsB lb (.slice aq m2 cq) (.slice aT' (g.T.length + 1) cT') (.slice aL' (g.L.length + 1) cL') (.slice aM g.M.length cM)] ++ (F ++ (FT' ++ FL'))) ++ FM)) rfl ?_ (by (first | (with_reducible exact List.Perm.refl _) | refine perm_of_cnt fun p_ => ?_; simp only [List.countP_append, List.countP_cons, List.countP_nil]; omega))))
  ((with_reducible apply XOp.append1R (R := [(wb, Obj.cells ⟨x.cells⟩ 31 (0, 0)), LsB lb (.slice aq m2 cq) (.slice aT' (g.T.length + 1) cT') (.slice aL' (g.L.length + 1) cL') (.slice aM g.M.length cM)] ++ (F ++ (FT' ++ FL')))); (case hg => exact rfl); (case ht => exact rfl); (case hk => exact rfl); (case he => exact rfl); (case hown => exact hM); (case hs => exact rfl); (case hx => exact rfl); (case hL => exact rfl); (case hl => exact rfl); (case h1 => exact rfl); (case hz => exact rfl); (case hsz => exact Nat.zero_lt_succ _); (case hk0 => exact Nat.zero_lt_succ _); (case h63 => simp only [maxLen]; omega); (case hb => simp only []; omega); intro v_ F_ hown_; obtain ⟨a_, c_, rfl⟩ := hown_.val)
  (refine ⟨fun y_ hy_ => (by rcases List.mem_cons.1 hy_ with rfl | hy_; simp; (rw [List.mem_singleton.1 hy_]; simp)), ?_⟩)
  (repeat (first | ((with_reducible apply XOp.store (i := 1)); (case hg | ht | hk | hx | hv | h1 | hi | hs | ha => exact rfl)) | ((with_reducible apply XP.p1); (case ho | hg | hv => exact rfl)) | (with_reducible apply XP.done) | ((with_reducible apply XP.e); (first | ((with_reducible apply XE.d); (case ho => exact rfl); (case hd => exact rfl)) | ((with_reducible apply XE.e); (case ho => exact rfl))))))
  ((with_reducible apply XQ.norE); (case hr => exact .nil))
  have hn : m2 = (g.add x).N.length := by
    show m2 = (g.N ++ x.nl).length
    unfold LW.nl
    simp only [List.length_append, List.length_cons, List.length_nil, List.length_map, nl_len]; omega
  refine ⟨LsB lb (.slice aq m2 cq) (.slice aT' (g.T.length + 1) cT') (.slice aL' (g.L.length + 1) cL') (.slice a_ (g.M.length + 1) c_) :: (F ++ (FT' ++ (FL' ++ F_))), .of (List.Sublist.cons _ (List.Sublist.cons_cons _ (by show List.Sublist _ (([] ++ (F ++ (FT' ++ FL'))) ++ F_); simp))), _, _, _, _, F, FT', FL', F_, hF.conv hn rfl, oT.conv (by simp [GL.add]) (by simp [GL.add, zerosL]), oL.conv (by simp [GL.add]) (by simp [GL.add, zerosL]), hown_.conv (by simp [GL.add]) (by simp [GL.add, zerosL]), rfl⟩
end Go.Proofs.YtppggaiahkecoaaDoorX
/- lone: all lists are written full, each with a mark of its own; then appended to; then looked at. -/
namespace Go.Proofs.YtppggaiahkecoaaDoorX
open Go Go.SX
/-- Of each element, in its turn, what it has. -/
def EachAll {α : Type} (P : Nat → α → HL → Prop) : Nat → List α → HL → Prop
  | _, [], L => L = []
  | k, x :: xs, L => ∃ F G, P k x F ∧ EachAll P (k + 1) xs G ∧ L = F ++ G
theorem EachAll.snoc {α : Type} {P : Nat → α → HL → Prop} : ∀ {xs : List α} {k : Nat} {x : α} {F G : HL}, EachAll P k xs F → P (k + xs.length) x G → EachAll P k (xs ++ [x]) (F ++ G)
  | [], k, x, F, G, h, g => by obtain rfl : F = [] := h; exact ⟨G, [], g, rfl, by simp⟩
  | y :: ys, k, x, F, G, ⟨A, B, ha, hb, e⟩, g => by
    subst e
    exact ⟨A, B ++ G, ha, EachAll.snoc hb (by rw [show k + 1 + ys.length = k + (y :: ys).length by simp; omega]; exact g), List.append_assoc _ _ _⟩
theorem EachAll.get {α : Type} {P : Nat → α → HL → Prop} : ∀ {xs : List α} {k i : Nat} {x : α} {F : HL}, EachAll P k xs F → xs[i]? = some x → ∃ G, P (k + i) x G ∧ ∀ y ∈ G, y ∈ F
  | [], k, i, x, F, h, g => by simp at g
  | y :: ys, k, i, x, F, ⟨A, B, ha, hb, e⟩, g => by
    subst e
    cases i with
    | zero => simp at g; subst g; exact ⟨A, ha, fun z hz => List.mem_append_left _ hz⟩
    | succ i =>
      obtain ⟨G, h1, h2⟩ := EachAll.get hb (i := i) (by simpa using g)
      exact ⟨G, by rw [show k + (i + 1) = k + 1 + i by omega]; exact h1, fun z hz => List.mem_append_right _ (h2 z hz)⟩
theorem EachAll.own : ∀ {xs : List LV} {k : Nat} {F : HL}, OwnAll xs F → EachAll (fun _ x F => OwnV x F) k xs F
  | [], _, _, h => h
  | _ :: _, _, _, ⟨A, B, ha, hb, e⟩ => ⟨A, B, ha, EachAll.own hb, e⟩
def stL {α : Type} (f : α → α) (xs : List α) (i : Nat) : List α := (xs.take i).map f ++ xs.drop i
theorem stL_len {α : Type} (f : α → α) (xs : List α) (i : Nat) : (stL f xs i).length = xs.length := by simp [stL]; omega
theorem stL_zero {α : Type} (f : α → α) (xs : List α) : stL f xs 0 = xs := by simp [stL]
theorem stL_all {α : Type} (f : α → α) (xs : List α) : stL f xs xs.length = xs.map f := by simp [stL]
theorem stL_set {α : Type} (f : α → α) (xs : List α) (i : Nat) (x : α) (h : xs[i]? = some x) : (stL f xs i).set i (f x) = stL f xs (i + 1) := by
  have hl := (List.getElem?_eq_some_iff.1 h).1
  unfold stL
  rw [List.set_append_right _ _ (by simp; omega), List.drop_eq_getElem_cons hl, take_snocD h]
  have e : i - ((xs.take i).map f).length = 0 := by simp; omega
  rw [e]; simp [(List.getElem?_eq_some_iff.1 h).2]
theorem stV_set {α : Type} (f : α → α) (g : α → Value) (xs : List α) (sp : List Value) (i : Nat) (x : α) (h : xs[i]? = some x) : i < ((stL f xs i).map g ++ sp).length ∧ ((stL f xs i).map g ++ sp).set i (g (f x)) = (stL f xs (i + 1)).map g ++ sp := by
  have hl := (List.getElem?_eq_some_iff.1 h).1
  refine ⟨by rw [List.length_append, List.length_map, stL_len]; omega, ?_⟩
  rw [List.set_append_left _ _ (by rw [List.length_map, stL_len]; exact hl), ← List.map_set, stL_set f xs i x h]
theorem map_flat : ∀ ns : List LV, ns.map slv = ns.flatMap fun x => [slv x]
  | [] => rfl
  | a :: l => by rw [List.flatMap_cons, List.map_cons, map_flat l]; rfl
theorem map_flat2 : ∀ ns : List (LV × Option Addr × Nat), (ns.map fun p => Value.slice p.2.1 (p.1.1.length + 80) p.2.2) = ns.flatMap fun p => [.slice p.2.1 (p.1.1.length + 80) p.2.2]
  | [] => rfl
  | a :: l => by rw [List.flatMap_cons, List.map_cons, map_flat2 l]; rfl
def mkI (i : Nat) : Int := IntKind.i8.wrap (((i : Nat) : Int).tmod 100)
def FillV (i : Nat) (x : LV) (F : HL) : Prop := OwnS 39 1 (slv x) x.1.length ((x.1.map fun _ => mkI i).map (.int .i8)) F
def PairV (i : Nat) (p : LV × Option Addr × Nat) (Z : HL) : Prop := ∃ F O, Z = F ++ O ∧ OwnS 39 1 (.slice p.2.1 (p.1.1.length + 80) p.2.2) (p.1.1.length + 80) ((p.1.1.map fun _ => mkI i).map (.int .i8) ++ List.replicate 80 (.int .i8 111)) F ∧ OldIn 39 p.1.2.1 p.1.1.length ((p.1.1.map fun _ => mkI i).map (.int .i8)) (F ++ O)
set_option maxHeartbeats 16000000 in
theorem lone_fn (lb : Nat) (ns : List LV) (vN vT vL vM : Value) (FN FA : HL) (hN : OwnS 24 1 vN ns.length (ns.map slv) FN) (hA : OwnAll ns FA) (hb : ns.length ≤ 1000000) (hl : ∀ x ∈ ns, x.1.length ≤ 2000000000) :
    FC Tryd.prog 19 [.pointer (some ⟨lb, 0, none⟩)] (LsB lb vN vT vL vM :: (FN ++ FA)) (fun _ => True) (fun v L => v = .bool true ∧ L = [LsB lb vN vT vL vM]) := by
  refine FC.sub2 ?_
  obtain ⟨aN, cN, rfl⟩ := hN.val
  have sN : SlA (Kd.raw (fun x : LV => [slv x]) 1 (fun _ => rfl)) 24 (fv FN) ns aN cN := by
    have h0 : OwnS 24 1 (.slice aN ns.length cN) ns.length (ns.flatMap fun x => [slv x]) FN := hN.conv rfl (map_flat ns)
    obtain ⟨_, _, e, s⟩ := h0.raw (f := fun x : LV => [slv x]) (k := 1) (hk := fun _ => rfl) (by_ := 24) rfl (by omega)
    obtain ⟨rfl, _, rfl⟩ := Value.slice.inj e
    exact s
  have hNa := sN.at_
  have kN : Held FN (fun h => SlA (Kd.raw (fun x : LV => [slv x]) 1 (fun _ => rfl)) 24 h ns aN cN) := Held.frag sN (Mono.sl _ _ _ _ _)
  refine FC.intro Tryd.func19 rfl (by kernel_rfl) 134 [.tmp 2] rfl rfl rfl ?_
  intro w0 _
  (repeat (first | (with_reducible apply XL.op) | ((with_reducible apply XOp.p1); (case hg | hv => exact rfl)) | (with_reducible apply XL.nilT) | (with_reducible apply XC.seq) | (with_reducible apply XC.region (Γ := Γ)) | (with_reducible apply XC.block)))
  refine XC.loopP (fun k ρ L => ∃ (i : Nat) (F1 F2 : HL), i + k = ns.length ∧ EachAll FillV 0 (ns.take i) F1 ∧ EachAll (fun _ x F => OwnV x F) i (ns.drop i) F2 ∧ L = LsB lb (.slice aN ns.length cN) vT vL vM :: (FN ++ (F1 ++ F2)) ∧ Slots ρ [(0, .pointer (some ⟨lb, 0, none⟩)), (3, .slice none 0 0), (4, .int .i64 i)])
    ns.length ⟨0, [], FA, by simp, rfl, EachAll.own hA, rfl, rfl, rfl, rfl, trivial⟩ ?_
  rintro k ρ L ⟨i, F1, F2, hik, h1, h2, rfl, hs⟩
  refine XC.slots _ hs ?_
  (repeat (first | (with_reducible apply XL.op) | ((with_reducible apply XOp.p1); (case hg | hv => exact rfl)) | ((with_reducible apply XOp.load); (case hg | ht | hk | hx => exact rfl); (case hc => exact own_cell (i := 0) rfl rfl)) | (with_reducible apply XL.nilT) | (with_reducible apply XC.seq) | (with_reducible apply XC.region (Γ := Γ))))
  ((with_reducible apply XC.cond); (case hc => exact rfl); all_goals (intro hb_; try simp only [pd_true, pd_false, Bool.not_eq_true', Bool.not_eq_false', Bool.and_eq_true, Bool.and_eq_false_iff, Bool.or_eq_true, Bool.or_eq_false_iff, not_true_eq_false, not_false_eq_true, Int.not_lt, Int.not_le] at hb_))
  · obtain ⟨x, hx⟩ : ∃ x, ns[i]? = some x := ⟨_, List.getElem?_eq_getElem (by omega)⟩
    have hxl := hl x (List.mem_of_getElem? hx)
    rw [List.drop_eq_getElem_cons (by omega), (List.getElem?_eq_some_iff.1 hx).2] at h2
    obtain ⟨Fx, G2, hX, h2, rfl⟩ := h2
    (repeat (first | (with_reducible apply XL.op) | ((with_reducible apply XOp.p1); (case hg | hv => exact rfl)) | (with_reducible apply XL.nilT) | (with_reducible apply XC.seq) | (with_reducible apply XC.region (Γ := Γ)) | (with_reducible apply XQ.skip) | (with_reducible apply XQ.nt) | (with_reducible apply XC.block)))
    refine XC.perm (L' := LsB lb (.slice aN ns.length cN) vT vL vM :: (Fx ++ (FN ++ (F1 ++ G2)))) ?_ (by (first | (with_reducible exact List.Perm.refl _) | refine perm_of_cnt fun p_ => ?_; simp only [List.countP_append, List.countP_cons, List.countP_nil]; omega))
    refine XC.loop (fun k ρ L => ∃ (j : Nat) (F : HL), j + k = x.1.length ∧ OwnS 39 1 (slv x) x.1.length ((stL (fun _ => mkI i) x.1 j).map (.int .i8)) F ∧ L = LsB lb (.slice aN ns.length cN) vT vL vM :: (F ++ (FN ++ (F1 ++ G2))) ∧ Slots ρ [(0, .pointer (some ⟨lb, 0, none⟩)), (3, .slice none 0 0), (4, .int .i64 i), (5, .int .i64 j)])
      x.1.length ⟨0, Fx, by simp, hX.1.conv rfl (by rw [stL_zero]), rfl, rfl, rfl, rfl, rfl, trivial⟩ ?_
    rintro k2 ρ L ⟨j, F, hjk, hF, rfl, hs⟩
    refine XC.slots _ hs ?_
    (repeat (first | (with_reducible apply XL.op) | ((with_reducible apply XOp.p1); (case hg | hv => exact rfl)) | ((with_reducible apply XOp.load); (case hg | ht | hk | hx => exact rfl); (case hc => exact own_cell (i := 0) rfl rfl)) | ((with_reducible apply XOp.pr); (case hg => exact rfl); (case hr => ((with_reducible apply PR.idxA); (case ht | hk | he | hx | hi => exact rfl); (case hr => first | assumption | omega); (case ha => first | assumption | exact SlA.at_ (by assumption))))) | (with_reducible apply XL.nilT) | (with_reducible apply XC.seq) | (with_reducible apply XC.region (Γ := Γ)) | (first | ((with_reducible apply XOp.load); (case hg | ht | hk | hx => exact rfl); (case hc => exact (kN.known (fun z hz => by simp [hz])).imp fun h s => s.rawAt hx 0 _ rfl)) | ((with_reducible apply XP.load); (case ho | hg | ht | hk | hx => exact rfl); (case hc => exact (kN.known (fun z hz => by simp [hz])).imp fun h s => s.rawAt hx 0 _ rfl)))))
    ((with_reducible apply XC.cond); (case hc => exact rfl); all_goals (intro hb_; try simp only [pd_true, pd_false, Bool.not_eq_true', Bool.not_eq_false', Bool.and_eq_true, Bool.and_eq_false_iff, Bool.or_eq_true, Bool.or_eq_false_iff, not_true_eq_false, not_false_eq_true, Int.not_lt, Int.not_le] at hb_))
    · obtain ⟨y, hy⟩ : ∃ y, x.1[j]? = some y := ⟨_, List.getElem?_eq_getElem (by omega)⟩
      obtain ⟨g, cp, sp, e1, rfl, q1, q2, q3, q4⟩ := hF.blk (by omega)
      obtain ⟨xa, xad, xc⟩ := x
      replace hjk : j + k2 = xa.length := hjk
      replace hxl : xa.length ≤ 2000000000 := hxl
      have hb2_ : ((j : Nat) : Int) < ((xa.length : Nat) : Int) := hb_
      obtain ⟨rfl, _, rfl⟩ := Value.slice.inj e1
      (repeat (first | (with_reducible apply XL.op) | ((with_reducible apply XOp.p1); (case hg | hv => exact rfl)) | ((with_reducible apply XOp.load); (case hg | ht | hk | hx => exact rfl); (case hc => exact own_cell (i := 0) rfl rfl)) | ((with_reducible apply XOp.pr); (case hg => exact rfl); (case hr => ((with_reducible apply PR.idxA); (case ht | hk | he | hx | hi => exact rfl); (case hr => first | assumption | omega); (case ha => first | assumption | exact SlA.at_ (by assumption))))) | ((with_reducible apply XOp.pr); (case hg => exact rfl); (case hr => ((with_reducible apply PR.idx); (case ht | hk | he | hx | hi => exact rfl); (case hr => first | assumption | omega)))) | (with_reducible apply XC.seq) | (with_reducible apply XC.region (Γ := Γ)) | (with_reducible apply XQ.skip) | (with_reducible apply XQ.nt) | (with_reducible apply XC.block) | (first | ((with_reducible apply XOp.load); (case hg | ht | hk | hx => exact rfl); (case hc => exact (kN.known (fun z hz => by simp [hz])).imp fun h s => s.rawAt hx 0 _ rfl)) | ((with_reducible apply XP.load); (case ho | hg | ht | hk | hx => exact rfl); (case hc => exact (kN.known (fun z hz => by simp [hz])).imp fun h s => s.rawAt hx 0 _ rfl)))))
      ((with_reducible apply XOp.storeE (i := 1) (cs' := ((stL (fun _ => mkI i) xa (j + 1)).map (.int .i8) ++ sp))); (case hg => exact rfl); (case ht => exact rfl); (case hk => exact rfl); (case hx => exact rfl); (case hv' => exact rfl); (case h1 => exact rfl); (case hi => exact rfl); (case hs => exact (show 0 + ((j : Nat) : Int).toNat * 1 < _ ∧ List.set _ (0 + ((j : Nat) : Int).toNat * 1) _ = _ from (by rw [show 0 + ((j : Nat) : Int).toNat * 1 = j by omega]; exact stV_set (fun _ => mkI i) (.int .i8) xa sp j y hy))); (case ha => exact rfl))
      (repeat (first | (with_reducible apply XL.op) | ((with_reducible apply XOp.p1); (case hg | hv => exact rfl)) | (with_reducible apply XL.nilT) | (with_reducible apply XC.region (Γ := Γ)) | (with_reducible apply XL.nilQ) | (with_reducible apply XQ.nt) | (with_reducible apply XQ.nb)))
      exact ⟨k2 - 1, by omega, j + 1, _, (by show j + 1 + (k2 - 1) = xa.length; omega), ⟨by simp [stL_len], .inr ⟨g, xc, sp, rfl, rfl, q1, q2, by simpa [stL_len] using q4⟩⟩, rfl, rfl, rfl, rfl, intS (m := xa.length) (by omega) (by omega), trivial⟩
    · obtain rfl : j = x.1.length := by omega
      rw [stL_all] at hF
      (repeat (first | (with_reducible apply XL.op) | ((with_reducible apply XOp.p1); (case hg | hv => exact rfl)) | (with_reducible apply XL.nilT) | (with_reducible apply XC.region (Γ := Γ)) | (with_reducible apply XQ.exit) | (with_reducible apply XQ.nt) | (with_reducible apply XQ.nb) | (with_reducible apply XQ.et) | ((with_reducible apply XQ.eb); (case hb => exact rfl))))
      refine ⟨k - 1, by omega, LsB lb (.slice aN ns.length cN) vT vL vM :: (FN ++ ((F1 ++ F) ++ G2)), .perm (by (first | (with_reducible exact List.Perm.refl _) | refine perm_of_cnt fun p_ => ?_; simp only [List.countP_append, List.countP_cons, List.countP_nil]; omega)), i + 1, F1 ++ F, G2, by omega, ?_, h2, rfl, rfl, rfl, intS (m := ns.length) (by omega) (by omega), trivial⟩
      rw [take_snocD hx]
      exact EachAll.snoc h1 (by rw [Nat.zero_add, List.length_take, Nat.min_eq_left (by omega)]; exact hF)
  obtain rfl : i = ns.length := by omega
  rw [List.take_length] at h1
  rw [List.drop_length] at h2
  obtain rfl : F2 = [] := h2
  clear hs hik hA
  (repeat (first | (with_reducible apply XL.op) | ((with_reducible apply XOp.p1); (case hg | hv => exact rfl)) | (with_reducible apply XL.nilT) | (with_reducible apply XC.seq) | (with_reducible apply XC.region (Γ := Γ)) | (with_reducible apply XQ.exit) | (with_reducible apply XQ.nt) | (with_reducible apply XQ.et) | (with_reducible apply XC.block) | ((with_reducible apply XQ.eb); (case hb => exact rfl))))
  refine XC.loopP (fun k ρ L => ∃ (i : Nat) (ps : List (LV × Option Addr × Nat)) (v : Value) (Fm Z F : HL), i + k = ns.length ∧ ps.map (·.1) = ns.take i ∧ OwnS 24 1 v i (ps.map fun p => .slice p.2.1 (p.1.1.length + 80) p.2.2) Fm ∧ EachAll PairV 0 ps Z ∧ EachAll FillV i (ns.drop i) F ∧ L = (LsB lb (.slice aN ns.length cN) vT vL vM :: (FN ++ (Z ++ F))) ++ Fm ∧ Slots ρ [(0, .pointer (some ⟨lb, 0, none⟩)), (3, v), (6, .int .i64 i)])
    ns.length ⟨0, [], _, [], [], F1, by simp, rfl, OwnS.nil _ _, rfl, h1, by simp, rfl, rfl, rfl, trivial⟩ ?_
  clear h1
  rintro k ρ L ⟨i, ps, v, Fm, Z, F, hik, hps, hm, hZ, hF, rfl, hs⟩
  obtain ⟨am, cm, rfl⟩ := hm.val
  refine XC.slots _ hs ?_
  (repeat (first | (with_reducible apply XL.op) | ((with_reducible apply XOp.p1); (case hg | hv => exact rfl)) | ((with_reducible apply XOp.load); (case hg | ht | hk | hx => exact rfl); (case hc => exact own_cell (i := 0) rfl rfl)) | (with_reducible apply XL.nilT) | (with_reducible apply XC.seq) | (with_reducible apply XC.region (Γ := Γ))))
  ((with_reducible apply XC.cond); (case hc => exact rfl); all_goals (intro hb_; try simp only [pd_true, pd_false, Bool.not_eq_true', Bool.not_eq_false', Bool.and_eq_true, Bool.and_eq_false_iff, Bool.or_eq_true, Bool.or_eq_false_iff, not_true_eq_false, not_false_eq_true, Int.not_lt, Int.not_le] at hb_))
  · obtain ⟨x, hx⟩ : ∃ x, ns[i]? = some x := ⟨_, List.getElem?_eq_getElem (by omega)⟩
    have hxl := hl x (List.mem_of_getElem? hx)
    have hpl : ps.length = i := by have := congrArg List.length hps; rw [List.length_map, List.length_take] at this; omega
    rw [List.drop_eq_getElem_cons (by omega), (List.getElem?_eq_some_iff.1 hx).2] at hF
    obtain ⟨Fx, G2, hX, h2, rfl⟩ := hF
    (repeat (first | (with_reducible apply XL.op) | ((with_reducible apply XOp.p1); (case hg | hv => exact rfl)) | ((with_reducible apply XOp.load); (case hg | ht | hk | hx => exact rfl); (case hc => exact own_cell (i := 0) rfl rfl)) | ((with_reducible apply XOp.pr); (case hg => exact rfl); (case hr => ((with_reducible apply PR.idxA); (case ht | hk | he | hx | hi => exact rfl); (case hr => first | assumption | omega); (case ha => first | assumption | exact SlA.at_ (by assumption))))) | (with_reducible apply XL.nilT) | (with_reducible apply XC.seq) | (with_reducible apply XC.region (Γ := Γ)) | (with_reducible apply XQ.skip) | (with_reducible apply XQ.nt) | (with_reducible apply XC.block) | (first | ((with_reducible apply XOp.load); (case hg | ht | hk | hx => exact rfl); (case hc => exact (kN.known (fun z hz => by simp [hz])).imp fun h s => s.rawAt hx 0 _ rfl)) | ((with_reducible apply XP.load); (case ho | hg | ht | hk | hx => exact rfl); (case hc => exact (kN.known (fun z hz => by simp [hz])).imp fun h s => s.rawAt hx 0 _ rfl)))))
    refine XC.perm (L' := LsB lb (.slice aN ns.length cN) vT vL vM :: ((Fx ++ []) ++ (FN ++ (Z ++ (G2 ++ Fm))))) ?_ (by (first | (with_reducible exact List.Perm.refl _) | refine perm_of_cnt fun p_ => ?_; simp only [List.countP_append, List.countP_cons, List.countP_nil]; omega))
    refine XC.loopP (fun k ρ L => ∃ (j : Nat) (vg : Value) (F O : HL), j + k = 80 ∧ OwnS 39 1 vg (x.1.length + j) ((x.1.map fun _ => mkI i).map (.int .i8) ++ List.replicate j (.int .i8 111)) F ∧ OldIn 39 x.2.1 x.1.length ((x.1.map fun _ => mkI i).map (.int .i8)) (F ++ O) ∧ L = LsB lb (.slice aN ns.length cN) vT vL vM :: ((F ++ O) ++ (FN ++ (Z ++ (G2 ++ Fm)))) ∧ Slots ρ [(0, .pointer (some ⟨lb, 0, none⟩)), (3, .slice am i cm), (6, .int .i64 i), (7, vg), (8, .int .i64 j)])
      80 ⟨0, slv x, Fx, [], by simp, hX.conv rfl (by simp), (OldIn.of hX).sub (by simp), rfl, rfl, rfl, rfl, rfl, rfl, trivial⟩ ?_
    rintro k2 ρ L ⟨j, vg, F, O, hjk, hF, hO, rfl, hs⟩
    obtain ⟨ag, cg, rfl⟩ := hF.val
    refine XC.slots _ hs ?_
    (repeat (first | (with_reducible apply XL.op) | ((with_reducible apply XOp.p1); (case hg | hv => exact rfl)) | (with_reducible apply XL.nilT) | (with_reducible apply XC.seq) | (with_reducible apply XC.region (Γ := Γ))))
    ((with_reducible apply XC.cond); (case hc => exact rfl); all_goals (intro hb_; try simp only [pd_true, pd_false, Bool.not_eq_true', Bool.not_eq_false', Bool.and_eq_true, Bool.and_eq_false_iff, Bool.or_eq_true, Bool.or_eq_false_iff, not_true_eq_false, not_false_eq_true, Int.not_lt, Int.not_le] at hb_))
    · (repeat (first | (with_reducible apply XL.op) | ((with_reducible apply XOp.p1); (case hg | hv => exact rfl)) | (with_reducible apply XC.seq) | (with_reducible apply XC.region (Γ := Γ)) | (with_reducible apply XQ.skip) | (with_reducible apply XQ.nt) | (with_reducible apply XC.block)))
      ((with_reducible apply XOp.buildSlice); (case hg | ht | hk | he | hz | hzl | hf => exact rfl); intro bb)
      (repeat ((with_reducible apply XL.op)))
      (refine (show XOp _ _ _ _ _ _ _ _ ((bb, Obj.cells ⟨[.int .i8 111]⟩ 39 (0, 0)) :: (LsB lb (.slice aN ns.length cN) vT vL vM :: ((F ++ O) ++ (FN ++ (Z ++ (G2 ++ Fm)))))) from XOp.perm (L' :=  (bb, Obj.cells ⟨[.int .i8 111]⟩ 39 (0, 0)) :: (F ++ (LsB lb (.slice aN ns.length cN) vT vL vM :: (O ++ (FN ++ (Z ++ (G2 ++ Fm))))))) rfl ?_ (by (first | (with_reducible exact List.Perm.refl _) | refine perm_of_cnt fun p_ => ?_; simp only [List.countP_append, List.countP_cons, List.countP_nil]; omega))))
      ((with_reducible apply XOp.append1K (R := LsB lb (.slice aN ns.length cN) vT vL vM :: (O ++ (FN ++ (Z ++ (G2 ++ Fm)))))); (case hg => exact rfl); (case ht => exact rfl); (case hk => exact rfl); (case he => exact rfl); (case hown => exact hF); (case hs => exact rfl); (case hx => exact rfl); (case hL => exact rfl); (case hl => exact rfl); (case h1 => exact rfl); (case hz => exact rfl); (case hsz => exact Nat.zero_lt_succ _); (case hk0 => exact Nat.zero_lt_succ _); (case h63 => simp only [maxLen]; omega); (case hb => simp only []; omega); intro v_ F_ O_ hown_ hkp_; obtain ⟨a_, c_, rfl⟩ := hown_.val)
      (repeat (first | (with_reducible apply XL.op) | ((with_reducible apply XOp.p1); (case hg | hv => exact rfl)) | (with_reducible apply XL.nilT) | (with_reducible apply XC.region (Γ := Γ)) | (with_reducible apply XL.nilQ) | (with_reducible apply XQ.nt) | (with_reducible apply XQ.nb)))
      refine ⟨k2 - 1, by omega, LsB lb (.slice aN ns.length cN) vT vL vM :: ((F_ ++ (O_ ++ O)) ++ (FN ++ (Z ++ (G2 ++ Fm)))), .perm (by (first | (with_reducible exact List.Perm.refl _) | refine perm_of_cnt fun p_ => ?_; simp only [List.countP_append, List.countP_cons, List.countP_nil]; omega)), j + 1, _, F_, O_ ++ O, by omega, hown_.conv (by omega) (by rw [List.replicate_succ', List.append_assoc]), OldIn.step hF hO hkp_, rfl, rfl, rfl, rfl, rfl, intS (m := 80) (by omega) (by omega), trivial⟩
    · obtain rfl : j = 80 := by omega
      (repeat (first | (with_reducible apply XL.op) | ((with_reducible apply XOp.p1); (case hg | hv => exact rfl)) | (with_reducible apply XC.region (Γ := Γ)) | (with_reducible apply XQ.exit) | (with_reducible apply XQ.nt) | (with_reducible apply XQ.et) | ((with_reducible apply XQ.eb); (case hb => exact rfl))))
      ((with_reducible apply XOp.buildSlice); (case hg | ht | hk | he | hz | hzl | hf => exact rfl); intro bb)
      (repeat ((with_reducible apply XL.op)))
      (refine (show XOp _ _ _ _ _ _ _ _ ((bb, Obj.cells ⟨[.slice ag (x.1.length + 80) cg]⟩ 24 (0, 0)) :: (LsB lb (.slice aN ns.length cN) vT vL vM :: ((F ++ O) ++ (FN ++ (Z ++ (G2 ++ Fm)))))) from XOp.perm (L' :=  (bb, Obj.cells ⟨[.slice ag (x.1.length + 80) cg]⟩ 24 (0, 0)) :: ((LsB lb (.slice aN ns.length cN) vT vL vM :: (FN ++ ((Z ++ (F ++ O)) ++ G2))) ++ Fm)) rfl ?_ (by (first | (with_reducible exact List.Perm.refl _) | refine perm_of_cnt fun p_ => ?_; simp only [List.countP_append, List.countP_cons, List.countP_nil]; omega))))
      ((with_reducible apply XOp.append1R (R := LsB lb (.slice aN ns.length cN) vT vL vM :: (FN ++ ((Z ++ (F ++ O)) ++ G2)))); (case hg => exact rfl); (case ht => exact rfl); (case hk => exact rfl); (case he => exact rfl); (case hown => exact hm); (case hs => exact rfl); (case hx => exact rfl); (case hL => exact rfl); (case hl => exact rfl); (case h1 => exact rfl); (case hz => exact rfl); (case hsz => exact Nat.zero_lt_succ _); (case hk0 => exact Nat.zero_lt_succ _); (case h63 => simp only [maxLen]; omega); (case hb => simp only []; omega); intro v_ F_ hown_; obtain ⟨a_, c_, rfl⟩ := hown_.val)
      (repeat (first | (with_reducible apply XL.op) | ((with_reducible apply XOp.p1); (case hg | hv => exact rfl)) | (with_reducible apply XL.nilT) | (with_reducible apply XC.region (Γ := Γ)) | (with_reducible apply XL.nilQ) | (with_reducible apply XQ.nt) | (with_reducible apply XQ.nb)))
      refine ⟨k - 1, by omega, (LsB lb (.slice aN ns.length cN) vT vL vM :: (FN ++ ((Z ++ (F ++ O)) ++ G2))) ++ F_, .of (List.Sublist.refl _), i + 1, ps ++ [(x, ag, cg)], _, F_, Z ++ (F ++ O), G2, by omega, by rw [List.map_append, hps, take_snocD hx]; rfl, hown_.conv rfl (by simp [zerosL]), EachAll.snoc hZ (by rw [Nat.zero_add, hpl]; exact ⟨F, O, rfl, hF, hO⟩), h2, rfl, rfl, rfl, intS (m := ns.length) (by omega) (by omega), trivial⟩
  obtain rfl : i = ns.length := by omega
  rw [List.take_length] at hps
  have hpl : ps.length = ns.length := by have := congrArg List.length hps; rw [List.length_map] at this; omega
  clear hs hik
  (repeat (first | (with_reducible apply XL.op) | ((with_reducible apply XOp.p1); (case hg | hv => exact rfl)) | (with_reducible apply XL.nilT) | (with_reducible apply XC.seq) | (with_reducible apply XC.region (Γ := Γ)) | (with_reducible apply XQ.exit) | (with_reducible apply XQ.nt) | (with_reducible apply XQ.et) | (with_reducible apply XC.block) | ((with_reducible apply XQ.eb); (case hb => exact rfl))))
  have sM : SlA (Kd.raw (fun p : LV × Option Addr × Nat => [.slice p.2.1 (p.1.1.length + 80) p.2.2]) 1 (fun _ => rfl)) 24 (fv Fm) ps am cm := by
    have h0 : OwnS 24 1 (.slice am ns.length cm) ns.length (ps.flatMap fun p => [.slice p.2.1 (p.1.1.length + 80) p.2.2]) Fm := hm.conv rfl (map_flat2 ps)
    obtain ⟨_, _, e, s⟩ := h0.raw (f := fun p : LV × Option Addr × Nat => [.slice p.2.1 (p.1.1.length + 80) p.2.2]) (k := 1) (hk := fun _ => rfl) (by_ := 24) hpl.symm (by omega)
    obtain ⟨rfl, _, rfl⟩ := Value.slice.inj e
    exact s
  have hMa := sM.at_
  rw [hpl] at hMa
  have kM : Held Fm (fun h => SlA (Kd.raw (fun p : LV × Option Addr × Nat => [.slice p.2.1 (p.1.1.length + 80) p.2.2]) 1 (fun _ => rfl)) 24 h ps am cm) := Held.frag sM (Mono.sl _ _ _ _ _)
  refine XC.loop (fun k ρ L => ∃ (i : Nat), i + k = ns.length ∧ L = (LsB lb (.slice aN ns.length cN) vT vL vM :: (FN ++ (Z ++ F))) ++ Fm ∧ Slots ρ [(0, .pointer (some ⟨lb, 0, none⟩)), (3, .slice am ns.length cm), (9, .int .i64 i)])
    ns.length ⟨0, by simp, rfl, rfl, rfl, rfl, trivial⟩ ?_
  rintro k ρ L ⟨i, hik, rfl, hs⟩
  refine XC.slots _ hs ?_
  (repeat (first | (with_reducible apply XL.op) | ((with_reducible apply XOp.p1); (case hg | hv => exact rfl)) | ((with_reducible apply XOp.load); (case hg | ht | hk | hx => exact rfl); (case hc => exact own_cell (i := 0) rfl rfl)) | (with_reducible apply XL.nilT) | (with_reducible apply XC.seq) | (with_reducible apply XC.region (Γ := Γ))))
  ((with_reducible apply XC.cond); (case hc => exact rfl); all_goals (intro hb_; try simp only [pd_true, pd_false, Bool.not_eq_true', Bool.not_eq_false', Bool.and_eq_true, Bool.and_eq_false_iff, Bool.or_eq_true, Bool.or_eq_false_iff, not_true_eq_false, not_false_eq_true, Int.not_lt, Int.not_le] at hb_))
  · obtain ⟨p, hp⟩ : ∃ p, ps[i]? = some p := ⟨_, List.getElem?_eq_getElem (by omega)⟩
    have hx : ns[i]? = some p.1 := by rw [← hps, List.getElem?_map, hp]; rfl
    have hxl := hl p.1 (List.mem_of_getElem? hx)
    obtain ⟨Zi, ⟨F', O', rfl, hg, ho⟩, hsub⟩ := hZ.get hp
    rw [Nat.zero_add] at hg ho
    have hg' := OldIn.of hg
    have had := ho.ad
    have hgd := hg'.ad
    have hLs : ∀ y ∈ F' ++ O', y ∈ (LsB lb (.slice aN ns.length cN) vT vL vM :: (FN ++ (Z ++ F))) ++ Fm := fun y hy => by simp [hsub y hy]
    have hLs2 : ∀ y ∈ F', y ∈ (LsB lb (.slice aN ns.length cN) vT vL vM :: (FN ++ (Z ++ F))) ++ Fm := fun y hy => hLs y (List.mem_append_left _ hy)
    (repeat (first | (with_reducible apply XL.op) | ((with_reducible apply XOp.p1); (case hg | hv => exact rfl)) | (with_reducible apply XL.nilT) | (with_reducible apply XC.seq) | (with_reducible apply XC.region (Γ := Γ)) | (with_reducible apply XQ.skip) | (with_reducible apply XQ.nt) | (with_reducible apply XC.block)))
    refine XC.loop (fun k ρ L => ∃ (j : Nat), j + k = p.1.1.length ∧ L = (LsB lb (.slice aN ns.length cN) vT vL vM :: (FN ++ (Z ++ F))) ++ Fm ∧ Slots ρ [(0, .pointer (some ⟨lb, 0, none⟩)), (3, .slice am ns.length cm), (9, .int .i64 i), (10, .int .i64 j)])
      p.1.1.length ⟨0, by simp, rfl, rfl, rfl, rfl, rfl, trivial⟩ ?_
    rintro k2 ρ L ⟨j, hjk, rfl, hs⟩
    refine XC.slots _ hs ?_
    (repeat (first | (with_reducible apply XL.op) | ((with_reducible apply XOp.p1); (case hg | hv => exact rfl)) | ((with_reducible apply XOp.load); (case hg | ht | hk | hx => exact rfl); (case hc => exact own_cell (i := 0) rfl rfl)) | ((with_reducible apply XOp.pr); (case hg => exact rfl); (case hr => ((with_reducible apply PR.idxA); (case ht | hk | he | hx | hi => exact rfl); (case hr => first | assumption | omega); (case ha => first | assumption | exact SlA.at_ (by assumption))))) | (with_reducible apply XL.nilT) | (with_reducible apply XC.seq) | (with_reducible apply XC.region (Γ := Γ)) | (first | ((with_reducible apply XOp.load); (case hg | ht | hk | hx => exact rfl); (case hc => exact (kN.known (fun z hz => by simp [hz])).imp fun h s => s.rawAt hx 0 _ rfl)) | ((with_reducible apply XP.load); (case ho | hg | ht | hk | hx => exact rfl); (case hc => exact (kN.known (fun z hz => by simp [hz])).imp fun h s => s.rawAt hx 0 _ rfl)))))
    ((with_reducible apply XC.cond); (case hc => exact rfl); all_goals (intro hb_; try simp only [pd_true, pd_false, Bool.not_eq_true', Bool.not_eq_false', Bool.and_eq_true, Bool.and_eq_false_iff, Bool.or_eq_true, Bool.or_eq_false_iff, not_true_eq_false, not_false_eq_true, Int.not_lt, Int.not_le] at hb_))
    · have hjl : j < p.1.1.length := by omega
      have v1 : ((p.1.1.map fun _ => mkI i).map (Value.int .i8))[j]? = some (.int .i8 (mkI i)) := by simp [List.getElem?_eq_getElem hjl]
      have v2 : ((p.1.1.map fun _ => mkI i).map (Value.int .i8) ++ List.replicate 80 (.int .i8 111))[j]? = some (.int .i8 (mkI i)) := by rw [List.getElem?_append_left (by simpa using hjl)]; exact v1
      (repeat (first | (with_reducible apply XL.op) | ((with_reducible apply XOp.p1); (case hg | hv => exact rfl)) | ((with_reducible apply XOp.load); (case hg | ht | hk | hx => exact rfl); (case hc => exact own_cell (i := 0) rfl rfl)) | ((with_reducible apply XOp.pr); (case hg => exact rfl); (case hr => ((with_reducible apply PR.idxA); (case ht | hk | he | hx | hi => exact rfl); (case hr => first | assumption | omega); (case ha => first | assumption | exact SlA.at_ (by assumption))))) | (with_reducible apply XL.nilT) | (with_reducible apply XC.seq) | (with_reducible apply XC.region (Γ := Γ)) | (with_reducible apply XQ.skip) | (with_reducible apply XQ.nt) | (with_reducible apply XQ.nb) | (with_reducible apply XC.block) | (first | ((with_reducible apply XOp.load); (case hg | ht | hk | hx => exact rfl); (case hc => exact (kN.known (fun z hz => by simp [hz])).imp fun h s => s.rawAt hx 0 _ rfl)) | ((with_reducible apply XP.load); (case ho | hg | ht | hk | hx => exact rfl); (case hc => exact (kN.known (fun z hz => by simp [hz])).imp fun h s => s.rawAt hx 0 _ rfl))) | (first | ((with_reducible apply XOp.load); (case hg | ht | hk | hx => exact rfl); (case hc => exact (kM.known (fun z hz => by simp [hz])).imp fun h s => s.rawAt hp 0 _ rfl)) | ((with_reducible apply XP.load); (case ho | hg | ht | hk | hx => exact rfl); (case hc => exact (kM.known (fun z hz => by simp [hz])).imp fun h s => s.rawAt hp 0 _ rfl))) | (first | ((with_reducible apply XOp.load); (case hg | ht | hk | hx => exact rfl); (case hc => rw [show ((j : Nat) : Int).toNat * 1 = j by omega]; exact OldIn.cell ho hjl v1 hLs)) | ((with_reducible apply XP.load); (case ho | hg | ht | hk | hx => exact rfl); (case hc => rw [show ((j : Nat) : Int).toNat * 1 = j by omega]; exact OldIn.cell ho hjl v1 hLs))) | (first | ((with_reducible apply XOp.load); (case hg | ht | hk | hx => exact rfl); (case hc => rw [show ((j : Nat) : Int).toNat * 1 = j by omega]; exact OldIn.cell hg' (by omega) v2 hLs2)) | ((with_reducible apply XP.load); (case ho | hg | ht | hk | hx => exact rfl); (case hc => rw [show ((j : Nat) : Int).toNat * 1 = j by omega]; exact OldIn.cell hg' (by omega) v2 hLs2))) | (first | ((with_reducible apply XOp.split); (case hg | hj | hd | hb => exact rfl); (fail_if_success (case hf => exact fun h => Bool.noConfusion h)); (fail_if_success (case ht => exact fun h => Bool.noConfusion h)); (first | (case ht => intro hb_; try simp only [pd_true, pd_false, Bool.not_eq_true', Bool.not_eq_false', Bool.and_eq_true, Bool.and_eq_false_iff, Bool.or_eq_true, Bool.or_eq_false_iff, not_true_eq_false, not_false_eq_true, Int.not_lt, Int.not_le] at hb_; first | done | (exfalso; first | omega | contradiction)) | (case hf => intro hb_; try simp only [pd_true, pd_false, Bool.not_eq_true', Bool.not_eq_false', Bool.and_eq_true, Bool.and_eq_false_iff, Bool.or_eq_true, Bool.or_eq_false_iff, not_true_eq_false, not_false_eq_true, Int.not_lt, Int.not_le] at hb_; first | done | (exfalso; first | omega | contradiction))); intro hb_; try simp only [pd_true, pd_false, Bool.not_eq_true', Bool.not_eq_false', Bool.and_eq_true, Bool.and_eq_false_iff, Bool.or_eq_true, Bool.or_eq_false_iff, not_true_eq_false, not_false_eq_true, Int.not_lt, Int.not_le] at hb_) | ((with_reducible apply XP.split); (case ho | hg | hj | hd | hb => exact rfl); (fail_if_success (case hf => exact fun h => Bool.noConfusion h)); (fail_if_success (case ht => exact fun h => Bool.noConfusion h)); (first | (case ht => intro hb_; try simp only [pd_true, pd_false, Bool.not_eq_true', Bool.not_eq_false', Bool.and_eq_true, Bool.and_eq_false_iff, Bool.or_eq_true, Bool.or_eq_false_iff, not_true_eq_false, not_false_eq_true, Int.not_lt, Int.not_le] at hb_; first | done | (exfalso; first | omega | contradiction)) | (case hf => intro hb_; try simp only [pd_true, pd_false, Bool.not_eq_true', Bool.not_eq_false', Bool.and_eq_true, Bool.and_eq_false_iff, Bool.or_eq_true, Bool.or_eq_false_iff, not_true_eq_false, not_false_eq_true, Int.not_lt, Int.not_le] at hb_; first | done | (exfalso; first | omega | contradiction))); intro hb_; try simp only [pd_true, pd_false, Bool.not_eq_true', Bool.not_eq_false', Bool.and_eq_true, Bool.and_eq_false_iff, Bool.or_eq_true, Bool.or_eq_false_iff, not_true_eq_false, not_false_eq_true, Int.not_lt, Int.not_le] at hb_) | ((with_reducible apply XC.cond); (case hc => exact rfl); (first | (case ht => intro hb_; try simp only [pd_true, pd_false, Bool.not_eq_true', Bool.not_eq_false', Bool.and_eq_true, Bool.and_eq_false_iff, Bool.or_eq_true, Bool.or_eq_false_iff, not_true_eq_false, not_false_eq_true, Int.not_lt, Int.not_le] at hb_; first | done | (exfalso; first | omega | contradiction)) | (case hf => intro hb_; try simp only [pd_true, pd_false, Bool.not_eq_true', Bool.not_eq_false', Bool.and_eq_true, Bool.and_eq_false_iff, Bool.or_eq_true, Bool.or_eq_false_iff, not_true_eq_false, not_false_eq_true, Int.not_lt, Int.not_le] at hb_; first | done | (exfalso; first | omega | contradiction))); intro hb_; try simp only [pd_true, pd_false, Bool.not_eq_true', Bool.not_eq_false', Bool.and_eq_true, Bool.and_eq_false_iff, Bool.or_eq_true, Bool.or_eq_false_iff, not_true_eq_false, not_false_eq_true, Int.not_lt, Int.not_le] at hb_))))
      exact ⟨k2 - 1, by omega, j + 1, by omega, rfl, rfl, rfl, rfl, intS (m := p.1.1.length) (by omega) (by omega), trivial⟩
    · obtain rfl : j = p.1.1.length := by omega
      have v3 : ((p.1.1.map fun _ => mkI i).map (Value.int .i8) ++ List.replicate 80 (.int .i8 111))[p.1.1.length]? = some (.int .i8 111) := by rw [List.getElem?_append_right (by simp)]; simp
      (repeat (first | (with_reducible apply XC.seq) | (with_reducible apply XQ.exit) | (with_reducible apply XQ.nt) | (with_reducible apply XQ.et) | ((with_reducible apply XQ.eb); (case hb => exact rfl))))
      ((with_reducible apply XC.regionL (Γ := Γ) mixed (.q 0 (.q 1 (.q 2 (.q 3 (.q 4 (.q 5 (.q 6 (.q 7 (.q 8 (.q 9 (.q 10 (.q 11 (.q 12 (.q 13 (.q 14 (.done)))))))))))))))) [] ((LsB lb (.slice aN ns.length cN) vT vL vM :: (FN ++ (Z ++ F))) ++ Fm)); (case hc => kernel_rfl); (case hs => first | exact List.nil_sublist _ | exact List.Sublist.refl _ | exact List.sublist_append_right _ _ | (refine List.Sublist.cons_cons _ (List.nil_sublist _)) | (refine List.Sublist.cons_cons _ (List.Sublist.cons_cons _ (List.nil_sublist _))) | (refine List.Sublist.cons_cons _ (List.Sublist.cons_cons _ (List.Sublist.cons_cons _ (List.nil_sublist _)))) | (refine List.Sublist.cons_cons _ (List.Sublist.cons_cons _ (List.Sublist.cons_cons _ (List.Sublist.cons_cons _ (List.nil_sublist _))))) | ((try simp only [List.append_eq, List.cons_append, List.nil_append, List.append_assoc]); (repeat (first | exact List.Sublist.refl _ | exact List.nil_sublist _ | (with_reducible apply List.Sublist.cons_cons) | (with_reducible apply List.Sublist.cons))); done)))
      (repeat (first | (with_reducible apply XL.op) | ((with_reducible apply XOp.p1); (case hg | hv => exact rfl)) | (with_reducible apply XL.nilT) | (with_reducible apply XC.region (Γ := Γ)) | (with_reducible apply XQ.skip) | (with_reducible apply XQ.nt) | (with_reducible apply XQ.nb) | ((with_reducible apply XP.p1); (case ho | hg | hv => exact rfl)) | ((with_reducible apply XP.load); (case ho | hg | ht | hk | hx => exact rfl); (case hc => exact own_cell (i := 0) rfl rfl)) | ((with_reducible apply XP.pr); (case ho => exact rfl); (case hg => exact rfl); (case hr => ((with_reducible apply PR.idxA); (case ht | hk | he | hx | hi => exact rfl); (case hr => first | assumption | omega); (case ha => first | assumption | exact SlA.at_ (by assumption))))) | (with_reducible apply XP.done) | (first | ((with_reducible apply XOp.load); (case hg | ht | hk | hx => exact rfl); (case hc => exact (kN.known (fun z hz => by simp [hz])).imp fun h s => s.rawAt hx 0 _ rfl)) | ((with_reducible apply XP.load); (case ho | hg | ht | hk | hx => exact rfl); (case hc => exact (kN.known (fun z hz => by simp [hz])).imp fun h s => s.rawAt hx 0 _ rfl))) | (first | ((with_reducible apply XOp.load); (case hg | ht | hk | hx => exact rfl); (case hc => exact (kM.known (fun z hz => by simp [hz])).imp fun h s => s.rawAt hp 0 _ rfl)) | ((with_reducible apply XP.load); (case ho | hg | ht | hk | hx => exact rfl); (case hc => exact (kM.known (fun z hz => by simp [hz])).imp fun h s => s.rawAt hp 0 _ rfl))) | (first | ((with_reducible apply XOp.load); (case hg | ht | hk | hx => exact rfl); (case hc => rw [show ((p.1.1.length : Nat) : Int).toNat * 1 = p.1.1.length by omega]; exact OldIn.cell hg' (by omega) v3 hLs2)) | ((with_reducible apply XP.load); (case ho | hg | ht | hk | hx => exact rfl); (case hc => rw [show ((p.1.1.length : Nat) : Int).toNat * 1 = p.1.1.length by omega]; exact OldIn.cell hg' (by omega) v3 hLs2))) | (first | ((with_reducible apply XOp.split); (case hg | hj | hd | hb => exact rfl); (fail_if_success (case hf => exact fun h => Bool.noConfusion h)); (fail_if_success (case ht => exact fun h => Bool.noConfusion h)); (first | (case ht => intro hb_; try simp only [pd_true, pd_false, Bool.not_eq_true', Bool.not_eq_false', Bool.and_eq_true, Bool.and_eq_false_iff, Bool.or_eq_true, Bool.or_eq_false_iff, not_true_eq_false, not_false_eq_true, Int.not_lt, Int.not_le] at hb_; first | done | (exfalso; first | omega | contradiction)) | (case hf => intro hb_; try simp only [pd_true, pd_false, Bool.not_eq_true', Bool.not_eq_false', Bool.and_eq_true, Bool.and_eq_false_iff, Bool.or_eq_true, Bool.or_eq_false_iff, not_true_eq_false, not_false_eq_true, Int.not_lt, Int.not_le] at hb_; first | done | (exfalso; first | omega | contradiction))); intro hb_; try simp only [pd_true, pd_false, Bool.not_eq_true', Bool.not_eq_false', Bool.and_eq_true, Bool.and_eq_false_iff, Bool.or_eq_true, Bool.or_eq_false_iff, not_true_eq_false, not_false_eq_true, Int.not_lt, Int.not_le] at hb_) | ((with_reducible apply XP.split); (case ho | hg | hj | hd | hb => exact rfl); (fail_if_success (case hf => exact fun h => Bool.noConfusion h)); (fail_if_success (case ht => exact fun h => Bool.noConfusion h)); (first | (case ht => intro hb_; try simp only [pd_true, pd_false, Bool.not_eq_true', Bool.not_eq_false', Bool.and_eq_true, Bool.and_eq_false_iff, Bool.or_eq_true, Bool.or_eq_false_iff, not_true_eq_false, not_false_eq_true, Int.not_lt, Int.not_le] at hb_; first | done | (exfalso; first | omega | contradiction)) | (case hf => intro hb_; try simp only [pd_true, pd_false, Bool.not_eq_true', Bool.not_eq_false', Bool.and_eq_true, Bool.and_eq_false_iff, Bool.or_eq_true, Bool.or_eq_false_iff, not_true_eq_false, not_false_eq_true, Int.not_lt, Int.not_le] at hb_; first | done | (exfalso; first | omega | contradiction))); intro hb_; try simp only [pd_true, pd_false, Bool.not_eq_true', Bool.not_eq_false', Bool.and_eq_true, Bool.and_eq_false_iff, Bool.or_eq_true, Bool.or_eq_false_iff, not_true_eq_false, not_false_eq_true, Int.not_lt, Int.not_le] at hb_) | ((with_reducible apply XC.cond); (case hc => exact rfl); (first | (case ht => intro hb_; try simp only [pd_true, pd_false, Bool.not_eq_true', Bool.not_eq_false', Bool.and_eq_true, Bool.and_eq_false_iff, Bool.or_eq_true, Bool.or_eq_false_iff, not_true_eq_false, not_false_eq_true, Int.not_lt, Int.not_le] at hb_; first | done | (exfalso; first | omega | contradiction)) | (case hf => intro hb_; try simp only [pd_true, pd_false, Bool.not_eq_true', Bool.not_eq_false', Bool.and_eq_true, Bool.and_eq_false_iff, Bool.or_eq_true, Bool.or_eq_false_iff, not_true_eq_false, not_false_eq_true, Int.not_lt, Int.not_le] at hb_; first | done | (exfalso; first | omega | contradiction))); intro hb_; try simp only [pd_true, pd_false, Bool.not_eq_true', Bool.not_eq_false', Bool.and_eq_true, Bool.and_eq_false_iff, Bool.or_eq_true, Bool.or_eq_false_iff, not_true_eq_false, not_false_eq_true, Int.not_lt, Int.not_le] at hb_))))
      exact ⟨k - 1, by omega, i + 1, by omega, rfl, rfl, rfl, intS (m := ns.length) (by omega) (by omega), trivial⟩
  (repeat (first | (with_reducible apply XL.op) | ((with_reducible apply XOp.p1); (case hg | hv => exact rfl)) | (with_reducible apply XL.nilT) | (with_reducible apply XC.seq) | (with_reducible apply XC.region (Γ := Γ)) | (with_reducible apply XQ.ret) | (with_reducible apply XQ.exit) | (with_reducible apply XQ.nt) | (with_reducible apply XQ.et) | ((with_reducible apply XQ.eb); (case hb => exact rfl))))
  ((with_reducible apply XQ.retE); (case hr => exact .t rfl .nil))
  exact ⟨[LsB lb (.slice aN ns.length cN) vT vL vM], .of (List.Sublist.cons_cons _ (List.nil_sublist _)), rfl, rfl⟩
end Go.Proofs.YtppggaiahkecoaaDoorX
