/- Does a layer fit? The program's. -/
import Derived.Test.YtppggaiahkecoaaDoorXPMR2
import Derived.Test.YtppggaiahkecoaaDoorXPMR1
set_option linter.unusedSimpArgs false
set_option linter.unusedVariables false
namespace Go.Proofs.YtppggaiahkecoaaDoorX
open Go Go.SX

theorem shapedL_fn (m : LM) (r c : Int) : FC Tryd.prog 67 [.agg ⟨m.cells⟩, .int .i64 r, .int .i64 c] [] (fun h => lmAt h m) (fun v L => v = .bool (pd (shpP m.mat r c)) ∧ L = []) :=
  shaped_fn m.mat m.d.2.1 m.d.2.2 r c
theorem gainsL_fn (x : LV) (n : Int) : FC Tryd.prog 68 [slv x, .int .i64 n] [] (fun h => lvAt h x) (fun v L => v = .bool (pd (gainsP x.1 n)) ∧ L = []) :=
  gains_fn x.1 x.2.1 x.2.2 n
theorem meas0 (c : Cfg) : measS c 0 = c.Width := by unfold measS; rw [if_neg (by omega), if_neg (by omega)]
theorem meas1 (c : Cfg) : measS c 1 = c.keys := by unfold measS; rw [if_pos rfl]
theorem meas2 (c : Cfg) : measS c 2 = c.Hidden := by unfold measS; rw [if_neg (by omega), if_pos rfl]
/-- The j-th matrix of a layer has its shape. -/
def matJ (l : LL) (c : Cfg) : Nat → Prop
  | 0 => shpP l.q.mat (measS c 0) (measS c 0)
  | 1 => shpP l.k.mat (measS c 1) (measS c 0)
  | 2 => shpP l.v.mat (measS c 1) (measS c 0)
  | 3 => shpP l.o.mat (measS c 0) (measS c 0)
  | 4 => shpP l.g.mat (measS c 2) (measS c 0)
  | 5 => shpP l.u.mat (measS c 2) (measS c 0)
  | 6 => shpP l.d.mat (measS c 0) (measS c 2)
  | _ => True
theorem layP_mats {l : LL} {c : Cfg} (h : layP l c) : ∀ j < 7, matJ l c j := by
  obtain ⟨_, _, h0, h1, h2, h3, h4, h5, h6, _⟩ := h
  rw [← meas0] at h0 h1 h2 h3 h4 h5 h6
  rw [← meas1] at h1 h2
  rw [← meas2] at h4 h5 h6
  intro j hj
  rcases (by omega : j = 0 ∨ j = 1 ∨ j = 2 ∨ j = 3 ∨ j = 4 ∨ j = 5 ∨ j = 6) with rfl | rfl | rfl | rfl | rfl | rfl | rfl <;> assumption
theorem mats_layP {l : LL} {c : Cfg} (h : ∀ j < 7, matJ l c j) (n1 : gainsP l.n1.1 c.Width) (n2 : gainsP l.n2.1 c.Width) (hb : ∀ j < 7, 0 ≤ l.by_.getD j 0 ∧ l.by_.getD j 0 ≤ 24) : layP l c := by
  have h0 := h 0 (by omega); have h1 := h 1 (by omega); have h2 := h 2 (by omega); have h3 := h 3 (by omega); have h4 := h 4 (by omega); have h5 := h 5 (by omega); have h6 := h 6 (by omega)
  simp only [matJ, meas0, meas1, meas2] at h0 h1 h2 h3 h4 h5 h6
  exact ⟨n1, n2, h0, h1, h2, h3, h4, h5, h6, hb⟩
theorem by_get (l : LL) {i : Nat} (h : i < 7) : (l.by_.map (Value.int .i64))[((i : Nat) : Int).toNat]? = some (.int .i64 (l.by_.getD i 0)) := by
  match i, h with
  | 0, _ => rfl
  | 1, _ => rfl
  | 2, _ => rfl
  | 3, _ => rfl
  | 4, _ => rfl
  | 5, _ => rfl
  | 6, _ => rfl
set_option maxHeartbeats 8000000 in
theorem fits_fn (l : LL) (lb off : Nat) (c : Cfg) (hc : c.may) : FC Tryd.prog 70 [.pointer (some ⟨lb, off, none⟩), .agg ⟨c.cells⟩] [] (fun h => sidesK h ∧ rowv h lb off l.cells ∧ llAt h l)
    (fun v L => v = .bool (pd (layP l c)) ∧ L = []) := by
  refine FC.nil ?_
  refine FC.intro Tryd.func70 rfl (by kernel_rfl) 56 [.tmp 4] rfl rfl rfl ?_
  rintro w0 ⟨hS, hR, hA⟩
  (repeat (first | (with_reducible apply XL.op) | (with_reducible apply XC.seq) | (with_reducible apply XC.region (Γ := Γ))))
  ((with_reducible apply XOp.box); (case hg | hx' => exact rfl); intro cb)
  (repeat (first | (with_reducible apply XL.op) | ((with_reducible apply XOp.p1); (case hg | hv => exact rfl)) | ((with_reducible apply XOp.loadO (i := 0)); (case hg | ht | hk | hx | hi | hc => exact rfl)) | (with_reducible apply XL.nilT) | (with_reducible apply XC.seq) | (with_reducible apply XC.region (Γ := Γ))))
  ((with_reducible apply XOp.callR (R := [_]) (F := []) (hF := shapes_fn c hc)); (case hg => exact rfl); (case hc => exact rfl); (case ha => exact rfl); (case hL => exact rfl); try (case hA => exact Known.true))
  case hA => exact Known.of_old hS sides_mono
  rintro _ _ ⟨b, rfl, rfl⟩
  (repeat (first | (with_reducible apply XL.op) | ((with_reducible apply XOp.p1); (case hg | hv => exact rfl)) | (with_reducible apply XL.nilT) | (with_reducible apply XC.block)))
  have hno : ∀ j < 7, ¬ matJ l c j → Value.bool false = Value.bool (pd (layP l c)) := fun j hj h => congrArg Value.bool (pdf (fun h2 => h (layP_mats h2 j hj))).symm
  refine XC.loopP (fun k ρ L => ∃ i : Nat, i + k = 7 ∧ L = [(cb, .cells ⟨c.cells⟩ 23 (0, 0)), (b, .cells ⟨shC c 7⟩ 80 (0, 0))] ∧ (∀ j < i, matJ l c j) ∧ Slots ρ [(0, .pointer (some ⟨lb, off, none⟩)), (3, .pointer (some ⟨cb, 0, none⟩)), (10, .slice (some ⟨b, 0, none⟩) 7 7), (11, .int .i64 7), (12, .int .i64 i)])
    7 ⟨0, by simp, rfl, by simp, rfl, rfl, rfl, rfl, rfl, trivial⟩ ?_
  rintro k ρ L ⟨i, hik, rfl, hq, hs⟩
  refine XC.slots _ hs ?_
  (repeat (first | (with_reducible apply XL.op) | ((with_reducible apply XOp.p1); (case hg | hv => exact rfl)) | (with_reducible apply XL.nilT) | (with_reducible apply XC.seq) | (with_reducible apply XC.region (Γ := Γ))))
  ((with_reducible apply XC.cond); (case hc => exact rfl); all_goals (intro hb_; try simp only [pd_true, pd_false, Bool.not_eq_true', Bool.not_eq_false', Bool.and_eq_true, Bool.and_eq_false_iff, Bool.or_eq_true, Bool.or_eq_false_iff, not_true_eq_false, not_false_eq_true, Int.not_lt, Int.not_le] at hb_))
  · have m0 : rowv (oldv w0 (keys [])) lb (off + 2) l.q.cells := rowv_sub hR 2 3
    have m1 : rowv (oldv w0 (keys [])) lb (off + 5) l.k.cells := rowv_sub hR 5 3
    have m2 : rowv (oldv w0 (keys [])) lb (off + 8) l.v.cells := rowv_sub hR 8 3
    have m3 : rowv (oldv w0 (keys [])) lb (off + 11) l.o.cells := rowv_sub hR 11 3
    have m4 : rowv (oldv w0 (keys [])) lb (off + 14) l.g.cells := rowv_sub hR 14 3
    have m5 : rowv (oldv w0 (keys [])) lb (off + 17) l.u.cells := rowv_sub hR 17 3
    have m6 : rowv (oldv w0 (keys [])) lb (off + 20) l.d.cells := rowv_sub hR 20 3
    rcases (by omega : i = 0 ∨ i = 1 ∨ i = 2 ∨ i = 3 ∨ i = 4 ∨ i = 5 ∨ i = 6) with rfl | rfl | rfl | rfl | rfl | rfl | rfl
    all_goals (repeat (first | (with_reducible apply XL.op) | ((with_reducible apply XOp.p1); (case hg | hv => exact rfl)) | ((with_reducible apply XOp.loadO (i := 1)); (case hg | ht | hk | hx | hi | hc => exact rfl)) | (with_reducible apply XC.seq) | (with_reducible apply XC.region (Γ := Γ)) | (with_reducible apply XQ.skip) | (with_reducible apply XQ.nt) | (with_reducible apply XC.block)))
    all_goals ((with_reducible apply XOp.alloc); (case hg | ht | hx' => exact rfl); intro sb)
    all_goals (repeat (first | (with_reducible apply XL.op) | ((with_reducible apply XOp.storeN (i := 0)); (case hg | ht | hx | hv' | hk | h1 | hi | hs | ha => exact rfl)) | (with_reducible apply XL.nilT) | (with_reducible apply XC.seq)))
    all_goals ((with_reducible apply XC.regionD (Γ := Γ) mixed (.q 0 (.q 1 (.q 2 (.q 6 (.q 7 (.q 8 (.q 9 (.e 3 (.q 4 (.q 5 (.e 10 (.q 11 (.done))))))))))))) [] []); (case hc => kernel_rfl))
    all_goals (repeat' (first | (with_reducible apply XL.op) | ((with_reducible apply XOp.p1); (case hg | hv => exact rfl)) | (with_reducible apply XL.nilT) | (with_reducible apply XC.seq) | (with_reducible apply XC.region (Γ := Γ)) | (with_reducible apply XQ.skip) | (with_reducible apply XQ.ret) | (with_reducible apply XQ.nt) | (with_reducible apply XQ.nb) | (with_reducible apply XQ.rt) | (with_reducible apply XQ.rb) | ((with_reducible apply XP.p1); (case ho | hg | hv => exact rfl)) | ((with_reducible apply XP.load); (case ho | hg | ht | hk | hx => exact rfl); (case hc => exact own_cell (i := 0) rfl rfl)) | (with_reducible apply XP.done) | ((with_reducible apply XP.e); (first | ((with_reducible apply XE.d); (case ho => exact rfl); (case hd => exact rfl)) | ((with_reducible apply XE.e); (case ho => exact rfl)))) | ((with_reducible apply XP.keep); (case hk => first | ((repeat' (first | exact List.forall_mem_nil _ | (with_reducible refine List.forall_mem_cons.2 ⟨?_, ?_⟩) | exact List.mem_cons_self .. | (with_reducible apply List.mem_cons_of_mem) | (with_reducible apply List.mem_append_right))); done) | (intro x hx; first | exact sel_in hx | exact List.mem_cons_of_mem _ (sel_in hx) | exact List.mem_append_right _ (sel_in hx) | exact hx | exact List.mem_cons_of_mem _ hx | exact List.mem_append_right _ hx | ((repeat (first | exact sel_in hx | exact hx | (with_reducible apply List.mem_cons_of_mem) | (with_reducible apply List.mem_append_right))); done) | cases hx))) | (((with_reducible apply XOp.callQ (hF := shape1_fn lb off)); (case hg => exact rfl); (case hc => exact rfl); (case ha => exact rfl); try (case hA => exact Known.true)); rintro _ rfl) | (((with_reducible apply XOp.callQ (hF := shape2_fn lb off)); (case hg => exact rfl); (case hc => exact rfl); (case ha => exact rfl); try (case hA => exact Known.true)); rintro _ rfl) | (((with_reducible apply XOp.callQ (hF := shape3_fn lb off)); (case hg => exact rfl); (case hc => exact rfl); (case ha => exact rfl); try (case hA => exact Known.true)); rintro _ rfl) | (((with_reducible apply XOp.callQ (hF := shape4_fn lb off)); (case hg => exact rfl); (case hc => exact rfl); (case ha => exact rfl); try (case hA => exact Known.true)); rintro _ rfl) | (((with_reducible apply XOp.callQ (hF := shape5_fn lb off)); (case hg => exact rfl); (case hc => exact rfl); (case ha => exact rfl); try (case hA => exact Known.true)); rintro _ rfl) | (((with_reducible apply XOp.callQ (hF := shape6_fn lb off)); (case hg => exact rfl); (case hc => exact rfl); (case ha => exact rfl); try (case hA => exact Known.true)); rintro _ rfl) | (((with_reducible apply XOp.callQ (hF := shape7_fn lb off)); (case hg => exact rfl); (case hc => exact rfl); (case ha => exact rfl); try (case hA => exact Known.true)); rintro _ rfl) | (first | ((with_reducible apply XOp.loadN); (case hg | ht | hk | hx => exact rfl); (case hc => exact Known.of_old m0 (Mono.row _ _ _)); (case hl => exact rfl)) | ((with_reducible apply XP.loadN); (case ho | hg | ht | hk | hx => exact rfl); (case hc => exact Known.of_old m0 (Mono.row _ _ _)); (case hl => exact rfl))) | (first | ((with_reducible apply XOp.loadN); (case hg | ht | hk | hx => exact rfl); (case hc => exact Known.of_old m1 (Mono.row _ _ _)); (case hl => exact rfl)) | ((with_reducible apply XP.loadN); (case ho | hg | ht | hk | hx => exact rfl); (case hc => exact Known.of_old m1 (Mono.row _ _ _)); (case hl => exact rfl))) | (first | ((with_reducible apply XOp.loadN); (case hg | ht | hk | hx => exact rfl); (case hc => exact Known.of_old m2 (Mono.row _ _ _)); (case hl => exact rfl)) | ((with_reducible apply XP.loadN); (case ho | hg | ht | hk | hx => exact rfl); (case hc => exact Known.of_old m2 (Mono.row _ _ _)); (case hl => exact rfl))) | (first | ((with_reducible apply XOp.loadN); (case hg | ht | hk | hx => exact rfl); (case hc => exact Known.of_old m3 (Mono.row _ _ _)); (case hl => exact rfl)) | ((with_reducible apply XP.loadN); (case ho | hg | ht | hk | hx => exact rfl); (case hc => exact Known.of_old m3 (Mono.row _ _ _)); (case hl => exact rfl))) | (first | ((with_reducible apply XOp.loadN); (case hg | ht | hk | hx => exact rfl); (case hc => exact Known.of_old m4 (Mono.row _ _ _)); (case hl => exact rfl)) | ((with_reducible apply XP.loadN); (case ho | hg | ht | hk | hx => exact rfl); (case hc => exact Known.of_old m4 (Mono.row _ _ _)); (case hl => exact rfl))) | (first | ((with_reducible apply XOp.loadN); (case hg | ht | hk | hx => exact rfl); (case hc => exact Known.of_old m5 (Mono.row _ _ _)); (case hl => exact rfl)) | ((with_reducible apply XP.loadN); (case ho | hg | ht | hk | hx => exact rfl); (case hc => exact Known.of_old m5 (Mono.row _ _ _)); (case hl => exact rfl))) | (first | ((with_reducible apply XOp.loadN); (case hg | ht | hk | hx => exact rfl); (case hc => exact Known.of_old m6 (Mono.row _ _ _)); (case hl => exact rfl)) | ((with_reducible apply XP.loadN); (case ho | hg | ht | hk | hx => exact rfl); (case hc => exact Known.of_old m6 (Mono.row _ _ _)); (case hl => exact rfl))) | (((with_reducible apply XOp.callQ (hF := shapedL_fn _ _ _)); (case hg => exact rfl); (case hc => exact rfl); (case ha => exact rfl); try (case hA => exact Known.true)); (case hA => first | exact Known.of_old hA.q (lm_mono _) | exact Known.of_old hA.k (lm_mono _) | exact Known.of_old hA.v (lm_mono _) | exact Known.of_old hA.o (lm_mono _) | exact Known.of_old hA.g (lm_mono _) | exact Known.of_old hA.u (lm_mono _) | exact Known.of_old hA.d (lm_mono _)); rintro _ rfl) | ((with_reducible apply XC.cond); (case hc => exact rfl); all_goals (intro hb_; try simp only [pd_true, pd_false, Bool.not_eq_true', Bool.not_eq_false', Bool.and_eq_true, Bool.and_eq_false_iff, Bool.or_eq_true, Bool.or_eq_false_iff, not_true_eq_false, not_false_eq_true, Int.not_lt, Int.not_le] at hb_))))
    all_goals first | (((with_reducible apply XQ.retE); (case hr => exact .t rfl .nil)); (first | exact hno 0 (by omega) hb_ | exact hno 1 (by omega) hb_ | exact hno 2 (by omega) hb_ | exact hno 3 (by omega) hb_ | exact hno 4 (by omega) hb_ | exact hno 5 (by omega) hb_ | exact hno 6 (by omega) hb_)) | exact ⟨k - 1, by omega, _, .of (List.sublist_cons_self _ _), 1, by omega, rfl, fun j hj => by rcases (by omega : j < 0 ∨ j = 0) with h | rfl; exact hq j h; first | assumption | exact hb_, rfl, rfl, rfl, rfl, intS2 (i := 0) (m := 7) (by omega) (by omega), trivial⟩ | exact ⟨k - 1, by omega, _, .of (List.sublist_cons_self _ _), 2, by omega, rfl, fun j hj => by rcases (by omega : j < 1 ∨ j = 1) with h | rfl; exact hq j h; first | assumption | exact hb_, rfl, rfl, rfl, rfl, intS2 (i := 1) (m := 7) (by omega) (by omega), trivial⟩ | exact ⟨k - 1, by omega, _, .of (List.sublist_cons_self _ _), 3, by omega, rfl, fun j hj => by rcases (by omega : j < 2 ∨ j = 2) with h | rfl; exact hq j h; first | assumption | exact hb_, rfl, rfl, rfl, rfl, intS2 (i := 2) (m := 7) (by omega) (by omega), trivial⟩ | exact ⟨k - 1, by omega, _, .of (List.sublist_cons_self _ _), 4, by omega, rfl, fun j hj => by rcases (by omega : j < 3 ∨ j = 3) with h | rfl; exact hq j h; first | assumption | exact hb_, rfl, rfl, rfl, rfl, intS2 (i := 3) (m := 7) (by omega) (by omega), trivial⟩ | exact ⟨k - 1, by omega, _, .of (List.sublist_cons_self _ _), 5, by omega, rfl, fun j hj => by rcases (by omega : j < 4 ∨ j = 4) with h | rfl; exact hq j h; first | assumption | exact hb_, rfl, rfl, rfl, rfl, intS2 (i := 4) (m := 7) (by omega) (by omega), trivial⟩ | exact ⟨k - 1, by omega, _, .of (List.sublist_cons_self _ _), 6, by omega, rfl, fun j hj => by rcases (by omega : j < 5 ∨ j = 5) with h | rfl; exact hq j h; first | assumption | exact hb_, rfl, rfl, rfl, rfl, intS2 (i := 5) (m := 7) (by omega) (by omega), trivial⟩ | exact ⟨k - 1, by omega, _, .of (List.sublist_cons_self _ _), 7, by omega, rfl, fun j hj => by rcases (by omega : j < 6 ∨ j = 6) with h | rfl; exact hq j h; first | assumption | exact hb_, rfl, rfl, rfl, rfl, intS2 (i := 6) (m := 7) (by omega) (by omega), trivial⟩
  obtain rfl : i = 7 := by omega
  have hB : rowv (oldv w0 (keys [])) lb (off + 23) (l.by_.map (Value.int .i64)) := rowv_sub hR 23 7
  (repeat (first | (with_reducible apply XL.op) | ((with_reducible apply XOp.p1); (case hg | hv => exact rfl)) | (with_reducible apply XL.nilT) | (with_reducible apply XC.seq) | (with_reducible apply XC.region (Γ := Γ)) | (with_reducible apply XQ.exit) | (with_reducible apply XQ.nt) | (with_reducible apply XQ.et) | (with_reducible apply XC.block) | ((with_reducible apply XQ.eb); (case hb => exact rfl)) | (first | ((with_reducible apply XOp.loadN); (case hg | ht | hk | hx => exact rfl); (case hc => exact Known.of_old hB (Mono.row _ _ _)); (case hl => exact rfl)) | ((with_reducible apply XP.loadN); (case ho | hg | ht | hk | hx => exact rfl); (case hc => exact Known.of_old hB (Mono.row _ _ _)); (case hl => exact rfl)))))
  refine XC.subl (L' := [(cb, .cells ⟨c.cells⟩ 23 (0, 0))]) (List.Sublist.cons_cons _ (List.nil_sublist _)) ?_
  refine XC.loop (fun k ρ L => ∃ i : Nat, i + k = 7 ∧ L = [(cb, .cells ⟨c.cells⟩ 23 (0, 0))] ∧ (∀ j < i, 0 ≤ l.by_.getD j 0 ∧ l.by_.getD j 0 ≤ 24) ∧ Slots ρ [(0, .pointer (some ⟨lb, off, none⟩)), (3, .pointer (some ⟨cb, 0, none⟩)), (32, .agg ⟨l.by_.map (Value.int .i64)⟩), (33, .int .i64 i)])
    7 ⟨0, by simp, rfl, by simp, rfl, rfl, rfl, rfl, trivial⟩ ?_
  rintro k ρ L ⟨i, hik, rfl, hq2, hs⟩
  refine XC.slots _ hs ?_
  (repeat (first | (with_reducible apply XL.op) | ((with_reducible apply XOp.p1); (case hg | hv => exact rfl)) | (with_reducible apply XL.nilT) | (with_reducible apply XC.seq) | (with_reducible apply XC.region (Γ := Γ))))
  ((with_reducible apply XC.cond); (case hc => exact rfl); all_goals (intro hb_; try simp only [pd_true, pd_false, Bool.not_eq_true', Bool.not_eq_false', Bool.and_eq_true, Bool.and_eq_false_iff, Bool.or_eq_true, Bool.or_eq_false_iff, not_true_eq_false, not_false_eq_true, Int.not_lt, Int.not_le] at hb_))
  · (repeat' (first | (with_reducible apply XL.op) | ((with_reducible apply XOp.p1); (case hg | hv => exact rfl)) | (with_reducible apply XL.nilT) | (with_reducible apply XC.seq) | (with_reducible apply XC.region (Γ := Γ)) | (with_reducible apply XQ.skip) | (with_reducible apply XQ.ret) | (with_reducible apply XQ.nt) | (with_reducible apply XQ.nb) | (with_reducible apply XQ.rt) | (with_reducible apply XQ.rb) | (with_reducible apply XC.block) | (first | ((with_reducible apply XOp.pr); (case hg => exact rfl); (case hr => (with_reducible apply PR.arr); (case ht => exact rfl); (case hk => exact rfl); (case he => exact rfl); (case hag => exact rfl); (case hs => exact rfl); (case hx => exact rfl); (case hi => exact rfl); (case hr => first | assumption | omega); (case hc => exact by_get l (i := i) (by omega)))) | ((with_reducible apply XP.pr); (case ho => exact rfl); (case hg => exact rfl); (case hr => (with_reducible apply PR.arr); (case ht => exact rfl); (case hk => exact rfl); (case he => exact rfl); (case hag => exact rfl); (case hs => exact rfl); (case hx => exact rfl); (case hi => exact rfl); (case hr => first | assumption | omega); (case hc => exact by_get l (i := i) (by omega))))) | (((with_reducible apply XOp.callQ (hF := within_fn _ _ _)); (case hg => exact rfl); (case hc => exact rfl); (case ha => exact rfl); try (case hA => exact Known.true)); rintro _ rfl) | ((with_reducible apply XC.cond); (case hc => exact rfl); all_goals (intro hb_; try simp only [pd_true, pd_false, Bool.not_eq_true', Bool.not_eq_false', Bool.and_eq_true, Bool.and_eq_false_iff, Bool.or_eq_true, Bool.or_eq_false_iff, not_true_eq_false, not_false_eq_true, Int.not_lt, Int.not_le] at hb_))))
    · ((with_reducible apply XQ.retE); (case hr => exact .t rfl .nil))
      exact congrArg Value.bool (pdf (fun h => by have := h.by_ i (by omega); omega)).symm
    · exact ⟨k - 1, by omega, i + 1, by omega, rfl, fun j hj => by
        rcases Nat.lt_or_ge j i with h | h
        · exact hq2 j h
        · obtain rfl : j = i := by omega
          omega, rfl, rfl, rfl, intS2 (m := 7) (by omega) (by omega), trivial⟩
  obtain rfl : i = 7 := by omega
  have hN0 : cellv (oldv w0 (keys [])) ⟨lb, off + 0, none⟩ = some (slv l.n1) := hR 0 _ rfl
  have hN1 : cellv (oldv w0 (keys [])) ⟨lb, off + 1, none⟩ = some (slv l.n2) := hR 1 _ rfl
  (repeat (first | (with_reducible apply XC.seq) | (with_reducible apply XQ.exit) | (with_reducible apply XQ.nt) | (with_reducible apply XQ.et) | ((with_reducible apply XQ.eb); (case hb => exact rfl))))
  ((with_reducible apply XC.regionD (Γ := Γ) mixed (.q 0 (.q 1 (.q 2 (.q 3 (.q 4 (.q 5 (.e 6 (.q 7 (.q 8 (.q 9 (.q 10 (.q 11 (.q 12 (.q 13 (.e 14 (.q 15 (.q 16 (.done)))))))))))))))))) [] []); (case hc => kernel_rfl))
  (repeat' (first | ((with_reducible apply XOp.p0); (case hg => exact rfl)) | (with_reducible apply XQ.ret) | (with_reducible apply XQ.nt) | ((with_reducible apply XP.p1); (case ho | hg | hv => exact rfl)) | ((with_reducible apply XP.p0); (case ho | hg => exact rfl)) | ((with_reducible apply XP.load); (case ho | hg | ht | hk | hx => exact rfl); (case hc => exact own_cell (i := 0) rfl rfl)) | (with_reducible apply XP.done) | ((with_reducible apply XP.e); (first | ((with_reducible apply XE.d); (case ho => exact rfl); (case hd => exact rfl)) | ((with_reducible apply XE.e); (case ho => exact rfl)))) | ((with_reducible apply XP.keep); (case hk => first | ((repeat' (first | exact List.forall_mem_nil _ | (with_reducible refine List.forall_mem_cons.2 ⟨?_, ?_⟩) | exact List.mem_cons_self .. | (with_reducible apply List.mem_cons_of_mem) | (with_reducible apply List.mem_append_right))); done) | (intro x hx; first | exact sel_in hx | exact List.mem_cons_of_mem _ (sel_in hx) | exact List.mem_append_right _ (sel_in hx) | exact hx | exact List.mem_cons_of_mem _ hx | exact List.mem_append_right _ hx | ((repeat (first | exact sel_in hx | exact hx | (with_reducible apply List.mem_cons_of_mem) | (with_reducible apply List.mem_append_right))); done) | cases hx))) | (first | ((with_reducible apply XOp.load); (case hg | ht | hk | hx => exact rfl); (case hc => exact Known.of_old hN0 (Mono.cell _ _))) | ((with_reducible apply XP.load); (case ho | hg | ht | hk | hx => exact rfl); (case hc => exact Known.of_old hN0 (Mono.cell _ _)))) | (first | ((with_reducible apply XOp.load); (case hg | ht | hk | hx => exact rfl); (case hc => exact Known.of_old hN1 (Mono.cell _ _))) | ((with_reducible apply XP.load); (case ho | hg | ht | hk | hx => exact rfl); (case hc => exact Known.of_old hN1 (Mono.cell _ _)))) | (((with_reducible apply XOp.callQ (hF := gainsL_fn _ _)); (case hg => exact rfl); (case hc => exact rfl); (case ha => exact rfl); try (case hA => exact Known.true)); (case hA => first | exact Known.of_old hA.n1 (lv_mono _) | exact Known.of_old hA.n2 (lv_mono _)); rintro _ rfl) | ((with_reducible apply XP.split); (case ho | hg | hj | hd | hb => exact rfl); (fail_if_success (case hf => exact fun h => Bool.noConfusion h)); (fail_if_success (case ht => exact fun h => Bool.noConfusion h)); all_goals (intro hb_; try simp only [pd_true, pd_false, Bool.not_eq_true', Bool.not_eq_false', Bool.and_eq_true, Bool.and_eq_false_iff, Bool.or_eq_true, Bool.or_eq_false_iff, not_true_eq_false, not_false_eq_true, Int.not_lt, Int.not_le] at hb_))))
  all_goals ((with_reducible apply XQ.retE); (case hr => exact .t rfl .nil))
  · refine congrArg Value.bool ?_
    by_cases h2 : gainsP l.n2.1 c.Width
    · rw [pdt h2, pdt (mats_layP hq hb_ h2 hq2)]
    · rw [pdf h2, pdf (fun h => h2 h.n2)]
  · exact congrArg Value.bool (pdf (fun h => hb_ h.n1)).symm
end Go.Proofs.YtppggaiahkecoaaDoorX
/- Do the weights fit? The program's. -/
namespace Go.Proofs.YtppggaiahkecoaaDoorX
open Go Go.SX

theorem pdc {p q : Prop} (h : p ↔ q) : pd p = pd q := by rw [propext h]
structure okP1 (x : LW) : Prop where
  e : shpP x.E.mat x.C.Vocab x.C.Width
  h : shpP x.H.mat x.C.Vocab x.C.Width
  f : gainsP x.F.1 x.C.Width
  t : (x.T.1.length : Int) = x.C.head / 2
  ll : (x.Ls.1.length : Int) = x.C.Layers
  ml : (x.M.1.length : Int) = x.C.Medusa
theorem max_le (a b n : Int) : (if b > a then b else a) ≤ n ↔ a ≤ n ∧ b ≤ n := by split <;> omega
theorem min_ge (a b n : Int) : n ≤ (if b < a then b else a) ↔ n ≤ a ∧ n ≤ b := by split <;> omega
theorem turn_iff (y : Int × Int) : ((if y.2 > y.1 then y.2 else y.1) ≤ 16384 ∧ -16384 ≤ (if y.2 < y.1 then y.2 else y.1)) ↔ turnP y := by
  rw [max_le, min_ge]; unfold turnP; omega
set_option maxHeartbeats 8000000 in
theorem checkW_fn (x : LW) : FC Tryd.prog 27 [.agg ⟨x.cells⟩] [] (fun h => sidesK h ∧ lwAt h x)
    (fun v L => v = .int .i64 (errW x.w) ∧ L = []) := by
  refine FC.nil ?_
  refine FC.intro Tryd.func27 rfl (by kernel_rfl) 126 [.tmp 2] rfl rfl rfl ?_
  rintro w0 ⟨hS, hA⟩
  (repeat (first | (with_reducible apply XL.op) | (with_reducible apply XC.seq) | (with_reducible apply XC.region (Γ := Γ))))
  ((with_reducible apply XOp.box); (case hg | hx' => exact rfl); intro wb)
  (repeat (first | (with_reducible apply XL.op) | ((with_reducible apply XOp.p1); (case hg | hv => exact rfl)) | ((with_reducible apply XOp.loadO (i := 0)); (case hg | ht | hk | hx | hi | hc => exact rfl)) | (with_reducible apply XL.nilT) | (with_reducible apply XC.seq) | (with_reducible apply XC.region (Γ := Γ))))
  ((with_reducible apply XOp.alloc); (case hg | ht | hx' => exact rfl); intro cb)
  (repeat (first | (with_reducible apply XL.op) | ((with_reducible apply XOp.loadO (i := 0)); (case hg | ht | hk | hx | hi | hc => exact rfl)) | ((with_reducible apply XOp.storeN (i := 0)); (case hg | ht | hx | hv' | hk | h1 | hi | hs | ha => exact rfl)) | (with_reducible apply XL.nilT) | (with_reducible apply XC.seq) | (with_reducible apply XC.region (Γ := Γ))))
  (repeat (first | (with_reducible apply XL.op) | ((with_reducible apply XOp.p1); (case hg | hv => exact rfl)) | (with_reducible apply XL.nilT) | (with_reducible apply XC.seq) | (with_reducible apply XC.region (Γ := Γ)) | (((with_reducible apply XOp.callQ (hF := FC.nil (check_fn x.C))); (case hg => exact rfl); (case hc => exact rfl); (case ha => exact rfl); try (case hA => exact Known.true)); rintro _ rfl)))
  ((with_reducible apply XC.cond); (case hc => exact rfl); all_goals (intro hb_; try simp only [pd_true, pd_false, Bool.not_eq_true', Bool.not_eq_false', Bool.and_eq_true, Bool.and_eq_false_iff, Bool.or_eq_true, Bool.or_eq_false_iff, not_true_eq_false, not_false_eq_true, Int.not_lt, Int.not_le] at hb_))
  · (repeat (first | (with_reducible apply XL.op) | ((with_reducible apply XOp.p1); (case hg | hv => exact rfl)) | (with_reducible apply XL.nilT) | (with_reducible apply XC.seq) | (with_reducible apply XC.region (Γ := Γ)) | (with_reducible apply XQ.ret) | (with_reducible apply XQ.rt)))
    ((with_reducible apply XQ.retE); (case hr => exact .t rfl .nil))
    exact congrArg (Value.int .i64) ((cerr_no (fun h => hb_ ((cerr_iff _).2 h))).trans (errW_c (w := x.w) (fun h => hb_ ((cerr_iff _).2 h))).symm)
  have hc : x.C.may := (cerr_iff _).1 (by first | assumption | exact Classical.not_not.1 hb_)
  (repeat (first | (with_reducible apply XC.seq) | (with_reducible apply XQ.skip) | (with_reducible apply XQ.nt)))
  refine XC.cut (fun ρ L => L = [(cb, .cells ⟨x.C.cells⟩ 23 (0, 0)), (wb, .cells ⟨x.cells⟩ 31 (0, 0))] ∧ Slots ρ [(1, .pointer (some ⟨wb, 0, none⟩)), (3, .pointer (some ⟨cb, 0, none⟩)), (5, .bool (pd (okP1 x)))]) _ ?_ ?_
  · ((with_reducible apply XC.regionD (Γ := Γ) mixed (.q 0 (.q 1 (.q 2 (.q 3 (.q 4 (.q 5 (.e 6 (.q 7 (.q 8 (.q 9 (.q 10 (.q 11 (.q 12 (.q 13 (.e 14 (.q 15 (.q 16 (.q 17 (.q 18 (.q 19 (.q 20 (.e 21 (.q 22 (.q 23 (.q 24 (.q 25 (.q 26 (.q 27 (.e 28 (.q 29 (.q 30 (.q 31 (.q 32 (.q 33 (.q 34 (.q 35 (.q 36 (.q 37 (.q 38 (.q 39 (.q 40 (.q 41 (.q 42 (.q 43 (.q 44 (.q 45 (.q 46 (.q 47 (.q 48 (.done)))))))))))))))))))))))))))))))))))))))))))))))))) [] []); (case hc => kernel_rfl))
    (repeat' (first | ((with_reducible apply XOp.p0); (case hg => exact rfl)) | (with_reducible apply XQ.nt) | ((with_reducible apply XP.p1); (case ho | hg | hv => exact rfl)) | ((with_reducible apply XP.p0); (case ho | hg => exact rfl)) | ((with_reducible apply XP.load); (case ho | hg | ht | hk | hx => exact rfl); (case hc => exact own_cell (i := 0) rfl rfl)) | ((with_reducible apply XP.load); (case ho | hg | ht | hk | hx => exact rfl); (case hc => exact own_cell (i := 1) rfl rfl)) | ((with_reducible apply XP.loadO (j := 0)); (case ho | hg | ht | hk | hx | hi | hc => exact rfl)) | ((with_reducible apply XP.loadO (j := 1)); (case ho | hg | ht | hk | hx | hi | hc => exact rfl)) | (with_reducible apply XP.done) | ((with_reducible apply XP.e); (first | ((with_reducible apply XE.d); (case ho => exact rfl); (case hd => exact rfl)) | ((with_reducible apply XE.e); (case ho => exact rfl)))) | ((with_reducible apply XP.keep); (case hk => first | ((repeat' (first | exact List.forall_mem_nil _ | (with_reducible refine List.forall_mem_cons.2 ⟨?_, ?_⟩) | exact List.mem_cons_self .. | (with_reducible apply List.mem_cons_of_mem) | (with_reducible apply List.mem_append_right))); done) | (intro x hx; first | exact sel_in hx | exact List.mem_cons_of_mem _ (sel_in hx) | exact List.mem_append_right _ (sel_in hx) | exact hx | exact List.mem_cons_of_mem _ hx | exact List.mem_append_right _ hx | ((repeat (first | exact sel_in hx | exact hx | (with_reducible apply List.mem_cons_of_mem) | (with_reducible apply List.mem_append_right))); done) | cases hx))) | (((with_reducible apply XOp.callQ (hF := gainsL_fn _ _)); (case hg => exact rfl); (case hc => exact rfl); (case ha => exact rfl); try (case hA => exact Known.true)); (case hA => exact Known.of_old hA.f (lv_mono _)); rintro _ rfl) | (((with_reducible apply XOp.callQ (hF := shapedL_fn _ _ _)); (case hg => exact rfl); (case hc => exact rfl); (case ha => exact rfl); try (case hA => exact Known.true)); (case hA => first | exact Known.of_old hA.e (lm_mono _) | exact Known.of_old hA.hd (lm_mono _)); rintro _ rfl) | (((with_reducible apply XOp.callQ (hF := head_fn x.C hc)); (case hg => exact rfl); (case hc => exact rfl); (case ha => exact rfl); try (case hA => exact Known.true)); rintro _ rfl) | ((with_reducible apply XP.split); (case ho | hg | hj | hd | hb => exact rfl); (fail_if_success (case hf => exact fun h => Bool.noConfusion h)); (fail_if_success (case ht => exact fun h => Bool.noConfusion h)); all_goals (intro hb_; try simp only [pd_true, pd_false, Bool.not_eq_true', Bool.not_eq_false', Bool.and_eq_true, Bool.and_eq_false_iff, Bool.or_eq_true, Bool.or_eq_false_iff, not_true_eq_false, not_false_eq_true, Int.not_lt, Int.not_le] at hb_))))
    all_goals refine ⟨rfl, rfl, rfl, ?_, trivial⟩
    all_goals refine congrArg Value.bool ?_
    all_goals try rw [half_wrap hc] at *
    · exact pdc ⟨fun h => ⟨by assumption, by assumption, by assumption, by assumption, by assumption, h⟩, fun h => h.ml⟩
    all_goals exact (pdf fun h => by first | exact hb_ h.ll | exact hb_ h.t | exact hb_ h.f | exact hb_ h.h | exact hb_ h.e).symm
  rintro ρ L ⟨rfl, hs⟩
  refine XC.slots _ hs ?_
  (repeat (first | (with_reducible apply XL.op) | ((with_reducible apply XOp.p1); (case hg | hv => exact rfl)) | ((with_reducible apply XOp.load); (case hg | ht | hk | hx => exact rfl); (case hc => exact own_cell (i := 1) rfl rfl)) | (with_reducible apply XL.nilT) | (with_reducible apply XC.seq) | (with_reducible apply XC.region (Γ := Γ)) | (with_reducible apply XC.block)))
  have hT := hA.t
  have hTa := hT.at_
  have hTb := hT.bytes
  have hL := hA.l.locRaw
  have hLa := hL.at_
  have hLb := hL.bytes
  have hM := hA.m.locRaw
  have hMa := hM.at_
  have hMb := hM.bytes
  refine XC.loopP (fun k ρ L => ∃ i : Nat, i + k = x.T.1.length ∧ L = [(cb, .cells ⟨x.C.cells⟩ 23 (0, 0)), (wb, .cells ⟨x.cells⟩ 31 (0, 0))] ∧ Slots ρ [(1, .pointer (some ⟨wb, 0, none⟩)), (3, .pointer (some ⟨cb, 0, none⟩)), (5, .bool (pd (okP1 x ∧ ∀ y ∈ x.T.1.take i, turnP y))), (67, sla x.T), (68, .int .i64 x.T.1.length), (69, .int .i64 i)])
    x.T.1.length ⟨0, by simp, rfl, rfl, rfl, ?_, rfl, rfl, rfl, trivial⟩ ?_
  · exact congrArg Value.bool (pdc ⟨fun h => ⟨h, by simp⟩, fun h => h.1⟩)
  · rintro k ρ L ⟨i, hik, rfl, hs⟩
    refine XC.slots _ hs ?_
    (repeat (first | (with_reducible apply XL.op) | ((with_reducible apply XOp.p1); (case hg | hv => exact rfl)) | (with_reducible apply XL.nilT) | (with_reducible apply XC.seq) | (with_reducible apply XC.region (Γ := Γ))))
    ((with_reducible apply XC.cond); (case hc => exact rfl); all_goals (intro hb_; try simp only [pd_true, pd_false, Bool.not_eq_true', Bool.not_eq_false', Bool.and_eq_true, Bool.and_eq_false_iff, Bool.or_eq_true, Bool.or_eq_false_iff, not_true_eq_false, not_false_eq_true, Int.not_lt, Int.not_le] at hb_))
    · obtain ⟨y, hi⟩ : ∃ y, x.T.1[i]? = some y := ⟨_, List.getElem?_eq_getElem (by omega)⟩
      have hn : (∀ z ∈ x.T.1.take (i + 1), turnP z) ↔ (∀ z ∈ x.T.1.take i, turnP z) ∧ turnP y := by
        rw [take_snocD hi]; simp only [List.forall_mem_append, List.forall_mem_singleton]
      (repeat (first | (with_reducible apply XL.op) | ((with_reducible apply XOp.pr); (case hg => exact rfl); (case hr => ((with_reducible apply PR.idxA); (case ht | hk | he | hx | hi => exact rfl); (case hr => first | assumption | omega); (case ha => first | assumption | exact SlA.at_ (by assumption))))) | (with_reducible apply XC.seq) | (with_reducible apply XC.region (Γ := Γ)) | (with_reducible apply XQ.skip) | (with_reducible apply XQ.nt) | (with_reducible apply XC.block) | (first | ((with_reducible apply XOp.loadN); (case hg | ht | hk | hx => exact rfl); (case hc => exact Known.of_old (hT.rawAt hi) (Mono.row _ _ _)); (case hl => exact rfl)) | ((with_reducible apply XP.loadN); (case ho | hg | ht | hk | hx => exact rfl); (case hc => exact Known.of_old (hT.rawAt hi) (Mono.row _ _ _)); (case hl => exact rfl)))))
      ((with_reducible apply XOp.alloc); (case hg | ht | hx' => exact rfl); intro tb)
      (repeat' (first | (with_reducible apply XL.op) | ((with_reducible apply XOp.p1); (case hg | hv => exact rfl)) | ((with_reducible apply XOp.p0); (case hg => exact rfl)) | ((with_reducible apply XOp.load); (case hg | ht | hk | hx => exact rfl); (case hc => exact own_cell (i := 0) rfl rfl)) | ((with_reducible apply XOp.storeN (i := 0)); (case hg | ht | hx | hv' | hk | h1 | hi | hs | ha => exact rfl)) | (with_reducible apply XL.nilT) | (with_reducible apply XC.region (Γ := Γ)) | (with_reducible apply XL.nilQ) | (with_reducible apply XQ.nt) | (with_reducible apply XQ.nb) | ((with_reducible apply XOp.split); (case hg | hj | hd | hb => exact rfl); (fail_if_success (case hf => exact fun h => Bool.noConfusion h)); (fail_if_success (case ht => exact fun h => Bool.noConfusion h)); all_goals (intro hb_; try simp only [pd_true, pd_false, Bool.not_eq_true', Bool.not_eq_false', Bool.and_eq_true, Bool.and_eq_false_iff, Bool.or_eq_true, Bool.or_eq_false_iff, not_true_eq_false, not_false_eq_true, Int.not_lt, Int.not_le] at hb_))))
      all_goals refine ⟨k - 1, by omega, _, .of (List.sublist_cons_self _ _), i + 1, by omega, rfl, rfl, rfl, ?_, rfl, rfl, intS2 (m := x.T.1.length) (by omega) (by omega), trivial⟩
      all_goals refine congrArg Value.bool ?_
      all_goals rw [hn]
      · rename_i hp
        exact pdc ⟨fun h => ⟨hp.1, hp.2, (turn_iff y).1 ⟨hb_, h⟩⟩, fun h => ((turn_iff y).2 h.2.2).2⟩
      · exact (pdf fun h => absurd ((turn_iff y).2 h.2.2).1 (Int.not_le.2 hb_)).symm
      · exact (pdf fun h => hb_ ⟨h.1, h.2.1⟩).symm
    obtain rfl : i = x.T.1.length := by omega
    rw [List.take_length]
    (repeat (first | (with_reducible apply XL.op) | ((with_reducible apply XOp.p1); (case hg | hv => exact rfl)) | ((with_reducible apply XOp.load); (case hg | ht | hk | hx => exact rfl); (case hc => exact own_cell (i := 1) rfl rfl)) | (with_reducible apply XL.nilT) | (with_reducible apply XC.seq) | (with_reducible apply XC.region (Γ := Γ)) | (with_reducible apply XQ.exit) | (with_reducible apply XQ.nt) | (with_reducible apply XQ.et) | (with_reducible apply XC.block) | ((with_reducible apply XQ.eb); (case hb => exact rfl))))
    refine XC.loopP (fun k ρ L => ∃ i : Nat, i + k = x.Ls.1.length ∧ L = [(cb, .cells ⟨x.C.cells⟩ 23 (0, 0)), (wb, .cells ⟨x.cells⟩ 31 (0, 0))] ∧ Slots ρ [(1, .pointer (some ⟨wb, 0, none⟩)), (3, .pointer (some ⟨cb, 0, none⟩)), (5, .bool (pd ((okP1 x ∧ ∀ y ∈ x.T.1, turnP y) ∧ ∀ l ∈ x.Ls.1.take i, layP l x.C))), (93, .int .i64 x.Ls.1.length), (94, .int .i64 i)])
      x.Ls.1.length ⟨0, by simp, rfl, rfl, rfl, ?_, rfl, rfl, trivial⟩ ?_
    · exact congrArg Value.bool (pdc ⟨fun h => ⟨h, by simp⟩, fun h => h.1⟩)
    rintro k ρ L ⟨i, hik, rfl, hs⟩
    refine XC.slots _ hs ?_
    (repeat (first | (with_reducible apply XL.op) | ((with_reducible apply XOp.p1); (case hg | hv => exact rfl)) | (with_reducible apply XL.nilT) | (with_reducible apply XC.seq) | (with_reducible apply XC.region (Γ := Γ))))
    ((with_reducible apply XC.cond); (case hc => exact rfl); all_goals (intro hb_; try simp only [pd_true, pd_false, Bool.not_eq_true', Bool.not_eq_false', Bool.and_eq_true, Bool.and_eq_false_iff, Bool.or_eq_true, Bool.or_eq_false_iff, not_true_eq_false, not_false_eq_true, Int.not_lt, Int.not_le] at hb_))
    · obtain ⟨l, hi⟩ : ∃ l, x.Ls.1[i]? = some l := ⟨_, List.getElem?_eq_getElem (by omega)⟩
      have hl := hA.l.locAt (List.mem_of_getElem? hi)
      have hn : (∀ z ∈ x.Ls.1.take (i + 1), layP z x.C) ↔ (∀ z ∈ x.Ls.1.take i, layP z x.C) ∧ layP l x.C := by
        rw [take_snocD hi]; simp only [List.forall_mem_append, List.forall_mem_singleton]
      (repeat (first | (with_reducible apply XL.op) | ((with_reducible apply XOp.p1); (case hg | hv => exact rfl)) | (with_reducible apply XL.nilT) | (with_reducible apply XC.seq) | (with_reducible apply XC.region (Γ := Γ)) | (with_reducible apply XQ.skip) | (with_reducible apply XQ.nt) | (with_reducible apply XC.block)))
      ((with_reducible apply XC.regionD (Γ := Γ) mixed (.q 0 (.q 1 (.q 2 (.q 3 (.q 4 (.q 5 (.q 6 (.e 7 (.q 8 (.q 9 (.done))))))))))) [] []); (case hc => kernel_rfl))
      (repeat' (first | (with_reducible apply XL.op) | ((with_reducible apply XOp.p1); (case hg | hv => exact rfl)) | ((with_reducible apply XOp.p0); (case hg => exact rfl)) | (with_reducible apply XL.nilT) | (with_reducible apply XC.region (Γ := Γ)) | (with_reducible apply XQ.nt) | (with_reducible apply XQ.nb) | ((with_reducible apply XP.p1); (case ho | hg | hv => exact rfl)) | ((with_reducible apply XP.p0); (case ho | hg => exact rfl)) | ((with_reducible apply XP.load); (case ho | hg | ht | hk | hx => exact rfl); (case hc => exact own_cell (i := 1) rfl rfl)) | ((with_reducible apply XP.loadO (j := 0)); (case ho | hg | ht | hk | hx | hi | hc => exact rfl)) | ((with_reducible apply XP.pr); (case ho => exact rfl); (case hg => exact rfl); (case hr => ((with_reducible apply PR.idxA); (case ht | hk | he | hx | hi => exact rfl); (case hr => first | assumption | omega); (case ha => first | assumption | exact SlA.at_ (by assumption))))) | (with_reducible apply XP.done) | ((with_reducible apply XP.e); (first | ((with_reducible apply XE.d); (case ho => exact rfl); (case hd => exact rfl)) | ((with_reducible apply XE.e); (case ho => exact rfl)))) | ((with_reducible apply XP.keep); (case hk => first | ((repeat' (first | exact List.forall_mem_nil _ | (with_reducible refine List.forall_mem_cons.2 ⟨?_, ?_⟩) | exact List.mem_cons_self .. | (with_reducible apply List.mem_cons_of_mem) | (with_reducible apply List.mem_append_right))); done) | (intro x hx; first | exact sel_in hx | exact List.mem_cons_of_mem _ (sel_in hx) | exact List.mem_append_right _ (sel_in hx) | exact hx | exact List.mem_cons_of_mem _ hx | exact List.mem_append_right _ hx | ((repeat (first | exact sel_in hx | exact hx | (with_reducible apply List.mem_cons_of_mem) | (with_reducible apply List.mem_append_right))); done) | cases hx))) | (((with_reducible apply XOp.callQ (hF := fits_fn l (ablk x.Ls.2.1) (aoff x.Ls.2.1 + ((i : Nat) : Int).toNat * 30) x.C hc)); (case hg => exact rfl); (case hc => exact rfl); (case ha => exact rfl); try (case hA => exact Known.true)); (case hA => exact Known.and (Known.of_old hS sides_mono) (Known.and (Known.of_old (hL.rawAt hi) (Mono.row _ _ _)) (Known.of_old hl (ll_mono _)))); rintro _ rfl) | ((with_reducible apply XP.split); (case ho | hg | hj | hd | hb => exact rfl); (fail_if_success (case hf => exact fun h => Bool.noConfusion h)); (fail_if_success (case ht => exact fun h => Bool.noConfusion h)); all_goals (intro hb_; try simp only [pd_true, pd_false, Bool.not_eq_true', Bool.not_eq_false', Bool.and_eq_true, Bool.and_eq_false_iff, Bool.or_eq_true, Bool.or_eq_false_iff, not_true_eq_false, not_false_eq_true, Int.not_lt, Int.not_le] at hb_))))
      all_goals refine ⟨k - 1, by omega, _, .of (List.Sublist.refl _), i + 1, by omega, rfl, rfl, rfl, ?_, rfl, intS2 (m := x.Ls.1.length) (by omega) (by omega), trivial⟩
      all_goals refine congrArg Value.bool ?_
      all_goals rw [hn]
      · exact pdc ⟨fun h => ⟨hb_.1, hb_.2, h⟩, fun h => h.2.2⟩
      · exact (pdf fun h => hb_ ⟨h.1, h.2.1⟩).symm
    obtain rfl : i = x.Ls.1.length := by omega
    rw [List.take_length]
    (repeat (first | (with_reducible apply XL.op) | ((with_reducible apply XOp.p1); (case hg | hv => exact rfl)) | ((with_reducible apply XOp.load); (case hg | ht | hk | hx => exact rfl); (case hc => exact own_cell (i := 1) rfl rfl)) | (with_reducible apply XL.nilT) | (with_reducible apply XC.seq) | (with_reducible apply XC.region (Γ := Γ)) | (with_reducible apply XQ.exit) | (with_reducible apply XQ.nt) | (with_reducible apply XQ.et) | (with_reducible apply XC.block) | ((with_reducible apply XQ.eb); (case hb => exact rfl))))
    refine XC.loopP (fun k ρ L => ∃ i : Nat, i + k = x.M.1.length ∧ L = [(cb, .cells ⟨x.C.cells⟩ 23 (0, 0)), (wb, .cells ⟨x.cells⟩ 31 (0, 0))] ∧ Slots ρ [(1, .pointer (some ⟨wb, 0, none⟩)), (3, .pointer (some ⟨cb, 0, none⟩)), (5, .bool (pd (((okP1 x ∧ ∀ y ∈ x.T.1, turnP y) ∧ ∀ l ∈ x.Ls.1, layP l x.C) ∧ ∀ m ∈ x.M.1.take i, shpP m.mat x.C.Vocab x.C.Width))), (108, sla x.M), (109, .int .i64 x.M.1.length), (110, .int .i64 i)])
      x.M.1.length ⟨0, by simp, rfl, rfl, rfl, ?_, rfl, rfl, rfl, trivial⟩ ?_
    · exact congrArg Value.bool (pdc ⟨fun h => ⟨h, by simp⟩, fun h => h.1⟩)
    rintro k ρ L ⟨i, hik, rfl, hs⟩
    refine XC.slots _ hs ?_
    (repeat (first | (with_reducible apply XL.op) | ((with_reducible apply XOp.p1); (case hg | hv => exact rfl)) | (with_reducible apply XL.nilT) | (with_reducible apply XC.seq) | (with_reducible apply XC.region (Γ := Γ))))
    ((with_reducible apply XC.cond); (case hc => exact rfl); all_goals (intro hb_; try simp only [pd_true, pd_false, Bool.not_eq_true', Bool.not_eq_false', Bool.and_eq_true, Bool.and_eq_false_iff, Bool.or_eq_true, Bool.or_eq_false_iff, not_true_eq_false, not_false_eq_true, Int.not_lt, Int.not_le] at hb_))
    · obtain ⟨l, hi⟩ : ∃ l, x.M.1[i]? = some l := ⟨_, List.getElem?_eq_getElem (by omega)⟩
      have hl := hA.m.locAt (List.mem_of_getElem? hi)
      have hn : (∀ z ∈ x.M.1.take (i + 1), shpP z.mat x.C.Vocab x.C.Width) ↔ (∀ z ∈ x.M.1.take i, shpP z.mat x.C.Vocab x.C.Width) ∧ shpP l.mat x.C.Vocab x.C.Width := by
        rw [take_snocD hi]; simp only [List.forall_mem_append, List.forall_mem_singleton]
      (repeat (first | (with_reducible apply XL.op) | ((with_reducible apply XOp.pr); (case hg => exact rfl); (case hr => ((with_reducible apply PR.idxA); (case ht | hk | he | hx | hi => exact rfl); (case hr => first | assumption | omega); (case ha => first | assumption | exact SlA.at_ (by assumption))))) | (with_reducible apply XC.seq) | (with_reducible apply XC.region (Γ := Γ)) | (with_reducible apply XQ.skip) | (with_reducible apply XQ.nt) | (with_reducible apply XC.block) | (first | ((with_reducible apply XOp.loadN); (case hg | ht | hk | hx => exact rfl); (case hc => exact Known.of_old (hM.rawAt hi) (Mono.row _ _ _)); (case hl => exact rfl)) | ((with_reducible apply XP.loadN); (case ho | hg | ht | hk | hx => exact rfl); (case hc => exact Known.of_old (hM.rawAt hi) (Mono.row _ _ _)); (case hl => exact rfl)))))
      ((with_reducible apply XOp.alloc); (case hg | ht | hx' => exact rfl); intro mb)
      (repeat' (first | (with_reducible apply XL.op) | ((with_reducible apply XOp.p1); (case hg | hv => exact rfl)) | ((with_reducible apply XOp.p0); (case hg => exact rfl)) | ((with_reducible apply XOp.load); (case hg | ht | hk | hx => exact rfl); (case hc => exact own_cell (i := 1) rfl rfl)) | ((with_reducible apply XOp.loadO (i := 0)); (case hg | ht | hk | hx | hi | hc => exact rfl)) | ((with_reducible apply XOp.storeN (i := 0)); (case hg | ht | hx | hv' | hk | h1 | hi | hs | ha => exact rfl)) | (with_reducible apply XL.nilT) | (with_reducible apply XC.region (Γ := Γ)) | (with_reducible apply XL.nilQ) | (with_reducible apply XQ.nt) | (with_reducible apply XQ.nb) | (((with_reducible apply XOp.callQ (hF := shapedL_fn l _ _)); (case hg => exact rfl); (case hc => exact rfl); (case ha => exact rfl); try (case hA => exact Known.true)); (case hA => exact Known.of_old hl (lm_mono _)); rintro _ rfl) | ((with_reducible apply XOp.split); (case hg | hj | hd | hb => exact rfl); (fail_if_success (case hf => exact fun h => Bool.noConfusion h)); (fail_if_success (case ht => exact fun h => Bool.noConfusion h)); all_goals (intro hb_; try simp only [pd_true, pd_false, Bool.not_eq_true', Bool.not_eq_false', Bool.and_eq_true, Bool.and_eq_false_iff, Bool.or_eq_true, Bool.or_eq_false_iff, not_true_eq_false, not_false_eq_true, Int.not_lt, Int.not_le] at hb_))))
      all_goals refine ⟨k - 1, by omega, _, .of (List.sublist_cons_self _ _), i + 1, by omega, rfl, rfl, rfl, ?_, rfl, rfl, intS2 (m := x.M.1.length) (by omega) (by omega), trivial⟩
      all_goals refine congrArg Value.bool ?_
      all_goals rw [hn]
      · exact pdc ⟨fun h => ⟨hb_.1, hb_.2, h⟩, fun h => h.2.2⟩
      · exact (pdf fun h => hb_ ⟨h.1, h.2.1⟩).symm
    obtain rfl : i = x.M.1.length := by omega
    rw [List.take_length]
    have hall : (((okP1 x ∧ ∀ y ∈ x.T.1, turnP y) ∧ ∀ l ∈ x.Ls.1, layP l x.C) ∧ ∀ m ∈ x.M.1, shpP m.mat x.C.Vocab x.C.Width) ↔ okW x.w := by
      rw [← okP_iff hA]
      constructor
      · rintro ⟨⟨⟨p, t⟩, l⟩, m⟩
        exact ⟨hc, p.e, p.h, p.f, ⟨p.t, t⟩, p.ll, p.ml, l, m⟩
      · rintro ⟨_, p⟩
        exact ⟨⟨⟨⟨p.e, p.h, p.f, p.t.1, p.ll, p.ml⟩, p.t.2⟩, p.l⟩, p.m⟩
    rw [pdc hall]
    (repeat' (first | (with_reducible apply XL.op) | ((with_reducible apply XOp.p1); (case hg | hv => exact rfl)) | (with_reducible apply XL.nilT) | (with_reducible apply XC.seq) | (with_reducible apply XC.region (Γ := Γ)) | (with_reducible apply XQ.skip) | (with_reducible apply XQ.ret) | (with_reducible apply XQ.exit) | (with_reducible apply XQ.nt) | (with_reducible apply XQ.rt) | (with_reducible apply XQ.et) | ((with_reducible apply XQ.eb); (case hb => exact rfl)) | ((with_reducible apply XC.cond); (case hc => exact rfl); all_goals (intro hb_; try simp only [pd_true, pd_false, Bool.not_eq_true', Bool.not_eq_false', Bool.and_eq_true, Bool.and_eq_false_iff, Bool.or_eq_true, Bool.or_eq_false_iff, not_true_eq_false, not_false_eq_true, Int.not_lt, Int.not_le] at hb_))))
    · ((with_reducible apply XQ.retE); (case hr => exact .t rfl .nil))
      exact congrArg (Value.int .i64) (errW_no hc hb_).symm
    · ((with_reducible apply XQ.retE); (case hr => exact .t rfl .nil))
      exact congrArg (Value.int .i64) (errW_ok hb_).symm
end Go.Proofs.YtppggaiahkecoaaDoorX
/- Pieces of the program's Encode: a section behind the file's beginning; one list's bytes, two lists' bytes. -/
namespace Go.Proofs.YtppggaiahkecoaaDoorX
open Go Go.SX

theorem _root_.Go.SX.FC.pre {f : Nat} {vs : List Value} {L0 : HL} {A A' : HV → Prop} {Post : Value → HL → Prop} (h : FC Tryd.prog f vs L0 A Post) (hA : ∀ h, A' h → A h) : FC Tryd.prog f vs L0 A' Post :=
  ⟨h.1, fun w h1 h2 h3 => h.2 w h1 h2 (fun h hh => hA _ (h3 h hh))⟩
theorem lvs_row {h : HV} {b : Nat} {xs : List LV} (hr : rowv h b 0 (xs.map slv)) (hb : xs.length ≤ 1000) : SlA (Kd.raw lvx 1 (fun _ => rfl)) 24 h xs (some ⟨b, 0, none⟩) xs.length :=
  ⟨Nat.le_refl _, by omega, fun h => (by cases h), fun _ => rfl, fun i x hx => ⟨lvx x, rfl, fun j v hj => by
    have hj0 : j = 0 := by
      have := (List.getElem?_eq_some_iff.1 hj).1
      have h1 : (lvx x).length = 1 := rfl
      omega
    subst hj0
    have hv : v = slv x := by
      have : (lvx x)[0]? = some (slv x) := rfl
      rw [this] at hj; exact (Option.some.inj hj).symm
    subst hv
    have := hr i (slv x) (by rw [List.getElem?_map, hx]; rfl)
    have e : ablk (some (⟨b, 0, none⟩ : Addr)) = b := rfl
    have e2 : aoff (some (⟨b, 0, none⟩ : Addr)) + i * (Kd.raw lvx 1 (fun _ => rfl)).sz + 0 = 0 + i := by show 0 + i * 1 + 0 = 0 + i; omega
    rw [e2]; exact this⟩⟩
theorem bytesN_fn (v : Value) (m : Nat) (xs : List Int) (F : HL) (hown : OwnS 5 1 v m (xs.map (.int .u8)) F) (ls : List LV) (b : Nat) (hl : ls.length ≤ 1000) (hm : m + sumL ls ≤ 1099511627776) :
    FC Tryd.prog 32 [v, .slice (some ⟨b, 0, none⟩) ls.length ls.length] F (fun h => rowv h b 0 (ls.map slv) ∧ ∀ x ∈ ls, lvAt h x) (fun v L => OwnS 5 1 v (m + sumL ls) ((xs ++ ls.flatMap lvB).map (.int .u8)) L) :=
  FC.pre (bytes_fn v m xs F hown ls (some ⟨b, 0, none⟩) ls.length hm) fun h hh => ⟨lvs_row hh.1 hl, hh.2⟩
theorem bytes1_fn (v : Value) (m : Nat) (xs : List Int) (F : HL) (hown : OwnS 5 1 v m (xs.map (.int .u8)) F) (x : LV) (b : Nat) (hm : m + x.1.length ≤ 1099511627776) :
    FC Tryd.prog 32 [v, .slice (some ⟨b, 0, none⟩) 1 1] F (fun h => rowv h b 0 [slv x] ∧ lvAt h x) (fun v L => OwnS 5 1 v (m + x.1.length) ((xs ++ x.1.map toB).map (.int .u8)) L) := by
  have e : sumL [x] = x.1.length := by simp [sumL, lvB]
  have h := bytesN_fn v m xs F hown [x] b (by simp) (by rw [e]; exact hm)
  rw [e, show [x].flatMap lvB = x.1.map toB by simp [lvB]] at h
  exact FC.pre h fun h hh => ⟨hh.1, fun y hy => by rw [List.mem_singleton.1 hy]; exact hh.2⟩
theorem bytes2_fn (v : Value) (m : Nat) (xs : List Int) (F : HL) (hown : OwnS 5 1 v m (xs.map (.int .u8)) F) (x y : LV) (b : Nat) (hm : m + (x.1.length + y.1.length) ≤ 1099511627776) :
    FC Tryd.prog 32 [v, .slice (some ⟨b, 0, none⟩) 2 2] F (fun h => rowv h b 0 [slv x, slv y] ∧ lvAt h x ∧ lvAt h y) (fun v L => OwnS 5 1 v (m + (x.1.length + y.1.length)) ((xs ++ (x.1.map toB ++ y.1.map toB)).map (.int .u8)) L) := by
  have e : sumL [x, y] = x.1.length + y.1.length := by simp [sumL, lvB]
  have h := bytesN_fn v m xs F hown [x, y] b (by simp) (by rw [e]; exact hm)
  rw [e, show [x, y].flatMap lvB = x.1.map toB ++ y.1.map toB by simp [lvB]] at h
  exact FC.pre h fun h hh => ⟨hh.1, fun z hz => by
    rcases List.mem_cons.1 hz with rfl | hz
    · exact hh.2.1
    · rw [List.mem_singleton.1 hz]; exact hh.2.2⟩
theorem sectionF_fn (g m : Nat) (xs : List Int) (hxl : xs.length = m) (letter : Int) (body : List Int) (a : Option Addr) (cap : Nat) (hm : m + 5 + body.length ≤ 1099511627776) :
    FC Tryd.prog 31 [.slice (some ⟨g, 0, none⟩) m m, .int .u8 letter, .slice a body.length cap] [] (fun h => rowv h g 0 (xs.map (.int .u8)) ∧ SlA (Kd.int .u8) 1 h body a cap) (fun v L => OwnS 5 1 v (m + 5 + body.length) ((xs ++ secB letter body).map (.int .u8)) L) := by
  refine FC.intro Tryd.func31 rfl (by kernel_rfl) 18 [.tmp 6] rfl rfl rfl ?_
  rintro w0 ⟨hR, hA⟩
  have hsm := hA.bytes
  (repeat (first | (with_reducible apply XL.op) | ((with_reducible apply XOp.p1); (case hg | hv => exact rfl)) | (with_reducible apply XL.nilT) | (with_reducible apply XC.seq) | (with_reducible apply XC.region (Γ := Γ))))
  ((with_reducible apply XOp.buildSlice); (case hg | ht | hk | he | hz | hzl | hf => exact rfl); intro bb)
  (repeat ((with_reducible apply XL.op)))
  ((with_reducible apply XOp.appendFull (xs := xs.map (.int .u8)) (R := [])); (case hg => exact rfl); (case ht => exact rfl); (case hk => exact rfl); (case he => exact rfl); (case hs => exact rfl); (case hx => exact rfl); (case hxl => rw [List.length_map, hxl]; exact (Nat.mul_one _).symm); (case hrow => exact Known.of_old hR (Mono.row _ _ _)); (case hL => exact rfl); (case hl => exact rfl); (case hz => exact rfl); (case h63 => simp only [maxLen]; omega); (case hb => simp only []; omega); (case hk0 => exact Nat.zero_lt_succ _))
  intro v_ F_ hown_
  obtain ⟨a_, c_, rfl⟩ := hown_.val
  (repeat (first | (with_reducible apply XL.op) | ((with_reducible apply XOp.p1); (case hg | hv => exact rfl))))
  have ew : IntKind.u64.wrap ((body.length : Nat) : Int) = ((body.length : Nat) : Int) := wrap_of (inK_u64.2 (by omega))
  rw [ew]
  ((with_reducible apply XOp.call (L0 := F_) (hF :=  number_fn (.slice a_ (m + 1) c_) (m + 1) (xs ++ [letter]) F_ (hown_.conv rfl (by simp [zerosL])) body.length (inK_u64.2 (by omega)) 4 (by omega))); (case hg => exact rfl); (case hc => exact rfl); (case ha => exact rfl); (case hL => exact rfl))
  · exact Known.true
  intro v1 F1 hown1
  obtain ⟨a1, c1, rfl⟩ := hown1.val
  (repeat (first | (with_reducible apply XL.op) | ((with_reducible apply XOp.p1); (case hg | hv => exact rfl)) | (with_reducible apply XL.nilT) | (with_reducible apply XC.seq) | (with_reducible apply XC.region (Γ := Γ))))
  ((with_reducible apply XOp.appendG); (case hg => exact rfl); (case ht => exact rfl); (case hk => exact rfl); (case he => exact rfl); (case hs => exact rfl); (case hx => exact rfl); (case hown => exact hown1); (case hL => rfl); (case ha => exact hA.at_); (case hc => exact fun _ => Known.of_old (rowInts hA) (Mono.row _ _ _)); (case hl => exact by simp); (case h1 => exact List.all_eq_true.2 fun v hv => by obtain ⟨x, _, rfl⟩ := List.mem_map.1 hv; rfl); (case hz => exact rfl); (case hsz => exact Nat.zero_lt_succ _); (case h63 => simp only [maxLen]; omega); (case hb => simp only []; omega))
  intro v2 F2 hown2
  obtain ⟨a2, c2, rfl⟩ := hown2.val
  (repeat (first | (with_reducible apply XL.op) | ((with_reducible apply XOp.p1); (case hg | hv => exact rfl)) | (with_reducible apply XL.nilT) | (with_reducible apply XQ.ret)))
  ((with_reducible apply XQ.retE); (case hr => exact .t rfl .nil))
  rw [List.append_nil]
  exact hown2.conv (by omega) (by simp [secB])
end Go.Proofs.YtppggaiahkecoaaDoorX
/- The program's Encode. -/
namespace Go.Proofs.YtppggaiahkecoaaDoorX
open Go Go.SX

def mlist (l : LL) : List LV := [l.q.d, l.k.d, l.v.d, l.o.d, l.g.d, l.u.d, l.d.d]
set_option maxHeartbeats 16000000 in
set_option maxRecDepth 10000 in
theorem encode_fn (x : LW) : FC Tryd.prog 10 [.agg ⟨x.cells⟩] [] (fun h => sidesK h ∧ lwAt h x) (fun v L => EncR x.w v L) := by
  refine FC.sub2 ?_
  refine FC.intro Tryd.func10 rfl (by kernel_rfl) 168 [.tmp 2, .tmp 3] rfl rfl rfl ?_
  rintro w0 ⟨hS, hA⟩
  (repeat (first | (with_reducible apply XL.op) | (with_reducible apply XC.seq) | (with_reducible apply XC.region (Γ := Γ))))
  ((with_reducible apply XOp.box); (case hg | hx' => exact rfl); intro wb)
  (repeat (first | (with_reducible apply XL.op) | ((with_reducible apply XOp.p1); (case hg | hv => exact rfl)) | ((with_reducible apply XOp.loadO (i := 0)); (case hg | ht | hk | hx | hi | hc => exact rfl)) | (with_reducible apply XL.nilT) | (with_reducible apply XC.seq) | (with_reducible apply XC.region (Γ := Γ)) | (((with_reducible apply XOp.callQ (hF := checkW_fn x)); (case hg => exact rfl); (case hc => exact rfl); (case ha => exact rfl); try (case hA => exact Known.true)); (case hA => exact Known.and (Known.of_old hS sides_mono) (Known.of_old hA (lw_mono _))); rintro _ rfl)))
  ((with_reducible apply XC.cond); (case hc => exact rfl); all_goals (intro hb_; try simp only [pd_true, pd_false, Bool.not_eq_true', Bool.not_eq_false', Bool.and_eq_true, Bool.and_eq_false_iff, Bool.or_eq_true, Bool.or_eq_false_iff, not_true_eq_false, not_false_eq_true, Int.not_lt, Int.not_le] at hb_))
  · (repeat (first | (with_reducible apply XL.op) | ((with_reducible apply XOp.p1); (case hg | hv => exact rfl)) | (with_reducible apply XL.nilT) | (with_reducible apply XC.seq) | (with_reducible apply XC.region (Γ := Γ)) | (with_reducible apply XQ.ret) | (with_reducible apply XQ.rt)))
    ((with_reducible apply XQ.retE); (case hr => exact .t rfl (.t rfl .nil)))
    have hno : ¬ okW x.w := fun h => by have := errW_ok h; omega
    exact ⟨[], .of (List.nil_sublist _), _, 0, rfl, by rw [encS_no hno]; exact OwnS.nil _ _, by omega⟩
  have h0 : errW x.w = 0 := by omega
  have hok := errW_zero h0
  have hcm : x.C.may := hok.c
  have sz := okW_sz hok
  have se : x.E.d.1.length ≤ 2048 := sz.e
  have st : x.T.1.length ≤ 16 := sz.t
  have sl : x.Ls.1.length ≤ 4 := by have := sz.l; change (x.Ls.1.map LL.lay).length ≤ 4 at this; rwa [List.length_map] at this
  have slb : ∀ l ∈ x.Ls.1, (layBody l.lay).length ≤ 30000 := fun l hl => sz.lb _ (List.mem_map.2 ⟨l, hl, rfl⟩)
  have sf : x.F.1.length ≤ 32 := sz.f
  have sh : x.H.d.1.length ≤ 2048 := sz.h
  have sm : x.M.1.length ≤ 4 := by have := sz.m; change (x.M.1.map LM.mat).length ≤ 4 at this; rwa [List.length_map] at this
  have smb : ∀ l ∈ x.M.1, l.d.1.length ≤ 2048 := fun l hl => sz.mb _ (List.mem_map.2 ⟨l, hl, rfl⟩)
  clear sz
  (repeat (first | (with_reducible apply XL.op) | ((with_reducible apply XOp.p1); (case hg | hv => exact rfl)) | ((with_reducible apply XOp.loadO (i := 0)); (case hg | ht | hk | hx | hi | hc => exact rfl)) | (with_reducible apply XC.seq) | (with_reducible apply XC.region (Γ := Γ)) | (with_reducible apply XQ.skip) | (with_reducible apply XQ.nt)))
  ((with_reducible apply XOp.alloc); (case hg | ht | hx' => exact rfl); intro cb)
  (repeat (first | (with_reducible apply XL.op) | ((with_reducible apply XOp.storeN (i := 0)); (case hg | ht | hx | hv' | hk | h1 | hi | hs | ha => exact rfl)) | (with_reducible apply XL.nilT) | (with_reducible apply XC.seq) | (with_reducible apply XC.region (Γ := Γ))))
  ((with_reducible apply XOp.buildSlice); (case hg | ht | hk | he | hz | hzl | hf => exact rfl); intro bb)
  (repeat ((with_reducible apply XL.op)))
  ((with_reducible apply XOp.convMark (i := 0)); (case hg => exact rfl); (case ht => exact rfl); (case hk => exact rfl); (case he => exact rfl); (case hek => exact rfl); (case hx => exact rfl); (case hi => exact rfl); (case ha => exact rfl))
  (repeat (first | (with_reducible apply XL.op) | ((with_reducible apply XOp.p1); (case hg | hv => exact rfl)) | ((with_reducible apply XOp.load); (case hg | ht | hk | hx => exact rfl); (case hc => exact own_cell (i := 1) rfl rfl))))
  ((with_reducible apply XOp.buildSlice); (case hg | ht | hk | he | hz | hzl | hf => exact rfl); intro mb)
  (repeat ((with_reducible apply XL.op)))
  (refine (show XOp _ _ _ _ _ _ _ _ ((mb, Obj.cells ⟨(x.C.list.map toB).map (.int .u8)⟩ 5 (0, 0)) :: (bb, Obj.cells ⟨beginB.map (.int .u8)⟩ 5 (6, 7)) :: (cb, Obj.cells ⟨x.C.cells⟩ 23 (0, 0)) :: [(wb, Obj.cells ⟨x.cells⟩ 31 (0, 0))]) from XOp.perm (L' :=  ((bb, Obj.cells ⟨beginB.map (.int .u8)⟩ 5 (6, 7)) :: (mb, Obj.cells ⟨(x.C.list.map toB).map (.int .u8)⟩ 5 (0, 0)) :: (cb, Obj.cells ⟨x.C.cells⟩ 23 (0, 0)) :: [(wb, Obj.cells ⟨x.cells⟩ 31 (0, 0))]) ++ []) rfl ?_ (by (first | (with_reducible exact List.Perm.refl _) | refine perm_of_cnt fun p_ => ?_; simp only [List.countP_append, List.countP_cons, List.countP_nil]; omega))))
  have h0s : OwnS 5 1 (.slice (some ⟨mb, 0, none⟩) 8 8) 8 ((x.C.list.map toB).map (.int .u8)) [(mb, Obj.cells ⟨(x.C.list.map toB).map (.int .u8)⟩ 5 (0, 0))] :=
    ⟨rfl, .inr ⟨mb, 8, [], rfl, by simp, Nat.le_refl _, by simp [maxLen], rfl⟩⟩
  obtain ⟨b1, d1, e1, hb1, s1⟩ := own_body (xs := x.C.list.map toB) h0s (isB_map _) (by simp only [cfg8]; omega)
  obtain ⟨rfl, _, rfl⟩ := Value.slice.inj e1
  ((with_reducible apply XOp.callD (R := (bb, Obj.cells ⟨beginB.map (.int .u8)⟩ 5 (6, 7)) :: (mb, Obj.cells ⟨(x.C.list.map toB).map (.int .u8)⟩ 5 (0, 0)) :: (cb, Obj.cells ⟨x.C.cells⟩ 23 (0, 0)) :: [(wb, Obj.cells ⟨x.cells⟩ 31 (0, 0))]) (R' := [(cb, Obj.cells ⟨x.C.cells⟩ 23 (0, 0)), (wb, Obj.cells ⟨x.cells⟩ 31 (0, 0))]) (F := []) (hF := sectionF_fn bb 6 beginB rfl 67 (x.C.list.map toB) (some ⟨mb, 0, none⟩) 8 (by simp only [cfg8]; omega))); (case hg => exact rfl); (case hc => exact rfl); (case ha => exact rfl); (case hL => first | exact List.Perm.refl _ | (first | (with_reducible exact List.Perm.refl _) | refine perm_of_cnt fun p_ => ?_; simp only [List.countP_append, List.countP_cons, List.countP_nil]; omega)); (case hs => ((try simp only [List.append_eq, List.cons_append, List.nil_append, List.append_assoc]); repeat (first | exact List.Sublist.refl _ | exact List.nil_sublist _ | (with_reducible apply List.Sublist.cons_cons) | (with_reducible apply List.Sublist.cons) | exact List.sublist_append_right _ _))); try (case hA => exact Known.true))
  case hA => exact Known.and (own_row (i := 0) (m := 6) rfl rfl) (Known.of_frag s1 (Mono.sl _ _ _ _ _) (fun z_ hz_ => by first | exact hz_ | (simp only [List.mem_cons, List.mem_append, hz_, true_or, or_true]; done) | ((repeat (first | exact hz_ | exact List.mem_append_left _ hz_ | (apply List.mem_cons_of_mem) | (apply List.mem_append_right))); done)))
  intro v1 F1 h1
  obtain ⟨a1, c1, rfl⟩ := h1.val
  replace h1 := h1.conv (m' := 19) rfl rfl
  (repeat (first | (with_reducible apply XL.op) | ((with_reducible apply XOp.p1); (case hg | hv => exact rfl)) | ((with_reducible apply XOp.load); (case hg | ht | hk | hx => exact rfl); (case hc => exact own_cell (i := 1) rfl rfl)) | (with_reducible apply XL.nilT) | (with_reducible apply XC.seq) | (with_reducible apply XC.region (Γ := Γ))))
  ((with_reducible apply XOp.buildSlice); (case hg | ht | hk | he | hz | hzl | hf => exact rfl); intro lb2)
  (repeat ((with_reducible apply XL.op)))
  (refine (show XOp _ _ _ _ _ _ _ _ ((lb2, Obj.cells ⟨[slv x.E.d]⟩ 24 (0, 0)) :: ([(cb, Obj.cells ⟨x.C.cells⟩ 23 (0, 0)), (wb, Obj.cells ⟨x.cells⟩ 31 (0, 0))] ++ F1)) from XOp.perm (L' :=  ((lb2, Obj.cells ⟨[slv x.E.d]⟩ 24 (0, 0)) :: [(cb, Obj.cells ⟨x.C.cells⟩ 23 (0, 0)), (wb, Obj.cells ⟨x.cells⟩ 31 (0, 0))] ++ F1) ++ []) rfl ?_ (by (first | (with_reducible exact List.Perm.refl _) | refine perm_of_cnt fun p_ => ?_; simp only [List.countP_append, List.countP_cons, List.countP_nil]; omega))))
  ((with_reducible apply XOp.callD (R := (lb2, Obj.cells ⟨[slv x.E.d]⟩ 24 (0, 0)) :: [(cb, Obj.cells ⟨x.C.cells⟩ 23 (0, 0)), (wb, Obj.cells ⟨x.cells⟩ 31 (0, 0))] ++ F1) (R' := [(cb, Obj.cells ⟨x.C.cells⟩ 23 (0, 0)), (wb, Obj.cells ⟨x.cells⟩ 31 (0, 0))] ++ F1) (F := []) (hF := bytes1_fn (.slice none 0 0) 0 [] [] (OwnS.nil _ _) x.E.d lb2 (by omega))); (case hg => exact rfl); (case hc => exact rfl); (case ha => exact rfl); (case hL => first | exact List.Perm.refl _ | (first | (with_reducible exact List.Perm.refl _) | refine perm_of_cnt fun p_ => ?_; simp only [List.countP_append, List.countP_cons, List.countP_nil]; omega)); (case hs => ((try simp only [List.append_eq, List.cons_append, List.nil_append, List.append_assoc]); repeat (first | exact List.Sublist.refl _ | exact List.nil_sublist _ | (with_reducible apply List.Sublist.cons_cons) | (with_reducible apply List.Sublist.cons) | exact List.sublist_append_right _ _))); try (case hA => exact Known.true))
  case hA => exact Known.and (own_row (i := 0) (m := 1) rfl rfl) (Known.of_old hA.e (lv_mono _))
  intro w2 G2 g2
  rw [List.nil_append, Nat.zero_add] at g2
  have l2 : (x.E.d.1.map toB).length ≤ 100000 := by rw [List.length_map]; omega
  obtain ⟨b2, d2, rfl, hb2, s2⟩ := own_body g2 (isB_map _) (by omega)
  (repeat ((with_reducible apply XL.op)))
  ((with_reducible apply XOp.callD (R := [(cb, Obj.cells ⟨x.C.cells⟩ 23 (0, 0)), (wb, Obj.cells ⟨x.cells⟩ 31 (0, 0))] ++ G2) (R' := [(cb, Obj.cells ⟨x.C.cells⟩ 23 (0, 0)), (wb, Obj.cells ⟨x.cells⟩ 31 (0, 0))]) (F := F1) (hF := section_fn (.slice a1 _ c1) _ (beginB ++ secB 67 (x.C.list.map toB)) F1 h1 69 (x.E.d.1.map toB) b2 d2 (by omega))); (case hg => exact rfl); (case hc => exact rfl); (case ha => exact rfl); (case hL => first | exact List.Perm.refl _ | (first | (with_reducible exact List.Perm.refl _) | refine perm_of_cnt fun p_ => ?_; simp only [List.countP_append, List.countP_cons, List.countP_nil]; omega)); (case hs => ((try simp only [List.append_eq, List.cons_append, List.nil_append, List.append_assoc]); repeat (first | exact List.Sublist.refl _ | exact List.nil_sublist _ | (with_reducible apply List.Sublist.cons_cons) | (with_reducible apply List.Sublist.cons) | exact List.sublist_append_right _ _))); try (case hA => exact Known.true))
  case hA => exact Known.of_frag s2 (Mono.sl _ _ _ _ _) (fun z_ hz_ => by first | exact hz_ | (simp only [List.mem_cons, List.mem_append, hz_, true_or, or_true]; done) | ((repeat (first | exact hz_ | exact List.mem_append_left _ hz_ | (apply List.mem_cons_of_mem) | (apply List.mem_append_right))); done))
  intro v2 F2 h2
  obtain ⟨a2, c2, rfl⟩ := h2.val
  (repeat (first | (with_reducible apply XL.op) | ((with_reducible apply XOp.p1); (case hg | hv => exact rfl)) | ((with_reducible apply XOp.load); (case hg | ht | hk | hx => exact rfl); (case hc => exact own_cell (i := 1) rfl rfl)) | (with_reducible apply XL.nilT) | (with_reducible apply XC.seq) | (with_reducible apply XC.region (Γ := Γ)) | (with_reducible apply XC.block)))
  have hT := hA.t
  have hTa := hT.at_
  have hTb := hT.bytes
  generalize hX2 : beginB ++ secB 67 (x.C.list.map toB) ++ secB 69 (x.E.d.1.map toB) = X2 at h2
  refine XC.loopP (fun k ρ L => ∃ (i : Nat) (v : Value) (F : HL), i + k = x.T.1.length ∧ OwnS 5 1 v (i * 4) (((x.T.1.take i).flatMap turnB).map (.int .u8)) F ∧ L = ([(cb, Obj.cells ⟨x.C.cells⟩ 23 (0, 0)), (wb, Obj.cells ⟨x.cells⟩ 31 (0, 0))] ++ F2) ++ F ∧ Slots ρ [(1, .pointer (some ⟨wb, 0, none⟩)), (5, .pointer (some ⟨cb, 0, none⟩)), (6, .slice a2 (19 + 5 + (x.E.d.1.map toB).length) c2), (7, v), (62, sla x.T), (63, .int .i64 x.T.1.length), (64, .int .i64 i)])
    x.T.1.length ⟨0, _, [], by simp, OwnS.nil _ _, (List.append_nil _).symm, rfl, rfl, rfl, rfl, rfl, rfl, rfl, trivial⟩ ?_
  rintro k ρ L ⟨i, v, F, hik, hown, rfl, hs⟩
  obtain ⟨a', c', rfl⟩ := hown.val
  refine XC.slots _ hs ?_
  (repeat (first | (with_reducible apply XL.op) | ((with_reducible apply XOp.p1); (case hg | hv => exact rfl)) | (with_reducible apply XL.nilT) | (with_reducible apply XC.seq) | (with_reducible apply XC.region (Γ := Γ))))
  ((with_reducible apply XC.cond); (case hc => exact rfl); all_goals (intro hb_; try simp only [pd_true, pd_false, Bool.not_eq_true', Bool.not_eq_false', Bool.and_eq_true, Bool.and_eq_false_iff, Bool.or_eq_true, Bool.or_eq_false_iff, not_true_eq_false, not_false_eq_true, Int.not_lt, Int.not_le] at hb_))
  · obtain ⟨y, hi⟩ : ∃ y, x.T.1[i]? = some y := ⟨_, List.getElem?_eq_getElem (by omega)⟩
    (repeat (first | (with_reducible apply XL.op) | ((with_reducible apply XOp.pr); (case hg => exact rfl); (case hr => ((with_reducible apply PR.idxA); (case ht | hk | he | hx | hi => exact rfl); (case hr => first | assumption | omega); (case ha => first | assumption | exact SlA.at_ (by assumption))))) | (with_reducible apply XC.seq) | (with_reducible apply XC.region (Γ := Γ)) | (with_reducible apply XQ.skip) | (with_reducible apply XQ.nt) | (with_reducible apply XC.block) | (first | ((with_reducible apply XOp.loadN); (case hg | ht | hk | hx => exact rfl); (case hc => exact Known.of_old (hT.rawAt hi) (Mono.row _ _ _)); (case hl => exact rfl)) | ((with_reducible apply XP.loadN); (case ho | hg | ht | hk | hx => exact rfl); (case hc => exact Known.of_old (hT.rawAt hi) (Mono.row _ _ _)); (case hl => exact rfl)))))
    ((with_reducible apply XOp.alloc); (case hg | ht | hx' => exact rfl); intro tb)
    (repeat (first | (with_reducible apply XL.op) | ((with_reducible apply XOp.storeN (i := 0)); (case hg | ht | hx | hv' | hk | h1 | hi | hs | ha => exact rfl)) | (with_reducible apply XL.nilT)))
    ((with_reducible apply XC.regionL (Γ := Γ) mixed (.q 0 (.q 1 (.q 2 (.q 3 (.q 5 (.q 6 (.q 7 (.e 4 (.e 8 (.q 9 (.done))))))))))) [] ([(tb, Obj.cells ⟨turnV y⟩ 70 (0, 0))])); (case hc => kernel_rfl); (case hs => first | exact List.nil_sublist _ | exact List.Sublist.refl _ | exact List.sublist_append_right _ _ | (refine List.Sublist.cons_cons _ (List.nil_sublist _)) | (refine List.Sublist.cons_cons _ (List.Sublist.cons_cons _ (List.nil_sublist _))) | (refine List.Sublist.cons_cons _ (List.Sublist.cons_cons _ (List.Sublist.cons_cons _ (List.nil_sublist _)))) | (refine List.Sublist.cons_cons _ (List.Sublist.cons_cons _ (List.Sublist.cons_cons _ (List.Sublist.cons_cons _ (List.nil_sublist _)))))))
    (repeat (first | ((with_reducible apply XP.p1); (case ho | hg | hv => exact rfl)) | ((with_reducible apply XP.load); (case ho | hg | ht | hk | hx => exact rfl); (case hc => exact own_cell (i := 0) rfl rfl)) | ((with_reducible apply XP.e); (first | ((with_reducible apply XE.d); (case ho => exact rfl); (case hd => exact rfl)) | ((with_reducible apply XE.e); (case ho => exact rfl))))))
    ((with_reducible apply XOp.callD (R := (tb, Obj.cells ⟨turnV y⟩ 70 (0, 0)) :: [(cb, Obj.cells ⟨x.C.cells⟩ 23 (0, 0)), (wb, Obj.cells ⟨x.cells⟩ 31 (0, 0))] ++ F2) (R' := (tb, Obj.cells ⟨turnV y⟩ 70 (0, 0)) :: [(cb, Obj.cells ⟨x.C.cells⟩ 23 (0, 0)), (wb, Obj.cells ⟨x.cells⟩ 31 (0, 0))] ++ F2) (F := F) (hF := number_fn (.slice a' _ c') (i * 4) _ F hown (IntKind.u64.wrap y.1) (inK_wrap _ _) 2 (by omega))); (case hg => exact rfl); (case hc => exact rfl); (case ha => exact rfl); (case hL => first | exact List.Perm.refl _ | (first | (with_reducible exact List.Perm.refl _) | refine perm_of_cnt fun p_ => ?_; simp only [List.countP_append, List.countP_cons, List.countP_nil]; omega)); (case hs => ((try simp only [List.append_eq, List.cons_append, List.nil_append, List.append_assoc]); repeat (first | exact List.Sublist.refl _ | exact List.nil_sublist _ | (with_reducible apply List.Sublist.cons_cons) | (with_reducible apply List.Sublist.cons) | exact List.sublist_append_right _ _))); try (case hA => exact Known.true))
    intro v3 F3 h3
    obtain ⟨a3, c3, rfl⟩ := h3.val
    (repeat (first | ((with_reducible apply XP.e); (first | ((with_reducible apply XE.d); (case ho => exact rfl); (case hd => exact rfl)) | ((with_reducible apply XE.e); (case ho => exact rfl)))) | ((with_reducible apply XP.keep); (case hk => first | ((repeat' (first | exact List.forall_mem_nil _ | (with_reducible refine List.forall_mem_cons.2 ⟨?_, ?_⟩) | exact List.mem_cons_self .. | (with_reducible apply List.mem_cons_of_mem) | (with_reducible apply List.mem_append_right))); done) | (intro x hx; first | exact sel_in hx | exact List.mem_cons_of_mem _ (sel_in hx) | exact List.mem_append_right _ (sel_in hx) | exact hx | exact List.mem_cons_of_mem _ hx | exact List.mem_append_right _ hx | ((repeat (first | exact sel_in hx | exact hx | (with_reducible apply List.mem_cons_of_mem) | (with_reducible apply List.mem_append_right))); done) | cases hx)))))
    ((with_reducible apply XOp.callD (R := (tb, Obj.cells ⟨turnV y⟩ 70 (0, 0)) :: [(cb, Obj.cells ⟨x.C.cells⟩ 23 (0, 0)), (wb, Obj.cells ⟨x.cells⟩ 31 (0, 0))] ++ F2) (R' := (tb, Obj.cells ⟨turnV y⟩ 70 (0, 0)) :: [(cb, Obj.cells ⟨x.C.cells⟩ 23 (0, 0)), (wb, Obj.cells ⟨x.cells⟩ 31 (0, 0))] ++ F2) (F := F3) (hF := number_fn (.slice a3 _ c3) _ _ F3 h3 (IntKind.u64.wrap y.2) (inK_wrap _ _) 2 (by omega))); (case hg => exact rfl); (case hc => exact rfl); (case ha => exact rfl); (case hL => first | exact List.Perm.refl _ | (first | (with_reducible exact List.Perm.refl _) | refine perm_of_cnt fun p_ => ?_; simp only [List.countP_append, List.countP_cons, List.countP_nil]; omega)); (case hs => ((try simp only [List.append_eq, List.cons_append, List.nil_append, List.append_assoc]); repeat (first | exact List.Sublist.refl _ | exact List.nil_sublist _ | (with_reducible apply List.Sublist.cons_cons) | (with_reducible apply List.Sublist.cons) | exact List.sublist_append_right _ _))); try (case hA => exact Known.true))
    intro v4 F4 h4
    obtain ⟨a4, c4, rfl⟩ := h4.val
    (repeat (first | (with_reducible apply XL.op) | ((with_reducible apply XOp.p1); (case hg | hv => exact rfl)) | (with_reducible apply XL.nilT) | (with_reducible apply XC.region (Γ := Γ)) | (with_reducible apply XQ.nt) | (with_reducible apply XQ.nb) | ((with_reducible apply XP.p1); (case ho | hg | hv => exact rfl)) | (with_reducible apply XP.done) | ((with_reducible apply XP.keep); (case hk => first | ((repeat' (first | exact List.forall_mem_nil _ | (with_reducible refine List.forall_mem_cons.2 ⟨?_, ?_⟩) | exact List.mem_cons_self .. | (with_reducible apply List.mem_cons_of_mem) | (with_reducible apply List.mem_append_right))); done) | (intro x hx; first | exact sel_in hx | exact List.mem_cons_of_mem _ (sel_in hx) | exact List.mem_append_right _ (sel_in hx) | exact hx | exact List.mem_cons_of_mem _ hx | exact List.mem_append_right _ hx | ((repeat (first | exact sel_in hx | exact hx | (with_reducible apply List.mem_cons_of_mem) | (with_reducible apply List.mem_append_right))); done) | cases hx)))))
    exact ⟨k - 1, by omega, _, .of (List.sublist_cons_self _ _), i + 1, _, F4, by omega, h4.conv (by omega) (by rw [take_snocD hi, num2, num2]; simp [turnB]), rfl, rfl, rfl, rfl, rfl, rfl, rfl, intS2 (m := x.T.1.length) (by omega) (by omega), trivial⟩
  obtain rfl : i = x.T.1.length := by omega
  rw [List.take_length] at hown
  have l3 : (x.T.1.flatMap turnB).length ≤ 100000 := by rw [turnsLen]; omega
  obtain ⟨b3, d3, e3, hb3, s3⟩ := own_body hown (isB_turns _) (by omega)
  rw [hb3] at e3 ⊢
  obtain ⟨rfl, _, rfl⟩ := Value.slice.inj e3
  (repeat (first | (with_reducible apply XL.op) | ((with_reducible apply XOp.p1); (case hg | hv => exact rfl)) | (with_reducible apply XC.seq) | (with_reducible apply XC.region (Γ := Γ)) | (with_reducible apply XQ.exit) | (with_reducible apply XQ.nt) | (with_reducible apply XQ.et) | ((with_reducible apply XQ.eb); (case hb => exact rfl))))
  ((with_reducible apply XOp.callD (R := [(cb, Obj.cells ⟨x.C.cells⟩ 23 (0, 0)), (wb, Obj.cells ⟨x.cells⟩ 31 (0, 0))] ++ F) (R' := [(cb, Obj.cells ⟨x.C.cells⟩ 23 (0, 0)), (wb, Obj.cells ⟨x.cells⟩ 31 (0, 0))]) (F := F2) (hF := section_fn (.slice a2 _ c2) _ X2 F2 h2 84 (x.T.1.flatMap turnB) a' c' (by omega))); (case hg => exact rfl); (case hc => exact rfl); (case ha => exact rfl); (case hL => first | exact List.Perm.refl _ | (first | (with_reducible exact List.Perm.refl _) | refine perm_of_cnt fun p_ => ?_; simp only [List.countP_append, List.countP_cons, List.countP_nil]; omega)); (case hs => ((try simp only [List.append_eq, List.cons_append, List.nil_append, List.append_assoc]); repeat (first | exact List.Sublist.refl _ | exact List.nil_sublist _ | (with_reducible apply List.Sublist.cons_cons) | (with_reducible apply List.Sublist.cons) | exact List.sublist_append_right _ _))); try (case hA => exact Known.true))
  case hA => exact Known.of_frag s3 (Mono.sl _ _ _ _ _) (fun z_ hz_ => by first | exact hz_ | (simp only [List.mem_cons, List.mem_append, hz_, true_or, or_true]; done) | ((repeat (first | exact hz_ | exact List.mem_append_left _ hz_ | (apply List.mem_cons_of_mem) | (apply List.mem_append_right))); done))
  intro v5 F5 h5
  obtain ⟨a5, c5, rfl⟩ := h5.val
  (repeat (first | (with_reducible apply XL.op) | ((with_reducible apply XOp.p1); (case hg | hv => exact rfl)) | ((with_reducible apply XOp.load); (case hg | ht | hk | hx => exact rfl); (case hc => exact own_cell (i := 1) rfl rfl)) | (with_reducible apply XL.nilT) | (with_reducible apply XC.seq) | (with_reducible apply XC.region (Γ := Γ)) | (with_reducible apply XC.block)))
  generalize hX3 : X2 ++ secB 84 (x.T.1.flatMap turnB) = X3 at h5
  have hL := hA.l.locRaw
  have hLa := hL.at_
  have hLb := hL.bytes
  refine XC.loopP (fun k ρ L => ∃ (i m : Nat) (v : Value) (F : HL), i + k = x.Ls.1.length ∧ m ≤ 10000 + i * 40000 ∧ OwnS 5 1 v m ((X3 ++ (x.Ls.1.take i).flatMap (fun l => secB 76 (layBody l.lay))).map (.int .u8)) F ∧ L = [(cb, Obj.cells ⟨x.C.cells⟩ 23 (0, 0)), (wb, Obj.cells ⟨x.cells⟩ 31 (0, 0))] ++ F ∧ Slots ρ [(1, .pointer (some ⟨wb, 0, none⟩)), (5, .pointer (some ⟨cb, 0, none⟩)), (6, v), (83, .int .i64 x.Ls.1.length), (84, .int .i64 i)])
    x.Ls.1.length ⟨0, _, _, F5, by omega, ?_, h5.conv rfl (by simp), rfl, rfl, rfl, rfl, rfl, rfl, trivial⟩ ?_
  · simp only [List.length_map, turnsLen]; omega
  clear h0s h1 h2 hown h5 g2 s1 s2 s3
  rintro k ρ L ⟨i, m, v, F, hik, hm, hown, rfl, hs⟩
  obtain ⟨a', c', rfl⟩ := hown.val
  refine XC.slots _ hs ?_
  (repeat (first | (with_reducible apply XL.op) | ((with_reducible apply XOp.p1); (case hg | hv => exact rfl)) | (with_reducible apply XL.nilT) | (with_reducible apply XC.seq) | (with_reducible apply XC.region (Γ := Γ))))
  ((with_reducible apply XC.cond); (case hc => exact rfl); all_goals (intro hb_; try simp only [pd_true, pd_false, Bool.not_eq_true', Bool.not_eq_false', Bool.and_eq_true, Bool.and_eq_false_iff, Bool.or_eq_true, Bool.or_eq_false_iff, not_true_eq_false, not_false_eq_true, Int.not_lt, Int.not_le] at hb_))
  · obtain ⟨l, hi⟩ : ∃ l, x.Ls.1[i]? = some l := ⟨_, List.getElem?_eq_getElem (by omega)⟩
    have hl := hA.l.locAt (List.mem_of_getElem? hi)
    have hll := slb l (List.mem_of_getElem? hi)
    have hsum := layBody_sum l
    have hR : rowv (oldv w0 (keys [])) (ablk x.Ls.2.1) (aoff x.Ls.2.1 + i * 30) l.cells := hL.rawAt hi
    (repeat (first | (with_reducible apply XL.op) | ((with_reducible apply XOp.p1); (case hg | hv => exact rfl)) | ((with_reducible apply XOp.load); (case hg | ht | hk | hx => exact rfl); (case hc => exact own_cell (i := 1) rfl rfl)) | ((with_reducible apply XOp.pr); (case hg => exact rfl); (case hr => ((with_reducible apply PR.idxA); (case ht | hk | he | hx | hi => exact rfl); (case hr => first | assumption | omega); (case ha => first | assumption | exact SlA.at_ (by assumption))))) | (with_reducible apply XL.nilT) | (with_reducible apply XC.seq) | (with_reducible apply XC.region (Γ := Γ)) | (with_reducible apply XQ.skip) | (with_reducible apply XQ.nt) | (with_reducible apply XC.block)))
    have hlo : aoff x.Ls.2.1 + ((i : Nat) : Int).toNat * 30 = aoff x.Ls.2.1 + i * 30 := rfl
    generalize hlp : ablk x.Ls.2.1 = lp at hR ⊢
    generalize aoff x.Ls.2.1 + i * 30 = lo at hR hlo
    have hN0 : cellv (oldv w0 (keys [])) ⟨lp, lo + 0, none⟩ = some (slv l.n1) := hR 0 _ rfl
    have hN1 : cellv (oldv w0 (keys [])) ⟨lp, lo + 1, none⟩ = some (slv l.n2) := hR 1 _ rfl
    have q0 : cellv (oldv w0 (keys [])) ⟨lp, lo + 2 + 2, none⟩ = some (slv l.q.d) := hR 4 _ rfl
    have q1 : cellv (oldv w0 (keys [])) ⟨lp, lo + 5 + 2, none⟩ = some (slv l.k.d) := hR 7 _ rfl
    have q2 : cellv (oldv w0 (keys [])) ⟨lp, lo + 8 + 2, none⟩ = some (slv l.v.d) := hR 10 _ rfl
    have q3 : cellv (oldv w0 (keys [])) ⟨lp, lo + 11 + 2, none⟩ = some (slv l.o.d) := hR 13 _ rfl
    have q4 : cellv (oldv w0 (keys [])) ⟨lp, lo + 14 + 2, none⟩ = some (slv l.g.d) := hR 16 _ rfl
    have q5 : cellv (oldv w0 (keys [])) ⟨lp, lo + 17 + 2, none⟩ = some (slv l.u.d) := hR 19 _ rfl
    have q6 : cellv (oldv w0 (keys [])) ⟨lp, lo + 20 + 2, none⟩ = some (slv l.d.d) := hR 22 _ rfl
    have hBy : rowv (oldv w0 (keys [])) lp (lo + 23) (l.by_.map (Value.int .i64)) := rowv_sub hR 23 7
    ((with_reducible apply XC.regionL (Γ := Γ) mixed (.q 0 (.q 1 (.q 2 (.q 3 (.q 4 (.q 5 (.q 6 (.q 7 (.e 8 (.e 9 (.q 10 (.done)))))))))))) [] ([])); (case hc => kernel_rfl); (case hs => first | exact List.nil_sublist _ | exact List.Sublist.refl _ | exact List.sublist_append_right _ _ | (refine List.Sublist.cons_cons _ (List.nil_sublist _)) | (refine List.Sublist.cons_cons _ (List.Sublist.cons_cons _ (List.nil_sublist _))) | (refine List.Sublist.cons_cons _ (List.Sublist.cons_cons _ (List.Sublist.cons_cons _ (List.nil_sublist _)))) | (refine List.Sublist.cons_cons _ (List.Sublist.cons_cons _ (List.Sublist.cons_cons _ (List.Sublist.cons_cons _ (List.nil_sublist _)))))))
    (repeat (first | ((with_reducible apply XP.p1); (case ho | hg | hv => exact rfl)) | ((with_reducible apply XP.e); (first | ((with_reducible apply XE.d); (case ho => exact rfl); (case hd => exact rfl)) | ((with_reducible apply XE.e); (case ho => exact rfl)))) | (first | ((with_reducible apply XOp.load); (case hg | ht | hk | hx => exact rfl); (case hc => rw [hlo]; exact Known.of_old hN0 (Mono.cell _ _))) | ((with_reducible apply XP.load); (case ho | hg | ht | hk | hx => exact rfl); (case hc => rw [hlo]; exact Known.of_old hN0 (Mono.cell _ _)))) | (first | ((with_reducible apply XOp.load); (case hg | ht | hk | hx => exact rfl); (case hc => rw [hlo]; exact Known.of_old hN1 (Mono.cell _ _))) | ((with_reducible apply XP.load); (case ho | hg | ht | hk | hx => exact rfl); (case hc => rw [hlo]; exact Known.of_old hN1 (Mono.cell _ _))))))
    ((with_reducible apply XOp.buildSlice); (case hg | ht | hk | he | hz | hzl | hf => exact rfl); intro lb)
    (repeat (first | ((with_reducible apply XP.e); (first | ((with_reducible apply XE.d); (case ho => exact rfl); (case hd => exact rfl)) | ((with_reducible apply XE.e); (case ho => exact rfl)))) | ((with_reducible apply XP.keep); (case hk => first | ((repeat' (first | exact List.forall_mem_nil _ | (with_reducible refine List.forall_mem_cons.2 ⟨?_, ?_⟩) | exact List.mem_cons_self .. | (with_reducible apply List.mem_cons_of_mem) | (with_reducible apply List.mem_append_right))); done) | (intro x hx; first | exact sel_in hx | exact List.mem_cons_of_mem _ (sel_in hx) | exact List.mem_append_right _ (sel_in hx) | exact hx | exact List.mem_cons_of_mem _ hx | exact List.mem_append_right _ hx | ((repeat (first | exact sel_in hx | exact hx | (with_reducible apply List.mem_cons_of_mem) | (with_reducible apply List.mem_append_right))); done) | cases hx)))))
    (refine (show XOp _ _ _ _ _ _ _ _ ((lb, Obj.cells ⟨[slv l.n1, slv l.n2]⟩ 24 (0, 0)) :: ([(cb, Obj.cells ⟨x.C.cells⟩ 23 (0, 0)), (wb, Obj.cells ⟨x.cells⟩ 31 (0, 0))] ++ F)) from XOp.perm (L' :=  ((lb, Obj.cells ⟨[slv l.n1, slv l.n2]⟩ 24 (0, 0)) :: [(cb, Obj.cells ⟨x.C.cells⟩ 23 (0, 0)), (wb, Obj.cells ⟨x.cells⟩ 31 (0, 0))] ++ F) ++ []) rfl ?_ (by (first | (with_reducible exact List.Perm.refl _) | refine perm_of_cnt fun p_ => ?_; simp only [List.countP_append, List.countP_cons, List.countP_nil]; omega))))
    ((with_reducible apply XOp.callD (R := (lb, Obj.cells ⟨[slv l.n1, slv l.n2]⟩ 24 (0, 0)) :: [(cb, Obj.cells ⟨x.C.cells⟩ 23 (0, 0)), (wb, Obj.cells ⟨x.cells⟩ 31 (0, 0))] ++ F) (R' := [(cb, Obj.cells ⟨x.C.cells⟩ 23 (0, 0)), (wb, Obj.cells ⟨x.cells⟩ 31 (0, 0))] ++ F) (F := []) (hF := bytes2_fn (.slice none 0 0) 0 [] [] (OwnS.nil _ _) l.n1 l.n2 lb (by omega))); (case hg => exact rfl); (case hc => exact rfl); (case ha => exact rfl); (case hL => first | exact List.Perm.refl _ | (first | (with_reducible exact List.Perm.refl _) | refine perm_of_cnt fun p_ => ?_; simp only [List.countP_append, List.countP_cons, List.countP_nil]; omega)); (case hs => ((try simp only [List.append_eq, List.cons_append, List.nil_append, List.append_assoc]); repeat (first | exact List.Sublist.refl _ | exact List.nil_sublist _ | (with_reducible apply List.Sublist.cons_cons) | (with_reducible apply List.Sublist.cons) | exact List.sublist_append_right _ _))); try (case hA => exact Known.true))
    case hA => exact Known.and (own_row (i := 0) (m := 2) rfl rfl) (Known.and (Known.of_old hl.n1 (lv_mono _)) (Known.of_old hl.n2 (lv_mono _)))
    intro v6 F6 h6
    obtain ⟨a6, c6, rfl⟩ := h6.val
    (repeat (first | (with_reducible apply XL.op) | ((with_reducible apply XOp.loadO (i := 0)); (case hg | ht | hk | hx | hi | hc => exact rfl)) | (with_reducible apply XC.seq) | (with_reducible apply XC.region (Γ := Γ)) | (with_reducible apply XQ.nt) | ((with_reducible apply XP.p1); (case ho | hg | hv => exact rfl)) | (with_reducible apply XP.done) | ((with_reducible apply XP.keep); (case hk => first | ((repeat' (first | exact List.forall_mem_nil _ | (with_reducible refine List.forall_mem_cons.2 ⟨?_, ?_⟩) | exact List.mem_cons_self .. | (with_reducible apply List.mem_cons_of_mem) | (with_reducible apply List.mem_append_right))); done) | (intro x hx; first | exact sel_in hx | exact List.mem_cons_of_mem _ (sel_in hx) | exact List.mem_append_right _ (sel_in hx) | exact hx | exact List.mem_cons_of_mem _ hx | exact List.mem_append_right _ hx | ((repeat (first | exact sel_in hx | exact hx | (with_reducible apply List.mem_cons_of_mem) | (with_reducible apply List.mem_append_right))); done) | cases hx)))))
    ((with_reducible apply XOp.call (hF := shapes_fn x.C hcm)); (case hg => exact rfl); (case hc => exact rfl); (case ha => exact rfl); (case hL => exact (List.nil_append _).symm); try (case hA => exact Known.true))
    case hA => exact Known.of_old hS sides_mono
    rintro _ _ ⟨sb, rfl, rfl⟩
    (repeat (first | (with_reducible apply XL.op) | ((with_reducible apply XOp.p1); (case hg | hv => exact rfl)) | (with_reducible apply XL.nilT) | (with_reducible apply XC.block)))
    refine XC.loopP (fun k2 ρ L => ∃ (j mm : Nat) (v : Value) (G : HL), j + k2 = 7 ∧ mm ≤ 30000 * (j + 2) ∧ OwnS 5 1 v mm ((l.n1.1.map toB ++ l.n2.1.map toB ++ ((mlist l).take j).flatMap lvB).map (.int .u8)) G ∧ L = ((sb, Obj.cells ⟨shC x.C 7⟩ 80 (0, 0)) :: [(cb, Obj.cells ⟨x.C.cells⟩ 23 (0, 0)), (wb, Obj.cells ⟨x.cells⟩ 31 (0, 0))] ++ F) ++ G ∧ Slots ρ [(1, .pointer (some ⟨wb, 0, none⟩)), (5, .pointer (some ⟨cb, 0, none⟩)), (6, .slice a' m c'), (11, .pointer (some ⟨lp, lo, none⟩)), (12, v), (83, .int .i64 x.Ls.1.length), (84, .int .i64 i), (102, .slice (some ⟨sb, 0, none⟩) 7 7), (103, .int .i64 7), (104, .int .i64 j)])
      7 ⟨0, _, _, F6, by omega, by omega, h6.conv rfl (by simp [mlist]), rfl, rfl, rfl, rfl, (by show Value.pointer _ = _; rw [← hlo]), rfl, rfl, rfl, rfl, rfl, rfl, trivial⟩ ?_
    clear h6
    rintro k2 ρ L ⟨j, mm, v, G, hjk, hmm, hownG, rfl, hs⟩
    obtain ⟨a7, c7, rfl⟩ := hownG.val
    refine XC.slots _ hs ?_
    (repeat (first | (with_reducible apply XL.op) | ((with_reducible apply XOp.p1); (case hg | hv => exact rfl)) | (with_reducible apply XL.nilT) | (with_reducible apply XC.seq) | (with_reducible apply XC.region (Γ := Γ))))
    ((with_reducible apply XC.cond); (case hc => exact rfl); all_goals (intro hb_; try simp only [pd_true, pd_false, Bool.not_eq_true', Bool.not_eq_false', Bool.and_eq_true, Bool.and_eq_false_iff, Bool.or_eq_true, Bool.or_eq_false_iff, not_true_eq_false, not_false_eq_true, Int.not_lt, Int.not_le] at hb_))
    · rcases (by omega : j = 0 ∨ j = 1 ∨ j = 2 ∨ j = 3 ∨ j = 4 ∨ j = 5 ∨ j = 6) with rfl | rfl | rfl | rfl | rfl | rfl | rfl
      all_goals (repeat (first | (with_reducible apply XL.op) | ((with_reducible apply XOp.p1); (case hg | hv => exact rfl)) | ((with_reducible apply XOp.loadO (i := 0)); (case hg | ht | hk | hx | hi | hc => exact rfl)) | (with_reducible apply XC.seq) | (with_reducible apply XC.region (Γ := Γ)) | (with_reducible apply XQ.skip) | (with_reducible apply XQ.nt) | (with_reducible apply XC.block)))
      all_goals ((with_reducible apply XOp.alloc); (case hg | ht | hx' => exact rfl); intro zb)
      all_goals (repeat (first | (with_reducible apply XL.op) | ((with_reducible apply XOp.p1); (case hg | hv => exact rfl)) | ((with_reducible apply XOp.load); (case hg | ht | hk | hx => exact rfl); (case hc => exact own_cell (i := 0) rfl rfl)) | ((with_reducible apply XOp.storeN (i := 0)); (case hg | ht | hx | hv' | hk | h1 | hi | hs | ha => exact rfl)) | (with_reducible apply XL.nilT) | (with_reducible apply XC.region (Γ := Γ)) | (((with_reducible apply XOp.callQ (hF := shape1_fn lp lo)); (case hg => exact rfl); (case hc => exact rfl); (case ha => exact rfl); try (case hA => exact Known.true)); rintro _ rfl) | (((with_reducible apply XOp.callQ (hF := shape2_fn lp lo)); (case hg => exact rfl); (case hc => exact rfl); (case ha => exact rfl); try (case hA => exact Known.true)); rintro _ rfl) | (((with_reducible apply XOp.callQ (hF := shape3_fn lp lo)); (case hg => exact rfl); (case hc => exact rfl); (case ha => exact rfl); try (case hA => exact Known.true)); rintro _ rfl) | (((with_reducible apply XOp.callQ (hF := shape4_fn lp lo)); (case hg => exact rfl); (case hc => exact rfl); (case ha => exact rfl); try (case hA => exact Known.true)); rintro _ rfl) | (((with_reducible apply XOp.callQ (hF := shape5_fn lp lo)); (case hg => exact rfl); (case hc => exact rfl); (case ha => exact rfl); try (case hA => exact Known.true)); rintro _ rfl) | (((with_reducible apply XOp.callQ (hF := shape6_fn lp lo)); (case hg => exact rfl); (case hc => exact rfl); (case ha => exact rfl); try (case hA => exact Known.true)); rintro _ rfl) | (((with_reducible apply XOp.callQ (hF := shape7_fn lp lo)); (case hg => exact rfl); (case hc => exact rfl); (case ha => exact rfl); try (case hA => exact Known.true)); rintro _ rfl) | (first | ((with_reducible apply XOp.load); (case hg | ht | hk | hx => exact rfl); (case hc => exact Known.of_old q0 (Mono.cell _ _))) | ((with_reducible apply XP.load); (case ho | hg | ht | hk | hx => exact rfl); (case hc => exact Known.of_old q0 (Mono.cell _ _)))) | (first | ((with_reducible apply XOp.load); (case hg | ht | hk | hx => exact rfl); (case hc => exact Known.of_old q1 (Mono.cell _ _))) | ((with_reducible apply XP.load); (case ho | hg | ht | hk | hx => exact rfl); (case hc => exact Known.of_old q1 (Mono.cell _ _)))) | (first | ((with_reducible apply XOp.load); (case hg | ht | hk | hx => exact rfl); (case hc => exact Known.of_old q2 (Mono.cell _ _))) | ((with_reducible apply XP.load); (case ho | hg | ht | hk | hx => exact rfl); (case hc => exact Known.of_old q2 (Mono.cell _ _)))) | (first | ((with_reducible apply XOp.load); (case hg | ht | hk | hx => exact rfl); (case hc => exact Known.of_old q3 (Mono.cell _ _))) | ((with_reducible apply XP.load); (case ho | hg | ht | hk | hx => exact rfl); (case hc => exact Known.of_old q3 (Mono.cell _ _)))) | (first | ((with_reducible apply XOp.load); (case hg | ht | hk | hx => exact rfl); (case hc => exact Known.of_old q4 (Mono.cell _ _))) | ((with_reducible apply XP.load); (case ho | hg | ht | hk | hx => exact rfl); (case hc => exact Known.of_old q4 (Mono.cell _ _)))) | (first | ((with_reducible apply XOp.load); (case hg | ht | hk | hx => exact rfl); (case hc => exact Known.of_old q5 (Mono.cell _ _))) | ((with_reducible apply XP.load); (case ho | hg | ht | hk | hx => exact rfl); (case hc => exact Known.of_old q5 (Mono.cell _ _)))) | (first | ((with_reducible apply XOp.load); (case hg | ht | hk | hx => exact rfl); (case hc => exact Known.of_old q6 (Mono.cell _ _))) | ((with_reducible apply XP.load); (case ho | hg | ht | hk | hx => exact rfl); (case hc => exact Known.of_old q6 (Mono.cell _ _))))))
      · ((with_reducible apply XOp.buildSlice); (case hg | ht | hk | he | hz | hzl | hf => exact rfl); intro xb)
        (repeat ((with_reducible apply XL.op)))
        refine XOp.subl rfl (L' := (xb, Obj.cells ⟨[slv l.q.d]⟩ 24 (0, 0)) :: ((sb, Obj.cells ⟨shC x.C 7⟩ 80 (0, 0)) :: [(cb, Obj.cells ⟨x.C.cells⟩ 23 (0, 0)), (wb, Obj.cells ⟨x.cells⟩ 31 (0, 0))] ++ F) ++ G) ?_ (List.Sublist.cons_cons _ (List.sublist_cons_self _ _))
        ((with_reducible apply XOp.callD (R := (xb, Obj.cells ⟨[slv l.q.d]⟩ 24 (0, 0)) :: (sb, Obj.cells ⟨shC x.C 7⟩ 80 (0, 0)) :: [(cb, Obj.cells ⟨x.C.cells⟩ 23 (0, 0)), (wb, Obj.cells ⟨x.cells⟩ 31 (0, 0))] ++ F) (R' := (sb, Obj.cells ⟨shC x.C 7⟩ 80 (0, 0)) :: [(cb, Obj.cells ⟨x.C.cells⟩ 23 (0, 0)), (wb, Obj.cells ⟨x.cells⟩ 31 (0, 0))] ++ F) (F := G) (hF := bytes1_fn (.slice a7 _ c7) _ _ G hownG l.q.d xb (by omega))); (case hg => exact rfl); (case hc => exact rfl); (case ha => exact rfl); (case hL => first | exact List.Perm.refl _ | (first | (with_reducible exact List.Perm.refl _) | refine perm_of_cnt fun p_ => ?_; simp only [List.countP_append, List.countP_cons, List.countP_nil]; omega)); (case hs => ((try simp only [List.append_eq, List.cons_append, List.nil_append, List.append_assoc]); repeat (first | exact List.Sublist.refl _ | exact List.nil_sublist _ | (with_reducible apply List.Sublist.cons_cons) | (with_reducible apply List.Sublist.cons) | exact List.sublist_append_right _ _))); try (case hA => exact Known.true))
        case hA => exact Known.and (own_row (i := 0) (m := 1) rfl rfl) (Known.of_old hl.q (lm_mono _))
        intro v8 F8 h8
        obtain ⟨a8, c8, rfl⟩ := h8.val
        (repeat (first | (with_reducible apply XL.op) | ((with_reducible apply XOp.p1); (case hg | hv => exact rfl)) | (with_reducible apply XL.nilT) | (with_reducible apply XC.region (Γ := Γ)) | (with_reducible apply XL.nilQ) | (with_reducible apply XQ.nt) | (with_reducible apply XQ.nb)))
        exact ⟨k2 - 1, by omega, _, .of (List.Sublist.refl _), 1, _, _, F8, by omega, by omega, h8.conv rfl (by rw [take_snocD (show (mlist l)[0]? = some l.q.d from rfl)]; simp [lvB]), rfl, rfl, rfl, rfl, rfl, rfl, rfl, rfl, rfl, rfl, intS2 (i := 0) (m := 7) (by omega) (by omega), trivial⟩
      · ((with_reducible apply XOp.buildSlice); (case hg | ht | hk | he | hz | hzl | hf => exact rfl); intro xb)
        (repeat ((with_reducible apply XL.op)))
        refine XOp.subl rfl (L' := (xb, Obj.cells ⟨[slv l.k.d]⟩ 24 (0, 0)) :: ((sb, Obj.cells ⟨shC x.C 7⟩ 80 (0, 0)) :: [(cb, Obj.cells ⟨x.C.cells⟩ 23 (0, 0)), (wb, Obj.cells ⟨x.cells⟩ 31 (0, 0))] ++ F) ++ G) ?_ (List.Sublist.cons_cons _ (List.sublist_cons_self _ _))
        ((with_reducible apply XOp.callD (R := (xb, Obj.cells ⟨[slv l.k.d]⟩ 24 (0, 0)) :: (sb, Obj.cells ⟨shC x.C 7⟩ 80 (0, 0)) :: [(cb, Obj.cells ⟨x.C.cells⟩ 23 (0, 0)), (wb, Obj.cells ⟨x.cells⟩ 31 (0, 0))] ++ F) (R' := (sb, Obj.cells ⟨shC x.C 7⟩ 80 (0, 0)) :: [(cb, Obj.cells ⟨x.C.cells⟩ 23 (0, 0)), (wb, Obj.cells ⟨x.cells⟩ 31 (0, 0))] ++ F) (F := G) (hF := bytes1_fn (.slice a7 _ c7) _ _ G hownG l.k.d xb (by omega))); (case hg => exact rfl); (case hc => exact rfl); (case ha => exact rfl); (case hL => first | exact List.Perm.refl _ | (first | (with_reducible exact List.Perm.refl _) | refine perm_of_cnt fun p_ => ?_; simp only [List.countP_append, List.countP_cons, List.countP_nil]; omega)); (case hs => ((try simp only [List.append_eq, List.cons_append, List.nil_append, List.append_assoc]); repeat (first | exact List.Sublist.refl _ | exact List.nil_sublist _ | (with_reducible apply List.Sublist.cons_cons) | (with_reducible apply List.Sublist.cons) | exact List.sublist_append_right _ _))); try (case hA => exact Known.true))
        case hA => exact Known.and (own_row (i := 0) (m := 1) rfl rfl) (Known.of_old hl.k (lm_mono _))
        intro v8 F8 h8
        obtain ⟨a8, c8, rfl⟩ := h8.val
        (repeat (first | (with_reducible apply XL.op) | ((with_reducible apply XOp.p1); (case hg | hv => exact rfl)) | (with_reducible apply XL.nilT) | (with_reducible apply XC.region (Γ := Γ)) | (with_reducible apply XL.nilQ) | (with_reducible apply XQ.nt) | (with_reducible apply XQ.nb)))
        exact ⟨k2 - 1, by omega, _, .of (List.Sublist.refl _), 2, _, _, F8, by omega, by omega, h8.conv rfl (by rw [take_snocD (show (mlist l)[1]? = some l.k.d from rfl)]; simp [lvB]), rfl, rfl, rfl, rfl, rfl, rfl, rfl, rfl, rfl, rfl, intS2 (i := 1) (m := 7) (by omega) (by omega), trivial⟩
      · ((with_reducible apply XOp.buildSlice); (case hg | ht | hk | he | hz | hzl | hf => exact rfl); intro xb)
        (repeat ((with_reducible apply XL.op)))
        refine XOp.subl rfl (L' := (xb, Obj.cells ⟨[slv l.v.d]⟩ 24 (0, 0)) :: ((sb, Obj.cells ⟨shC x.C 7⟩ 80 (0, 0)) :: [(cb, Obj.cells ⟨x.C.cells⟩ 23 (0, 0)), (wb, Obj.cells ⟨x.cells⟩ 31 (0, 0))] ++ F) ++ G) ?_ (List.Sublist.cons_cons _ (List.sublist_cons_self _ _))
        ((with_reducible apply XOp.callD (R := (xb, Obj.cells ⟨[slv l.v.d]⟩ 24 (0, 0)) :: (sb, Obj.cells ⟨shC x.C 7⟩ 80 (0, 0)) :: [(cb, Obj.cells ⟨x.C.cells⟩ 23 (0, 0)), (wb, Obj.cells ⟨x.cells⟩ 31 (0, 0))] ++ F) (R' := (sb, Obj.cells ⟨shC x.C 7⟩ 80 (0, 0)) :: [(cb, Obj.cells ⟨x.C.cells⟩ 23 (0, 0)), (wb, Obj.cells ⟨x.cells⟩ 31 (0, 0))] ++ F) (F := G) (hF := bytes1_fn (.slice a7 _ c7) _ _ G hownG l.v.d xb (by omega))); (case hg => exact rfl); (case hc => exact rfl); (case ha => exact rfl); (case hL => first | exact List.Perm.refl _ | (first | (with_reducible exact List.Perm.refl _) | refine perm_of_cnt fun p_ => ?_; simp only [List.countP_append, List.countP_cons, List.countP_nil]; omega)); (case hs => ((try simp only [List.append_eq, List.cons_append, List.nil_append, List.append_assoc]); repeat (first | exact List.Sublist.refl _ | exact List.nil_sublist _ | (with_reducible apply List.Sublist.cons_cons) | (with_reducible apply List.Sublist.cons) | exact List.sublist_append_right _ _))); try (case hA => exact Known.true))
        case hA => exact Known.and (own_row (i := 0) (m := 1) rfl rfl) (Known.of_old hl.v (lm_mono _))
        intro v8 F8 h8
        obtain ⟨a8, c8, rfl⟩ := h8.val
        (repeat (first | (with_reducible apply XL.op) | ((with_reducible apply XOp.p1); (case hg | hv => exact rfl)) | (with_reducible apply XL.nilT) | (with_reducible apply XC.region (Γ := Γ)) | (with_reducible apply XL.nilQ) | (with_reducible apply XQ.nt) | (with_reducible apply XQ.nb)))
        exact ⟨k2 - 1, by omega, _, .of (List.Sublist.refl _), 3, _, _, F8, by omega, by omega, h8.conv rfl (by rw [take_snocD (show (mlist l)[2]? = some l.v.d from rfl)]; simp [lvB]), rfl, rfl, rfl, rfl, rfl, rfl, rfl, rfl, rfl, rfl, intS2 (i := 2) (m := 7) (by omega) (by omega), trivial⟩
      · ((with_reducible apply XOp.buildSlice); (case hg | ht | hk | he | hz | hzl | hf => exact rfl); intro xb)
        (repeat ((with_reducible apply XL.op)))
        refine XOp.subl rfl (L' := (xb, Obj.cells ⟨[slv l.o.d]⟩ 24 (0, 0)) :: ((sb, Obj.cells ⟨shC x.C 7⟩ 80 (0, 0)) :: [(cb, Obj.cells ⟨x.C.cells⟩ 23 (0, 0)), (wb, Obj.cells ⟨x.cells⟩ 31 (0, 0))] ++ F) ++ G) ?_ (List.Sublist.cons_cons _ (List.sublist_cons_self _ _))
        ((with_reducible apply XOp.callD (R := (xb, Obj.cells ⟨[slv l.o.d]⟩ 24 (0, 0)) :: (sb, Obj.cells ⟨shC x.C 7⟩ 80 (0, 0)) :: [(cb, Obj.cells ⟨x.C.cells⟩ 23 (0, 0)), (wb, Obj.cells ⟨x.cells⟩ 31 (0, 0))] ++ F) (R' := (sb, Obj.cells ⟨shC x.C 7⟩ 80 (0, 0)) :: [(cb, Obj.cells ⟨x.C.cells⟩ 23 (0, 0)), (wb, Obj.cells ⟨x.cells⟩ 31 (0, 0))] ++ F) (F := G) (hF := bytes1_fn (.slice a7 _ c7) _ _ G hownG l.o.d xb (by omega))); (case hg => exact rfl); (case hc => exact rfl); (case ha => exact rfl); (case hL => first | exact List.Perm.refl _ | (first | (with_reducible exact List.Perm.refl _) | refine perm_of_cnt fun p_ => ?_; simp only [List.countP_append, List.countP_cons, List.countP_nil]; omega)); (case hs => ((try simp only [List.append_eq, List.cons_append, List.nil_append, List.append_assoc]); repeat (first | exact List.Sublist.refl _ | exact List.nil_sublist _ | (with_reducible apply List.Sublist.cons_cons) | (with_reducible apply List.Sublist.cons) | exact List.sublist_append_right _ _))); try (case hA => exact Known.true))
        case hA => exact Known.and (own_row (i := 0) (m := 1) rfl rfl) (Known.of_old hl.o (lm_mono _))
        intro v8 F8 h8
        obtain ⟨a8, c8, rfl⟩ := h8.val
        (repeat (first | (with_reducible apply XL.op) | ((with_reducible apply XOp.p1); (case hg | hv => exact rfl)) | (with_reducible apply XL.nilT) | (with_reducible apply XC.region (Γ := Γ)) | (with_reducible apply XL.nilQ) | (with_reducible apply XQ.nt) | (with_reducible apply XQ.nb)))
        exact ⟨k2 - 1, by omega, _, .of (List.Sublist.refl _), 4, _, _, F8, by omega, by omega, h8.conv rfl (by rw [take_snocD (show (mlist l)[3]? = some l.o.d from rfl)]; simp [lvB]), rfl, rfl, rfl, rfl, rfl, rfl, rfl, rfl, rfl, rfl, intS2 (i := 3) (m := 7) (by omega) (by omega), trivial⟩
      · ((with_reducible apply XOp.buildSlice); (case hg | ht | hk | he | hz | hzl | hf => exact rfl); intro xb)
        (repeat ((with_reducible apply XL.op)))
        refine XOp.subl rfl (L' := (xb, Obj.cells ⟨[slv l.g.d]⟩ 24 (0, 0)) :: ((sb, Obj.cells ⟨shC x.C 7⟩ 80 (0, 0)) :: [(cb, Obj.cells ⟨x.C.cells⟩ 23 (0, 0)), (wb, Obj.cells ⟨x.cells⟩ 31 (0, 0))] ++ F) ++ G) ?_ (List.Sublist.cons_cons _ (List.sublist_cons_self _ _))
        ((with_reducible apply XOp.callD (R := (xb, Obj.cells ⟨[slv l.g.d]⟩ 24 (0, 0)) :: (sb, Obj.cells ⟨shC x.C 7⟩ 80 (0, 0)) :: [(cb, Obj.cells ⟨x.C.cells⟩ 23 (0, 0)), (wb, Obj.cells ⟨x.cells⟩ 31 (0, 0))] ++ F) (R' := (sb, Obj.cells ⟨shC x.C 7⟩ 80 (0, 0)) :: [(cb, Obj.cells ⟨x.C.cells⟩ 23 (0, 0)), (wb, Obj.cells ⟨x.cells⟩ 31 (0, 0))] ++ F) (F := G) (hF := bytes1_fn (.slice a7 _ c7) _ _ G hownG l.g.d xb (by omega))); (case hg => exact rfl); (case hc => exact rfl); (case ha => exact rfl); (case hL => first | exact List.Perm.refl _ | (first | (with_reducible exact List.Perm.refl _) | refine perm_of_cnt fun p_ => ?_; simp only [List.countP_append, List.countP_cons, List.countP_nil]; omega)); (case hs => ((try simp only [List.append_eq, List.cons_append, List.nil_append, List.append_assoc]); repeat (first | exact List.Sublist.refl _ | exact List.nil_sublist _ | (with_reducible apply List.Sublist.cons_cons) | (with_reducible apply List.Sublist.cons) | exact List.sublist_append_right _ _))); try (case hA => exact Known.true))
        case hA => exact Known.and (own_row (i := 0) (m := 1) rfl rfl) (Known.of_old hl.g (lm_mono _))
        intro v8 F8 h8
        obtain ⟨a8, c8, rfl⟩ := h8.val
        (repeat (first | (with_reducible apply XL.op) | ((with_reducible apply XOp.p1); (case hg | hv => exact rfl)) | (with_reducible apply XL.nilT) | (with_reducible apply XC.region (Γ := Γ)) | (with_reducible apply XL.nilQ) | (with_reducible apply XQ.nt) | (with_reducible apply XQ.nb)))
        exact ⟨k2 - 1, by omega, _, .of (List.Sublist.refl _), 5, _, _, F8, by omega, by omega, h8.conv rfl (by rw [take_snocD (show (mlist l)[4]? = some l.g.d from rfl)]; simp [lvB]), rfl, rfl, rfl, rfl, rfl, rfl, rfl, rfl, rfl, rfl, intS2 (i := 4) (m := 7) (by omega) (by omega), trivial⟩
      · ((with_reducible apply XOp.buildSlice); (case hg | ht | hk | he | hz | hzl | hf => exact rfl); intro xb)
        (repeat ((with_reducible apply XL.op)))
        refine XOp.subl rfl (L' := (xb, Obj.cells ⟨[slv l.u.d]⟩ 24 (0, 0)) :: ((sb, Obj.cells ⟨shC x.C 7⟩ 80 (0, 0)) :: [(cb, Obj.cells ⟨x.C.cells⟩ 23 (0, 0)), (wb, Obj.cells ⟨x.cells⟩ 31 (0, 0))] ++ F) ++ G) ?_ (List.Sublist.cons_cons _ (List.sublist_cons_self _ _))
        ((with_reducible apply XOp.callD (R := (xb, Obj.cells ⟨[slv l.u.d]⟩ 24 (0, 0)) :: (sb, Obj.cells ⟨shC x.C 7⟩ 80 (0, 0)) :: [(cb, Obj.cells ⟨x.C.cells⟩ 23 (0, 0)), (wb, Obj.cells ⟨x.cells⟩ 31 (0, 0))] ++ F) (R' := (sb, Obj.cells ⟨shC x.C 7⟩ 80 (0, 0)) :: [(cb, Obj.cells ⟨x.C.cells⟩ 23 (0, 0)), (wb, Obj.cells ⟨x.cells⟩ 31 (0, 0))] ++ F) (F := G) (hF := bytes1_fn (.slice a7 _ c7) _ _ G hownG l.u.d xb (by omega))); (case hg => exact rfl); (case hc => exact rfl); (case ha => exact rfl); (case hL => first | exact List.Perm.refl _ | (first | (with_reducible exact List.Perm.refl _) | refine perm_of_cnt fun p_ => ?_; simp only [List.countP_append, List.countP_cons, List.countP_nil]; omega)); (case hs => ((try simp only [List.append_eq, List.cons_append, List.nil_append, List.append_assoc]); repeat (first | exact List.Sublist.refl _ | exact List.nil_sublist _ | (with_reducible apply List.Sublist.cons_cons) | (with_reducible apply List.Sublist.cons) | exact List.sublist_append_right _ _))); try (case hA => exact Known.true))
        case hA => exact Known.and (own_row (i := 0) (m := 1) rfl rfl) (Known.of_old hl.u (lm_mono _))
        intro v8 F8 h8
        obtain ⟨a8, c8, rfl⟩ := h8.val
        (repeat (first | (with_reducible apply XL.op) | ((with_reducible apply XOp.p1); (case hg | hv => exact rfl)) | (with_reducible apply XL.nilT) | (with_reducible apply XC.region (Γ := Γ)) | (with_reducible apply XL.nilQ) | (with_reducible apply XQ.nt) | (with_reducible apply XQ.nb)))
        exact ⟨k2 - 1, by omega, _, .of (List.Sublist.refl _), 6, _, _, F8, by omega, by omega, h8.conv rfl (by rw [take_snocD (show (mlist l)[5]? = some l.u.d from rfl)]; simp [lvB]), rfl, rfl, rfl, rfl, rfl, rfl, rfl, rfl, rfl, rfl, intS2 (i := 5) (m := 7) (by omega) (by omega), trivial⟩
      · ((with_reducible apply XOp.buildSlice); (case hg | ht | hk | he | hz | hzl | hf => exact rfl); intro xb)
        (repeat ((with_reducible apply XL.op)))
        refine XOp.subl rfl (L' := (xb, Obj.cells ⟨[slv l.d.d]⟩ 24 (0, 0)) :: ((sb, Obj.cells ⟨shC x.C 7⟩ 80 (0, 0)) :: [(cb, Obj.cells ⟨x.C.cells⟩ 23 (0, 0)), (wb, Obj.cells ⟨x.cells⟩ 31 (0, 0))] ++ F) ++ G) ?_ (List.Sublist.cons_cons _ (List.sublist_cons_self _ _))
        ((with_reducible apply XOp.callD (R := (xb, Obj.cells ⟨[slv l.d.d]⟩ 24 (0, 0)) :: (sb, Obj.cells ⟨shC x.C 7⟩ 80 (0, 0)) :: [(cb, Obj.cells ⟨x.C.cells⟩ 23 (0, 0)), (wb, Obj.cells ⟨x.cells⟩ 31 (0, 0))] ++ F) (R' := (sb, Obj.cells ⟨shC x.C 7⟩ 80 (0, 0)) :: [(cb, Obj.cells ⟨x.C.cells⟩ 23 (0, 0)), (wb, Obj.cells ⟨x.cells⟩ 31 (0, 0))] ++ F) (F := G) (hF := bytes1_fn (.slice a7 _ c7) _ _ G hownG l.d.d xb (by omega))); (case hg => exact rfl); (case hc => exact rfl); (case ha => exact rfl); (case hL => first | exact List.Perm.refl _ | (first | (with_reducible exact List.Perm.refl _) | refine perm_of_cnt fun p_ => ?_; simp only [List.countP_append, List.countP_cons, List.countP_nil]; omega)); (case hs => ((try simp only [List.append_eq, List.cons_append, List.nil_append, List.append_assoc]); repeat (first | exact List.Sublist.refl _ | exact List.nil_sublist _ | (with_reducible apply List.Sublist.cons_cons) | (with_reducible apply List.Sublist.cons) | exact List.sublist_append_right _ _))); try (case hA => exact Known.true))
        case hA => exact Known.and (own_row (i := 0) (m := 1) rfl rfl) (Known.of_old hl.d (lm_mono _))
        intro v8 F8 h8
        obtain ⟨a8, c8, rfl⟩ := h8.val
        (repeat (first | (with_reducible apply XL.op) | ((with_reducible apply XOp.p1); (case hg | hv => exact rfl)) | (with_reducible apply XL.nilT) | (with_reducible apply XC.region (Γ := Γ)) | (with_reducible apply XL.nilQ) | (with_reducible apply XQ.nt) | (with_reducible apply XQ.nb)))
        exact ⟨k2 - 1, by omega, _, .of (List.Sublist.refl _), 7, _, _, F8, by omega, by omega, h8.conv rfl (by rw [take_snocD (show (mlist l)[6]? = some l.d.d from rfl)]; simp [lvB]), rfl, rfl, rfl, rfl, rfl, rfl, rfl, rfl, rfl, rfl, intS2 (i := 6) (m := 7) (by omega) (by omega), trivial⟩
    obtain rfl : j = 7 := by omega
    generalize hP : l.n1.1.map toB ++ l.n2.1.map toB ++ ((mlist l).take 7).flatMap lvB = P at hownG
    have hPl : P.length = mm := by have := hownG.1; rw [List.length_map] at this; omega
    have hbody : layBody l.lay = P ++ l.by_.map toB := by rw [← hP]; simp [layBody, mlist, lvB, Mat.bytes, LL.lay, LM.mat]
    (repeat (first | (with_reducible apply XL.op) | ((with_reducible apply XOp.p1); (case hg | hv => exact rfl)) | (with_reducible apply XL.nilT) | (with_reducible apply XC.seq) | (with_reducible apply XC.region (Γ := Γ)) | (with_reducible apply XQ.exit) | (with_reducible apply XQ.nt) | (with_reducible apply XQ.et) | (with_reducible apply XC.block) | ((with_reducible apply XQ.eb); (case hb => exact rfl)) | (first | ((with_reducible apply XOp.loadN); (case hg | ht | hk | hx => exact rfl); (case hc => exact Known.of_old hBy (Mono.row _ _ _)); (case hl => exact rfl)) | ((with_reducible apply XP.loadN); (case ho | hg | ht | hk | hx => exact rfl); (case hc => exact Known.of_old hBy (Mono.row _ _ _)); (case hl => exact rfl)))))
    refine XC.subl (L' := ([(cb, Obj.cells ⟨x.C.cells⟩ 23 (0, 0)), (wb, Obj.cells ⟨x.cells⟩ 31 (0, 0))] ++ F) ++ G) (List.sublist_cons_self _ _) ?_
    refine XC.loopP (fun k2 ρ L => ∃ (j mk : Nat) (v : Value) (G : HL), j + k2 = 7 ∧ mk = mm + j ∧ OwnS 5 1 v mk ((P ++ (l.by_.take j).map toB).map (.int .u8)) G ∧ L = ([(cb, Obj.cells ⟨x.C.cells⟩ 23 (0, 0)), (wb, Obj.cells ⟨x.cells⟩ 31 (0, 0))] ++ F) ++ G ∧ Slots ρ [(1, .pointer (some ⟨wb, 0, none⟩)), (5, .pointer (some ⟨cb, 0, none⟩)), (6, .slice a' m c'), (12, v), (83, .int .i64 x.Ls.1.length), (84, .int .i64 i), (122, .agg ⟨l.by_.map (Value.int .i64)⟩), (123, .int .i64 j)])
      7 ⟨0, _, _, G, by omega, rfl, hownG.conv rfl (by simp), rfl, rfl, rfl, rfl, rfl, rfl, rfl, rfl, rfl, trivial⟩ ?_
    clear hownG
    rintro k2 ρ L ⟨j, mk, v, G, hjk, rfl, hownG, rfl, hs⟩
    obtain ⟨a9, c9, rfl⟩ := hownG.val
    refine XC.slots _ hs ?_
    (repeat (first | (with_reducible apply XL.op) | ((with_reducible apply XOp.p1); (case hg | hv => exact rfl)) | (with_reducible apply XL.nilT) | (with_reducible apply XC.seq) | (with_reducible apply XC.region (Γ := Γ))))
    ((with_reducible apply XC.cond); (case hc => exact rfl); all_goals (intro hb_; try simp only [pd_true, pd_false, Bool.not_eq_true', Bool.not_eq_false', Bool.and_eq_true, Bool.and_eq_false_iff, Bool.or_eq_true, Bool.or_eq_false_iff, not_true_eq_false, not_false_eq_true, Int.not_lt, Int.not_le] at hb_))
    · (repeat (first | (with_reducible apply XL.op) | ((with_reducible apply XOp.p1); (case hg | hv => exact rfl)) | (with_reducible apply XL.nilT) | (with_reducible apply XC.seq) | (with_reducible apply XC.region (Γ := Γ)) | (with_reducible apply XQ.skip) | (with_reducible apply XQ.nt) | (with_reducible apply XC.block) | (first | ((with_reducible apply XOp.pr); (case hg => exact rfl); (case hr => (with_reducible apply PR.arr); (case ht => exact rfl); (case hk => exact rfl); (case he => exact rfl); (case hag => exact rfl); (case hs => exact rfl); (case hx => exact rfl); (case hi => exact rfl); (case hr => first | assumption | omega); (case hc => exact by_get l (i := j) (by omega)))) | ((with_reducible apply XP.pr); (case ho => exact rfl); (case hg => exact rfl); (case hr => (with_reducible apply PR.arr); (case ht => exact rfl); (case hk => exact rfl); (case he => exact rfl); (case hag => exact rfl); (case hs => exact rfl); (case hx => exact rfl); (case hi => exact rfl); (case hr => first | assumption | omega); (case hc => exact by_get l (i := j) (by omega)))))))
      ((with_reducible apply XOp.buildSlice); (case hg | ht | hk | he | hz | hzl | hf => exact rfl); intro bb)
      (repeat ((with_reducible apply XL.op)))
      ((with_reducible apply XOp.append1R (R := [(cb, Obj.cells ⟨x.C.cells⟩ 23 (0, 0)), (wb, Obj.cells ⟨x.cells⟩ 31 (0, 0))] ++ F)); (case hg => exact rfl); (case ht => exact rfl); (case hk => exact rfl); (case he => exact rfl); (case hown => exact hownG); (case hs => exact rfl); (case hx => exact rfl); (case hL => exact rfl); (case hl => exact rfl); (case h1 => exact rfl); (case hz => exact rfl); (case hsz => exact Nat.zero_lt_succ _); (case hk0 => exact Nat.zero_lt_succ _); (case h63 => simp only [maxLen]; omega); (case hb => simp only []; omega); intro v_ F_ hown_; obtain ⟨a_, c_, rfl⟩ := hown_.val)
      (repeat (first | (with_reducible apply XL.op) | ((with_reducible apply XOp.p1); (case hg | hv => exact rfl)) | (with_reducible apply XL.nilT) | (with_reducible apply XC.region (Γ := Γ)) | (with_reducible apply XL.nilQ) | (with_reducible apply XQ.nt) | (with_reducible apply XQ.nb)))
      refine ⟨k2 - 1, by omega, _, .of (List.Sublist.refl _), j + 1, mm + (j + 1), _, F_, by omega, rfl, hown_.conv (by omega) ?_, rfl, rfl, rfl, rfl, rfl, rfl, rfl, rfl, intS2 (m := 7) (by omega) (by omega), trivial⟩
      rw [getD_take (show j < l.by_.length from by show j < 7; omega), i8_byte]
      simp [zerosL]
    obtain rfl : j = 7 := by omega
    have e7 : l.by_.take 7 = l.by_ := rfl
    rw [e7, ← hbody] at hownG
    obtain ⟨b9, d9, e9, hb9, s9⟩ := own_body hownG (isB_lay _) (by omega)
    rw [hb9] at e9 ⊢
    obtain ⟨rfl, _, rfl⟩ := Value.slice.inj e9
    (repeat (first | (with_reducible apply XL.op) | ((with_reducible apply XOp.p1); (case hg | hv => exact rfl)) | (with_reducible apply XC.region (Γ := Γ)) | (with_reducible apply XQ.exit) | (with_reducible apply XQ.nt) | (with_reducible apply XQ.et) | ((with_reducible apply XQ.eb); (case hb => exact rfl))))
    ((with_reducible apply XOp.callD (R := [(cb, Obj.cells ⟨x.C.cells⟩ 23 (0, 0)), (wb, Obj.cells ⟨x.cells⟩ 31 (0, 0))] ++ G) (R' := [(cb, Obj.cells ⟨x.C.cells⟩ 23 (0, 0)), (wb, Obj.cells ⟨x.cells⟩ 31 (0, 0))]) (F := F) (hF := section_fn (.slice a' m c') m _ F hown 76 (layBody l.lay) a9 c9 (by omega))); (case hg => exact rfl); (case hc => exact rfl); (case ha => exact rfl); (case hL => first | exact List.Perm.refl _ | (first | (with_reducible exact List.Perm.refl _) | refine perm_of_cnt fun p_ => ?_; simp only [List.countP_append, List.countP_cons, List.countP_nil]; omega)); (case hs => ((try simp only [List.append_eq, List.cons_append, List.nil_append, List.append_assoc]); repeat (first | exact List.Sublist.refl _ | exact List.nil_sublist _ | (with_reducible apply List.Sublist.cons_cons) | (with_reducible apply List.Sublist.cons) | exact List.sublist_append_right _ _))); try (case hA => exact Known.true))
    case hA => exact Known.of_frag s9 (Mono.sl _ _ _ _ _) (fun z_ hz_ => by first | exact hz_ | (simp only [List.mem_cons, List.mem_append, hz_, true_or, or_true]; done) | ((repeat (first | exact hz_ | exact List.mem_append_left _ hz_ | (apply List.mem_cons_of_mem) | (apply List.mem_append_right))); done))
    intro v8 F8 h8
    obtain ⟨a8, c8, rfl⟩ := h8.val
    (repeat (first | (with_reducible apply XL.op) | ((with_reducible apply XOp.p1); (case hg | hv => exact rfl)) | (with_reducible apply XL.nilT) | (with_reducible apply XC.region (Γ := Γ)) | (with_reducible apply XL.nilQ) | (with_reducible apply XQ.nt) | (with_reducible apply XQ.nb)))
    exact ⟨k - 1, by omega, _, .of (List.Sublist.refl _), i + 1, _, _, F8, by omega, by omega, h8.conv rfl (by rw [inv_snoc hi]), rfl, rfl, rfl, rfl, rfl, intS2 (m := x.Ls.1.length) (by omega) (by omega), trivial⟩
  obtain rfl : i = x.Ls.1.length := by omega
  rw [List.take_length] at hown
  generalize hX : X3 ++ x.Ls.1.flatMap (fun l => secB 76 (layBody l.lay)) = X at hown
  (repeat (first | (with_reducible apply XL.op) | ((with_reducible apply XOp.p1); (case hg | hv => exact rfl)) | ((with_reducible apply XOp.load); (case hg | ht | hk | hx => exact rfl); (case hc => exact own_cell (i := 1) rfl rfl)) | (with_reducible apply XC.seq) | (with_reducible apply XC.region (Γ := Γ)) | (with_reducible apply XQ.exit) | (with_reducible apply XQ.nt) | (with_reducible apply XQ.et) | ((with_reducible apply XQ.eb); (case hb => exact rfl))))

  ((with_reducible apply XOp.buildSlice); (case hg | ht | hk | he | hz | hzl | hf => exact rfl); intro lb11)
  (repeat ((with_reducible apply XL.op)))
  (refine (show XOp _ _ _ _ _ _ _ _ ((lb11, Obj.cells ⟨[slv x.F]⟩ 24 (0, 0)) :: ([(cb, Obj.cells ⟨x.C.cells⟩ 23 (0, 0)), (wb, Obj.cells ⟨x.cells⟩ 31 (0, 0))] ++ F)) from XOp.perm (L' :=  ((lb11, Obj.cells ⟨[slv x.F]⟩ 24 (0, 0)) :: [(cb, Obj.cells ⟨x.C.cells⟩ 23 (0, 0)), (wb, Obj.cells ⟨x.cells⟩ 31 (0, 0))] ++ F) ++ []) rfl ?_ (by (first | (with_reducible exact List.Perm.refl _) | refine perm_of_cnt fun p_ => ?_; simp only [List.countP_append, List.countP_cons, List.countP_nil]; omega))))
  ((with_reducible apply XOp.callD (R := (lb11, Obj.cells ⟨[slv x.F]⟩ 24 (0, 0)) :: [(cb, Obj.cells ⟨x.C.cells⟩ 23 (0, 0)), (wb, Obj.cells ⟨x.cells⟩ 31 (0, 0))] ++ F) (R' := [(cb, Obj.cells ⟨x.C.cells⟩ 23 (0, 0)), (wb, Obj.cells ⟨x.cells⟩ 31 (0, 0))] ++ F) (F := []) (hF := bytes1_fn (.slice none 0 0) 0 [] [] (OwnS.nil _ _) x.F lb11 (by omega))); (case hg => exact rfl); (case hc => exact rfl); (case ha => exact rfl); (case hL => first | exact List.Perm.refl _ | (first | (with_reducible exact List.Perm.refl _) | refine perm_of_cnt fun p_ => ?_; simp only [List.countP_append, List.countP_cons, List.countP_nil]; omega)); (case hs => ((try simp only [List.append_eq, List.cons_append, List.nil_append, List.append_assoc]); repeat (first | exact List.Sublist.refl _ | exact List.nil_sublist _ | (with_reducible apply List.Sublist.cons_cons) | (with_reducible apply List.Sublist.cons) | exact List.sublist_append_right _ _))); try (case hA => exact Known.true))
  case hA => exact Known.and (own_row (i := 0) (m := 1) rfl rfl) (Known.of_old hA.f (lv_mono _))
  intro w11 G11 g11
  rw [List.nil_append, Nat.zero_add] at g11
  have l11 : (x.F.1.map toB).length ≤ 100000 := by rw [List.length_map]; omega
  obtain ⟨b11, d11, rfl, hb11, s11⟩ := own_body g11 (isB_map _) (by omega)
  (repeat ((with_reducible apply XL.op)))
  ((with_reducible apply XOp.callD (R := [(cb, Obj.cells ⟨x.C.cells⟩ 23 (0, 0)), (wb, Obj.cells ⟨x.cells⟩ 31 (0, 0))] ++ G11) (R' := [(cb, Obj.cells ⟨x.C.cells⟩ 23 (0, 0)), (wb, Obj.cells ⟨x.cells⟩ 31 (0, 0))]) (F := F) (hF := section_fn (.slice a' m c') _ (X) F hown 70 (x.F.1.map toB) b11 d11 (by omega))); (case hg => exact rfl); (case hc => exact rfl); (case ha => exact rfl); (case hL => first | exact List.Perm.refl _ | (first | (with_reducible exact List.Perm.refl _) | refine perm_of_cnt fun p_ => ?_; simp only [List.countP_append, List.countP_cons, List.countP_nil]; omega)); (case hs => ((try simp only [List.append_eq, List.cons_append, List.nil_append, List.append_assoc]); repeat (first | exact List.Sublist.refl _ | exact List.nil_sublist _ | (with_reducible apply List.Sublist.cons_cons) | (with_reducible apply List.Sublist.cons) | exact List.sublist_append_right _ _))); try (case hA => exact Known.true))
  case hA => exact Known.of_frag s11 (Mono.sl _ _ _ _ _) (fun z_ hz_ => by first | exact hz_ | (simp only [List.mem_cons, List.mem_append, hz_, true_or, or_true]; done) | ((repeat (first | exact hz_ | exact List.mem_append_left _ hz_ | (apply List.mem_cons_of_mem) | (apply List.mem_append_right))); done))
  intro v11 F11 h11
  obtain ⟨a11, c11, rfl⟩ := h11.val
  (repeat (first | (with_reducible apply XL.op) | ((with_reducible apply XOp.p1); (case hg | hv => exact rfl)) | ((with_reducible apply XOp.load); (case hg | ht | hk | hx => exact rfl); (case hc => exact own_cell (i := 1) rfl rfl)) | (with_reducible apply XL.nilT) | (with_reducible apply XC.seq) | (with_reducible apply XC.region (Γ := Γ))))
  ((with_reducible apply XOp.buildSlice); (case hg | ht | hk | he | hz | hzl | hf => exact rfl); intro lb12)
  (repeat ((with_reducible apply XL.op)))
  (refine (show XOp _ _ _ _ _ _ _ _ ((lb12, Obj.cells ⟨[slv x.H.d]⟩ 24 (0, 0)) :: ([(cb, Obj.cells ⟨x.C.cells⟩ 23 (0, 0)), (wb, Obj.cells ⟨x.cells⟩ 31 (0, 0))] ++ F11)) from XOp.perm (L' :=  ((lb12, Obj.cells ⟨[slv x.H.d]⟩ 24 (0, 0)) :: [(cb, Obj.cells ⟨x.C.cells⟩ 23 (0, 0)), (wb, Obj.cells ⟨x.cells⟩ 31 (0, 0))] ++ F11) ++ []) rfl ?_ (by (first | (with_reducible exact List.Perm.refl _) | refine perm_of_cnt fun p_ => ?_; simp only [List.countP_append, List.countP_cons, List.countP_nil]; omega))))
  ((with_reducible apply XOp.callD (R := (lb12, Obj.cells ⟨[slv x.H.d]⟩ 24 (0, 0)) :: [(cb, Obj.cells ⟨x.C.cells⟩ 23 (0, 0)), (wb, Obj.cells ⟨x.cells⟩ 31 (0, 0))] ++ F11) (R' := [(cb, Obj.cells ⟨x.C.cells⟩ 23 (0, 0)), (wb, Obj.cells ⟨x.cells⟩ 31 (0, 0))] ++ F11) (F := []) (hF := bytes1_fn (.slice none 0 0) 0 [] [] (OwnS.nil _ _) x.H.d lb12 (by omega))); (case hg => exact rfl); (case hc => exact rfl); (case ha => exact rfl); (case hL => first | exact List.Perm.refl _ | (first | (with_reducible exact List.Perm.refl _) | refine perm_of_cnt fun p_ => ?_; simp only [List.countP_append, List.countP_cons, List.countP_nil]; omega)); (case hs => ((try simp only [List.append_eq, List.cons_append, List.nil_append, List.append_assoc]); repeat (first | exact List.Sublist.refl _ | exact List.nil_sublist _ | (with_reducible apply List.Sublist.cons_cons) | (with_reducible apply List.Sublist.cons) | exact List.sublist_append_right _ _))); try (case hA => exact Known.true))
  case hA => exact Known.and (own_row (i := 0) (m := 1) rfl rfl) (Known.of_old hA.hd (lv_mono _))
  intro w12 G12 g12
  rw [List.nil_append, Nat.zero_add] at g12
  have l12 : (x.H.d.1.map toB).length ≤ 100000 := by rw [List.length_map]; omega
  obtain ⟨b12, d12, rfl, hb12, s12⟩ := own_body g12 (isB_map _) (by omega)
  (repeat ((with_reducible apply XL.op)))
  ((with_reducible apply XOp.callD (R := [(cb, Obj.cells ⟨x.C.cells⟩ 23 (0, 0)), (wb, Obj.cells ⟨x.cells⟩ 31 (0, 0))] ++ G12) (R' := [(cb, Obj.cells ⟨x.C.cells⟩ 23 (0, 0)), (wb, Obj.cells ⟨x.cells⟩ 31 (0, 0))]) (F := F11) (hF := section_fn (.slice a11 _ c11) _ (X ++ secB 70 (x.F.1.map toB)) F11 h11 72 (x.H.d.1.map toB) b12 d12 (by omega))); (case hg => exact rfl); (case hc => exact rfl); (case ha => exact rfl); (case hL => first | exact List.Perm.refl _ | (first | (with_reducible exact List.Perm.refl _) | refine perm_of_cnt fun p_ => ?_; simp only [List.countP_append, List.countP_cons, List.countP_nil]; omega)); (case hs => ((try simp only [List.append_eq, List.cons_append, List.nil_append, List.append_assoc]); repeat (first | exact List.Sublist.refl _ | exact List.nil_sublist _ | (with_reducible apply List.Sublist.cons_cons) | (with_reducible apply List.Sublist.cons) | exact List.sublist_append_right _ _))); try (case hA => exact Known.true))
  case hA => exact Known.of_frag s12 (Mono.sl _ _ _ _ _) (fun z_ hz_ => by first | exact hz_ | (simp only [List.mem_cons, List.mem_append, hz_, true_or, or_true]; done) | ((repeat (first | exact hz_ | exact List.mem_append_left _ hz_ | (apply List.mem_cons_of_mem) | (apply List.mem_append_right))); done))
  intro v12 F12 h12
  obtain ⟨a12, c12, rfl⟩ := h12.val
  (repeat (first | (with_reducible apply XL.op) | ((with_reducible apply XOp.p1); (case hg | hv => exact rfl)) | ((with_reducible apply XOp.load); (case hg | ht | hk | hx => exact rfl); (case hc => exact own_cell (i := 1) rfl rfl)) | (with_reducible apply XL.nilT) | (with_reducible apply XC.seq) | (with_reducible apply XC.region (Γ := Γ)) | (with_reducible apply XC.block)))
  have hM := hA.m.locRaw
  have hMa := hM.at_
  have hMb := hM.bytes
  refine XC.loopP (fun k ρ L => ∃ (i m : Nat) (v : Value) (F : HL), i + k = x.M.1.length ∧ m ≤ 400000 + i * 3000 ∧ OwnS 5 1 v m ((X ++ secB 70 (x.F.1.map toB) ++ secB 72 (x.H.d.1.map toB) ++ (x.M.1.take i).flatMap (fun l => secB 77 (l.d.1.map toB))).map (.int .u8)) F ∧ L = [(cb, Obj.cells ⟨x.C.cells⟩ 23 (0, 0)), (wb, Obj.cells ⟨x.cells⟩ 31 (0, 0))] ++ F ∧ Slots ρ [(1, .pointer (some ⟨wb, 0, none⟩)), (5, .pointer (some ⟨cb, 0, none⟩)), (6, v), (150, sla x.M), (151, .int .i64 x.M.1.length), (152, .int .i64 i)])
    x.M.1.length ⟨0, _, _, F12, by omega, ?_, h12.conv rfl (by simp), rfl, rfl, rfl, rfl, rfl, rfl, rfl, trivial⟩ ?_
  · simp only [List.length_map]; omega
  clear hown h11 h12 g11 g12 s11 s12
  rintro k ρ L ⟨i, m, v, F, hik, hm, hown, rfl, hs⟩
  obtain ⟨a', c', rfl⟩ := hown.val
  refine XC.slots _ hs ?_
  (repeat (first | (with_reducible apply XL.op) | ((with_reducible apply XOp.p1); (case hg | hv => exact rfl)) | (with_reducible apply XL.nilT) | (with_reducible apply XC.seq) | (with_reducible apply XC.region (Γ := Γ))))
  ((with_reducible apply XC.cond); (case hc => exact rfl); all_goals (intro hb_; try simp only [pd_true, pd_false, Bool.not_eq_true', Bool.not_eq_false', Bool.and_eq_true, Bool.and_eq_false_iff, Bool.or_eq_true, Bool.or_eq_false_iff, not_true_eq_false, not_false_eq_true, Int.not_lt, Int.not_le] at hb_))
  · obtain ⟨l, hi⟩ : ∃ l, x.M.1[i]? = some l := ⟨_, List.getElem?_eq_getElem (by omega)⟩
    have hl := hA.m.locAt (List.mem_of_getElem? hi)
    have hll := smb l (List.mem_of_getElem? hi)
    (repeat (first | (with_reducible apply XL.op) | ((with_reducible apply XOp.pr); (case hg => exact rfl); (case hr => ((with_reducible apply PR.idxA); (case ht | hk | he | hx | hi => exact rfl); (case hr => first | assumption | omega); (case ha => first | assumption | exact SlA.at_ (by assumption))))) | (with_reducible apply XC.seq) | (with_reducible apply XC.region (Γ := Γ)) | (with_reducible apply XQ.skip) | (with_reducible apply XQ.nt) | (with_reducible apply XC.block) | (first | ((with_reducible apply XOp.loadN); (case hg | ht | hk | hx => exact rfl); (case hc => exact Known.of_old (hM.rawAt hi) (Mono.row _ _ _)); (case hl => exact rfl)) | ((with_reducible apply XP.loadN); (case ho | hg | ht | hk | hx => exact rfl); (case hc => exact Known.of_old (hM.rawAt hi) (Mono.row _ _ _)); (case hl => exact rfl)))))
    ((with_reducible apply XOp.alloc); (case hg | ht | hx' => exact rfl); intro mb)
    (repeat (first | (with_reducible apply XL.op) | ((with_reducible apply XOp.p1); (case hg | hv => exact rfl)) | ((with_reducible apply XOp.load); (case hg | ht | hk | hx => exact rfl); (case hc => exact own_cell (i := 0) rfl rfl)) | ((with_reducible apply XOp.storeN (i := 0)); (case hg | ht | hx | hv' | hk | h1 | hi | hs | ha => exact rfl)) | (with_reducible apply XL.nilT) | (with_reducible apply XC.region (Γ := Γ))))
    ((with_reducible apply XOp.buildSlice); (case hg | ht | hk | he | hz | hzl | hf => exact rfl); intro xb)
    (repeat ((with_reducible apply XL.op)))
    (refine (show XOp _ _ _ _ _ _ _ _ ((xb, Obj.cells ⟨[slv l.d]⟩ 24 (0, 0)) :: (mb, Obj.cells ⟨l.cells⟩ 26 (0, 0)) :: ([(cb, Obj.cells ⟨x.C.cells⟩ 23 (0, 0)), (wb, Obj.cells ⟨x.cells⟩ 31 (0, 0))] ++ F)) from XOp.perm (L' :=  ((xb, Obj.cells ⟨[slv l.d]⟩ 24 (0, 0)) :: (mb, Obj.cells ⟨l.cells⟩ 26 (0, 0)) :: [(cb, Obj.cells ⟨x.C.cells⟩ 23 (0, 0)), (wb, Obj.cells ⟨x.cells⟩ 31 (0, 0))] ++ F) ++ []) rfl ?_ (by (first | (with_reducible exact List.Perm.refl _) | refine perm_of_cnt fun p_ => ?_; simp only [List.countP_append, List.countP_cons, List.countP_nil]; omega))))
    ((with_reducible apply XOp.callD (R := (xb, Obj.cells ⟨[slv l.d]⟩ 24 (0, 0)) :: (mb, Obj.cells ⟨l.cells⟩ 26 (0, 0)) :: [(cb, Obj.cells ⟨x.C.cells⟩ 23 (0, 0)), (wb, Obj.cells ⟨x.cells⟩ 31 (0, 0))] ++ F) (R' := [(cb, Obj.cells ⟨x.C.cells⟩ 23 (0, 0)), (wb, Obj.cells ⟨x.cells⟩ 31 (0, 0))] ++ F) (F := []) (hF := bytes1_fn (.slice none 0 0) 0 [] [] (OwnS.nil _ _) l.d xb (by omega))); (case hg => exact rfl); (case hc => exact rfl); (case ha => exact rfl); (case hL => first | exact List.Perm.refl _ | (first | (with_reducible exact List.Perm.refl _) | refine perm_of_cnt fun p_ => ?_; simp only [List.countP_append, List.countP_cons, List.countP_nil]; omega)); (case hs => ((try simp only [List.append_eq, List.cons_append, List.nil_append, List.append_assoc]); repeat (first | exact List.Sublist.refl _ | exact List.nil_sublist _ | (with_reducible apply List.Sublist.cons_cons) | (with_reducible apply List.Sublist.cons) | exact List.sublist_append_right _ _))); try (case hA => exact Known.true))
    case hA => exact Known.and (own_row (i := 0) (m := 1) rfl rfl) (Known.of_old hl (lm_mono _))
    intro w4 G4 g4
    rw [List.nil_append, Nat.zero_add] at g4
    have l4 : (l.d.1.map toB).length ≤ 100000 := by rw [List.length_map]; omega
    obtain ⟨b4, d4, rfl, hb4, s4⟩ := own_body g4 (isB_map _) (by omega)
    (repeat ((with_reducible apply XL.op)))
    ((with_reducible apply XOp.callD (R := [(cb, Obj.cells ⟨x.C.cells⟩ 23 (0, 0)), (wb, Obj.cells ⟨x.cells⟩ 31 (0, 0))] ++ G4) (R' := [(cb, Obj.cells ⟨x.C.cells⟩ 23 (0, 0)), (wb, Obj.cells ⟨x.cells⟩ 31 (0, 0))]) (F := F) (hF := section_fn (.slice a' m c') m _ F hown 77 (l.d.1.map toB) b4 d4 (by omega))); (case hg => exact rfl); (case hc => exact rfl); (case ha => exact rfl); (case hL => first | exact List.Perm.refl _ | (first | (with_reducible exact List.Perm.refl _) | refine perm_of_cnt fun p_ => ?_; simp only [List.countP_append, List.countP_cons, List.countP_nil]; omega)); (case hs => ((try simp only [List.append_eq, List.cons_append, List.nil_append, List.append_assoc]); repeat (first | exact List.Sublist.refl _ | exact List.nil_sublist _ | (with_reducible apply List.Sublist.cons_cons) | (with_reducible apply List.Sublist.cons) | exact List.sublist_append_right _ _))); try (case hA => exact Known.true))
    case hA => exact Known.of_frag s4 (Mono.sl _ _ _ _ _) (fun z_ hz_ => by first | exact hz_ | (simp only [List.mem_cons, List.mem_append, hz_, true_or, or_true]; done) | ((repeat (first | exact hz_ | exact List.mem_append_left _ hz_ | (apply List.mem_cons_of_mem) | (apply List.mem_append_right))); done))
    intro v4 F4 h4
    obtain ⟨a4, c4, rfl⟩ := h4.val
    (repeat (first | (with_reducible apply XL.op) | ((with_reducible apply XOp.p1); (case hg | hv => exact rfl)) | (with_reducible apply XL.nilT) | (with_reducible apply XC.region (Γ := Γ)) | (with_reducible apply XL.nilQ) | (with_reducible apply XQ.nt) | (with_reducible apply XQ.nb)))
    exact ⟨k - 1, by omega, _, .of (List.Sublist.refl _), i + 1, _, _, F4, by omega, by rw [List.length_map]; omega, h4.conv rfl (by rw [inv_snoc hi]), rfl, rfl, rfl, rfl, rfl, rfl, intS2 (m := x.M.1.length) (by omega) (by omega), trivial⟩
  obtain rfl : i = x.M.1.length := by omega
  rw [List.take_length] at hown
  have hfile := fileOf_eq x
  have hXs : X = secsL x ++ x.Ls.1.flatMap (fun l => secB 76 (layBody l.lay)) := by rw [← hX, ← hX3, ← hX2]; simp [secsL]
  rw [← hXs] at hfile
  simp only [] at hfile
  have hXB : isB X := by
    rw [hXs]
    exact isB_app (isB_app (isB_app (isB_app isB_begin (isB_sec (by omega) (isB_map _))) (isB_sec (by omega) (isB_map _))) (isB_sec (by omega) (isB_turns _))) (isB_flat fun l _ => isB_sec (by omega) (isB_lay _))
  have hB : isB (X ++ secB 70 (x.F.1.map toB) ++ secB 72 (x.H.d.1.map toB) ++ x.M.1.flatMap (fun l => secB 77 (l.d.1.map toB))) :=
    isB_app (isB_app (isB_app hXB (isB_sec (by omega) (isB_map _))) (isB_sec (by omega) (isB_map _))) (isB_flat fun l _ => isB_sec (by omega) (isB_map _))
  generalize X ++ secB 70 (x.F.1.map toB) ++ secB 72 (x.H.d.1.map toB) ++ x.M.1.flatMap (fun l => secB 77 (l.d.1.map toB)) = Y at hown hfile hB
  have hYl : Y.length ≤ 1000000000 := by have := hown.1; rw [List.length_map] at this; omega
  obtain ⟨a2, c2, e2, hm2, s2⟩ := own_body hown hB hYl
  obtain ⟨rfl, rfl, rfl⟩ := Value.slice.inj e2
  (repeat (first | (with_reducible apply XL.op) | ((with_reducible apply XOp.p1); (case hg | hv => exact rfl)) | (with_reducible apply XC.seq) | (with_reducible apply XC.region (Γ := Γ)) | (with_reducible apply XQ.exit) | (with_reducible apply XQ.nt) | (with_reducible apply XQ.et) | ((with_reducible apply XQ.eb); (case hb => exact rfl)) | (((with_reducible apply XOp.callQ (hF := digest_fn Y a' c')); (case hg => exact rfl); (case hc => exact rfl); (case ha => exact rfl); try (case hA => exact Known.true)); (case hA => exact Known.of_frag s2 (Mono.sl _ _ _ _ _) (fun z_ hz_ => by first | exact hz_ | (simp only [List.mem_cons, List.mem_append, hz_, true_or, or_true]; done) | ((repeat (first | exact hz_ | exact List.mem_append_left _ hz_ | (apply List.mem_cons_of_mem) | (apply List.mem_append_right))); done))); rintro _ rfl)))
  have hd := digS_u64 Y
  ((with_reducible apply XOp.callD (R := [(cb, Obj.cells ⟨x.C.cells⟩ 23 (0, 0)), (wb, Obj.cells ⟨x.cells⟩ 31 (0, 0))] ++ F) (R' := [(cb, Obj.cells ⟨x.C.cells⟩ 23 (0, 0)), (wb, Obj.cells ⟨x.cells⟩ 31 (0, 0))] ++ F) (F := []) (hF := number_fn (.slice none 0 0) 0 [] [] (OwnS.nil _ _) (digS Y) hd 8 (by omega))); (case hg => exact rfl); (case hc => exact rfl); (case ha => exact rfl); (case hL => first | exact List.Perm.refl _ | (first | (with_reducible exact List.Perm.refl _) | refine perm_of_cnt fun p_ => ?_; simp only [List.countP_append, List.countP_cons, List.countP_nil]; omega)); (case hs => ((try simp only [List.append_eq, List.cons_append, List.nil_append, List.append_assoc]); repeat (first | exact List.Sublist.refl _ | exact List.nil_sublist _ | (with_reducible apply List.Sublist.cons_cons) | (with_reducible apply List.Sublist.cons) | exact List.sublist_append_right _ _))); try (case hA => exact Known.true))
  intro w7 G7 g7
  rw [List.nil_append] at g7
  obtain ⟨b7, d7, rfl, hb7, s7⟩ := own_body g7 (numB_isB _ _) (by rw [numB_len]; omega)
  (repeat ((with_reducible apply XL.op)))
  ((with_reducible apply XOp.callD (R := [(cb, Obj.cells ⟨x.C.cells⟩ 23 (0, 0)), (wb, Obj.cells ⟨x.cells⟩ 31 (0, 0))] ++ G7) (R' := [(cb, Obj.cells ⟨x.C.cells⟩ 23 (0, 0)), (wb, Obj.cells ⟨x.cells⟩ 31 (0, 0))]) (F := F) (hF := section_fn (.slice a' _ c') _ _ F hown 90 (numB (digS Y) 8) b7 d7 (by rw [numB_len]; omega))); (case hg => exact rfl); (case hc => exact rfl); (case ha => exact rfl); (case hL => first | exact List.Perm.refl _ | (first | (with_reducible exact List.Perm.refl _) | refine perm_of_cnt fun p_ => ?_; simp only [List.countP_append, List.countP_cons, List.countP_nil]; omega)); (case hs => ((try simp only [List.append_eq, List.cons_append, List.nil_append, List.append_assoc]); repeat (first | exact List.Sublist.refl _ | exact List.nil_sublist _ | (with_reducible apply List.Sublist.cons_cons) | (with_reducible apply List.Sublist.cons) | exact List.sublist_append_right _ _))); try (case hA => exact Known.true))
  case hA => exact Known.of_frag s7 (Mono.sl _ _ _ _ _) (fun z_ hz_ => by first | exact hz_ | (simp only [List.mem_cons, List.mem_append, hz_, true_or, or_true]; done) | ((repeat (first | exact hz_ | exact List.mem_append_left _ hz_ | (apply List.mem_cons_of_mem) | (apply List.mem_append_right))); done))
  intro v8 F8 h8
  obtain ⟨a8, c8, rfl⟩ := h8.val
  (repeat (first | (with_reducible apply XL.op) | ((with_reducible apply XOp.p1); (case hg | hv => exact rfl)) | (with_reducible apply XL.nilT) | (with_reducible apply XQ.ret)))
  ((with_reducible apply XQ.retE); (case hr => exact .t rfl (.t rfl .nil)))
  exact ⟨F8, .of (List.sublist_append_right _ _), _, _, by rw [h0]; rfl, by rw [encS_ok hok]; exact h8.conv rfl (by rw [hfile]), by rw [numB_len]; omega⟩
end Go.Proofs.YtppggaiahkecoaaDoorX
/- Are two weights the same? -/
namespace Go.Proofs.YtppggaiahkecoaaDoorX
open Go Go.SX

theorem eqNarrow_fn (x y : LV) : FC Tryd.prog 61 [slv x, slv y] []
    (fun h => lvAt h x ∧ lvAt h y) (fun v L => v = .bool (pd (x.1 = y.1)) ∧ L = []) := by
  refine FC.nil ?_
  obtain ⟨xs, a, ca⟩ := x
  obtain ⟨ys, b, cb⟩ := y
  refine FC.intro Tryd.func61 rfl (by kernel_rfl) 26 [.tmp 4] rfl rfl rfl ?_
  rintro w0 ⟨hA, hB⟩
  have hsm := hA.bytes
  simp only [] at hsm
  change SlA (Kd.int .i8) 1 _ xs a ca at hA
  change SlA (Kd.int .i8) 1 _ ys b cb at hB
  (repeat (first | (with_reducible apply XL.op) | ((with_reducible apply XOp.p1); (case hg | hv => exact rfl)) | (with_reducible apply XL.nilT) | (with_reducible apply XC.seq) | (with_reducible apply XC.region (Γ := Γ))))
  ((with_reducible apply XC.cond); (case hc => exact rfl); all_goals (intro hb_; try simp only [pd_true, pd_false, Bool.not_eq_true', Bool.not_eq_false', Bool.and_eq_true, Bool.and_eq_false_iff, Bool.or_eq_true, Bool.or_eq_false_iff, not_true_eq_false, not_false_eq_true, Int.not_lt, Int.not_le] at hb_))
  · (repeat (first | (with_reducible apply XL.op) | ((with_reducible apply XOp.p1); (case hg | hv => exact rfl)) | (with_reducible apply XL.nilT) | (with_reducible apply XC.seq) | (with_reducible apply XC.region (Γ := Γ)) | (with_reducible apply XQ.ret) | (with_reducible apply XQ.rt)))
    ((with_reducible apply XQ.retE); (case hr => exact .t rfl .nil))
    exact congrArg Value.bool (pdf (fun h => hb_ (by rw [show xs = ys from h]))).symm
  (repeat (first | (with_reducible apply XL.op) | ((with_reducible apply XOp.p1); (case hg | hv => exact rfl)) | (with_reducible apply XL.nilT) | (with_reducible apply XC.seq) | (with_reducible apply XC.region (Γ := Γ)) | (with_reducible apply XQ.skip) | (with_reducible apply XQ.nt) | (with_reducible apply XC.block)))
  refine XC.loop (fun k ρ L => ∃ (i : Nat), i + k = xs.length ∧ L = [] ∧ (∀ j, j < i → xs[j]? = ys[j]?) ∧ Slots ρ [(0, .slice a xs.length ca), (1, .slice b ys.length cb), (5, .int .i64 i)])
    xs.length ⟨0, by simp, rfl, by simp, rfl, rfl, rfl, trivial⟩ ?_
  rintro k ρ L ⟨i, hik, rfl, hq, hs⟩
  have hlen : (xs.length : Int) = ys.length := by first | assumption | omega
  refine XC.slots _ hs ?_
  (repeat' (first | (with_reducible apply XL.op) | ((with_reducible apply XOp.p1); (case hg | hv => exact rfl)) | (with_reducible apply XL.nilT) | (with_reducible apply XC.seq) | (with_reducible apply XC.region (Γ := Γ)) | (with_reducible apply XQ.skip) | (with_reducible apply XQ.ret) | (with_reducible apply XQ.exit) | (with_reducible apply XQ.nt) | (with_reducible apply XQ.nb) | (with_reducible apply XQ.rt) | (with_reducible apply XQ.rb) | (with_reducible apply XQ.et) | (with_reducible apply XC.block) | ((with_reducible apply XP.p1); (case ho | hg | hv => exact rfl)) | ((with_reducible apply XP.pr); (case ho => exact rfl); (case hg => exact rfl); (case hr => ((with_reducible apply PR.idxA); (case ht | hk | he | hx | hi => exact rfl); (case hr => first | assumption | omega); (case ha => first | assumption | exact SlA.at_ (by assumption))))) | (with_reducible apply XP.done) | ((with_reducible apply XQ.eb); (case hb => exact rfl)) | ((with_reducible apply XC.regionD (Γ := Γ) mixed (.q 0 (.q 1 (.q 2 (.q 3 (.q 4 (.q 5 (.q 6 (.q 7 (.q 8 (.done)))))))))) [] []); (case hc => kernel_rfl)) | (first | ((with_reducible apply XOp.load); (case hg | ht | hk | hx => exact rfl); (case hc => exact Known.of_old (hA.int i (by omega)).1 (Mono.cell _ _))) | ((with_reducible apply XP.load); (case ho | hg | ht | hk | hx => exact rfl); (case hc => exact Known.of_old (hA.int i (by omega)).1 (Mono.cell _ _)))) | (first | ((with_reducible apply XOp.load); (case hg | ht | hk | hx => exact rfl); (case hc => exact Known.of_old (hB.int i (by omega)).1 (Mono.cell _ _))) | ((with_reducible apply XP.load); (case ho | hg | ht | hk | hx => exact rfl); (case hc => exact Known.of_old (hB.int i (by omega)).1 (Mono.cell _ _)))) | ((with_reducible apply XC.cond); (case hc => exact rfl); all_goals (intro hb_; try simp only [pd_true, pd_false, Bool.not_eq_true', Bool.not_eq_false', Bool.and_eq_true, Bool.and_eq_false_iff, Bool.or_eq_true, Bool.or_eq_false_iff, not_true_eq_false, not_false_eq_true, Int.not_lt, Int.not_le] at hb_))))
  · ((with_reducible apply XQ.retE); (case hr => exact .t rfl .nil))
    exact congrArg Value.bool (pdf (fun h => hb_ (by rw [show xs = ys from h]))).symm
  · refine ⟨k - 1, by omega, i + 1, by omega, rfl, fun j hj => ?_, rfl, rfl, intS (m := xs.length) (by omega) (by omega), trivial⟩
    by_cases h : j = i
    · subst h; rw [List.getElem?_eq_getElem (by omega), List.getElem?_eq_getElem (by omega)] at hb_ ⊢; simpa using hb_
    · exact hq j (by omega)
  · ((with_reducible apply XQ.retE); (case hr => exact .t rfl .nil))
    refine congrArg Value.bool (pdt (show xs = ys from List.ext_getElem? fun j => ?_)).symm
    by_cases h : j < i
    · exact hq j h
    · rw [List.getElem?_eq_none (by omega), List.getElem?_eq_none (by omega)]

theorem mat_eq (x y : LM) : x.mat = y.mat ↔ x.r = y.r ∧ x.c = y.c ∧ x.d.1 = y.d.1 := by
  simp only [LM.mat, Mat.mk.injEq]
theorem eqMat_fn (x y : LM) : FC Tryd.prog 58 [.agg ⟨x.cells⟩, .agg ⟨y.cells⟩] []
    (fun h => lmAt h x ∧ lmAt h y) (fun v L => v = .bool (pd (x.mat = y.mat)) ∧ L = []) := by
  refine FC.nil ?_
  refine FC.intro Tryd.func58 rfl (by kernel_rfl) 24 [.tmp 4] rfl rfl rfl ?_
  rintro w0 ⟨hA, hB⟩
  (repeat (first | (with_reducible apply XL.op) | (with_reducible apply XC.seq) | (with_reducible apply XC.region (Γ := Γ))))
  ((with_reducible apply XOp.box); (case hg | hx' => exact rfl); intro xb)
  (repeat ((with_reducible apply XL.op)))
  ((with_reducible apply XOp.box); (case hg | hx' => exact rfl); intro yb)
  (repeat' (first | (with_reducible apply XL.op) | ((with_reducible apply XOp.p1); (case hg | hv => exact rfl)) | ((with_reducible apply XOp.p0); (case hg => exact rfl)) | ((with_reducible apply XOp.load); (case hg | ht | hk | hx => exact rfl); (case hc => exact own_cell (i := 0) rfl rfl)) | ((with_reducible apply XOp.load); (case hg | ht | hk | hx => exact rfl); (case hc => exact own_cell (i := 1) rfl rfl)) | (with_reducible apply XL.nilT) | (with_reducible apply XC.seq) | (with_reducible apply XC.region (Γ := Γ)) | (with_reducible apply XQ.ret) | (((with_reducible apply XOp.callQ (hF := eqNarrow_fn x.d y.d)); (case hg => exact rfl); (case hc => exact rfl); (case ha => exact rfl); try (case hA => exact Known.true)); (case hA => exact Known.and (Known.of_old hA (lv_mono _)) (Known.of_old hB (lv_mono _))); rintro _ rfl) | ((with_reducible apply XOp.split); (case hg | hj | hd | hb => exact rfl); (fail_if_success (case hf => exact fun h => Bool.noConfusion h)); (fail_if_success (case ht => exact fun h => Bool.noConfusion h)); all_goals (intro hb_; try simp only [pd_true, pd_false, Bool.not_eq_true', Bool.not_eq_false', Bool.and_eq_true, Bool.and_eq_false_iff, Bool.or_eq_true, Bool.or_eq_false_iff, not_true_eq_false, not_false_eq_true, Int.not_lt, Int.not_le] at hb_))))
  all_goals ((with_reducible apply XQ.retE); (case hr => exact .t rfl .nil))
  all_goals refine congrArg Value.bool ?_
  all_goals rw [pdc (mat_eq x y)]
  · exact pdc ⟨fun h => ⟨by assumption, by assumption, h⟩, fun h => h.2.2⟩
  · exact (pdf fun h => hb_ h.2.1).symm
  · exact (pdf fun h => hb_ h.1).symm

set_option maxHeartbeats 4000000 in
theorem eqTurns_fn (x y : LA (Int × Int)) : FC Tryd.prog 59 [sla x, sla y] []
    (fun h => SlA turnK 16 h x.1 x.2.1 x.2.2 ∧ SlA turnK 16 h y.1 y.2.1 y.2.2) (fun v L => v = .bool (pd (x.1 = y.1)) ∧ L = []) := by
  refine FC.nil ?_
  obtain ⟨xs, a, ca⟩ := x
  obtain ⟨ys, b, cb⟩ := y
  refine FC.intro Tryd.func59 rfl (by kernel_rfl) 41 [.tmp 4] rfl rfl rfl ?_
  rintro w0 ⟨hA, hB⟩
  have hsm := hA.bytes
  simp only [] at hsm
  change SlA turnK 16 _ xs a ca at hA
  change SlA turnK 16 _ ys b cb at hB
  (repeat (first | (with_reducible apply XL.op) | ((with_reducible apply XOp.p1); (case hg | hv => exact rfl)) | (with_reducible apply XL.nilT) | (with_reducible apply XC.seq) | (with_reducible apply XC.region (Γ := Γ))))
  ((with_reducible apply XC.cond); (case hc => exact rfl); all_goals (intro hb_; try simp only [pd_true, pd_false, Bool.not_eq_true', Bool.not_eq_false', Bool.and_eq_true, Bool.and_eq_false_iff, Bool.or_eq_true, Bool.or_eq_false_iff, not_true_eq_false, not_false_eq_true, Int.not_lt, Int.not_le] at hb_))
  · (repeat (first | (with_reducible apply XL.op) | ((with_reducible apply XOp.p1); (case hg | hv => exact rfl)) | (with_reducible apply XL.nilT) | (with_reducible apply XC.seq) | (with_reducible apply XC.region (Γ := Γ)) | (with_reducible apply XQ.ret) | (with_reducible apply XQ.rt)))
    ((with_reducible apply XQ.retE); (case hr => exact .t rfl .nil))
    exact congrArg Value.bool (pdf (fun h => hb_ (by rw [show xs = ys from h]))).symm
  (repeat (first | (with_reducible apply XL.op) | ((with_reducible apply XOp.p1); (case hg | hv => exact rfl)) | (with_reducible apply XL.nilT) | (with_reducible apply XC.seq) | (with_reducible apply XC.region (Γ := Γ)) | (with_reducible apply XQ.skip) | (with_reducible apply XQ.nt) | (with_reducible apply XC.block)))
  refine XC.loop (fun k ρ L => ∃ (i : Nat), i + k = xs.length ∧ L = [] ∧ (∀ j, j < i → xs[j]? = ys[j]?) ∧ Slots ρ [(0, .slice a xs.length ca), (1, .slice b ys.length cb), (5, .int .i64 i)])
    xs.length ⟨0, by simp, rfl, by simp, rfl, rfl, rfl, trivial⟩ ?_
  rintro k ρ L ⟨i, hik, rfl, hq, hs⟩
  have hlen : (xs.length : Int) = ys.length := by first | assumption | omega
  refine XC.slots _ hs ?_
  (repeat (first | (with_reducible apply XL.op) | ((with_reducible apply XOp.p1); (case hg | hv => exact rfl)) | (with_reducible apply XL.nilT) | (with_reducible apply XC.seq) | (with_reducible apply XC.region (Γ := Γ))))
  ((with_reducible apply XC.cond); (case hc => exact rfl); all_goals (intro hb_; try simp only [pd_true, pd_false, Bool.not_eq_true', Bool.not_eq_false', Bool.and_eq_true, Bool.and_eq_false_iff, Bool.or_eq_true, Bool.or_eq_false_iff, not_true_eq_false, not_false_eq_true, Int.not_lt, Int.not_le] at hb_))
  · obtain ⟨x, hi⟩ : ∃ x, xs[i]? = some x := ⟨_, List.getElem?_eq_getElem (by omega)⟩
    obtain ⟨y, hj⟩ : ∃ y, ys[i]? = some y := ⟨_, List.getElem?_eq_getElem (by omega)⟩
    have c0 : cellv (oldv w0 (keys [])) ⟨ablk a, aoff a + i * 2 + 0, none⟩ = some (.int .i64 x.1) := hA.rawAt hi 0 _ rfl
    have c1 : cellv (oldv w0 (keys [])) ⟨ablk a, aoff a + i * 2 + 1, none⟩ = some (.int .i64 x.2) := hA.rawAt hi 1 _ rfl
    have d0 : cellv (oldv w0 (keys [])) ⟨ablk b, aoff b + i * 2 + 0, none⟩ = some (.int .i64 y.1) := hB.rawAt hj 0 _ rfl
    have d1 : cellv (oldv w0 (keys [])) ⟨ablk b, aoff b + i * 2 + 1, none⟩ = some (.int .i64 y.2) := hB.rawAt hj 1 _ rfl
    have hAa := hA.at_
    have hBa := hB.at_
    (repeat (first | (with_reducible apply XC.seq) | (with_reducible apply XQ.skip) | (with_reducible apply XQ.nt) | (with_reducible apply XC.block)))
    ((with_reducible apply XC.regionD (Γ := Γ) mixed (.q 0 (.q 1 (.q 2 (.q 3 (.q 4 (.q 5 (.q 6 (.q 7 (.q 8 (.q 9 (.q 10 (.q 11 (.q 12 (.q 13 (.q 14 (.q 15 (.q 16 (.q 17 (.q 18 (.q 19 (.q 20 (.q 21 (.q 22 (.q 23 (.done))))))))))))))))))))))))) [] []); (case hc => kernel_rfl))
    (repeat' (first | (with_reducible apply XL.op) | ((with_reducible apply XOp.p1); (case hg | hv => exact rfl)) | (with_reducible apply XL.nilT) | (with_reducible apply XC.seq) | (with_reducible apply XC.region (Γ := Γ)) | (with_reducible apply XQ.skip) | (with_reducible apply XQ.ret) | (with_reducible apply XQ.nt) | (with_reducible apply XQ.nb) | (with_reducible apply XQ.rt) | (with_reducible apply XQ.rb) | ((with_reducible apply XP.p1); (case ho | hg | hv => exact rfl)) | ((with_reducible apply XP.p0); (case ho | hg => exact rfl)) | ((with_reducible apply XP.pr); (case ho => exact rfl); (case hg => exact rfl); (case hr => ((with_reducible apply PR.idxA); (case ht | hk | he | hx | hi => exact rfl); (case hr => first | assumption | omega); (case ha => first | assumption | exact SlA.at_ (by assumption))))) | (with_reducible apply XP.done) | ((with_reducible apply XC.condT); (case hc => exact rfl)) | (first | ((with_reducible apply XOp.load); (case hg | ht | hk | hx => exact rfl); (case hc => exact Known.of_old c0 (Mono.cell _ _))) | ((with_reducible apply XP.load); (case ho | hg | ht | hk | hx => exact rfl); (case hc => exact Known.of_old c0 (Mono.cell _ _)))) | (first | ((with_reducible apply XOp.load); (case hg | ht | hk | hx => exact rfl); (case hc => exact Known.of_old c1 (Mono.cell _ _))) | ((with_reducible apply XP.load); (case ho | hg | ht | hk | hx => exact rfl); (case hc => exact Known.of_old c1 (Mono.cell _ _)))) | (first | ((with_reducible apply XOp.load); (case hg | ht | hk | hx => exact rfl); (case hc => exact Known.of_old d0 (Mono.cell _ _))) | ((with_reducible apply XP.load); (case ho | hg | ht | hk | hx => exact rfl); (case hc => exact Known.of_old d0 (Mono.cell _ _)))) | (first | ((with_reducible apply XOp.load); (case hg | ht | hk | hx => exact rfl); (case hc => exact Known.of_old d1 (Mono.cell _ _))) | ((with_reducible apply XP.load); (case ho | hg | ht | hk | hx => exact rfl); (case hc => exact Known.of_old d1 (Mono.cell _ _)))) | ((with_reducible apply XP.split); (case ho | hg | hj | hd | hb => exact rfl); (fail_if_success (case hf => exact fun h => Bool.noConfusion h)); (fail_if_success (case ht => exact fun h => Bool.noConfusion h)); all_goals (intro hb_; try simp only [pd_true, pd_false, Bool.not_eq_true', Bool.not_eq_false', Bool.and_eq_true, Bool.and_eq_false_iff, Bool.or_eq_true, Bool.or_eq_false_iff, not_true_eq_false, not_false_eq_true, Int.not_lt, Int.not_le] at hb_)) | ((with_reducible apply XC.cond); (case hc => exact rfl); all_goals (intro hb_; try simp only [pd_true, pd_false, Bool.not_eq_true', Bool.not_eq_false', Bool.and_eq_true, Bool.and_eq_false_iff, Bool.or_eq_true, Bool.or_eq_false_iff, not_true_eq_false, not_false_eq_true, Int.not_lt, Int.not_le] at hb_))))
    iterate 2
      (((with_reducible apply XQ.retE); (case hr => exact .t rfl .nil))
       refine congrArg Value.bool (pdf (fun h => ?_)).symm
       have h2 : xs = ys := h
       rw [h2, hj] at hi
       obtain rfl := Option.some.inj hi
       exact hb_ rfl)
    refine ⟨k - 1, by omega, i + 1, by omega, rfl, fun j hj2 => ?_, rfl, rfl, intS (m := xs.length) (by omega) (by omega), trivial⟩
    by_cases h : j = i
    · subst h; rw [hi, hj]; congr 1; exact Prod.ext (by assumption) (by assumption)
    · exact hq j (by omega)
  · (repeat (first | (with_reducible apply XL.op) | ((with_reducible apply XOp.p1); (case hg | hv => exact rfl)) | (with_reducible apply XL.nilT) | (with_reducible apply XC.seq) | (with_reducible apply XC.region (Γ := Γ)) | (with_reducible apply XQ.ret) | (with_reducible apply XQ.exit) | (with_reducible apply XQ.nt) | (with_reducible apply XQ.et) | ((with_reducible apply XQ.eb); (case hb => exact rfl))))
    ((with_reducible apply XQ.retE); (case hr => exact .t rfl .nil))
    refine congrArg Value.bool (pdt (show xs = ys from List.ext_getElem? fun j => ?_)).symm
    by_cases h : j < i
    · exact hq j h
    · rw [List.getElem?_eq_none (by omega), List.getElem?_eq_none (by omega)]
set_option maxHeartbeats 4000000 in
theorem eqConfig_fn (c d : Cfg) : FC Tryd.prog 57 [.agg ⟨c.cells⟩, .agg ⟨d.cells⟩] [] (fun _ => True) (fun v L => v = .bool (pd (c = d)) ∧ L = []) := by
  refine FC.nil ?_
  refine FC.intro Tryd.func57 rfl (by kernel_rfl) 57 [.tmp 4] rfl rfl rfl ?_
  intro w0 _
  (repeat (first | (with_reducible apply XL.op) | (with_reducible apply XC.seq) | (with_reducible apply XC.region (Γ := Γ))))
  ((with_reducible apply XOp.box); (case hg | hx' => exact rfl); intro xb)
  (repeat ((with_reducible apply XL.op)))
  ((with_reducible apply XOp.box); (case hg | hx' => exact rfl); intro yb)
  (repeat' (first | (with_reducible apply XL.op) | ((with_reducible apply XOp.p1); (case hg | hv => exact rfl)) | ((with_reducible apply XOp.p0); (case hg => exact rfl)) | ((with_reducible apply XOp.load); (case hg | ht | hk | hx => exact rfl); (case hc => exact own_cell (i := 0) rfl rfl)) | ((with_reducible apply XOp.load); (case hg | ht | hk | hx => exact rfl); (case hc => exact own_cell (i := 1) rfl rfl)) | (with_reducible apply XL.nilT) | (with_reducible apply XC.seq) | (with_reducible apply XC.region (Γ := Γ)) | (with_reducible apply XQ.skip) | (with_reducible apply XQ.ret) | (with_reducible apply XQ.nt) | (with_reducible apply XQ.rt) | ((with_reducible apply XC.condT); (case hc => exact rfl)) | ((with_reducible apply XOp.split); (case hg | hj | hd | hb => exact rfl); (fail_if_success (case hf => exact fun h => Bool.noConfusion h)); (fail_if_success (case ht => exact fun h => Bool.noConfusion h)); all_goals (intro hb_; try simp only [pd_true, pd_false, Bool.not_eq_true', Bool.not_eq_false', Bool.and_eq_true, Bool.and_eq_false_iff, Bool.or_eq_true, Bool.or_eq_false_iff, not_true_eq_false, not_false_eq_true, Int.not_lt, Int.not_le] at hb_)) | ((with_reducible apply XC.cond); (case hc => exact rfl); all_goals (intro hb_; try simp only [pd_true, pd_false, Bool.not_eq_true', Bool.not_eq_false', Bool.and_eq_true, Bool.and_eq_false_iff, Bool.or_eq_true, Bool.or_eq_false_iff, not_true_eq_false, not_false_eq_true, Int.not_lt, Int.not_le] at hb_))))
  all_goals ((with_reducible apply XQ.retE); (case hr => exact .t rfl .nil))
  all_goals refine congrArg Value.bool ?_
  all_goals first
    | exact (pdf fun h => by rw [h] at hb_; exact hb_ rfl).symm
    | (refine pdc ⟨fun h => ?_, fun h => by rw [h]⟩
       cases c; cases d
       simp only [] at *
       simp only [Cfg.mk.injEq]
       refine ⟨?_, ?_, ?_, ?_, ?_, ?_, ?_, ?_⟩ <;> assumption)
theorem lay_eq (x y : LL) : x.lay = y.lay ↔ x.n1.1 = y.n1.1 ∧ x.n2.1 = y.n2.1 ∧ x.q.mat = y.q.mat ∧ x.k.mat = y.k.mat ∧ x.v.mat = y.v.mat ∧ x.o.mat = y.o.mat ∧ x.g.mat = y.g.mat ∧ x.u.mat = y.u.mat ∧ x.d.mat = y.d.mat ∧ x.by_ = y.by_ := by
  simp only [LL.lay, Lay.mk.injEq]
set_option maxHeartbeats 8000000 in
theorem eqLayer_fn (x y : LL) : FC Tryd.prog 60 [.agg ⟨x.cells⟩, .agg ⟨y.cells⟩] []
    (fun h => llAt h x ∧ llAt h y) (fun v L => v = .bool (pd (x.lay = y.lay)) ∧ L = []) := by
  refine FC.nil ?_
  refine FC.intro Tryd.func60 rfl (by kernel_rfl) 75 [.tmp 4] rfl rfl rfl ?_
  rintro w0 ⟨hA, hB⟩
  (repeat (first | (with_reducible apply XL.op) | (with_reducible apply XC.seq) | (with_reducible apply XC.region (Γ := Γ))))
  ((with_reducible apply XOp.box); (case hg | hx' => exact rfl); intro xb)
  (repeat ((with_reducible apply XL.op)))
  ((with_reducible apply XOp.box); (case hg | hx' => exact rfl); intro yb)
  (repeat' (first | (with_reducible apply XL.op) | ((with_reducible apply XOp.p1); (case hg | hv => exact rfl)) | ((with_reducible apply XOp.p0); (case hg => exact rfl)) | ((with_reducible apply XOp.load); (case hg | ht | hk | hx => exact rfl); (case hc => exact own_cell (i := 0) rfl rfl)) | ((with_reducible apply XOp.load); (case hg | ht | hk | hx => exact rfl); (case hc => exact own_cell (i := 1) rfl rfl)) | ((with_reducible apply XOp.loadO (i := 0)); (case hg | ht | hk | hx | hi | hc => exact rfl)) | ((with_reducible apply XOp.loadO (i := 1)); (case hg | ht | hk | hx | hi | hc => exact rfl)) | (with_reducible apply XL.nilT) | (with_reducible apply XC.seq) | (with_reducible apply XC.region (Γ := Γ)) | (with_reducible apply XQ.skip) | (with_reducible apply XQ.ret) | (with_reducible apply XQ.nt) | (with_reducible apply XQ.rt) | ((with_reducible apply XC.condT); (case hc => exact rfl)) | (((with_reducible apply XOp.callQ (hF := eqNarrow_fn _ _)); (case hg => exact rfl); (case hc => exact rfl); (case ha => exact rfl); try (case hA => exact Known.true)); (case hA => first | exact Known.and (Known.of_old hA.n1 (lv_mono _)) (Known.of_old hB.n1 (lv_mono _)) | exact Known.and (Known.of_old hA.n2 (lv_mono _)) (Known.of_old hB.n2 (lv_mono _))); rintro _ rfl) | (((with_reducible apply XOp.callQ (hF := eqMat_fn _ _)); (case hg => exact rfl); (case hc => exact rfl); (case ha => exact rfl); try (case hA => exact Known.true)); (case hA => first | exact Known.and (Known.of_old hA.q (lm_mono _)) (Known.of_old hB.q (lm_mono _)) | exact Known.and (Known.of_old hA.k (lm_mono _)) (Known.of_old hB.k (lm_mono _)) | exact Known.and (Known.of_old hA.v (lm_mono _)) (Known.of_old hB.v (lm_mono _)) | exact Known.and (Known.of_old hA.o (lm_mono _)) (Known.of_old hB.o (lm_mono _)) | exact Known.and (Known.of_old hA.g (lm_mono _)) (Known.of_old hB.g (lm_mono _)) | exact Known.and (Known.of_old hA.u (lm_mono _)) (Known.of_old hB.u (lm_mono _)) | exact Known.and (Known.of_old hA.d (lm_mono _)) (Known.of_old hB.d (lm_mono _))); rintro _ rfl) | ((with_reducible apply XOp.pr); (case hg => exact rfl); (case hr => exact PR.neqArr (xs := x.by_) (ys := y.by_) (by kernel_rfl) rfl rfl rfl rfl rfl ⟨rfl, rfl⟩ rfl rfl)) | ((with_reducible apply XOp.split); (case hg | hj | hd | hb => exact rfl); (fail_if_success (case hf => exact fun h => Bool.noConfusion h)); (fail_if_success (case ht => exact fun h => Bool.noConfusion h)); all_goals (intro hb_; try simp only [pd_true, pd_false, Bool.not_eq_true', Bool.not_eq_false', Bool.and_eq_true, Bool.and_eq_false_iff, Bool.or_eq_true, Bool.or_eq_false_iff, not_true_eq_false, not_false_eq_true, Int.not_lt, Int.not_le] at hb_)) | ((with_reducible apply XC.cond); (case hc => exact rfl); all_goals (intro hb_; try simp only [pd_true, pd_false, Bool.not_eq_true', Bool.not_eq_false', Bool.and_eq_true, Bool.and_eq_false_iff, Bool.or_eq_true, Bool.or_eq_false_iff, not_true_eq_false, not_false_eq_true, Int.not_lt, Int.not_le] at hb_))))
  all_goals ((with_reducible apply XQ.retE); (case hr => exact .t rfl .nil))
  all_goals refine congrArg Value.bool ?_
  all_goals rw [pdc (lay_eq x y)]
  all_goals first
    | exact (pdf fun h => by first | exact hb_ h.1 | exact hb_ h.2.1 | exact hb_ h.2.2.1 | exact hb_ h.2.2.2.1 | exact hb_ h.2.2.2.2.1 | exact hb_ h.2.2.2.2.2.1 | exact hb_ h.2.2.2.2.2.2.1 | exact hb_ h.2.2.2.2.2.2.2.1 | exact hb_ h.2.2.2.2.2.2.2.2.1 | exact hb_ h.2.2.2.2.2.2.2.2.2).symm
    | exact pdc ⟨fun h => ⟨by assumption, by assumption, by assumption, by assumption, by assumption, by assumption, by assumption, by assumption, h, by assumption⟩, fun h => h.2.2.2.2.2.2.2.2.1⟩
end Go.Proofs.YtppggaiahkecoaaDoorX
/- Are two weights the same? -/
namespace Go.Proofs.YtppggaiahkecoaaDoorX
open Go Go.SX

theorem w_eq (x y : LW) : x.w = y.w ↔ x.C = y.C ∧ x.E.mat = y.E.mat ∧ x.T.1 = y.T.1 ∧ x.Ls.1.map LL.lay = y.Ls.1.map LL.lay ∧ x.F.1 = y.F.1 ∧ x.H.mat = y.H.mat ∧ x.M.1.map LM.mat = y.M.1.map LM.mat := by
  simp only [LW.w, Wts.mk.injEq]
theorem map_len {α β γ : Type} {f : α → γ} {g : β → γ} {a : List α} {b : List β} (h : a.map f = b.map g) : a.length = b.length := by
  have := congrArg List.length h; simpa using this
theorem map_at {α β γ : Type} {f : α → γ} {g : β → γ} {a : List α} {b : List β} (h : a.map f = b.map g) {i : Nat} {x : α} {y : β} (hx : a[i]? = some x) (hy : b[i]? = some y) : f x = g y := by
  have := congrArg (·[i]?) h
  simpa [hx, hy] using this
theorem map_upto {α β γ : Type} {f : α → γ} {g : β → γ} {a : List α} {b : List β} {i : Nat} (hl : a.length = b.length) (hi : i = a.length) (h : ∀ j, j < i → a[j]?.map f = b[j]?.map g) : a.map f = b.map g := by
  refine List.ext_getElem? fun j => ?_
  rw [List.getElem?_map, List.getElem?_map]
  by_cases hj : j < i
  · exact h j hj
  · rw [List.getElem?_eq_none (by omega), List.getElem?_eq_none (by omega)]; rfl
set_option maxHeartbeats 16000000 in
theorem eqWeights_fn (x y : LW) : FC Tryd.prog 23 [.agg ⟨x.cells⟩, .agg ⟨y.cells⟩] []
    (fun h => lwAt h x ∧ lwAt h y) (fun v L => v = .bool (pd (x.w = y.w)) ∧ L = []) := by
  refine FC.nil ?_
  refine FC.intro Tryd.func23 rfl (by kernel_rfl) 101 [.tmp 4] rfl rfl rfl ?_
  rintro w0 ⟨hA, hB⟩
  have hbad : ∀ {p : Prop}, (x.w = y.w → p) → ¬ p → Value.bool false = Value.bool (pd (x.w = y.w)) := fun f hp => congrArg Value.bool (pdf fun h => hp (f h)).symm
  (repeat (first | (with_reducible apply XL.op) | (with_reducible apply XC.seq) | (with_reducible apply XC.region (Γ := Γ))))
  ((with_reducible apply XOp.box); (case hg | hx' => exact rfl); intro xb)
  (repeat ((with_reducible apply XL.op)))
  ((with_reducible apply XOp.box); (case hg | hx' => exact rfl); intro yb)
  (repeat' (first | (with_reducible apply XL.op) | ((with_reducible apply XOp.p1); (case hg | hv => exact rfl)) | ((with_reducible apply XOp.p0); (case hg => exact rfl)) | ((with_reducible apply XOp.load); (case hg | ht | hk | hx => exact rfl); (case hc => exact own_cell (i := 0) rfl rfl)) | ((with_reducible apply XOp.load); (case hg | ht | hk | hx => exact rfl); (case hc => exact own_cell (i := 1) rfl rfl)) | ((with_reducible apply XOp.loadO (i := 0)); (case hg | ht | hk | hx | hi | hc => exact rfl)) | ((with_reducible apply XOp.loadO (i := 1)); (case hg | ht | hk | hx | hi | hc => exact rfl)) | (with_reducible apply XL.nilT) | (with_reducible apply XC.seq) | (with_reducible apply XC.region (Γ := Γ)) | (with_reducible apply XQ.skip) | (with_reducible apply XQ.ret) | (with_reducible apply XQ.nt) | (with_reducible apply XQ.rt) | (with_reducible apply XC.block) | ((with_reducible apply XC.condT); (case hc => exact rfl)) | (((with_reducible apply XOp.callQ (hF := eqConfig_fn x.C y.C)); (case hg => exact rfl); (case hc => exact rfl); (case ha => exact rfl); try (case hA => exact Known.true)); rintro _ rfl) | (((with_reducible apply XOp.callQ (hF := eqTurns_fn x.T y.T)); (case hg => exact rfl); (case hc => exact rfl); (case ha => exact rfl); try (case hA => exact Known.true)); (case hA => exact Known.and (Known.of_old hA.t (Mono.sl _ _ _ _ _)) (Known.of_old hB.t (Mono.sl _ _ _ _ _))); rintro _ rfl) | (((with_reducible apply XOp.callQ (hF := eqMat_fn x.E y.E)); (case hg => exact rfl); (case hc => exact rfl); (case ha => exact rfl); try (case hA => exact Known.true)); (case hA => exact Known.and (Known.of_old hA.e (lm_mono _)) (Known.of_old hB.e (lm_mono _))); rintro _ rfl) | ((with_reducible apply XOp.split); (case hg | hj | hd | hb => exact rfl); (fail_if_success (case hf => exact fun h => Bool.noConfusion h)); (fail_if_success (case ht => exact fun h => Bool.noConfusion h)); all_goals (intro hb_; try simp only [pd_true, pd_false, Bool.not_eq_true', Bool.not_eq_false', Bool.and_eq_true, Bool.and_eq_false_iff, Bool.or_eq_true, Bool.or_eq_false_iff, not_true_eq_false, not_false_eq_true, Int.not_lt, Int.not_le] at hb_)) | ((with_reducible apply XC.cond); (case hc => exact rfl); all_goals (intro hb_; try simp only [pd_true, pd_false, Bool.not_eq_true', Bool.not_eq_false', Bool.and_eq_true, Bool.and_eq_false_iff, Bool.or_eq_true, Bool.or_eq_false_iff, not_true_eq_false, not_false_eq_true, Int.not_lt, Int.not_le] at hb_))))
  iterate 5
    (((with_reducible apply XQ.retE); (case hr => exact .t rfl .nil))
     first
     | exact hbad (fun h => ((w_eq x y).1 h).1) hb_
     | exact hbad (fun h => ((w_eq x y).1 h).2.1) hb_
     | exact hbad (fun h => ((w_eq x y).1 h).2.2.1) hb_
     | exact hbad (fun h => by have := map_len ((w_eq x y).1 h).2.2.2.1; show (_ : Int) = _; omega) hb_
     | exact hbad (fun h => by have := map_len ((w_eq x y).1 h).2.2.2.2.2.2; show (_ : Int) = _; omega) hb_)
  rename_i p1 p2 p3 p4 
  have hll : x.Ls.1.length = y.Ls.1.length := by omega
  have hml : x.M.1.length = y.M.1.length := by omega
  have hL := hA.l.locRaw
  have hLa := hL.at_
  have hLb := hL.bytes
  have hL' := hB.l.locRaw
  have hLa' := hL'.at_
  have hM := hA.m.locRaw
  have hMa := hM.at_
  have hMb := hM.bytes
  have hM' := hB.m.locRaw
  have hMa' := hM'.at_
  refine XC.loop (fun k ρ L => ∃ i : Nat, i + k = x.Ls.1.length ∧ L = [(yb, .cells ⟨y.cells⟩ 31 (0, 0)), (xb, .cells ⟨x.cells⟩ 31 (0, 0))] ∧ (∀ j, j < i → x.Ls.1[j]?.map LL.lay = y.Ls.1[j]?.map LL.lay) ∧ Slots ρ [(2, .pointer (some ⟨xb, 0, none⟩)), (3, .pointer (some ⟨yb, 0, none⟩)), (5, .int .i64 i)])
    x.Ls.1.length ⟨0, by simp, rfl, by simp, rfl, rfl, rfl, trivial⟩ ?_
  rintro k ρ L ⟨i, hik, rfl, hq, hs⟩
  refine XC.slots _ hs ?_
  (repeat (first | (with_reducible apply XL.op) | ((with_reducible apply XOp.p1); (case hg | hv => exact rfl)) | ((with_reducible apply XOp.load); (case hg | ht | hk | hx => exact rfl); (case hc => exact own_cell (i := 1) rfl rfl)) | (with_reducible apply XL.nilT) | (with_reducible apply XC.seq) | (with_reducible apply XC.region (Γ := Γ))))
  ((with_reducible apply XC.cond); (case hc => exact rfl); all_goals (intro hb_; try simp only [pd_true, pd_false, Bool.not_eq_true', Bool.not_eq_false', Bool.and_eq_true, Bool.and_eq_false_iff, Bool.or_eq_true, Bool.or_eq_false_iff, not_true_eq_false, not_false_eq_true, Int.not_lt, Int.not_le] at hb_))
  · obtain ⟨l, hi⟩ : ∃ l, x.Ls.1[i]? = some l := ⟨_, List.getElem?_eq_getElem (by omega)⟩
    obtain ⟨l', hi'⟩ : ∃ l, y.Ls.1[i]? = some l := ⟨_, List.getElem?_eq_getElem (by omega)⟩
    have hl := hA.l.locAt (List.mem_of_getElem? hi)
    have hl' := hB.l.locAt (List.mem_of_getElem? hi')
    (repeat (first | (with_reducible apply XC.seq) | (with_reducible apply XQ.skip) | (with_reducible apply XQ.nt) | (with_reducible apply XC.block)))
    ((with_reducible apply XC.regionD (Γ := Γ) mixed (.q 0 (.q 1 (.q 2 (.q 3 (.q 4 (.q 5 (.q 6 (.q 7 (.q 8 (.q 9 (.e 10 (.q 11 (.done))))))))))))) [] []); (case hc => kernel_rfl))
    (repeat' (first | (with_reducible apply XL.op) | ((with_reducible apply XOp.p1); (case hg | hv => exact rfl)) | (with_reducible apply XL.nilT) | (with_reducible apply XC.seq) | (with_reducible apply XC.region (Γ := Γ)) | (with_reducible apply XQ.skip) | (with_reducible apply XQ.ret) | (with_reducible apply XQ.nt) | (with_reducible apply XQ.nb) | (with_reducible apply XQ.rt) | (with_reducible apply XQ.rb) | ((with_reducible apply XP.p1); (case ho | hg | hv => exact rfl)) | ((with_reducible apply XP.load); (case ho | hg | ht | hk | hx => exact rfl); (case hc => exact own_cell (i := 0) rfl rfl)) | ((with_reducible apply XP.load); (case ho | hg | ht | hk | hx => exact rfl); (case hc => exact own_cell (i := 1) rfl rfl)) | ((with_reducible apply XP.pr); (case ho => exact rfl); (case hg => exact rfl); (case hr => ((with_reducible apply PR.idxA); (case ht | hk | he | hx | hi => exact rfl); (case hr => first | assumption | omega); (case ha => first | assumption | exact SlA.at_ (by assumption))))) | (with_reducible apply XP.done) | ((with_reducible apply XP.e); (first | ((with_reducible apply XE.d); (case ho => exact rfl); (case hd => exact rfl)) | ((with_reducible apply XE.e); (case ho => exact rfl)))) | ((with_reducible apply XP.keep); (case hk => first | ((repeat' (first | exact List.forall_mem_nil _ | (with_reducible refine List.forall_mem_cons.2 ⟨?_, ?_⟩) | exact List.mem_cons_self .. | (with_reducible apply List.mem_cons_of_mem) | (with_reducible apply List.mem_append_right))); done) | (intro x hx; first | exact sel_in hx | exact List.mem_cons_of_mem _ (sel_in hx) | exact List.mem_append_right _ (sel_in hx) | exact hx | exact List.mem_cons_of_mem _ hx | exact List.mem_append_right _ hx | ((repeat (first | exact sel_in hx | exact hx | (with_reducible apply List.mem_cons_of_mem) | (with_reducible apply List.mem_append_right))); done) | cases hx))) | (first | ((with_reducible apply XOp.loadN); (case hg | ht | hk | hx => exact rfl); (case hc => exact Known.of_old (hL.rawAt hi) (Mono.row _ _ _)); (case hl => exact rfl)) | ((with_reducible apply XP.loadN); (case ho | hg | ht | hk | hx => exact rfl); (case hc => exact Known.of_old (hL.rawAt hi) (Mono.row _ _ _)); (case hl => exact rfl))) | (first | ((with_reducible apply XOp.loadN); (case hg | ht | hk | hx => exact rfl); (case hc => exact Known.of_old (hL'.rawAt hi') (Mono.row _ _ _)); (case hl => exact rfl)) | ((with_reducible apply XP.loadN); (case ho | hg | ht | hk | hx => exact rfl); (case hc => exact Known.of_old (hL'.rawAt hi') (Mono.row _ _ _)); (case hl => exact rfl))) | (((with_reducible apply XOp.callQ (hF := eqLayer_fn l l')); (case hg => exact rfl); (case hc => exact rfl); (case ha => exact rfl); try (case hA => exact Known.true)); (case hA => exact Known.and (Known.of_old hl (ll_mono _)) (Known.of_old hl' (ll_mono _))); rintro _ rfl) | ((with_reducible apply XC.cond); (case hc => exact rfl); all_goals (intro hb_; try simp only [pd_true, pd_false, Bool.not_eq_true', Bool.not_eq_false', Bool.and_eq_true, Bool.and_eq_false_iff, Bool.or_eq_true, Bool.or_eq_false_iff, not_true_eq_false, not_false_eq_true, Int.not_lt, Int.not_le] at hb_))))
    · ((with_reducible apply XQ.retE); (case hr => exact .t rfl .nil))
      exact hbad (fun h => map_at ((w_eq x y).1 h).2.2.2.1 hi hi') hb_
    · refine ⟨k - 1, by omega, i + 1, by omega, rfl, fun j hj => ?_, rfl, rfl, intS (m := x.Ls.1.length) (by omega) (by omega), trivial⟩
      by_cases h : j = i
      · subst h; rw [hi, hi']; exact congrArg some (by assumption)
      · exact hq j (by omega)
  have hLs := map_upto (f := LL.lay) (g := LL.lay) hll (i := i) (by omega) hq
  (repeat (first | (with_reducible apply XL.op) | ((with_reducible apply XOp.p1); (case hg | hv => exact rfl)) | (with_reducible apply XL.nilT) | (with_reducible apply XC.seq) | (with_reducible apply XC.region (Γ := Γ)) | (with_reducible apply XQ.exit) | (with_reducible apply XQ.nt) | (with_reducible apply XQ.et) | (with_reducible apply XC.block) | ((with_reducible apply XQ.eb); (case hb => exact rfl))))
  refine XC.loop (fun k ρ L => ∃ i : Nat, i + k = x.M.1.length ∧ L = [(yb, .cells ⟨y.cells⟩ 31 (0, 0)), (xb, .cells ⟨x.cells⟩ 31 (0, 0))] ∧ (∀ j, j < i → x.M.1[j]?.map LM.mat = y.M.1[j]?.map LM.mat) ∧ Slots ρ [(2, .pointer (some ⟨xb, 0, none⟩)), (3, .pointer (some ⟨yb, 0, none⟩)), (7, .int .i64 i)])
    x.M.1.length ⟨0, by simp, rfl, by simp, rfl, rfl, rfl, trivial⟩ ?_
  clear hq hs
  rintro k ρ L ⟨i, hik, rfl, hq, hs⟩
  refine XC.slots _ hs ?_
  (repeat (first | (with_reducible apply XL.op) | ((with_reducible apply XOp.p1); (case hg | hv => exact rfl)) | ((with_reducible apply XOp.load); (case hg | ht | hk | hx => exact rfl); (case hc => exact own_cell (i := 1) rfl rfl)) | (with_reducible apply XL.nilT) | (with_reducible apply XC.seq) | (with_reducible apply XC.region (Γ := Γ))))
  ((with_reducible apply XC.cond); (case hc => exact rfl); all_goals (intro hb_; try simp only [pd_true, pd_false, Bool.not_eq_true', Bool.not_eq_false', Bool.and_eq_true, Bool.and_eq_false_iff, Bool.or_eq_true, Bool.or_eq_false_iff, not_true_eq_false, not_false_eq_true, Int.not_lt, Int.not_le] at hb_))
  · obtain ⟨l, hi⟩ : ∃ l, x.M.1[i]? = some l := ⟨_, List.getElem?_eq_getElem (by omega)⟩
    obtain ⟨l', hi'⟩ : ∃ l, y.M.1[i]? = some l := ⟨_, List.getElem?_eq_getElem (by omega)⟩
    have hl := hA.m.locAt (List.mem_of_getElem? hi)
    have hl' := hB.m.locAt (List.mem_of_getElem? hi')
    (repeat (first | (with_reducible apply XC.seq) | (with_reducible apply XQ.skip) | (with_reducible apply XQ.nt) | (with_reducible apply XC.block)))
    ((with_reducible apply XC.regionD (Γ := Γ) mixed (.q 0 (.q 1 (.q 2 (.q 3 (.q 4 (.q 5 (.q 6 (.q 7 (.q 8 (.q 9 (.e 10 (.q 11 (.done))))))))))))) [] []); (case hc => kernel_rfl))
    (repeat' (first | (with_reducible apply XL.op) | ((with_reducible apply XOp.p1); (case hg | hv => exact rfl)) | (with_reducible apply XL.nilT) | (with_reducible apply XC.seq) | (with_reducible apply XC.region (Γ := Γ)) | (with_reducible apply XQ.skip) | (with_reducible apply XQ.ret) | (with_reducible apply XQ.nt) | (with_reducible apply XQ.nb) | (with_reducible apply XQ.rt) | (with_reducible apply XQ.rb) | ((with_reducible apply XP.p1); (case ho | hg | hv => exact rfl)) | ((with_reducible apply XP.load); (case ho | hg | ht | hk | hx => exact rfl); (case hc => exact own_cell (i := 0) rfl rfl)) | ((with_reducible apply XP.load); (case ho | hg | ht | hk | hx => exact rfl); (case hc => exact own_cell (i := 1) rfl rfl)) | ((with_reducible apply XP.pr); (case ho => exact rfl); (case hg => exact rfl); (case hr => ((with_reducible apply PR.idxA); (case ht | hk | he | hx | hi => exact rfl); (case hr => first | assumption | omega); (case ha => first | assumption | exact SlA.at_ (by assumption))))) | (with_reducible apply XP.done) | ((with_reducible apply XP.e); (first | ((with_reducible apply XE.d); (case ho => exact rfl); (case hd => exact rfl)) | ((with_reducible apply XE.e); (case ho => exact rfl)))) | ((with_reducible apply XP.keep); (case hk => first | ((repeat' (first | exact List.forall_mem_nil _ | (with_reducible refine List.forall_mem_cons.2 ⟨?_, ?_⟩) | exact List.mem_cons_self .. | (with_reducible apply List.mem_cons_of_mem) | (with_reducible apply List.mem_append_right))); done) | (intro x hx; first | exact sel_in hx | exact List.mem_cons_of_mem _ (sel_in hx) | exact List.mem_append_right _ (sel_in hx) | exact hx | exact List.mem_cons_of_mem _ hx | exact List.mem_append_right _ hx | ((repeat (first | exact sel_in hx | exact hx | (with_reducible apply List.mem_cons_of_mem) | (with_reducible apply List.mem_append_right))); done) | cases hx))) | (first | ((with_reducible apply XOp.loadN); (case hg | ht | hk | hx => exact rfl); (case hc => exact Known.of_old (hM.rawAt hi) (Mono.row _ _ _)); (case hl => exact rfl)) | ((with_reducible apply XP.loadN); (case ho | hg | ht | hk | hx => exact rfl); (case hc => exact Known.of_old (hM.rawAt hi) (Mono.row _ _ _)); (case hl => exact rfl))) | (first | ((with_reducible apply XOp.loadN); (case hg | ht | hk | hx => exact rfl); (case hc => exact Known.of_old (hM'.rawAt hi') (Mono.row _ _ _)); (case hl => exact rfl)) | ((with_reducible apply XP.loadN); (case ho | hg | ht | hk | hx => exact rfl); (case hc => exact Known.of_old (hM'.rawAt hi') (Mono.row _ _ _)); (case hl => exact rfl))) | (((with_reducible apply XOp.callQ (hF := eqMat_fn l l')); (case hg => exact rfl); (case hc => exact rfl); (case ha => exact rfl); try (case hA => exact Known.true)); (case hA => exact Known.and (Known.of_old hl (lm_mono _)) (Known.of_old hl' (lm_mono _))); rintro _ rfl) | ((with_reducible apply XC.cond); (case hc => exact rfl); all_goals (intro hb_; try simp only [pd_true, pd_false, Bool.not_eq_true', Bool.not_eq_false', Bool.and_eq_true, Bool.and_eq_false_iff, Bool.or_eq_true, Bool.or_eq_false_iff, not_true_eq_false, not_false_eq_true, Int.not_lt, Int.not_le] at hb_))))
    · ((with_reducible apply XQ.retE); (case hr => exact .t rfl .nil))
      exact hbad (fun h => map_at ((w_eq x y).1 h).2.2.2.2.2.2 hi hi') hb_
    · refine ⟨k - 1, by omega, i + 1, by omega, rfl, fun j hj => ?_, rfl, rfl, intS (m := x.M.1.length) (by omega) (by omega), trivial⟩
      by_cases h : j = i
      · subst h; rw [hi, hi']; exact congrArg some (by assumption)
      · exact hq j (by omega)
  have hMs := map_upto (f := LM.mat) (g := LM.mat) hml (i := i) (by omega) hq
  (repeat' (first | (with_reducible apply XL.op) | ((with_reducible apply XOp.p1); (case hg | hv => exact rfl)) | ((with_reducible apply XOp.p0); (case hg => exact rfl)) | ((with_reducible apply XOp.load); (case hg | ht | hk | hx => exact rfl); (case hc => exact own_cell (i := 0) rfl rfl)) | ((with_reducible apply XOp.load); (case hg | ht | hk | hx => exact rfl); (case hc => exact own_cell (i := 1) rfl rfl)) | ((with_reducible apply XOp.loadO (i := 0)); (case hg | ht | hk | hx | hi | hc => exact rfl)) | ((with_reducible apply XOp.loadO (i := 1)); (case hg | ht | hk | hx | hi | hc => exact rfl)) | (with_reducible apply XL.nilT) | (with_reducible apply XC.seq) | (with_reducible apply XC.region (Γ := Γ)) | (with_reducible apply XQ.ret) | (with_reducible apply XQ.exit) | (with_reducible apply XQ.nt) | (with_reducible apply XQ.et) | ((with_reducible apply XQ.eb); (case hb => exact rfl)) | (((with_reducible apply XOp.callQ (hF := eqNarrow_fn x.F y.F)); (case hg => exact rfl); (case hc => exact rfl); (case ha => exact rfl); try (case hA => exact Known.true)); (case hA => exact Known.and (Known.of_old hA.f (lv_mono _)) (Known.of_old hB.f (lv_mono _))); rintro _ rfl) | (((with_reducible apply XOp.callQ (hF := eqMat_fn x.H y.H)); (case hg => exact rfl); (case hc => exact rfl); (case ha => exact rfl); try (case hA => exact Known.true)); (case hA => exact Known.and (Known.of_old hA.hd (lm_mono _)) (Known.of_old hB.hd (lm_mono _))); rintro _ rfl) | ((with_reducible apply XOp.split); (case hg | hj | hd | hb => exact rfl); (fail_if_success (case hf => exact fun h => Bool.noConfusion h)); (fail_if_success (case ht => exact fun h => Bool.noConfusion h)); all_goals (intro hb_; try simp only [pd_true, pd_false, Bool.not_eq_true', Bool.not_eq_false', Bool.and_eq_true, Bool.and_eq_false_iff, Bool.or_eq_true, Bool.or_eq_false_iff, not_true_eq_false, not_false_eq_true, Int.not_lt, Int.not_le] at hb_))))
  · ((with_reducible apply XQ.retE); (case hr => exact .t rfl .nil))
    exact congrArg Value.bool (pdc ⟨fun h => (w_eq x y).2 ⟨by assumption, by assumption, by assumption, hLs, by assumption, h, hMs⟩, fun h => ((w_eq x y).1 h).2.2.2.2.2.1⟩)
  · ((with_reducible apply XQ.retE); (case hr => exact .t rfl .nil))
    exact hbad (fun h => ((w_eq x y).1 h).2.2.2.2.1) hb_
end Go.Proofs.YtppggaiahkecoaaDoorX
/- What some blocks show of themselves; a layer whose lists have marks behind them. -/
namespace Go.Proofs.YtppggaiahkecoaaDoorX
open Go Go.SX

/-- Whoever sees the blocks F sees A. -/
def Held (F : HL) (A : HV → Prop) : Prop := ∀ h : HV, (∀ x ∈ F, h x.1 = some x.2) → A h
theorem Held.known {F : HL} {A : HV → Prop} (a : Held F A) {w0 : World} {K : List Nat} {L : HL} (s : ∀ x ∈ F, x ∈ L) : Known w0 K L A := fun h e => a h fun x hx => e.1 x (s x hx)
theorem Held.sub {F G : HL} {A : HV → Prop} (a : Held F A) (s : ∀ x ∈ F, x ∈ G) : Held G A := fun h hh => a h fun x hx => hh x (s x hx)
theorem Held.and {F : HL} {A B : HV → Prop} (a : Held F A) (b : Held F B) : Held F (fun h => A h ∧ B h) := fun h hh => ⟨a h hh, b h hh⟩
theorem Held.imp {F : HL} {A B : HV → Prop} (a : Held F A) (f : ∀ h, A h → B h) : Held F B := fun h hh => f h (a h hh)
theorem Held.frag {F : HL} {B : HV → Prop} (hb : B (fv F)) (m : Mono B) : Held F B := fun h hh => m _ _ (fun b o ho => by
  unfold fv at ho
  obtain ⟨x, hx, rfl⟩ := Option.map_eq_some_iff.1 ho
  have h1 := List.mem_of_find?_eq_some hx
  have h2 : x.1 = b := by simpa using List.find?_some hx
  rw [← h2]; exact hh x h1) hb
theorem Held.nil {A : HV → Prop} (h : ∀ h, A h) : Held [] A := fun x _ => h x
theorem Held.row {b : Nat} {cs : List Value} {t : Nat} {fz : Nat × Nat} {F : HL} (hm : (b, Obj.cells ⟨cs⟩ t fz) ∈ F) : Held F (fun h => rowv h b 0 cs) := fun h hh i v hv => by
  have h1 := hh _ hm
  simp only at h1
  simp [cellv, h1, hv]

/-- A list with 64 marks behind it, in a block of its own. -/
structure mkLv (h : HV) (x : LV) : Prop where
  at_ : lvAt h x
  marks : ∃ b, x.2 = (some ⟨b, 0, none⟩, x.1.length + 64) ∧ rowv h b 0 ((x.1 ++ mk64).map (.int .i8))
theorem mkLv_mono (x : LV) : Mono (fun h => mkLv h x) := fun _ _ s h => ⟨lv_mono _ _ _ s h.at_, by obtain ⟨b, h1, h2⟩ := h.marks; exact ⟨b, h1, rowv_mono s h2⟩⟩
theorem mk_lv {F : HL} {b : Nat} {l : List Int} {fz : Nat × Nat} {t : Nat} (hm : (b, Obj.cells ⟨(l ++ mk64).map (.int .i8)⟩ t fz) ∈ F) (hl : l.length * 1 ≤ 140737488355328) (hi : ∀ y ∈ l, inK .i8 y) :
    Held F (fun h => mkLv h (l, some ⟨b, 0, none⟩, l.length + 64)) := by
  refine (Held.row hm).imp fun h r => ⟨⟨Nat.le_add_right _ _, hl, (fun h => by cases h), fun _ => rfl, fun i y hy => ⟨[.int .i8 y], ⟨rfl, hi y (List.mem_of_getElem? hy)⟩, fun j v hj => ?_⟩⟩, b, rfl, r⟩
  have hj0 : j = 0 := by have := (List.getElem?_eq_some_iff.1 hj).1; simp at this; exact this
  subst hj0
  obtain rfl : Value.int .i8 y = v := by simpa using hj
  have hil := (List.getElem?_eq_some_iff.1 hy).1
  simp only [] at hil hy
  have := r i (.int .i8 y) (by rw [List.getElem?_map, List.getElem?_append_left hil, hy]; rfl)
  have e2 : aoff (some (⟨b, 0, none⟩ : Addr)) + i * (Kd.int .i8).sz + 0 = 0 + i := by show 0 + i * 1 + 0 = 0 + i; omega
  show cellv h ⟨b, aoff (some (⟨b, 0, none⟩ : Addr)) + i * (Kd.int .i8).sz + 0, none⟩ = _
  rw [e2]; exact this
structure wideL (h : HV) (l : LL) : Prop where
  n1 : mkLv h l.n1
  n2 : mkLv h l.n2
  q : mkLv h l.q.d
  k : mkLv h l.k.d
  v : mkLv h l.v.d
  o : mkLv h l.o.d
  g : mkLv h l.g.d
  u : mkLv h l.u.d
  d : mkLv h l.d.d
theorem wideL.at {h : HV} {l : LL} (p : wideL h l) : llAt h l := ⟨p.n1.at_, p.n2.at_, p.q.at_, p.k.at_, p.v.at_, p.o.at_, p.g.at_, p.u.at_, p.d.at_⟩
theorem markedL_fn (x : LV) : FC Tryd.prog 29 [slv x] [] (fun h => lvAt h x)
    (fun v L => ∃ b, v = .slice (some ⟨b, 0, none⟩) x.1.length (x.1.length + 64) ∧ L = [(b, .cells ⟨(x.1 ++ mk64).map (.int .i8)⟩ 39 (0, 0))]) := marked_fn x.1 x.2.1 x.2.2
/-- The same list, at another place. -/
abbrev mvd (x : LV) (b : Nat) : LV := (x.1, some ⟨b, 0, none⟩, x.1.length + 64)
set_option maxHeartbeats 16000000 in
theorem layer_fn (l : LL) : FC Tryd.prog 30 [.agg ⟨l.cells⟩] [] (fun h => llAt h l)
    (fun v L => ∃ l' : LL, v = .agg ⟨l'.cells⟩ ∧ l'.lay = l.lay ∧ Held L (fun h => wideL h l')) := by
  refine FC.sub2 ?_
  refine FC.intro Tryd.func30 rfl (by kernel_rfl) 54 [.cell 2 67] rfl rfl rfl ?_
  intro w0 hA
  (repeat (first | (with_reducible apply XL.op) | (with_reducible apply XC.seq) | (with_reducible apply XC.region (Γ := Γ))))
  ((with_reducible apply XOp.box); (case hg | hx' => exact rfl); intro yb)
  (repeat ((with_reducible apply XL.op)))
  ((with_reducible apply XOp.alloc); (case hg | ht | hx' => exact rfl); intro rb)
  (repeat (first | (with_reducible apply XL.op) | ((with_reducible apply XOp.p1); (case hg | hv => exact rfl)) | ((with_reducible apply XOp.load); (case hg | ht | hk | hx => exact rfl); (case hc => exact own_cell (i := 1) rfl rfl)) | (with_reducible apply XL.nilT) | (with_reducible apply XC.seq) | (with_reducible apply XC.region (Γ := Γ))))
  ((with_reducible apply XOp.call (hF := markedL_fn l.n1)); (case hg => exact rfl); (case hc => exact rfl); (case ha => exact rfl); (case hL => exact (List.nil_append _).symm); try (case hA => exact Known.true))
  case hA => exact Known.of_old hA.n1 (lv_mono _)
  rintro _ _ ⟨b1, rfl, rfl⟩
  (repeat (first | (with_reducible apply XL.op) | ((with_reducible apply XOp.p1); (case hg | hv => exact rfl)) | ((with_reducible apply XOp.load); (case hg | ht | hk | hx => exact rfl); (case hc => exact own_cell (i := 2) rfl rfl)) | ((with_reducible apply XOp.store (i := 2)); (case hg | ht | hk | hx | hv | h1 | hi | hs | ha => exact rfl)) | (with_reducible apply XL.nilT) | (with_reducible apply XC.seq) | (with_reducible apply XC.region (Γ := Γ))))
  ((with_reducible apply XOp.call (hF := markedL_fn l.n2)); (case hg => exact rfl); (case hc => exact rfl); (case ha => exact rfl); (case hL => exact (List.nil_append _).symm); try (case hA => exact Known.true))
  case hA => exact Known.of_old hA.n2 (lv_mono _)
  rintro _ _ ⟨b2, rfl, rfl⟩
  (repeat (first | (with_reducible apply XL.op) | ((with_reducible apply XOp.p1); (case hg | hv => exact rfl)) | ((with_reducible apply XOp.load); (case hg | ht | hk | hx => exact rfl); (case hc => exact own_cell (i := 3) rfl rfl)) | ((with_reducible apply XOp.store (i := 3)); (case hg | ht | hk | hx | hv | h1 | hi | hs | ha => exact rfl)) | (with_reducible apply XL.nilT) | (with_reducible apply XC.seq) | (with_reducible apply XC.region (Γ := Γ))))
  ((with_reducible apply XOp.call (hF := markedL_fn l.q.d)); (case hg => exact rfl); (case hc => exact rfl); (case ha => exact rfl); (case hL => exact (List.nil_append _).symm); try (case hA => exact Known.true))
  case hA => exact Known.of_old hA.q (lm_mono _)
  rintro _ _ ⟨b3, rfl, rfl⟩
  (repeat (first | (with_reducible apply XL.op) | ((with_reducible apply XOp.p1); (case hg | hv => exact rfl)) | ((with_reducible apply XOp.load); (case hg | ht | hk | hx => exact rfl); (case hc => exact own_cell (i := 4) rfl rfl)) | ((with_reducible apply XOp.store (i := 4)); (case hg | ht | hk | hx | hv | h1 | hi | hs | ha => exact rfl)) | (with_reducible apply XL.nilT) | (with_reducible apply XC.seq) | (with_reducible apply XC.region (Γ := Γ))))
  ((with_reducible apply XOp.call (hF := markedL_fn l.k.d)); (case hg => exact rfl); (case hc => exact rfl); (case ha => exact rfl); (case hL => exact (List.nil_append _).symm); try (case hA => exact Known.true))
  case hA => exact Known.of_old hA.k (lm_mono _)
  rintro _ _ ⟨b4, rfl, rfl⟩
  (repeat (first | (with_reducible apply XL.op) | ((with_reducible apply XOp.p1); (case hg | hv => exact rfl)) | ((with_reducible apply XOp.load); (case hg | ht | hk | hx => exact rfl); (case hc => exact own_cell (i := 5) rfl rfl)) | ((with_reducible apply XOp.store (i := 5)); (case hg | ht | hk | hx | hv | h1 | hi | hs | ha => exact rfl)) | (with_reducible apply XL.nilT) | (with_reducible apply XC.seq) | (with_reducible apply XC.region (Γ := Γ))))
  ((with_reducible apply XOp.call (hF := markedL_fn l.v.d)); (case hg => exact rfl); (case hc => exact rfl); (case ha => exact rfl); (case hL => exact (List.nil_append _).symm); try (case hA => exact Known.true))
  case hA => exact Known.of_old hA.v (lm_mono _)
  rintro _ _ ⟨b5, rfl, rfl⟩
  (repeat (first | (with_reducible apply XL.op) | ((with_reducible apply XOp.p1); (case hg | hv => exact rfl)) | ((with_reducible apply XOp.load); (case hg | ht | hk | hx => exact rfl); (case hc => exact own_cell (i := 6) rfl rfl)) | ((with_reducible apply XOp.store (i := 6)); (case hg | ht | hk | hx | hv | h1 | hi | hs | ha => exact rfl)) | (with_reducible apply XL.nilT) | (with_reducible apply XC.seq) | (with_reducible apply XC.region (Γ := Γ))))
  ((with_reducible apply XOp.call (hF := markedL_fn l.o.d)); (case hg => exact rfl); (case hc => exact rfl); (case ha => exact rfl); (case hL => exact (List.nil_append _).symm); try (case hA => exact Known.true))
  case hA => exact Known.of_old hA.o (lm_mono _)
  rintro _ _ ⟨b6, rfl, rfl⟩
  (repeat (first | (with_reducible apply XL.op) | ((with_reducible apply XOp.p1); (case hg | hv => exact rfl)) | ((with_reducible apply XOp.load); (case hg | ht | hk | hx => exact rfl); (case hc => exact own_cell (i := 7) rfl rfl)) | ((with_reducible apply XOp.store (i := 7)); (case hg | ht | hk | hx | hv | h1 | hi | hs | ha => exact rfl)) | (with_reducible apply XL.nilT) | (with_reducible apply XC.seq) | (with_reducible apply XC.region (Γ := Γ))))
  ((with_reducible apply XOp.call (hF := markedL_fn l.g.d)); (case hg => exact rfl); (case hc => exact rfl); (case ha => exact rfl); (case hL => exact (List.nil_append _).symm); try (case hA => exact Known.true))
  case hA => exact Known.of_old hA.g (lm_mono _)
  rintro _ _ ⟨b7, rfl, rfl⟩
  (repeat (first | (with_reducible apply XL.op) | ((with_reducible apply XOp.p1); (case hg | hv => exact rfl)) | ((with_reducible apply XOp.load); (case hg | ht | hk | hx => exact rfl); (case hc => exact own_cell (i := 8) rfl rfl)) | ((with_reducible apply XOp.store (i := 8)); (case hg | ht | hk | hx | hv | h1 | hi | hs | ha => exact rfl)) | (with_reducible apply XL.nilT) | (with_reducible apply XC.seq) | (with_reducible apply XC.region (Γ := Γ))))
  ((with_reducible apply XOp.call (hF := markedL_fn l.u.d)); (case hg => exact rfl); (case hc => exact rfl); (case ha => exact rfl); (case hL => exact (List.nil_append _).symm); try (case hA => exact Known.true))
  case hA => exact Known.of_old hA.u (lm_mono _)
  rintro _ _ ⟨b8, rfl, rfl⟩
  (repeat (first | (with_reducible apply XL.op) | ((with_reducible apply XOp.p1); (case hg | hv => exact rfl)) | ((with_reducible apply XOp.load); (case hg | ht | hk | hx => exact rfl); (case hc => exact own_cell (i := 9) rfl rfl)) | ((with_reducible apply XOp.store (i := 9)); (case hg | ht | hk | hx | hv | h1 | hi | hs | ha => exact rfl)) | (with_reducible apply XL.nilT) | (with_reducible apply XC.seq) | (with_reducible apply XC.region (Γ := Γ))))
  ((with_reducible apply XOp.call (hF := markedL_fn l.d.d)); (case hg => exact rfl); (case hc => exact rfl); (case ha => exact rfl); (case hL => exact (List.nil_append _).symm); try (case hA => exact Known.true))
  case hA => exact Known.of_old hA.d (lm_mono _)
  rintro _ _ ⟨b9, rfl, rfl⟩
  (repeat (first | (with_reducible apply XL.op) | ((with_reducible apply XOp.p1); (case hg | hv => exact rfl)) | ((with_reducible apply XOp.loadO (i := 10)); (case hg | ht | hk | hx | hi | hc => exact rfl)) | ((with_reducible apply XOp.store (i := 10)); (case hg | ht | hk | hx | hv | h1 | hi | hs | ha => exact rfl)) | ((with_reducible apply XOp.storeN (i := 9)); (case hg | ht | hx | hv' | hk | h1 | hi | hs | ha => exact rfl)) | (with_reducible apply XL.nilT) | (with_reducible apply XC.seq) | (with_reducible apply XC.region (Γ := Γ)) | (with_reducible apply XQ.ret)))
  ((with_reducible apply XQ.retE); (case hr => exact .row rfl (by kernel_rfl) (by kernel_rfl) (own_row (i := 9) (m := 30) rfl rfl) .nil))
  have hb : ∀ (x : LV), lvAt (oldv w0 (keys [])) x → x.1.length * 1 ≤ 140737488355328 ∧ ∀ y ∈ x.1, inK .i8 y := fun x hx => ⟨hx.bytes, hx.okAll⟩
  refine ⟨[(b9, Obj.cells ⟨(l.d.d.1 ++ mk64).map (.int .i8)⟩ 39 (0, 0)), (b8, Obj.cells ⟨(l.u.d.1 ++ mk64).map (.int .i8)⟩ 39 (0, 0)), (b7, Obj.cells ⟨(l.g.d.1 ++ mk64).map (.int .i8)⟩ 39 (0, 0)), (b6, Obj.cells ⟨(l.o.d.1 ++ mk64).map (.int .i8)⟩ 39 (0, 0)), (b5, Obj.cells ⟨(l.v.d.1 ++ mk64).map (.int .i8)⟩ 39 (0, 0)), (b4, Obj.cells ⟨(l.k.d.1 ++ mk64).map (.int .i8)⟩ 39 (0, 0)), (b3, Obj.cells ⟨(l.q.d.1 ++ mk64).map (.int .i8)⟩ 39 (0, 0)), (b2, Obj.cells ⟨(l.n2.1 ++ mk64).map (.int .i8)⟩ 39 (0, 0)), (b1, Obj.cells ⟨(l.n1.1 ++ mk64).map (.int .i8)⟩ 39 (0, 0))], .of ?_, ⟨mvd l.n1 b1, mvd l.n2 b2, ⟨l.q.r, l.q.c, mvd l.q.d b3⟩, ⟨l.k.r, l.k.c, mvd l.k.d b4⟩, ⟨l.v.r, l.v.c, mvd l.v.d b5⟩, ⟨l.o.r, l.o.c, mvd l.o.d b6⟩, ⟨l.g.r, l.g.c, mvd l.g.d b7⟩, ⟨l.u.r, l.u.c, mvd l.u.d b8⟩, ⟨l.d.r, l.d.c, mvd l.d.d b9⟩, l.b0, l.b1, l.b2, l.b3, l.b4, l.b5, l.b6⟩, rfl, rfl, ?_⟩
  · exact List.sublist_append_left [(b9, Obj.cells ⟨(l.d.d.1 ++ mk64).map (.int .i8)⟩ 39 (0, 0)), (b8, Obj.cells ⟨(l.u.d.1 ++ mk64).map (.int .i8)⟩ 39 (0, 0)), (b7, Obj.cells ⟨(l.g.d.1 ++ mk64).map (.int .i8)⟩ 39 (0, 0)), (b6, Obj.cells ⟨(l.o.d.1 ++ mk64).map (.int .i8)⟩ 39 (0, 0)), (b5, Obj.cells ⟨(l.v.d.1 ++ mk64).map (.int .i8)⟩ 39 (0, 0)), (b4, Obj.cells ⟨(l.k.d.1 ++ mk64).map (.int .i8)⟩ 39 (0, 0)), (b3, Obj.cells ⟨(l.q.d.1 ++ mk64).map (.int .i8)⟩ 39 (0, 0)), (b2, Obj.cells ⟨(l.n2.1 ++ mk64).map (.int .i8)⟩ 39 (0, 0)), (b1, Obj.cells ⟨(l.n1.1 ++ mk64).map (.int .i8)⟩ 39 (0, 0))] _
  · intro h hh
    exact ⟨mk_lv (F := [(b9, Obj.cells ⟨(l.d.d.1 ++ mk64).map (.int .i8)⟩ 39 (0, 0)), (b8, Obj.cells ⟨(l.u.d.1 ++ mk64).map (.int .i8)⟩ 39 (0, 0)), (b7, Obj.cells ⟨(l.g.d.1 ++ mk64).map (.int .i8)⟩ 39 (0, 0)), (b6, Obj.cells ⟨(l.o.d.1 ++ mk64).map (.int .i8)⟩ 39 (0, 0)), (b5, Obj.cells ⟨(l.v.d.1 ++ mk64).map (.int .i8)⟩ 39 (0, 0)), (b4, Obj.cells ⟨(l.k.d.1 ++ mk64).map (.int .i8)⟩ 39 (0, 0)), (b3, Obj.cells ⟨(l.q.d.1 ++ mk64).map (.int .i8)⟩ 39 (0, 0)), (b2, Obj.cells ⟨(l.n2.1 ++ mk64).map (.int .i8)⟩ 39 (0, 0)), (b1, Obj.cells ⟨(l.n1.1 ++ mk64).map (.int .i8)⟩ 39 (0, 0))]) (fz := (0, 0)) (t := 39) (by simp) (hb _ hA.n1).1 (hb _ hA.n1).2 h hh, mk_lv (F := [(b9, Obj.cells ⟨(l.d.d.1 ++ mk64).map (.int .i8)⟩ 39 (0, 0)), (b8, Obj.cells ⟨(l.u.d.1 ++ mk64).map (.int .i8)⟩ 39 (0, 0)), (b7, Obj.cells ⟨(l.g.d.1 ++ mk64).map (.int .i8)⟩ 39 (0, 0)), (b6, Obj.cells ⟨(l.o.d.1 ++ mk64).map (.int .i8)⟩ 39 (0, 0)), (b5, Obj.cells ⟨(l.v.d.1 ++ mk64).map (.int .i8)⟩ 39 (0, 0)), (b4, Obj.cells ⟨(l.k.d.1 ++ mk64).map (.int .i8)⟩ 39 (0, 0)), (b3, Obj.cells ⟨(l.q.d.1 ++ mk64).map (.int .i8)⟩ 39 (0, 0)), (b2, Obj.cells ⟨(l.n2.1 ++ mk64).map (.int .i8)⟩ 39 (0, 0)), (b1, Obj.cells ⟨(l.n1.1 ++ mk64).map (.int .i8)⟩ 39 (0, 0))]) (fz := (0, 0)) (t := 39) (by simp) (hb _ hA.n2).1 (hb _ hA.n2).2 h hh,
      mk_lv (F := [(b9, Obj.cells ⟨(l.d.d.1 ++ mk64).map (.int .i8)⟩ 39 (0, 0)), (b8, Obj.cells ⟨(l.u.d.1 ++ mk64).map (.int .i8)⟩ 39 (0, 0)), (b7, Obj.cells ⟨(l.g.d.1 ++ mk64).map (.int .i8)⟩ 39 (0, 0)), (b6, Obj.cells ⟨(l.o.d.1 ++ mk64).map (.int .i8)⟩ 39 (0, 0)), (b5, Obj.cells ⟨(l.v.d.1 ++ mk64).map (.int .i8)⟩ 39 (0, 0)), (b4, Obj.cells ⟨(l.k.d.1 ++ mk64).map (.int .i8)⟩ 39 (0, 0)), (b3, Obj.cells ⟨(l.q.d.1 ++ mk64).map (.int .i8)⟩ 39 (0, 0)), (b2, Obj.cells ⟨(l.n2.1 ++ mk64).map (.int .i8)⟩ 39 (0, 0)), (b1, Obj.cells ⟨(l.n1.1 ++ mk64).map (.int .i8)⟩ 39 (0, 0))]) (fz := (0, 0)) (t := 39) (by simp) (hb _ hA.q).1 (hb _ hA.q).2 h hh,
      mk_lv (F := [(b9, Obj.cells ⟨(l.d.d.1 ++ mk64).map (.int .i8)⟩ 39 (0, 0)), (b8, Obj.cells ⟨(l.u.d.1 ++ mk64).map (.int .i8)⟩ 39 (0, 0)), (b7, Obj.cells ⟨(l.g.d.1 ++ mk64).map (.int .i8)⟩ 39 (0, 0)), (b6, Obj.cells ⟨(l.o.d.1 ++ mk64).map (.int .i8)⟩ 39 (0, 0)), (b5, Obj.cells ⟨(l.v.d.1 ++ mk64).map (.int .i8)⟩ 39 (0, 0)), (b4, Obj.cells ⟨(l.k.d.1 ++ mk64).map (.int .i8)⟩ 39 (0, 0)), (b3, Obj.cells ⟨(l.q.d.1 ++ mk64).map (.int .i8)⟩ 39 (0, 0)), (b2, Obj.cells ⟨(l.n2.1 ++ mk64).map (.int .i8)⟩ 39 (0, 0)), (b1, Obj.cells ⟨(l.n1.1 ++ mk64).map (.int .i8)⟩ 39 (0, 0))]) (fz := (0, 0)) (t := 39) (by simp) (hb _ hA.k).1 (hb _ hA.k).2 h hh,
      mk_lv (F := [(b9, Obj.cells ⟨(l.d.d.1 ++ mk64).map (.int .i8)⟩ 39 (0, 0)), (b8, Obj.cells ⟨(l.u.d.1 ++ mk64).map (.int .i8)⟩ 39 (0, 0)), (b7, Obj.cells ⟨(l.g.d.1 ++ mk64).map (.int .i8)⟩ 39 (0, 0)), (b6, Obj.cells ⟨(l.o.d.1 ++ mk64).map (.int .i8)⟩ 39 (0, 0)), (b5, Obj.cells ⟨(l.v.d.1 ++ mk64).map (.int .i8)⟩ 39 (0, 0)), (b4, Obj.cells ⟨(l.k.d.1 ++ mk64).map (.int .i8)⟩ 39 (0, 0)), (b3, Obj.cells ⟨(l.q.d.1 ++ mk64).map (.int .i8)⟩ 39 (0, 0)), (b2, Obj.cells ⟨(l.n2.1 ++ mk64).map (.int .i8)⟩ 39 (0, 0)), (b1, Obj.cells ⟨(l.n1.1 ++ mk64).map (.int .i8)⟩ 39 (0, 0))]) (fz := (0, 0)) (t := 39) (by simp) (hb _ hA.v).1 (hb _ hA.v).2 h hh,
      mk_lv (F := [(b9, Obj.cells ⟨(l.d.d.1 ++ mk64).map (.int .i8)⟩ 39 (0, 0)), (b8, Obj.cells ⟨(l.u.d.1 ++ mk64).map (.int .i8)⟩ 39 (0, 0)), (b7, Obj.cells ⟨(l.g.d.1 ++ mk64).map (.int .i8)⟩ 39 (0, 0)), (b6, Obj.cells ⟨(l.o.d.1 ++ mk64).map (.int .i8)⟩ 39 (0, 0)), (b5, Obj.cells ⟨(l.v.d.1 ++ mk64).map (.int .i8)⟩ 39 (0, 0)), (b4, Obj.cells ⟨(l.k.d.1 ++ mk64).map (.int .i8)⟩ 39 (0, 0)), (b3, Obj.cells ⟨(l.q.d.1 ++ mk64).map (.int .i8)⟩ 39 (0, 0)), (b2, Obj.cells ⟨(l.n2.1 ++ mk64).map (.int .i8)⟩ 39 (0, 0)), (b1, Obj.cells ⟨(l.n1.1 ++ mk64).map (.int .i8)⟩ 39 (0, 0))]) (fz := (0, 0)) (t := 39) (by simp) (hb _ hA.o).1 (hb _ hA.o).2 h hh,
      mk_lv (F := [(b9, Obj.cells ⟨(l.d.d.1 ++ mk64).map (.int .i8)⟩ 39 (0, 0)), (b8, Obj.cells ⟨(l.u.d.1 ++ mk64).map (.int .i8)⟩ 39 (0, 0)), (b7, Obj.cells ⟨(l.g.d.1 ++ mk64).map (.int .i8)⟩ 39 (0, 0)), (b6, Obj.cells ⟨(l.o.d.1 ++ mk64).map (.int .i8)⟩ 39 (0, 0)), (b5, Obj.cells ⟨(l.v.d.1 ++ mk64).map (.int .i8)⟩ 39 (0, 0)), (b4, Obj.cells ⟨(l.k.d.1 ++ mk64).map (.int .i8)⟩ 39 (0, 0)), (b3, Obj.cells ⟨(l.q.d.1 ++ mk64).map (.int .i8)⟩ 39 (0, 0)), (b2, Obj.cells ⟨(l.n2.1 ++ mk64).map (.int .i8)⟩ 39 (0, 0)), (b1, Obj.cells ⟨(l.n1.1 ++ mk64).map (.int .i8)⟩ 39 (0, 0))]) (fz := (0, 0)) (t := 39) (by simp) (hb _ hA.g).1 (hb _ hA.g).2 h hh,
      mk_lv (F := [(b9, Obj.cells ⟨(l.d.d.1 ++ mk64).map (.int .i8)⟩ 39 (0, 0)), (b8, Obj.cells ⟨(l.u.d.1 ++ mk64).map (.int .i8)⟩ 39 (0, 0)), (b7, Obj.cells ⟨(l.g.d.1 ++ mk64).map (.int .i8)⟩ 39 (0, 0)), (b6, Obj.cells ⟨(l.o.d.1 ++ mk64).map (.int .i8)⟩ 39 (0, 0)), (b5, Obj.cells ⟨(l.v.d.1 ++ mk64).map (.int .i8)⟩ 39 (0, 0)), (b4, Obj.cells ⟨(l.k.d.1 ++ mk64).map (.int .i8)⟩ 39 (0, 0)), (b3, Obj.cells ⟨(l.q.d.1 ++ mk64).map (.int .i8)⟩ 39 (0, 0)), (b2, Obj.cells ⟨(l.n2.1 ++ mk64).map (.int .i8)⟩ 39 (0, 0)), (b1, Obj.cells ⟨(l.n1.1 ++ mk64).map (.int .i8)⟩ 39 (0, 0))]) (fz := (0, 0)) (t := 39) (by simp) (hb _ hA.u).1 (hb _ hA.u).2 h hh,
      mk_lv (F := [(b9, Obj.cells ⟨(l.d.d.1 ++ mk64).map (.int .i8)⟩ 39 (0, 0)), (b8, Obj.cells ⟨(l.u.d.1 ++ mk64).map (.int .i8)⟩ 39 (0, 0)), (b7, Obj.cells ⟨(l.g.d.1 ++ mk64).map (.int .i8)⟩ 39 (0, 0)), (b6, Obj.cells ⟨(l.o.d.1 ++ mk64).map (.int .i8)⟩ 39 (0, 0)), (b5, Obj.cells ⟨(l.v.d.1 ++ mk64).map (.int .i8)⟩ 39 (0, 0)), (b4, Obj.cells ⟨(l.k.d.1 ++ mk64).map (.int .i8)⟩ 39 (0, 0)), (b3, Obj.cells ⟨(l.q.d.1 ++ mk64).map (.int .i8)⟩ 39 (0, 0)), (b2, Obj.cells ⟨(l.n2.1 ++ mk64).map (.int .i8)⟩ 39 (0, 0)), (b1, Obj.cells ⟨(l.n1.1 ++ mk64).map (.int .i8)⟩ 39 (0, 0))]) (fz := (0, 0)) (t := 39) (by simp) (hb _ hA.d).1 (hb _ hA.d).2 h hh⟩
end Go.Proofs.YtppggaiahkecoaaDoorX
/- Weights of their own, each list with marks behind it. -/
namespace Go.Proofs.YtppggaiahkecoaaDoorX
open Go Go.SX

def zlv : LV := ([], none, 0)
def zmat : LM := ⟨0, 0, zlv⟩
def zeroM : List Value := zmat.cells
def zeroT : List Value := turnV (0, 0)
def zlay (v : LV) : LL := ⟨v, zlv, zmat, zmat, zmat, zmat, zmat, zmat, zmat, 0, 0, 0, 0, 0, 0, 0⟩
def zeroL : List Value := (zlay zlv).cells
def zeroW : List Value := (⟨⟨0, 0, 0, 0, 0, 0, 0, 0⟩, zmat, ([], none, 0), ([], none, 0), zlv, zmat, ([], none, 0)⟩ : LW).cells
/-- A layer behind the end: its first list is one mark. -/
def tailL (h : HV) (l : LL) : Prop := ∃ b, l = zlay ([-77], some ⟨b, 0, none⟩, 1) ∧ cellv h ⟨b, 0, none⟩ = some (.int .i8 (-77))
def tailM : LM := ⟨-77, 0, zlv⟩
def tk64 : List (Int × Int) := List.replicate 64 (-77, 0)
theorem tk64_len : tk64.length = 64 := List.length_replicate
def xcells (x : LW) (eb fb hb : Nat) : List Value := [.int .i64 x.C.Vocab, .int .i64 x.C.Width, .int .i64 x.C.Heads, .int .i64 x.C.KV, .int .i64 x.C.Layers, .int .i64 x.C.Hidden, .int .i64 x.C.Len, .int .i64 x.C.Medusa,
  .int .i64 x.E.r, .int .i64 x.E.c, slv (mvd x.E.d eb), sla x.T, sla x.Ls, slv (mvd x.F fb), .int .i64 x.H.r, .int .i64 x.H.c, slv (mvd x.H.d hb), sla x.M]
theorem flat_len {α : Type} (f : α → List Value) (k : Nat) (hk : ∀ x, (f x).length = k) : ∀ l : List α, (l.flatMap f).length = l.length * k
  | [] => by simp
  | x :: l => by rw [List.flatMap_cons, List.length_append, hk, flat_len f k hk l, List.length_cons, Nat.succ_mul]; omega
theorem lset_flat {α : Type} (f : α → List Value) (k : Nat) (hk : ∀ x, (f x).length = k) (l : List α) (old vs B : List Value) (ho : old.length = vs.length) (i : Nat) (hi : l.length = i) :
    lsetN (l.flatMap f ++ (old ++ B)) (0 + ((i : Nat) : Int).toNat * k) vs = some (l.flatMap f ++ (vs ++ B)) := by
  have h := lsetN_mid vs (l.flatMap f) old B ho
  rw [flat_len f k hk, hi] at h
  rw [show 0 + ((i : Nat) : Int).toNat * k = i * k by simp]; exact h
theorem zerosL_succ (zs : List Value) (k : Nat) : zerosL zs (k + 1) = zs ++ zerosL zs k := rfl
theorem set_flat {α : Type} (f : α → List Value) (k : Nat) (hk : ∀ x, (f x).length = k) (l : List α) (vs B : List Value) (i j : Nat) (hi : l.length = i) (hj : j < vs.length) (v : Value) :
    (0 + ((i : Nat) : Int).toNat * k + j < (l.flatMap f ++ (vs ++ B)).length) ∧ (l.flatMap f ++ (vs ++ B)).set (0 + ((i : Nat) : Int).toNat * k + j) v = l.flatMap f ++ (vs.set j v ++ B) := by
  have hl := flat_len f k hk l
  rw [hi] at hl
  have e : 0 + ((i : Nat) : Int).toNat * k + j = (l.flatMap f).length + j := by rw [hl]; simp
  rw [e]
  refine ⟨by simp only [List.length_append]; omega, ?_⟩
  rw [List.set_append_right _ _ (by omega), Nat.add_sub_cancel_left, List.set_append_left _ _ hj]
/-- What the blocks of such weights show, but for the list Final. -/
structure wideR (h : HV) (x : LW) : Prop where
  e : mkLv h x.E.d
  hd : mkLv h x.H.d
  t : ∃ b, x.T.2 = (some ⟨b, 0, none⟩, x.T.1.length + 64) ∧ rowv h b 0 ((x.T.1 ++ tk64).flatMap turnV)
  l : ∃ b tl, x.Ls.2 = (some ⟨b, 0, none⟩, x.Ls.1.length + 8) ∧ tl.length = 8 ∧ rowv h b 0 ((x.Ls.1 ++ tl).flatMap LL.cells) ∧ ∀ l ∈ tl, tailL h l
  ll : ∀ l ∈ x.Ls.1, wideL h l
  m : ∃ b, x.M.2 = (some ⟨b, 0, none⟩, x.M.1.length + 8) ∧ rowv h b 0 ((x.M.1 ++ List.replicate 8 tailM).flatMap LM.cells)
  mm : ∀ m ∈ x.M.1, mkLv h m.d
/-- Where the lists of such weights lie. -/
structure formW (x : LW) : Prop where
  t : ∃ b, x.T.2 = (some ⟨b, 0, none⟩, x.T.1.length + 64)
  l : ∃ b, x.Ls.2 = (some ⟨b, 0, none⟩, x.Ls.1.length + 8)
  m : ∃ b, x.M.2 = (some ⟨b, 0, none⟩, x.M.1.length + 8)
theorem take_map_len {α β : Type} {f g : α → β} {a b : List α} {i : Nat} (h : a.map f = (b.take i).map g) (hi : i ≤ b.length) : a.length = i := by
  have := congrArg List.length h
  simp only [List.length_map, List.length_take] at this; omega
set_option maxHeartbeats 16000000 in
set_option maxRecDepth 10000 in
theorem wide_fn (x : LW) : FC Tryd.prog 9 [.agg ⟨x.cells⟩] [] (fun h => lwAt h x)
    (fun v L => ∃ (x' : LW) (fb : Nat) (F : HL), v = .agg ⟨x'.cells⟩ ∧ x'.w = x.w ∧ x'.F = mvd x.F fb ∧ L = (fb, Obj.cells ⟨(x.F.1 ++ mk64).map (.int .i8)⟩ 39 (0, 0)) :: F ∧ formW x' ∧ Held F (fun h => wideR h x')) := by
  refine FC.sub2 ?_
  refine FC.intro Tryd.func9 rfl (by kernel_rfl) 143 [.cell 2 31] rfl rfl rfl ?_
  intro w0 hA
  (repeat (first | (with_reducible apply XL.op) | (with_reducible apply XC.seq) | (with_reducible apply XC.region (Γ := Γ))))
  ((with_reducible apply XOp.box); (case hg | hx' => exact rfl); intro wb)
  (repeat ((with_reducible apply XL.op)))
  ((with_reducible apply XOp.alloc); (case hg | ht | hx' => exact rfl); intro rb)
  (repeat (first | (with_reducible apply XL.op) | ((with_reducible apply XOp.loadO (i := 1)); (case hg | ht | hk | hx | hi | hc => exact rfl)) | (with_reducible apply XL.nilT) | (with_reducible apply XC.seq) | (with_reducible apply XC.region (Γ := Γ))))
  ((with_reducible apply XOp.alloc); (case hg | ht | hx' => exact rfl); intro xb)
  (repeat (first | (with_reducible apply XL.op) | ((with_reducible apply XOp.p1); (case hg | hv => exact rfl)) | ((with_reducible apply XOp.load); (case hg | ht | hk | hx => exact rfl); (case hc => exact own_cell (i := 2) rfl rfl)) | ((with_reducible apply XOp.storeN (i := 0)); (case hg | ht | hx | hv' | hk | h1 | hi | hs | ha => exact rfl)) | (with_reducible apply XL.nilT) | (with_reducible apply XC.seq) | (with_reducible apply XC.region (Γ := Γ))))
  ((with_reducible apply XOp.call (hF := markedL_fn x.E.d)); (case hg => exact rfl); (case hc => exact rfl); (case ha => exact rfl); (case hL => exact (List.nil_append _).symm); try (case hA => exact Known.true))
  case hA => exact Known.of_old hA.e (lm_mono _)
  rintro _ _ ⟨eb, rfl, rfl⟩
  (repeat (first | (with_reducible apply XL.op) | ((with_reducible apply XOp.p1); (case hg | hv => exact rfl)) | ((with_reducible apply XOp.load); (case hg | ht | hk | hx => exact rfl); (case hc => exact own_cell (i := 3) rfl rfl)) | ((with_reducible apply XOp.store (i := 1)); (case hg | ht | hk | hx | hv | h1 | hi | hs | ha => exact rfl)) | (with_reducible apply XL.nilT) | (with_reducible apply XC.seq) | (with_reducible apply XC.region (Γ := Γ))))
  ((with_reducible apply XOp.call (hF := markedL_fn x.F)); (case hg => exact rfl); (case hc => exact rfl); (case ha => exact rfl); (case hL => exact (List.nil_append _).symm); try (case hA => exact Known.true))
  case hA => exact Known.of_old hA.f (lv_mono _)
  rintro _ _ ⟨fb, rfl, rfl⟩
  (repeat (first | (with_reducible apply XL.op) | ((with_reducible apply XOp.p1); (case hg | hv => exact rfl)) | ((with_reducible apply XOp.load); (case hg | ht | hk | hx => exact rfl); (case hc => exact own_cell (i := 4) rfl rfl)) | ((with_reducible apply XOp.store (i := 2)); (case hg | ht | hk | hx | hv | h1 | hi | hs | ha => exact rfl)) | (with_reducible apply XL.nilT) | (with_reducible apply XC.seq) | (with_reducible apply XC.region (Γ := Γ))))
  ((with_reducible apply XOp.call (hF := markedL_fn x.H.d)); (case hg => exact rfl); (case hc => exact rfl); (case ha => exact rfl); (case hL => exact (List.nil_append _).symm); try (case hA => exact Known.true))
  case hA => exact Known.of_old hA.hd (lm_mono _)
  rintro _ _ ⟨hb, rfl, rfl⟩
  (repeat (first | (with_reducible apply XL.op) | ((with_reducible apply XOp.p1); (case hg | hv => exact rfl)) | ((with_reducible apply XOp.load); (case hg | ht | hk | hx => exact rfl); (case hc => exact own_cell (i := 5) rfl rfl)) | ((with_reducible apply XOp.store (i := 3)); (case hg | ht | hk | hx | hv | h1 | hi | hs | ha => exact rfl)) | (with_reducible apply XL.nilT) | (with_reducible apply XC.seq) | (with_reducible apply XC.region (Γ := Γ))))
  have hL := hA.l.locRaw
  have hLa := hL.at_
  have hLb := hL.bytes
  have hM := hA.m.locRaw
  have hMa := hM.at_
  have hMb := hM.bytes
  have hT := hA.t
  have hTa := hT.at_
  have hTb := hT.bytes
  ((with_reducible apply XOp.make (k := x.Ls.1.length + 8) (c := x.Ls.1.length + 8)); (case hg => exact rfl); (case ht => exact rfl); (case hk => exact rfl); (case he => exact rfl); (case hz => exact rfl); (case hzl => exact rfl); (case hx => (show Value.int _ _ = Value.int _ _; rw [wrap64_of (by omega) (by omega)]; rfl)); (case hy => (show Value.int _ _ = Value.int _ _; rw [wrap64_of (by omega) (by omega)]; rfl)); (case hkc => omega); (case hb => simp only []; omega); (case h63 => omega); intro lb)
  (repeat (first | (with_reducible apply XL.op) | ((with_reducible apply XOp.p1); (case hg | hv => exact rfl)) | ((with_reducible apply XOp.load); (case hg | ht | hk | hx => exact rfl); (case hc => exact own_cell (i := 6) rfl rfl)) | (with_reducible apply XL.nilT) | (with_reducible apply XC.seq) | (with_reducible apply XC.region (Γ := Γ))))
  ((with_reducible apply XOp.make (k := x.M.1.length + 8) (c := x.M.1.length + 8)); (case hg => exact rfl); (case ht => exact rfl); (case hk => exact rfl); (case he => exact rfl); (case hz => exact rfl); (case hzl => exact rfl); (case hx => (show Value.int _ _ = Value.int _ _; rw [wrap64_of (by omega) (by omega)]; rfl)); (case hy => (show Value.int _ _ = Value.int _ _; rw [wrap64_of (by omega) (by omega)]; rfl)); (case hkc => omega); (case hb => simp only []; omega); (case h63 => omega); intro mb)
  (repeat (first | (with_reducible apply XL.op) | ((with_reducible apply XOp.p1); (case hg | hv => exact rfl)) | ((with_reducible apply XOp.load); (case hg | ht | hk | hx => exact rfl); (case hc => exact own_cell (i := 7) rfl rfl)) | (with_reducible apply XL.nilT) | (with_reducible apply XC.seq) | (with_reducible apply XC.region (Γ := Γ))))
  ((with_reducible apply XOp.make (k := x.T.1.length + 64) (c := x.T.1.length + 64)); (case hg => exact rfl); (case ht => exact rfl); (case hk => exact rfl); (case he => exact rfl); (case hz => exact rfl); (case hzl => exact rfl); (case hx => (show Value.int _ _ = Value.int _ _; rw [wrap64_of (by omega) (by omega)]; rfl)); (case hy => (show Value.int _ _ = Value.int _ _; rw [wrap64_of (by omega) (by omega)]; rfl)); (case hkc => omega); (case hb => simp only []; omega); (case h63 => omega); intro tb)
  (repeat (first | (with_reducible apply XL.op) | ((with_reducible apply XOp.p1); (case hg | hv => exact rfl)) | (with_reducible apply XL.nilT) | (with_reducible apply XC.seq) | (with_reducible apply XC.region (Γ := Γ)) | (with_reducible apply XC.block)))
  refine XC.loopP (fun k ρ L => ∃ (i : Nat) (A B : List LL) (F : HL), i + k = x.Ls.1.length + 8 ∧ A.map LL.lay = (x.Ls.1.take i).map LL.lay ∧ B.length = i - x.Ls.1.length ∧ L = [(tb, Obj.cells ⟨zerosL zeroT (x.T.1.length + 64)⟩ 70 (0, 0)), (mb, Obj.cells ⟨zerosL zeroM (x.M.1.length + 8)⟩ 26 (0, 0)), (lb, Obj.cells ⟨(A ++ B).flatMap LL.cells ++ zerosL zeroL (x.Ls.1.length + 8 - i)⟩ 67 (0, 0)), (hb, Obj.cells ⟨(x.H.d.1 ++ mk64).map (.int .i8)⟩ 39 (0, 0)), (fb, Obj.cells ⟨(x.F.1 ++ mk64).map (.int .i8)⟩ 39 (0, 0)), (eb, Obj.cells ⟨(x.E.d.1 ++ mk64).map (.int .i8)⟩ 39 (0, 0)), (xb, Obj.cells ⟨xcells x eb fb hb⟩ 31 (0, 0)), (rb, Obj.cells ⟨zeroW⟩ 31 (0, 0)), (wb, Obj.cells ⟨x.cells⟩ 31 (0, 0))] ++ F ∧ Held F (fun h => ∀ l ∈ A, wideL h l) ∧ Held F (fun h => ∀ l ∈ B, tailL h l) ∧ Slots ρ [(1, .pointer (some ⟨wb, 0, none⟩)), (2, .pointer (some ⟨rb, 0, none⟩)), (3, .pointer (some ⟨xb, 0, none⟩)), (4, .slice (some ⟨lb, 0, none⟩) (x.Ls.1.length + 8) (x.Ls.1.length + 8)), (5, .slice (some ⟨mb, 0, none⟩) (x.M.1.length + 8) (x.M.1.length + 8)), (6, .slice (some ⟨tb, 0, none⟩) (x.T.1.length + 64) (x.T.1.length + 64)), (7, .int .i64 i)])
    (x.Ls.1.length + 8) ⟨0, [], [], [], by simp, by simp, by simp, by rfl, Held.nil (by simp), Held.nil (by simp), rfl, rfl, rfl, rfl, rfl, rfl, rfl, trivial⟩ ?_
  rintro k ρ L ⟨i, A, B, F, hik, hAl, hBl, rfl, hFA, hFB, hs⟩
  refine XC.slots _ hs ?_
  (repeat (first | (with_reducible apply XL.op) | ((with_reducible apply XOp.p1); (case hg | hv => exact rfl)) | (with_reducible apply XL.nilT) | (with_reducible apply XC.seq) | (with_reducible apply XC.region (Γ := Γ))))
  ((with_reducible apply XC.cond); (case hc => exact rfl); all_goals (intro hb_; try simp only [pd_true, pd_false, Bool.not_eq_true', Bool.not_eq_false', Bool.and_eq_true, Bool.and_eq_false_iff, Bool.or_eq_true, Bool.or_eq_false_iff, not_true_eq_false, not_false_eq_true, Int.not_lt, Int.not_le] at hb_))
  · obtain ⟨k, rfl⟩ : ∃ q, k = q + 1 := ⟨k - 1, by omega⟩
    have hAB : (A ++ B).length = i := by
      have h1 := congrArg List.length hAl
      simp only [List.length_map, List.length_take] at h1
      rw [List.length_append]; omega
    rw [show x.Ls.1.length + 8 - i = k + 1 by omega, zerosL_succ zeroL k]
    (repeat (first | (with_reducible apply XL.op) | ((with_reducible apply XOp.p1); (case hg | hv => exact rfl)) | (with_reducible apply XC.seq) | (with_reducible apply XC.region (Γ := Γ)) | (with_reducible apply XQ.skip) | (with_reducible apply XQ.nt) | (with_reducible apply XC.block)))
    ((with_reducible apply XOp.buildSlice); (case hg | ht | hk | he | hz | hzl | hf => exact rfl); intro nb)
    (repeat (first | (with_reducible apply XL.op) | ((with_reducible apply XOp.pr); (case hg => exact rfl); (case hr => ((with_reducible apply PR.idx); (case ht | hk | he | hx | hi => exact rfl); (case hr => first | assumption | omega)))) | ((with_reducible apply XOp.pr); (case hg => exact rfl); (case hr => ((with_reducible apply PR.build); (case ht | hk | hok | hz | hf => exact rfl))))))
    ((with_reducible apply XOp.storeN (i := 3) (cs' := ((A ++ B).flatMap LL.cells ++ ((zlay ([-77], some ⟨nb, 0, none⟩, 1)).cells ++ zerosL zeroL k)))); (case hg => exact rfl); (case ht => exact rfl); (case hx => exact rfl); (case hv' => exact rfl); (case hk => exact rfl); (case h1 => exact rfl); (case hi => exact rfl); (case hs => exact lset_flat LL.cells 30 (fun _ => rfl) (A ++ B) zeroL (zlay ([-77], some ⟨nb, 0, none⟩, 1)).cells _ rfl i hAB); (case ha => exact rfl))
    (repeat (first | (with_reducible apply XL.op) | ((with_reducible apply XOp.p1); (case hg | hv => exact rfl)) | ((with_reducible apply XOp.load); (case hg | ht | hk | hx => exact rfl); (case hc => exact own_cell (i := 9) rfl rfl)) | (with_reducible apply XL.nilT) | (with_reducible apply XC.seq) | (with_reducible apply XC.region (Γ := Γ))))
    ((with_reducible apply XC.cond); (case hc => exact rfl); all_goals (intro hb_; try simp only [pd_true, pd_false, Bool.not_eq_true', Bool.not_eq_false', Bool.and_eq_true, Bool.and_eq_false_iff, Bool.or_eq_true, Bool.or_eq_false_iff, not_true_eq_false, not_false_eq_true, Int.not_lt, Int.not_le] at hb_))
    · have hB0 : B = [] := List.eq_nil_of_length_eq_zero (by omega)
      subst hB0
      obtain ⟨l, hi⟩ : ∃ l, x.Ls.1[i]? = some l := ⟨_, List.getElem?_eq_getElem (by omega)⟩
      have hl := hA.l.locAt (List.mem_of_getElem? hi)
      (repeat (first | (with_reducible apply XL.op) | ((with_reducible apply XOp.p1); (case hg | hv => exact rfl)) | ((with_reducible apply XOp.load); (case hg | ht | hk | hx => exact rfl); (case hc => exact own_cell (i := 9) rfl rfl)) | ((with_reducible apply XOp.pr); (case hg => exact rfl); (case hr => ((with_reducible apply PR.idxA); (case ht | hk | he | hx | hi => exact rfl); (case hr => first | assumption | omega); (case ha => first | assumption | exact SlA.at_ (by assumption))))) | (with_reducible apply XC.region (Γ := Γ)) | (first | ((with_reducible apply XOp.loadN); (case hg | ht | hk | hx => exact rfl); (case hc => exact Known.of_old (hL.rawAt hi) (Mono.row _ _ _)); (case hl => exact rfl)) | ((with_reducible apply XP.loadN); (case ho | hg | ht | hk | hx => exact rfl); (case hc => exact Known.of_old (hL.rawAt hi) (Mono.row _ _ _)); (case hl => exact rfl)))))
      (refine (show XOp _ _ _ _ _ _ _ _ ((nb, Obj.cells ⟨[.int .i8 (-77)]⟩ 39 (0, 0)) :: [(tb, Obj.cells ⟨zerosL zeroT (x.T.1.length + 64)⟩ 70 (0, 0)), (mb, Obj.cells ⟨zerosL zeroM (x.M.1.length + 8)⟩ 26 (0, 0)), (lb, Obj.cells ⟨(A ++ []).flatMap LL.cells ++ ((zlay ([-77], some ⟨nb, 0, none⟩, 1)).cells ++ zerosL zeroL k)⟩ 67 (0, 0)), (hb, Obj.cells ⟨(x.H.d.1 ++ mk64).map (.int .i8)⟩ 39 (0, 0)), (fb, Obj.cells ⟨(x.F.1 ++ mk64).map (.int .i8)⟩ 39 (0, 0)), (eb, Obj.cells ⟨(x.E.d.1 ++ mk64).map (.int .i8)⟩ 39 (0, 0)), (xb, Obj.cells ⟨xcells x eb fb hb⟩ 31 (0, 0)), (rb, Obj.cells ⟨zeroW⟩ 31 (0, 0)), (wb, Obj.cells ⟨x.cells⟩ 31 (0, 0))] ++ F) from XOp.perm (L' :=  ((nb, Obj.cells ⟨[.int .i8 (-77)]⟩ 39 (0, 0)) :: [(tb, Obj.cells ⟨zerosL zeroT (x.T.1.length + 64)⟩ 70 (0, 0)), (mb, Obj.cells ⟨zerosL zeroM (x.M.1.length + 8)⟩ 26 (0, 0)), (lb, Obj.cells ⟨(A ++ []).flatMap LL.cells ++ ((zlay ([-77], some ⟨nb, 0, none⟩, 1)).cells ++ zerosL zeroL k)⟩ 67 (0, 0)), (hb, Obj.cells ⟨(x.H.d.1 ++ mk64).map (.int .i8)⟩ 39 (0, 0)), (fb, Obj.cells ⟨(x.F.1 ++ mk64).map (.int .i8)⟩ 39 (0, 0)), (eb, Obj.cells ⟨(x.E.d.1 ++ mk64).map (.int .i8)⟩ 39 (0, 0)), (xb, Obj.cells ⟨xcells x eb fb hb⟩ 31 (0, 0)), (rb, Obj.cells ⟨zeroW⟩ 31 (0, 0)), (wb, Obj.cells ⟨x.cells⟩ 31 (0, 0))] ++ F) ++ []) rfl ?_ (by (first | (with_reducible exact List.Perm.refl _) | refine perm_of_cnt fun p_ => ?_; simp only [List.countP_append, List.countP_cons, List.countP_nil]; omega))))
      ((with_reducible apply XOp.callD (R := (nb, Obj.cells ⟨[.int .i8 (-77)]⟩ 39 (0, 0)) :: [(tb, Obj.cells ⟨zerosL zeroT (x.T.1.length + 64)⟩ 70 (0, 0)), (mb, Obj.cells ⟨zerosL zeroM (x.M.1.length + 8)⟩ 26 (0, 0)), (lb, Obj.cells ⟨(A ++ []).flatMap LL.cells ++ ((zlay ([-77], some ⟨nb, 0, none⟩, 1)).cells ++ zerosL zeroL k)⟩ 67 (0, 0)), (hb, Obj.cells ⟨(x.H.d.1 ++ mk64).map (.int .i8)⟩ 39 (0, 0)), (fb, Obj.cells ⟨(x.F.1 ++ mk64).map (.int .i8)⟩ 39 (0, 0)), (eb, Obj.cells ⟨(x.E.d.1 ++ mk64).map (.int .i8)⟩ 39 (0, 0)), (xb, Obj.cells ⟨xcells x eb fb hb⟩ 31 (0, 0)), (rb, Obj.cells ⟨zeroW⟩ 31 (0, 0)), (wb, Obj.cells ⟨x.cells⟩ 31 (0, 0))] ++ F) (R' := [(tb, Obj.cells ⟨zerosL zeroT (x.T.1.length + 64)⟩ 70 (0, 0)), (mb, Obj.cells ⟨zerosL zeroM (x.M.1.length + 8)⟩ 26 (0, 0)), (lb, Obj.cells ⟨(A ++ []).flatMap LL.cells ++ ((zlay ([-77], some ⟨nb, 0, none⟩, 1)).cells ++ zerosL zeroL k)⟩ 67 (0, 0)), (hb, Obj.cells ⟨(x.H.d.1 ++ mk64).map (.int .i8)⟩ 39 (0, 0)), (fb, Obj.cells ⟨(x.F.1 ++ mk64).map (.int .i8)⟩ 39 (0, 0)), (eb, Obj.cells ⟨(x.E.d.1 ++ mk64).map (.int .i8)⟩ 39 (0, 0)), (xb, Obj.cells ⟨xcells x eb fb hb⟩ 31 (0, 0)), (rb, Obj.cells ⟨zeroW⟩ 31 (0, 0)), (wb, Obj.cells ⟨x.cells⟩ 31 (0, 0))] ++ F) (F := []) (hF := layer_fn l)); (case hg => exact rfl); (case hc => exact rfl); (case ha => exact rfl); (case hL => first | exact List.Perm.refl _ | (first | (with_reducible exact List.Perm.refl _) | refine perm_of_cnt fun p_ => ?_; simp only [List.countP_append, List.countP_cons, List.countP_nil]; omega)); (case hs => ((try simp only [List.append_eq, List.cons_append, List.nil_append, List.append_assoc]); repeat (first | exact List.Sublist.refl _ | exact List.nil_sublist _ | (with_reducible apply List.Sublist.cons_cons) | (with_reducible apply List.Sublist.cons) | exact List.sublist_append_right _ _))); try (case hA => exact Known.true))
      case hA => exact Known.of_old hl (ll_mono _)
      rintro _ G ⟨l', rfl, hlay, hG⟩
      (repeat (first | (with_reducible apply XL.op) | ((with_reducible apply XOp.pr); (case hg => exact rfl); (case hr => ((with_reducible apply PR.idx); (case ht | hk | he | hx | hi => exact rfl); (case hr => first | assumption | omega))))))
      ((with_reducible apply XOp.storeN (i := 2) (cs' := ((A ++ []).flatMap LL.cells ++ (l'.cells ++ zerosL zeroL k)))); (case hg => exact rfl); (case ht => exact rfl); (case hx => exact rfl); (case hv' => exact rfl); (case hk => exact rfl); (case h1 => exact rfl); (case hi => exact rfl); (case hs => exact lset_flat LL.cells 30 (fun _ => rfl) (A ++ []) (zlay ([-77], some ⟨nb, 0, none⟩, 1)).cells l'.cells _ rfl i hAB); (case ha => exact rfl))
      (repeat (first | (with_reducible apply XL.op) | ((with_reducible apply XOp.p1); (case hg | hv => exact rfl)) | (with_reducible apply XL.nilT) | (with_reducible apply XC.region (Γ := Γ)) | (with_reducible apply XL.nilQ) | (with_reducible apply XQ.nt) | (with_reducible apply XQ.nb)))
      have hcell : (A ++ []).flatMap LL.cells ++ (l'.cells ++ zerosL zeroL k) = ((A ++ [l']) ++ []).flatMap LL.cells ++ zerosL zeroL (x.Ls.1.length + 8 - (i + 1)) := by
        rw [show x.Ls.1.length + 8 - (i + 1) = k by omega]; simp
      refine ⟨k, by omega, _, .of (List.Sublist.refl _), i + 1, A ++ [l'], [], F ++ G, by omega, ?_, by simp; omega, by rw [← hcell]; rfl, ?_, Held.sub hFB (fun y hy => List.mem_append_left _ hy), rfl, rfl, rfl, rfl, rfl, rfl, intS2 (m := x.Ls.1.length + 8) (by omega) (by omega), trivial⟩
      · rw [List.map_append, hAl, take_snocD hi, List.map_append, List.map_singleton, List.map_singleton, hlay]
      · intro h hh z hz
        rcases List.mem_append.1 hz with h1 | h1
        · exact hFA h (fun y hy => hh y (List.mem_append_left _ hy)) z h1
        · rw [List.mem_singleton.1 h1]; exact hG h (fun y hy => hh y (List.mem_append_right _ hy))
    · (repeat (first | (with_reducible apply XL.op) | ((with_reducible apply XOp.p1); (case hg | hv => exact rfl)) | (with_reducible apply XL.nilT) | (with_reducible apply XC.region (Γ := Γ)) | (with_reducible apply XQ.skip) | (with_reducible apply XQ.nt) | (with_reducible apply XQ.nb)))
      have hcell : (A ++ B).flatMap LL.cells ++ ((zlay ([-77], some ⟨nb, 0, none⟩, 1)).cells ++ zerosL zeroL k) = (A ++ (B ++ [zlay ([-77], some ⟨nb, 0, none⟩, 1)])).flatMap LL.cells ++ zerosL zeroL (x.Ls.1.length + 8 - (i + 1)) := by
        rw [show x.Ls.1.length + 8 - (i + 1) = k by omega]; simp
      refine ⟨k, by omega, [(tb, Obj.cells ⟨zerosL zeroT (x.T.1.length + 64)⟩ 70 (0, 0)), (mb, Obj.cells ⟨zerosL zeroM (x.M.1.length + 8)⟩ 26 (0, 0)), (lb, Obj.cells ⟨(A ++ B).flatMap LL.cells ++ ((zlay ([-77], some ⟨nb, 0, none⟩, 1)).cells ++ zerosL zeroL k)⟩ 67 (0, 0)), (hb, Obj.cells ⟨(x.H.d.1 ++ mk64).map (.int .i8)⟩ 39 (0, 0)), (fb, Obj.cells ⟨(x.F.1 ++ mk64).map (.int .i8)⟩ 39 (0, 0)), (eb, Obj.cells ⟨(x.E.d.1 ++ mk64).map (.int .i8)⟩ 39 (0, 0)), (xb, Obj.cells ⟨xcells x eb fb hb⟩ 31 (0, 0)), (rb, Obj.cells ⟨zeroW⟩ 31 (0, 0)), (wb, Obj.cells ⟨x.cells⟩ 31 (0, 0))] ++ ((nb, Obj.cells ⟨[.int .i8 (-77)]⟩ 39 (0, 0)) :: F), Sub2.perm (show List.Perm ((nb, Obj.cells ⟨[.int .i8 (-77)]⟩ 39 (0, 0)) :: [(tb, Obj.cells ⟨zerosL zeroT (x.T.1.length + 64)⟩ 70 (0, 0)), (mb, Obj.cells ⟨zerosL zeroM (x.M.1.length + 8)⟩ 26 (0, 0)), (lb, Obj.cells ⟨(A ++ B).flatMap LL.cells ++ ((zlay ([-77], some ⟨nb, 0, none⟩, 1)).cells ++ zerosL zeroL k)⟩ 67 (0, 0)), (hb, Obj.cells ⟨(x.H.d.1 ++ mk64).map (.int .i8)⟩ 39 (0, 0)), (fb, Obj.cells ⟨(x.F.1 ++ mk64).map (.int .i8)⟩ 39 (0, 0)), (eb, Obj.cells ⟨(x.E.d.1 ++ mk64).map (.int .i8)⟩ 39 (0, 0)), (xb, Obj.cells ⟨xcells x eb fb hb⟩ 31 (0, 0)), (rb, Obj.cells ⟨zeroW⟩ 31 (0, 0)), (wb, Obj.cells ⟨x.cells⟩ 31 (0, 0))] ++ F) ([(tb, Obj.cells ⟨zerosL zeroT (x.T.1.length + 64)⟩ 70 (0, 0)), (mb, Obj.cells ⟨zerosL zeroM (x.M.1.length + 8)⟩ 26 (0, 0)), (lb, Obj.cells ⟨(A ++ B).flatMap LL.cells ++ ((zlay ([-77], some ⟨nb, 0, none⟩, 1)).cells ++ zerosL zeroL k)⟩ 67 (0, 0)), (hb, Obj.cells ⟨(x.H.d.1 ++ mk64).map (.int .i8)⟩ 39 (0, 0)), (fb, Obj.cells ⟨(x.F.1 ++ mk64).map (.int .i8)⟩ 39 (0, 0)), (eb, Obj.cells ⟨(x.E.d.1 ++ mk64).map (.int .i8)⟩ 39 (0, 0)), (xb, Obj.cells ⟨xcells x eb fb hb⟩ 31 (0, 0)), (rb, Obj.cells ⟨zeroW⟩ 31 (0, 0)), (wb, Obj.cells ⟨x.cells⟩ 31 (0, 0))] ++ ((nb, Obj.cells ⟨[.int .i8 (-77)]⟩ 39 (0, 0)) :: F)) by (first | (with_reducible exact List.Perm.refl _) | refine perm_of_cnt fun p_ => ?_; simp only [List.countP_append, List.countP_cons, List.countP_nil]; omega)), i + 1, A, B ++ [zlay ([-77], some ⟨nb, 0, none⟩, 1)], (nb, Obj.cells ⟨[.int .i8 (-77)]⟩ 39 (0, 0)) :: F, by omega, ?_, by simp; omega, by rw [← hcell], Held.sub hFA (fun y hy => List.mem_cons_of_mem _ hy), ?_, rfl, rfl, rfl, rfl, rfl, rfl, intS2 (m := x.Ls.1.length + 8) (by omega) (by omega), trivial⟩
      · rw [hAl, List.take_of_length_le (by omega), List.take_of_length_le (by omega)]
      · intro h hh z hz
        rcases List.mem_append.1 hz with h1 | h1
        · exact hFB h (fun y hy => hh y (List.mem_cons_of_mem _ hy)) z h1
        · rw [List.mem_singleton.1 h1]
          refine ⟨nb, rfl, ?_⟩
          have := Held.row (F := (nb, Obj.cells ⟨[.int .i8 (-77)]⟩ 39 (0, 0)) :: F) (List.mem_cons_self ..) h hh 0 (.int .i8 (-77)) rfl
          exact this
  obtain rfl : i = x.Ls.1.length + 8 := by omega
  rw [List.take_of_length_le (by omega)] at hAl
  have hAn : A.length = x.Ls.1.length := by have := congrArg List.length hAl; simpa using this
  have hB8 : B.length = 8 := by omega
  rw [Nat.sub_self, show zerosL zeroL 0 = [] from rfl, List.append_nil]
  clear hs hik
  (repeat (first | (with_reducible apply XL.op) | ((with_reducible apply XOp.p1); (case hg | hv => exact rfl)) | (with_reducible apply XL.nilT) | (with_reducible apply XC.seq) | (with_reducible apply XC.region (Γ := Γ)) | (with_reducible apply XQ.exit) | (with_reducible apply XQ.nt) | (with_reducible apply XQ.et) | (with_reducible apply XC.block) | ((with_reducible apply XQ.eb); (case hb => exact rfl))))
  refine XC.loopP (fun k ρ L => ∃ (i : Nat) (D : List LM) (G : HL), i + k = x.M.1.length + 8 ∧ D.map LM.mat = (x.M.1.take i).map LM.mat ∧ L = [(tb, Obj.cells ⟨zerosL zeroT (x.T.1.length + 64)⟩ 70 (0, 0)), (mb, Obj.cells ⟨(D ++ List.replicate (i - x.M.1.length) tailM).flatMap LM.cells ++ zerosL zeroM (x.M.1.length + 8 - i)⟩ 26 (0, 0)), (lb, Obj.cells ⟨(A ++ B).flatMap LL.cells⟩ 67 (0, 0)), (hb, Obj.cells ⟨(x.H.d.1 ++ mk64).map (.int .i8)⟩ 39 (0, 0)), (fb, Obj.cells ⟨(x.F.1 ++ mk64).map (.int .i8)⟩ 39 (0, 0)), (eb, Obj.cells ⟨(x.E.d.1 ++ mk64).map (.int .i8)⟩ 39 (0, 0)), (xb, Obj.cells ⟨xcells x eb fb hb⟩ 31 (0, 0)), (rb, Obj.cells ⟨zeroW⟩ 31 (0, 0)), (wb, Obj.cells ⟨x.cells⟩ 31 (0, 0))] ++ (F ++ G) ∧ Held G (fun h => ∀ m ∈ D, mkLv h m.d) ∧ Slots ρ [(1, .pointer (some ⟨wb, 0, none⟩)), (2, .pointer (some ⟨rb, 0, none⟩)), (3, .pointer (some ⟨xb, 0, none⟩)), (4, .slice (some ⟨lb, 0, none⟩) (x.Ls.1.length + 8) (x.Ls.1.length + 8)), (5, .slice (some ⟨mb, 0, none⟩) (x.M.1.length + 8) (x.M.1.length + 8)), (6, .slice (some ⟨tb, 0, none⟩) (x.T.1.length + 64) (x.T.1.length + 64)), (8, .int .i64 i)])
    (x.M.1.length + 8) ⟨0, [], [], by simp, by simp, by rw [List.append_nil, Nat.zero_sub]; rfl, Held.nil (by simp), rfl, rfl, rfl, rfl, rfl, rfl, rfl, trivial⟩ ?_
  rintro k ρ L ⟨i, D, G, hik, hDl, rfl, hGD, hs⟩
  refine XC.slots _ hs ?_
  (repeat (first | (with_reducible apply XL.op) | ((with_reducible apply XOp.p1); (case hg | hv => exact rfl)) | (with_reducible apply XL.nilT) | (with_reducible apply XC.seq) | (with_reducible apply XC.region (Γ := Γ))))
  ((with_reducible apply XC.cond); (case hc => exact rfl); all_goals (intro hb_; try simp only [pd_true, pd_false, Bool.not_eq_true', Bool.not_eq_false', Bool.and_eq_true, Bool.and_eq_false_iff, Bool.or_eq_true, Bool.or_eq_false_iff, not_true_eq_false, not_false_eq_true, Int.not_lt, Int.not_le] at hb_))
  · obtain ⟨k, rfl⟩ : ∃ q, k = q + 1 := ⟨k - 1, by omega⟩
    have hDn : (D ++ List.replicate (i - x.M.1.length) tailM).length = i := by
      have h1 := congrArg List.length hDl
      simp only [List.length_map, List.length_take] at h1
      rw [List.length_append, List.length_replicate]; omega
    rw [show x.M.1.length + 8 - i = k + 1 by omega, zerosL_succ zeroM k]
    (repeat (first | (with_reducible apply XL.op) | ((with_reducible apply XOp.p1); (case hg | hv => exact rfl)) | ((with_reducible apply XOp.pr); (case hg => exact rfl); (case hr => ((with_reducible apply PR.idx); (case ht | hk | he | hx | hi => exact rfl); (case hr => first | assumption | omega)))) | ((with_reducible apply XOp.pr); (case hg => exact rfl); (case hr => ((with_reducible apply PR.build); (case ht | hk | hok | hz | hf => exact rfl)))) | (with_reducible apply XC.seq) | (with_reducible apply XC.region (Γ := Γ)) | (with_reducible apply XQ.skip) | (with_reducible apply XQ.nt) | (with_reducible apply XC.block)))
    ((with_reducible apply XOp.storeN (i := 1) (cs' := ((D ++ List.replicate (i - x.M.1.length) tailM).flatMap LM.cells ++ (tailM.cells ++ zerosL zeroM k)))); (case hg => exact rfl); (case ht => exact rfl); (case hx => exact rfl); (case hv' => exact rfl); (case hk => exact rfl); (case h1 => exact rfl); (case hi => exact rfl); (case hs => exact lset_flat LM.cells 3 (fun _ => rfl) (D ++ List.replicate (i - x.M.1.length) tailM) zeroM tailM.cells _ rfl i hDn); (case ha => exact rfl))
    (repeat (first | (with_reducible apply XL.op) | ((with_reducible apply XOp.p1); (case hg | hv => exact rfl)) | ((with_reducible apply XOp.load); (case hg | ht | hk | hx => exact rfl); (case hc => exact own_cell (i := 8) rfl rfl)) | (with_reducible apply XL.nilT) | (with_reducible apply XC.seq) | (with_reducible apply XC.region (Γ := Γ))))
    ((with_reducible apply XC.cond); (case hc => exact rfl); all_goals (intro hb_; try simp only [pd_true, pd_false, Bool.not_eq_true', Bool.not_eq_false', Bool.and_eq_true, Bool.and_eq_false_iff, Bool.or_eq_true, Bool.or_eq_false_iff, not_true_eq_false, not_false_eq_true, Int.not_lt, Int.not_le] at hb_))
    · have h0 : i - x.M.1.length = 0 := by omega
      obtain ⟨m, hi⟩ : ∃ l, x.M.1[i]? = some l := ⟨_, List.getElem?_eq_getElem (by omega)⟩
      have hm := hA.m.locAt (List.mem_of_getElem? hi)
      have hc : cellv (oldv w0 (keys [])) ⟨ablk x.M.2.1, aoff x.M.2.1 + i * 3 + 2, none⟩ = some (slv m.d) := hM.rawAt hi 2 _ rfl
      (repeat (first | (with_reducible apply XL.op) | ((with_reducible apply XOp.p1); (case hg | hv => exact rfl)) | ((with_reducible apply XOp.load); (case hg | ht | hk | hx => exact rfl); (case hc => exact own_cell (i := 8) rfl rfl)) | ((with_reducible apply XOp.pr); (case hg => exact rfl); (case hr => ((with_reducible apply PR.idxA); (case ht | hk | he | hx | hi => exact rfl); (case hr => first | assumption | omega); (case ha => first | assumption | exact SlA.at_ (by assumption))))) | ((with_reducible apply XOp.pr); (case hg => exact rfl); (case hr => ((with_reducible apply PR.idx); (case ht | hk | he | hx | hi => exact rfl); (case hr => first | assumption | omega)))) | (with_reducible apply XC.seq) | (with_reducible apply XC.region (Γ := Γ)) | (first | ((with_reducible apply XOp.loadN); (case hg | ht | hk | hx => exact rfl); (case hc => exact Known.of_old (hM.rawAt hi) (Mono.row _ _ _)); (case hl => exact rfl)) | ((with_reducible apply XP.loadN); (case ho | hg | ht | hk | hx => exact rfl); (case hc => exact Known.of_old (hM.rawAt hi) (Mono.row _ _ _)); (case hl => exact rfl)))))
      ((with_reducible apply XOp.storeN (i := 1) (cs' := ((D ++ List.replicate (i - x.M.1.length) tailM).flatMap LM.cells ++ (m.cells ++ zerosL zeroM k)))); (case hg => exact rfl); (case ht => exact rfl); (case hx => exact rfl); (case hv' => exact rfl); (case hk => exact rfl); (case h1 => exact rfl); (case hi => exact rfl); (case hs => exact lset_flat LM.cells 3 (fun _ => rfl) (D ++ List.replicate (i - x.M.1.length) tailM) tailM.cells m.cells _ rfl i hDn); (case ha => exact rfl))
      (repeat (first | (with_reducible apply XL.op) | ((with_reducible apply XOp.p1); (case hg | hv => exact rfl)) | ((with_reducible apply XOp.load); (case hg | ht | hk | hx => exact rfl); (case hc => exact own_cell (i := 8) rfl rfl)) | ((with_reducible apply XOp.pr); (case hg => exact rfl); (case hr => ((with_reducible apply PR.idxA); (case ht | hk | he | hx | hi => exact rfl); (case hr => first | assumption | omega); (case ha => first | assumption | exact SlA.at_ (by assumption))))) | (with_reducible apply XL.nilT) | (with_reducible apply XC.region (Γ := Γ)) | (first | ((with_reducible apply XOp.load); (case hg | ht | hk | hx => exact rfl); (case hc => exact Known.of_old hc (Mono.cell _ _))) | ((with_reducible apply XP.load); (case ho | hg | ht | hk | hx => exact rfl); (case hc => exact Known.of_old hc (Mono.cell _ _))))))
      ((with_reducible apply XOp.call (hF := markedL_fn m.d)); (case hg => exact rfl); (case hc => exact rfl); (case ha => exact rfl); (case hL => exact (List.nil_append _).symm); try (case hA => exact Known.true))
      case hA => exact Known.of_old hm (lm_mono _)
      rintro _ _ ⟨qb, rfl, rfl⟩
      (repeat (first | (with_reducible apply XL.op) | ((with_reducible apply XOp.p1); (case hg | hv => exact rfl)) | ((with_reducible apply XOp.pr); (case hg => exact rfl); (case hr => ((with_reducible apply PR.idx); (case ht | hk | he | hx | hi => exact rfl); (case hr => first | assumption | omega))))))
      ((with_reducible apply XOp.storeE (i := 2) (cs' := ((D ++ List.replicate (i - x.M.1.length) tailM).flatMap LM.cells ++ ((⟨m.r, m.c, mvd m.d qb⟩ : LM).cells ++ zerosL zeroM k)))); (case hg => exact rfl); (case ht => exact rfl); (case hk => exact rfl); (case hx => exact rfl); (case hv' => exact rfl); (case h1 => exact rfl); (case hi => exact rfl); (case hs => exact set_flat LM.cells 3 (fun _ => rfl) (D ++ List.replicate (i - x.M.1.length) tailM) m.cells (zerosL zeroM k) i 2 hDn (by simp [LM.cells]) _); (case ha => exact rfl))
      (repeat (first | (with_reducible apply XL.op) | ((with_reducible apply XOp.p1); (case hg | hv => exact rfl)) | (with_reducible apply XL.nilT) | (with_reducible apply XC.region (Γ := Γ)) | (with_reducible apply XL.nilQ) | (with_reducible apply XQ.nt) | (with_reducible apply XQ.nb)))
      have hcell : (D ++ List.replicate (i - x.M.1.length) tailM).flatMap LM.cells ++ ((⟨m.r, m.c, mvd m.d qb⟩ : LM).cells ++ zerosL zeroM k) = ((D ++ [(⟨m.r, m.c, mvd m.d qb⟩ : LM)]) ++ List.replicate (i + 1 - x.M.1.length) tailM).flatMap LM.cells ++ zerosL zeroM (x.M.1.length + 8 - (i + 1)) := by
        rw [show x.M.1.length + 8 - (i + 1) = k by omega, h0, show i + 1 - x.M.1.length = 0 by omega]; simp
      refine ⟨k, by omega, [(tb, Obj.cells ⟨zerosL zeroT (x.T.1.length + 64)⟩ 70 (0, 0)), (mb, Obj.cells ⟨(D ++ List.replicate (i - x.M.1.length) tailM).flatMap LM.cells ++ ((⟨m.r, m.c, mvd m.d qb⟩ : LM).cells ++ zerosL zeroM k)⟩ 26 (0, 0)), (lb, Obj.cells ⟨(A ++ B).flatMap LL.cells⟩ 67 (0, 0)), (hb, Obj.cells ⟨(x.H.d.1 ++ mk64).map (.int .i8)⟩ 39 (0, 0)), (fb, Obj.cells ⟨(x.F.1 ++ mk64).map (.int .i8)⟩ 39 (0, 0)), (eb, Obj.cells ⟨(x.E.d.1 ++ mk64).map (.int .i8)⟩ 39 (0, 0)), (xb, Obj.cells ⟨xcells x eb fb hb⟩ 31 (0, 0)), (rb, Obj.cells ⟨zeroW⟩ 31 (0, 0)), (wb, Obj.cells ⟨x.cells⟩ 31 (0, 0))] ++ (F ++ ((qb, Obj.cells ⟨(m.d.1 ++ mk64).map (.int .i8)⟩ 39 (0, 0)) :: G)), Sub2.perm (show List.Perm ((qb, Obj.cells ⟨(m.d.1 ++ mk64).map (.int .i8)⟩ 39 (0, 0)) :: [(tb, Obj.cells ⟨zerosL zeroT (x.T.1.length + 64)⟩ 70 (0, 0)), (mb, Obj.cells ⟨(D ++ List.replicate (i - x.M.1.length) tailM).flatMap LM.cells ++ ((⟨m.r, m.c, mvd m.d qb⟩ : LM).cells ++ zerosL zeroM k)⟩ 26 (0, 0)), (lb, Obj.cells ⟨(A ++ B).flatMap LL.cells⟩ 67 (0, 0)), (hb, Obj.cells ⟨(x.H.d.1 ++ mk64).map (.int .i8)⟩ 39 (0, 0)), (fb, Obj.cells ⟨(x.F.1 ++ mk64).map (.int .i8)⟩ 39 (0, 0)), (eb, Obj.cells ⟨(x.E.d.1 ++ mk64).map (.int .i8)⟩ 39 (0, 0)), (xb, Obj.cells ⟨xcells x eb fb hb⟩ 31 (0, 0)), (rb, Obj.cells ⟨zeroW⟩ 31 (0, 0)), (wb, Obj.cells ⟨x.cells⟩ 31 (0, 0))] ++ (F ++ G)) ([(tb, Obj.cells ⟨zerosL zeroT (x.T.1.length + 64)⟩ 70 (0, 0)), (mb, Obj.cells ⟨(D ++ List.replicate (i - x.M.1.length) tailM).flatMap LM.cells ++ ((⟨m.r, m.c, mvd m.d qb⟩ : LM).cells ++ zerosL zeroM k)⟩ 26 (0, 0)), (lb, Obj.cells ⟨(A ++ B).flatMap LL.cells⟩ 67 (0, 0)), (hb, Obj.cells ⟨(x.H.d.1 ++ mk64).map (.int .i8)⟩ 39 (0, 0)), (fb, Obj.cells ⟨(x.F.1 ++ mk64).map (.int .i8)⟩ 39 (0, 0)), (eb, Obj.cells ⟨(x.E.d.1 ++ mk64).map (.int .i8)⟩ 39 (0, 0)), (xb, Obj.cells ⟨xcells x eb fb hb⟩ 31 (0, 0)), (rb, Obj.cells ⟨zeroW⟩ 31 (0, 0)), (wb, Obj.cells ⟨x.cells⟩ 31 (0, 0))] ++ (F ++ ((qb, Obj.cells ⟨(m.d.1 ++ mk64).map (.int .i8)⟩ 39 (0, 0)) :: G))) by (first | (with_reducible exact List.Perm.refl _) | refine perm_of_cnt fun p_ => ?_; simp only [List.countP_append, List.countP_cons, List.countP_nil]; omega)), i + 1, D ++ [⟨m.r, m.c, mvd m.d qb⟩], (qb, Obj.cells ⟨(m.d.1 ++ mk64).map (.int .i8)⟩ 39 (0, 0)) :: G, by omega, ?_, by rw [← hcell], ?_, rfl, rfl, rfl, rfl, rfl, rfl, intS2 (m := x.M.1.length + 8) (by omega) (by omega), trivial⟩
      · rw [List.map_append, hDl, take_snocD hi, List.map_append, List.map_singleton, List.map_singleton]; rfl
      · intro h hh z hz
        rcases List.mem_append.1 hz with h1 | h1
        · exact hGD h (fun y hy => hh y (List.mem_cons_of_mem _ hy)) z h1
        · rw [List.mem_singleton.1 h1]; exact mk_lv (F := (qb, Obj.cells ⟨(m.d.1 ++ mk64).map (.int .i8)⟩ 39 (0, 0)) :: G) (List.mem_cons_self ..) hm.bytes hm.okAll h hh
    · (repeat (first | (with_reducible apply XL.op) | ((with_reducible apply XOp.p1); (case hg | hv => exact rfl)) | (with_reducible apply XL.nilT) | (with_reducible apply XC.region (Γ := Γ)) | (with_reducible apply XQ.skip) | (with_reducible apply XQ.nt) | (with_reducible apply XQ.nb)))
      have hcell : (D ++ List.replicate (i - x.M.1.length) tailM).flatMap LM.cells ++ (tailM.cells ++ zerosL zeroM k) = (D ++ List.replicate (i + 1 - x.M.1.length) tailM).flatMap LM.cells ++ zerosL zeroM (x.M.1.length + 8 - (i + 1)) := by
        rw [show x.M.1.length + 8 - (i + 1) = k by omega, show i + 1 - x.M.1.length = (i - x.M.1.length) + 1 by omega, List.replicate_succ']; simp
      refine ⟨k, by omega, _, .of (List.Sublist.refl _), i + 1, D, G, by omega, ?_, by rw [← hcell]; rfl, hGD, rfl, rfl, rfl, rfl, rfl, rfl, intS2 (m := x.M.1.length + 8) (by omega) (by omega), trivial⟩
      rw [hDl, List.take_of_length_le (by omega), List.take_of_length_le (by omega)]
  obtain rfl : i = x.M.1.length + 8 := by omega
  rw [List.take_of_length_le (by omega)] at hDl
  have hDn : D.length = x.M.1.length := by have := congrArg List.length hDl; simpa using this
  rw [Nat.sub_self, show zerosL zeroM 0 = [] from rfl, List.append_nil, Nat.add_sub_cancel_left]
  clear hs hik
  (repeat (first | (with_reducible apply XL.op) | ((with_reducible apply XOp.p1); (case hg | hv => exact rfl)) | (with_reducible apply XL.nilT) | (with_reducible apply XC.seq) | (with_reducible apply XC.region (Γ := Γ)) | (with_reducible apply XQ.exit) | (with_reducible apply XQ.nt) | (with_reducible apply XQ.et) | (with_reducible apply XC.block) | ((with_reducible apply XQ.eb); (case hb => exact rfl))))
  refine XC.loopP (fun k ρ L => ∃ (i : Nat), i + k = x.T.1.length + 64 ∧ L = [(tb, Obj.cells ⟨((x.T.1 ++ tk64).take i).flatMap turnV ++ zerosL zeroT (x.T.1.length + 64 - i)⟩ 70 (0, 0)), (mb, Obj.cells ⟨(D ++ List.replicate 8 tailM).flatMap LM.cells⟩ 26 (0, 0)), (lb, Obj.cells ⟨(A ++ B).flatMap LL.cells⟩ 67 (0, 0)), (hb, Obj.cells ⟨(x.H.d.1 ++ mk64).map (.int .i8)⟩ 39 (0, 0)), (fb, Obj.cells ⟨(x.F.1 ++ mk64).map (.int .i8)⟩ 39 (0, 0)), (eb, Obj.cells ⟨(x.E.d.1 ++ mk64).map (.int .i8)⟩ 39 (0, 0)), (xb, Obj.cells ⟨xcells x eb fb hb⟩ 31 (0, 0)), (rb, Obj.cells ⟨zeroW⟩ 31 (0, 0)), (wb, Obj.cells ⟨x.cells⟩ 31 (0, 0))] ++ (F ++ G) ∧ Slots ρ [(1, .pointer (some ⟨wb, 0, none⟩)), (2, .pointer (some ⟨rb, 0, none⟩)), (3, .pointer (some ⟨xb, 0, none⟩)), (4, .slice (some ⟨lb, 0, none⟩) (x.Ls.1.length + 8) (x.Ls.1.length + 8)), (5, .slice (some ⟨mb, 0, none⟩) (x.M.1.length + 8) (x.M.1.length + 8)), (6, .slice (some ⟨tb, 0, none⟩) (x.T.1.length + 64) (x.T.1.length + 64)), (9, .int .i64 i)])
    (x.T.1.length + 64) ⟨0, by simp, by rfl, rfl, rfl, rfl, rfl, rfl, rfl, rfl, trivial⟩ ?_
  rintro k ρ L ⟨i, hik, rfl, hs⟩
  refine XC.slots _ hs ?_
  (repeat (first | (with_reducible apply XL.op) | ((with_reducible apply XOp.p1); (case hg | hv => exact rfl)) | (with_reducible apply XL.nilT) | (with_reducible apply XC.seq) | (with_reducible apply XC.region (Γ := Γ))))
  ((with_reducible apply XC.cond); (case hc => exact rfl); all_goals (intro hb_; try simp only [pd_true, pd_false, Bool.not_eq_true', Bool.not_eq_false', Bool.and_eq_true, Bool.and_eq_false_iff, Bool.or_eq_true, Bool.or_eq_false_iff, not_true_eq_false, not_false_eq_true, Int.not_lt, Int.not_le] at hb_))
  · obtain ⟨k, rfl⟩ : ∃ q, k = q + 1 := ⟨k - 1, by omega⟩
    have hTn : ((x.T.1 ++ tk64).take i).length = i := by rw [List.length_take, List.length_append, tk64_len]; omega
    rw [show x.T.1.length + 64 - i = k + 1 by omega, zerosL_succ zeroT k]
    (repeat (first | (with_reducible apply XL.op) | ((with_reducible apply XOp.p1); (case hg | hv => exact rfl)) | ((with_reducible apply XOp.pr); (case hg => exact rfl); (case hr => ((with_reducible apply PR.idx); (case ht | hk | he | hx | hi => exact rfl); (case hr => first | assumption | omega)))) | ((with_reducible apply XOp.pr); (case hg => exact rfl); (case hr => ((with_reducible apply PR.build); (case ht | hk | hok | hz | hf => exact rfl)))) | (with_reducible apply XC.seq) | (with_reducible apply XC.region (Γ := Γ)) | (with_reducible apply XQ.skip) | (with_reducible apply XQ.nt) | (with_reducible apply XC.block)))
    ((with_reducible apply XOp.storeN (i := 0) (cs' := (((x.T.1 ++ tk64).take i).flatMap turnV ++ (turnV (-77, 0) ++ zerosL zeroT k)))); (case hg => exact rfl); (case ht => exact rfl); (case hx => exact rfl); (case hv' => exact rfl); (case hk => exact rfl); (case h1 => exact rfl); (case hi => exact rfl); (case hs => exact lset_flat turnV 2 (fun _ => rfl) ((x.T.1 ++ tk64).take i) zeroT (turnV (-77, 0)) _ rfl i hTn); (case ha => exact rfl))
    (repeat (first | (with_reducible apply XL.op) | ((with_reducible apply XOp.p1); (case hg | hv => exact rfl)) | ((with_reducible apply XOp.load); (case hg | ht | hk | hx => exact rfl); (case hc => exact own_cell (i := 8) rfl rfl)) | (with_reducible apply XL.nilT) | (with_reducible apply XC.seq) | (with_reducible apply XC.region (Γ := Γ))))
    ((with_reducible apply XC.cond); (case hc => exact rfl); all_goals (intro hb_; try simp only [pd_true, pd_false, Bool.not_eq_true', Bool.not_eq_false', Bool.and_eq_true, Bool.and_eq_false_iff, Bool.or_eq_true, Bool.or_eq_false_iff, not_true_eq_false, not_false_eq_true, Int.not_lt, Int.not_le] at hb_))
    · obtain ⟨y, hi⟩ : ∃ l, x.T.1[i]? = some l := ⟨_, List.getElem?_eq_getElem (by omega)⟩
      (repeat (first | (with_reducible apply XL.op) | ((with_reducible apply XOp.p1); (case hg | hv => exact rfl)) | ((with_reducible apply XOp.load); (case hg | ht | hk | hx => exact rfl); (case hc => exact own_cell (i := 8) rfl rfl)) | ((with_reducible apply XOp.pr); (case hg => exact rfl); (case hr => ((with_reducible apply PR.idxA); (case ht | hk | he | hx | hi => exact rfl); (case hr => first | assumption | omega); (case ha => first | assumption | exact SlA.at_ (by assumption))))) | ((with_reducible apply XOp.pr); (case hg => exact rfl); (case hr => ((with_reducible apply PR.idx); (case ht | hk | he | hx | hi => exact rfl); (case hr => first | assumption | omega)))) | (with_reducible apply XC.region (Γ := Γ)) | (first | ((with_reducible apply XOp.loadN); (case hg | ht | hk | hx => exact rfl); (case hc => exact Known.of_old (hT.rawAt hi) (Mono.row _ _ _)); (case hl => exact rfl)) | ((with_reducible apply XP.loadN); (case ho | hg | ht | hk | hx => exact rfl); (case hc => exact Known.of_old (hT.rawAt hi) (Mono.row _ _ _)); (case hl => exact rfl)))))
      ((with_reducible apply XOp.storeN (i := 0) (cs' := (((x.T.1 ++ tk64).take i).flatMap turnV ++ (turnV y ++ zerosL zeroT k)))); (case hg => exact rfl); (case ht => exact rfl); (case hx => exact rfl); (case hv' => exact rfl); (case hk => exact rfl); (case h1 => exact rfl); (case hi => exact rfl); (case hs => exact lset_flat turnV 2 (fun _ => rfl) ((x.T.1 ++ tk64).take i) (turnV (-77, 0)) (turnV y) _ rfl i hTn); (case ha => exact rfl))
      (repeat (first | (with_reducible apply XL.op) | ((with_reducible apply XOp.p1); (case hg | hv => exact rfl)) | (with_reducible apply XL.nilT) | (with_reducible apply XC.region (Γ := Γ)) | (with_reducible apply XL.nilQ) | (with_reducible apply XQ.nt) | (with_reducible apply XQ.nb)))
      have hcell : ((x.T.1 ++ tk64).take i).flatMap turnV ++ (turnV y ++ zerosL zeroT k) = ((x.T.1 ++ tk64).take (i + 1)).flatMap turnV ++ zerosL zeroT (x.T.1.length + 64 - (i + 1)) := by
        rw [show x.T.1.length + 64 - (i + 1) = k by omega, take_snocD (x := y) (by rw [List.getElem?_append_left (by omega)]; exact hi)]; simp
      exact ⟨k, by omega, _, .of (List.Sublist.refl _), i + 1, by omega, by rw [← hcell]; rfl, rfl, rfl, rfl, rfl, rfl, rfl, intS2 (m := x.T.1.length + 64) (by omega) (by omega), trivial⟩
    · (repeat (first | (with_reducible apply XL.op) | ((with_reducible apply XOp.p1); (case hg | hv => exact rfl)) | (with_reducible apply XL.nilT) | (with_reducible apply XC.region (Γ := Γ)) | (with_reducible apply XQ.skip) | (with_reducible apply XQ.nt) | (with_reducible apply XQ.nb)))
      have hcell : ((x.T.1 ++ tk64).take i).flatMap turnV ++ (turnV (-77, 0) ++ zerosL zeroT k) = ((x.T.1 ++ tk64).take (i + 1)).flatMap turnV ++ zerosL zeroT (x.T.1.length + 64 - (i + 1)) := by
        rw [show x.T.1.length + 64 - (i + 1) = k by omega, take_snocD (x := ((-77 : Int), (0 : Int))) (by rw [List.getElem?_append_right (by omega), tk64, List.getElem?_replicate, if_pos (by omega)])]; simp
      exact ⟨k, by omega, _, .of (List.Sublist.refl _), i + 1, by omega, by rw [← hcell]; rfl, rfl, rfl, rfl, rfl, rfl, rfl, intS2 (m := x.T.1.length + 64) (by omega) (by omega), trivial⟩
  obtain rfl : i = x.T.1.length + 64 := by omega
  rw [Nat.sub_self, show zerosL zeroT 0 = [] from rfl, List.append_nil, List.take_of_length_le (by rw [List.length_append, tk64_len]; omega)]
  (repeat (first | (with_reducible apply XL.op) | ((with_reducible apply XOp.p1); (case hg | hv => exact rfl)) | ((with_reducible apply XOp.load); (case hg | ht | hk | hx => exact rfl); (case hc => exact own_cell (i := 8) rfl rfl)) | (with_reducible apply XC.seq) | (with_reducible apply XC.region (Γ := Γ)) | (with_reducible apply XQ.exit) | (with_reducible apply XQ.nt) | (with_reducible apply XQ.et) | ((with_reducible apply XQ.eb); (case hb => exact rfl))))
  (first | ((with_reducible apply XOp.pr); (case hg => exact rfl); (case hr => (with_reducible apply PR.sliceTo); (case ht => exact rfl); (case hk => exact rfl); (case he => exact rfl); (case hx => exact rfl); (case hh => exact rfl); (case hb => omega))) | ((with_reducible apply XP.pr); (case ho => exact rfl); (case hg => exact rfl); (case hr => (with_reducible apply PR.sliceTo); (case ht => exact rfl); (case hk => exact rfl); (case he => exact rfl); (case hx => exact rfl); (case hh => exact rfl); (case hb => omega))))
  (repeat (first | (with_reducible apply XL.op) | ((with_reducible apply XOp.p1); (case hg | hv => exact rfl)) | ((with_reducible apply XOp.load); (case hg | ht | hk | hx => exact rfl); (case hc => exact own_cell (i := 8) rfl rfl)) | ((with_reducible apply XOp.store (i := 6)); (case hg | ht | hk | hx | hv | h1 | hi | hs | ha => exact rfl)) | (with_reducible apply XL.nilT) | (with_reducible apply XC.seq) | (with_reducible apply XC.region (Γ := Γ))))
  (first | ((with_reducible apply XOp.pr); (case hg => exact rfl); (case hr => (with_reducible apply PR.sliceTo); (case ht => exact rfl); (case hk => exact rfl); (case he => exact rfl); (case hx => exact rfl); (case hh => exact rfl); (case hb => omega))) | ((with_reducible apply XP.pr); (case ho => exact rfl); (case hg => exact rfl); (case hr => (with_reducible apply PR.sliceTo); (case ht => exact rfl); (case hk => exact rfl); (case he => exact rfl); (case hx => exact rfl); (case hh => exact rfl); (case hb => omega))))
  (repeat (first | (with_reducible apply XL.op) | ((with_reducible apply XOp.p1); (case hg | hv => exact rfl)) | ((with_reducible apply XOp.load); (case hg | ht | hk | hx => exact rfl); (case hc => exact own_cell (i := 8) rfl rfl)) | ((with_reducible apply XOp.store (i := 6)); (case hg | ht | hk | hx | hv | h1 | hi | hs | ha => exact rfl)) | (with_reducible apply XL.nilT) | (with_reducible apply XC.seq) | (with_reducible apply XC.region (Γ := Γ))))
  (first | ((with_reducible apply XOp.pr); (case hg => exact rfl); (case hr => (with_reducible apply PR.sliceTo); (case ht => exact rfl); (case hk => exact rfl); (case he => exact rfl); (case hx => exact rfl); (case hh => exact rfl); (case hb => omega))) | ((with_reducible apply XP.pr); (case ho => exact rfl); (case hg => exact rfl); (case hr => (with_reducible apply PR.sliceTo); (case ht => exact rfl); (case hk => exact rfl); (case he => exact rfl); (case hx => exact rfl); (case hh => exact rfl); (case hb => omega))))
  (repeat (first | (with_reducible apply XL.op) | ((with_reducible apply XOp.p1); (case hg | hv => exact rfl)) | ((with_reducible apply XOp.loadO (i := 6)); (case hg | ht | hk | hx | hi | hc => exact rfl)) | ((with_reducible apply XOp.store (i := 6)); (case hg | ht | hk | hx | hv | h1 | hi | hs | ha => exact rfl)) | ((with_reducible apply XOp.storeN (i := 7)); (case hg | ht | hx | hv' | hk | h1 | hi | hs | ha => exact rfl)) | (with_reducible apply XL.nilT) | (with_reducible apply XC.seq) | (with_reducible apply XC.region (Γ := Γ)) | (with_reducible apply XQ.ret)))
  ((with_reducible apply XQ.retE); (case hr => exact .row rfl (by kernel_rfl) (by kernel_rfl) (own_row (i := 7) (m := 18) rfl rfl) .nil))
  refine ⟨(fb, Obj.cells ⟨(x.F.1 ++ mk64).map (.int .i8)⟩ 39 (0, 0)) :: (tb, Obj.cells ⟨(x.T.1 ++ tk64).flatMap turnV⟩ 70 (0, 0)) :: (mb, Obj.cells ⟨(D ++ List.replicate 8 tailM).flatMap LM.cells⟩ 26 (0, 0)) :: (lb, Obj.cells ⟨(A ++ B).flatMap LL.cells⟩ 67 (0, 0)) :: (hb, Obj.cells ⟨(x.H.d.1 ++ mk64).map (.int .i8)⟩ 39 (0, 0)) :: (eb, Obj.cells ⟨(x.E.d.1 ++ mk64).map (.int .i8)⟩ 39 (0, 0)) :: (F ++ G), ?_, ⟨x.C, ⟨x.E.r, x.E.c, mvd x.E.d eb⟩, (x.T.1, some ⟨tb, 0, none⟩, x.T.1.length + 64), (A, some ⟨lb, 0, none⟩, x.Ls.1.length + 8), mvd x.F fb, ⟨x.H.r, x.H.c, mvd x.H.d hb⟩, (D, some ⟨mb, 0, none⟩, x.M.1.length + 8)⟩, fb, (tb, Obj.cells ⟨(x.T.1 ++ tk64).flatMap turnV⟩ 70 (0, 0)) :: (mb, Obj.cells ⟨(D ++ List.replicate 8 tailM).flatMap LM.cells⟩ 26 (0, 0)) :: (lb, Obj.cells ⟨(A ++ B).flatMap LL.cells⟩ 67 (0, 0)) :: (hb, Obj.cells ⟨(x.H.d.1 ++ mk64).map (.int .i8)⟩ 39 (0, 0)) :: (eb, Obj.cells ⟨(x.E.d.1 ++ mk64).map (.int .i8)⟩ 39 (0, 0)) :: (F ++ G), ?_, ?_, rfl, rfl, ⟨⟨tb, rfl⟩, ⟨lb, by simp only [hAn]⟩, ⟨mb, by simp only [hDn]⟩⟩, ?_⟩
  · refine Sub2.trans (L2 := (tb, Obj.cells ⟨(x.T.1 ++ tk64).flatMap turnV⟩ 70 (0, 0)) :: (mb, Obj.cells ⟨(D ++ List.replicate 8 tailM).flatMap LM.cells⟩ 26 (0, 0)) :: (lb, Obj.cells ⟨(A ++ B).flatMap LL.cells⟩ 67 (0, 0)) :: (hb, Obj.cells ⟨(x.H.d.1 ++ mk64).map (.int .i8)⟩ 39 (0, 0)) :: (fb, Obj.cells ⟨(x.F.1 ++ mk64).map (.int .i8)⟩ 39 (0, 0)) :: (eb, Obj.cells ⟨(x.E.d.1 ++ mk64).map (.int .i8)⟩ 39 (0, 0)) :: (F ++ G)) (Sub2.perm (by (first | (with_reducible exact List.Perm.refl _) | refine perm_of_cnt fun p_ => ?_; simp only [List.countP_append, List.countP_cons, List.countP_nil]; omega))) (.of ?_)
    exact List.Sublist.cons_cons _ (List.Sublist.cons_cons _ (List.Sublist.cons_cons _ (List.Sublist.cons_cons _ (List.Sublist.cons_cons _ (List.Sublist.cons_cons _ (List.Sublist.cons _ (List.Sublist.cons _ (List.Sublist.cons _ (List.Sublist.refl _)))))))))
  · simp only [LW.cells, sla, hAn, hDn]; rfl
  · simp only [LW.w, hAl, hDl]; rfl
  · intro h hh
    have s1 : ∀ y ∈ F, y ∈ (tb, Obj.cells ⟨(x.T.1 ++ tk64).flatMap turnV⟩ 70 (0, 0)) :: (mb, Obj.cells ⟨(D ++ List.replicate 8 tailM).flatMap LM.cells⟩ 26 (0, 0)) :: (lb, Obj.cells ⟨(A ++ B).flatMap LL.cells⟩ 67 (0, 0)) :: (hb, Obj.cells ⟨(x.H.d.1 ++ mk64).map (.int .i8)⟩ 39 (0, 0)) :: (eb, Obj.cells ⟨(x.E.d.1 ++ mk64).map (.int .i8)⟩ 39 (0, 0)) :: (F ++ G) := fun y hy => by simp [hy]
    have s2 : ∀ y ∈ G, y ∈ (tb, Obj.cells ⟨(x.T.1 ++ tk64).flatMap turnV⟩ 70 (0, 0)) :: (mb, Obj.cells ⟨(D ++ List.replicate 8 tailM).flatMap LM.cells⟩ 26 (0, 0)) :: (lb, Obj.cells ⟨(A ++ B).flatMap LL.cells⟩ 67 (0, 0)) :: (hb, Obj.cells ⟨(x.H.d.1 ++ mk64).map (.int .i8)⟩ 39 (0, 0)) :: (eb, Obj.cells ⟨(x.E.d.1 ++ mk64).map (.int .i8)⟩ 39 (0, 0)) :: (F ++ G) := fun y hy => by simp [hy]
    exact ⟨mk_lv (F := (tb, Obj.cells ⟨(x.T.1 ++ tk64).flatMap turnV⟩ 70 (0, 0)) :: (mb, Obj.cells ⟨(D ++ List.replicate 8 tailM).flatMap LM.cells⟩ 26 (0, 0)) :: (lb, Obj.cells ⟨(A ++ B).flatMap LL.cells⟩ 67 (0, 0)) :: (hb, Obj.cells ⟨(x.H.d.1 ++ mk64).map (.int .i8)⟩ 39 (0, 0)) :: (eb, Obj.cells ⟨(x.E.d.1 ++ mk64).map (.int .i8)⟩ 39 (0, 0)) :: (F ++ G)) (fz := (0, 0)) (t := 39) (by simp) hA.e.bytes hA.e.okAll h hh, mk_lv (F := (tb, Obj.cells ⟨(x.T.1 ++ tk64).flatMap turnV⟩ 70 (0, 0)) :: (mb, Obj.cells ⟨(D ++ List.replicate 8 tailM).flatMap LM.cells⟩ 26 (0, 0)) :: (lb, Obj.cells ⟨(A ++ B).flatMap LL.cells⟩ 67 (0, 0)) :: (hb, Obj.cells ⟨(x.H.d.1 ++ mk64).map (.int .i8)⟩ 39 (0, 0)) :: (eb, Obj.cells ⟨(x.E.d.1 ++ mk64).map (.int .i8)⟩ 39 (0, 0)) :: (F ++ G)) (fz := (0, 0)) (t := 39) (by simp) hA.hd.bytes hA.hd.okAll h hh,
      ⟨tb, rfl, Held.row (F := (tb, Obj.cells ⟨(x.T.1 ++ tk64).flatMap turnV⟩ 70 (0, 0)) :: (mb, Obj.cells ⟨(D ++ List.replicate 8 tailM).flatMap LM.cells⟩ 26 (0, 0)) :: (lb, Obj.cells ⟨(A ++ B).flatMap LL.cells⟩ 67 (0, 0)) :: (hb, Obj.cells ⟨(x.H.d.1 ++ mk64).map (.int .i8)⟩ 39 (0, 0)) :: (eb, Obj.cells ⟨(x.E.d.1 ++ mk64).map (.int .i8)⟩ 39 (0, 0)) :: (F ++ G)) (t := 70) (fz := (0, 0)) (by simp) h hh⟩,
      ⟨lb, B, by simp only [hAn], hB8, Held.row (F := (tb, Obj.cells ⟨(x.T.1 ++ tk64).flatMap turnV⟩ 70 (0, 0)) :: (mb, Obj.cells ⟨(D ++ List.replicate 8 tailM).flatMap LM.cells⟩ 26 (0, 0)) :: (lb, Obj.cells ⟨(A ++ B).flatMap LL.cells⟩ 67 (0, 0)) :: (hb, Obj.cells ⟨(x.H.d.1 ++ mk64).map (.int .i8)⟩ 39 (0, 0)) :: (eb, Obj.cells ⟨(x.E.d.1 ++ mk64).map (.int .i8)⟩ 39 (0, 0)) :: (F ++ G)) (t := 67) (fz := (0, 0)) (by simp) h hh, fun l hl => (hFB.sub s1) h hh l hl⟩, fun l hl => (hFA.sub s1) h hh l hl,
      ⟨mb, by simp only [hDn], Held.row (F := (tb, Obj.cells ⟨(x.T.1 ++ tk64).flatMap turnV⟩ 70 (0, 0)) :: (mb, Obj.cells ⟨(D ++ List.replicate 8 tailM).flatMap LM.cells⟩ 26 (0, 0)) :: (lb, Obj.cells ⟨(A ++ B).flatMap LL.cells⟩ 67 (0, 0)) :: (hb, Obj.cells ⟨(x.H.d.1 ++ mk64).map (.int .i8)⟩ 39 (0, 0)) :: (eb, Obj.cells ⟨(x.E.d.1 ++ mk64).map (.int .i8)⟩ 39 (0, 0)) :: (F ++ G)) (t := 26) (fz := (0, 0)) (by simp) h hh⟩, fun m hm => (hGD.sub s2) h hh m hm⟩
end Go.Proofs.YtppggaiahkecoaaDoorX
