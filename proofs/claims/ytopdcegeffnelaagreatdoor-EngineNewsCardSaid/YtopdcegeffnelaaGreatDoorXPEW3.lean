/- Which vocabularies may be: the reference's. -/
import Derived.Test.YtopdcegeffnelaaGreatDoorXPEW2
import Derived.Test.YtopdcegeffnelaaGreatDoorXPEW1
set_option linter.unusedSimpArgs false
set_option linter.unusedVariables false
namespace Go.Proofs.YtopdcegeffnelaaGreatDoorX
open Go Go.SX

set_option maxHeartbeats 4000000 in
theorem twiceByte_fn (x : LVo) (t : Nat) (y : Int) (hy : x.B.1[t]? = some y) : FC Tryz.prog 122 [.agg ⟨x.cells⟩, .int .i64 t] [] (fun h => voAt h x) (fun v L => v = .bool (pd (y ∈ x.B.1.take t)) ∧ L = []) := by
  refine FC.nil ?_
  obtain ⟨⟨B, ab, cb⟩, ⟨Ps, ap, cp⟩⟩ := x
  change B[t]? = some y at hy
  have ht := (List.getElem?_eq_some_iff.1 hy).1
  refine FC.intro Tryz.func122 rfl (by kernel_rfl) 22 [.tmp 4] rfl rfl rfl ?_
  rintro w0 ⟨hB, _, hbs, _⟩
  change SlA (Kd.int .u8) 1 _ B ab cb at hB
  change B.length ≤ _ at hbs
  have hct := (hB.int t ht).1
  rw [hy] at hct
  change cellv _ _ = some (.int .u8 y) at hct
  (repeat (first | (with_reducible apply XL.op) | (with_reducible apply XC.seq) | (with_reducible apply XC.region (Γ := Γ))))
  ((with_reducible apply XOp.box); (case hg | hx' => exact rfl); intro ub)
  (repeat (first | (with_reducible apply XL.op) | ((with_reducible apply XOp.p1); (case hg | hv => exact rfl)) | (with_reducible apply XL.nilT) | (with_reducible apply XC.seq) | (with_reducible apply XC.region (Γ := Γ)) | (with_reducible apply XC.block)))
  refine XC.loopP (fun k ρ L => ∃ (i : Nat), i + k = t ∧ y ∉ B.take i ∧ L = [VoB ub (.slice ab B.length cb) (.slice ap Ps.length cp)] ∧ Slots ρ [(1, .int .i64 t), (2, .pointer (some ⟨ub, 0, none⟩)), (5, .int .i64 i)])
    t ⟨0, by simp, by simp, rfl, rfl, rfl, rfl, trivial⟩ ?_
  rintro k ρ L ⟨i, hik, hno, rfl, hs⟩
  refine XC.slots _ hs ?_
  (repeat (first | (with_reducible apply XL.op) | ((with_reducible apply XOp.p1); (case hg | hv => exact rfl)) | (with_reducible apply XL.nilT) | (with_reducible apply XC.seq) | (with_reducible apply XC.region (Γ := Γ))))
  ((with_reducible apply XC.cond); (case hc => exact rfl); all_goals (intro hb_; try simp only [pd_true, pd_false, Bool.not_eq_true', Bool.not_eq_false', Bool.and_eq_true, Bool.and_eq_false_iff, Bool.or_eq_true, Bool.or_eq_false_iff, not_true_eq_false, not_false_eq_true, Int.not_lt, Int.not_le] at hb_))
  · obtain ⟨z, hi⟩ : ∃ z, B[i]? = some z := ⟨_, List.getElem?_eq_getElem (by omega)⟩
    have hc := (hB.int i (by omega)).1
    rw [hi] at hc
    change cellv _ _ = some (.int .u8 z) at hc
    (repeat (first | (with_reducible apply XC.seq) | (with_reducible apply XQ.skip) | (with_reducible apply XQ.nt) | (with_reducible apply XC.block)))
    ((with_reducible apply XC.regionD (Γ := Γ) mixed (.q 0 (.q 1 (.q 2 (.q 3 (.q 4 (.q 5 (.q 6 (.q 7 (.q 8 (.q 9 (.q 10 (.done)))))))))))) [] []); (case hc => kernel_rfl))
    (repeat (first | (with_reducible apply XQ.nt) | ((with_reducible apply XP.p1); (case ho | hg | hv => exact rfl)) | ((with_reducible apply XP.load); (case ho | hg | ht | hk | hx => exact rfl); (case hc => exact own_cell (i := 0) rfl rfl)) | ((with_reducible apply XP.pr); (case ho => exact rfl); (case hg => exact rfl); (case hr => ((with_reducible apply PR.idxA); (case ht | hk | he | hx | hi => exact rfl); (case hr => first | assumption | omega); (case ha => first | assumption | exact SlA.at_ (by assumption))))) | (with_reducible apply XP.done) | (first | ((with_reducible apply XOp.load); (case hg | ht | hk | hx => exact rfl); (case hc => exact Known.of_old hc (Mono.cell _ _))) | ((with_reducible apply XP.load); (case ho | hg | ht | hk | hx => exact rfl); (case hc => exact Known.of_old hc (Mono.cell _ _)))) | (first | ((with_reducible apply XOp.load); (case hg | ht | hk | hx => exact rfl); (case hc => exact Known.of_old hct (Mono.cell _ _))) | ((with_reducible apply XP.load); (case ho | hg | ht | hk | hx => exact rfl); (case hc => exact Known.of_old hct (Mono.cell _ _))))))
    ((with_reducible apply XC.cond); (case hc => exact rfl); all_goals (intro hb_; try simp only [pd_true, pd_false, Bool.not_eq_true', Bool.not_eq_false', Bool.and_eq_true, Bool.and_eq_false_iff, Bool.or_eq_true, Bool.or_eq_false_iff, not_true_eq_false, not_false_eq_true, Int.not_lt, Int.not_le] at hb_))
    · (repeat (first | (with_reducible apply XL.op) | ((with_reducible apply XOp.p1); (case hg | hv => exact rfl)) | (with_reducible apply XL.nilT) | (with_reducible apply XC.seq) | (with_reducible apply XC.region (Γ := Γ)) | (with_reducible apply XQ.ret) | (with_reducible apply XQ.rt) | (with_reducible apply XQ.rb)))
      ((with_reducible apply XQ.retE); (case hr => exact .t rfl .nil))
      show Value.bool true = _
      rw [pdt (show y ∈ B.take t from by
        rw [← hb_]
        exact List.mem_of_getElem? (i := i) (by rw [List.getElem?_take_of_lt (by omega)]; exact hi))]
    (repeat (first | (with_reducible apply XL.op) | ((with_reducible apply XOp.p1); (case hg | hv => exact rfl)) | (with_reducible apply XL.nilT) | (with_reducible apply XC.region (Γ := Γ)) | (with_reducible apply XQ.skip) | (with_reducible apply XQ.nt) | (with_reducible apply XQ.nb)))
    exact ⟨k - 1, by omega, _, .of (List.Sublist.refl _), i + 1, by omega, by rw [take_snocD hi, List.mem_append, List.mem_singleton]; exact fun h => h.elim hno (fun e => hb_ e.symm), rfl, rfl, rfl, intS (m := t) (by omega) (by omega), trivial⟩
  obtain rfl : i = t := by omega
  (repeat (first | (with_reducible apply XL.op) | ((with_reducible apply XOp.p1); (case hg | hv => exact rfl)) | (with_reducible apply XL.nilT) | (with_reducible apply XC.seq) | (with_reducible apply XC.region (Γ := Γ)) | (with_reducible apply XQ.ret) | (with_reducible apply XQ.exit) | (with_reducible apply XQ.nt) | (with_reducible apply XQ.et) | ((with_reducible apply XQ.eb); (case hb => exact rfl))))
  ((with_reducible apply XQ.retE); (case hr => exact .t rfl .nil))
  show Value.bool false = _
  rw [pdf hno]
set_option maxHeartbeats 4000000 in
theorem twicePair_fn (x : LVo) (t : Nat) (y : Int × Int) (hy : x.P.1[t]? = some y) : FC Tryz.prog 123 [.agg ⟨x.cells⟩, .int .i64 t] [] (fun h => voAt h x) (fun v L => v = .bool (pd (y ∈ x.P.1.take t)) ∧ L = []) := by
  refine FC.nil ?_
  obtain ⟨⟨B, ab, cb⟩, ⟨Ps, ap, cp⟩⟩ := x
  change Ps[t]? = some y at hy
  have ht := (List.getElem?_eq_some_iff.1 hy).1
  refine FC.intro Tryz.func123 rfl (by kernel_rfl) 22 [.tmp 4] rfl rfl rfl ?_
  rintro w0 ⟨_, hP, _, hps⟩
  change SlA turnK 16 _ Ps ap cp at hP
  change Ps.length * 16 ≤ _ at hps
  have hat := hP.at_
  (repeat (first | (with_reducible apply XL.op) | (with_reducible apply XC.seq) | (with_reducible apply XC.region (Γ := Γ))))
  ((with_reducible apply XOp.box); (case hg | hx' => exact rfl); intro ub)
  (repeat (first | (with_reducible apply XL.op) | ((with_reducible apply XOp.p1); (case hg | hv => exact rfl)) | (with_reducible apply XL.nilT) | (with_reducible apply XC.seq) | (with_reducible apply XC.region (Γ := Γ)) | (with_reducible apply XC.block)))
  refine XC.loopP (fun k ρ L => ∃ (i : Nat), i + k = t ∧ y ∉ Ps.take i ∧ L = [VoB ub (.slice ab B.length cb) (.slice ap Ps.length cp)] ∧ Slots ρ [(1, .int .i64 t), (2, .pointer (some ⟨ub, 0, none⟩)), (5, .int .i64 i)])
    t ⟨0, by simp, by simp, rfl, rfl, rfl, rfl, trivial⟩ ?_
  rintro k ρ L ⟨i, hik, hno, rfl, hs⟩
  refine XC.slots _ hs ?_
  (repeat (first | (with_reducible apply XL.op) | ((with_reducible apply XOp.p1); (case hg | hv => exact rfl)) | (with_reducible apply XL.nilT) | (with_reducible apply XC.seq) | (with_reducible apply XC.region (Γ := Γ))))
  ((with_reducible apply XC.cond); (case hc => exact rfl); all_goals (intro hb_; try simp only [pd_true, pd_false, Bool.not_eq_true', Bool.not_eq_false', Bool.and_eq_true, Bool.and_eq_false_iff, Bool.or_eq_true, Bool.or_eq_false_iff, not_true_eq_false, not_false_eq_true, Int.not_lt, Int.not_le] at hb_))
  · obtain ⟨z, hi⟩ : ∃ z, Ps[i]? = some z := ⟨_, List.getElem?_eq_getElem (by omega)⟩
    (repeat (first | (with_reducible apply XC.seq) | (with_reducible apply XQ.skip) | (with_reducible apply XQ.nt) | (with_reducible apply XC.block)))
    ((with_reducible apply XC.regionD (Γ := Γ) mixed (.q 0 (.q 1 (.q 2 (.q 3 (.q 4 (.q 5 (.q 6 (.q 7 (.q 8 (.q 9 (.q 10 (.done)))))))))))) [] []); (case hc => kernel_rfl))
    (repeat (first | (with_reducible apply XQ.nt) | ((with_reducible apply XP.p1); (case ho | hg | hv => exact rfl)) | ((with_reducible apply XP.load); (case ho | hg | ht | hk | hx => exact rfl); (case hc => exact own_cell (i := 0) rfl rfl)) | ((with_reducible apply XP.pr); (case ho => exact rfl); (case hg => exact rfl); (case hr => ((with_reducible apply PR.idxA); (case ht | hk | he | hx | hi => exact rfl); (case hr => first | assumption | omega); (case ha => first | assumption | exact SlA.at_ (by assumption))))) | (with_reducible apply XP.done) | (first | ((with_reducible apply XOp.loadN); (case hg | ht | hk | hx => exact rfl); (case hc => exact Known.of_old (hP.rawAt hi) (Mono.row _ _ _)); (case hl => exact rfl)) | ((with_reducible apply XP.loadN); (case ho | hg | ht | hk | hx => exact rfl); (case hc => exact Known.of_old (hP.rawAt hi) (Mono.row _ _ _)); (case hl => exact rfl))) | (first | ((with_reducible apply XOp.loadN); (case hg | ht | hk | hx => exact rfl); (case hc => exact Known.of_old (hP.rawAt hy) (Mono.row _ _ _)); (case hl => exact rfl)) | ((with_reducible apply XP.loadN); (case ho | hg | ht | hk | hx => exact rfl); (case hc => exact Known.of_old (hP.rawAt hy) (Mono.row _ _ _)); (case hl => exact rfl))) | (first | (first | ((with_reducible apply XOp.pr); (case hg => exact rfl); (case hr => (with_reducible apply PR.eqArr (xs := [z.1, z.2]) (ys := [y.1, y.2])); (case hm => kernel_rfl); (case ht => exact rfl); (case hk => exact rfl); (case he => exact rfl); (case hek => exact rfl); (case hes => exact rfl); (case hl => exact ⟨rfl, rfl⟩); (case hx => exact rfl); (case hy => exact rfl))) | ((with_reducible apply XP.pr); (case ho => exact rfl); (case hg => exact rfl); (case hr => (with_reducible apply PR.eqArr (xs := [z.1, z.2]) (ys := [y.1, y.2])); (case hm => kernel_rfl); (case ht => exact rfl); (case hk => exact rfl); (case he => exact rfl); (case hek => exact rfl); (case hes => exact rfl); (case hl => exact ⟨rfl, rfl⟩); (case hx => exact rfl); (case hy => exact rfl)))) | (first | ((with_reducible apply XOp.pr); (case hg => exact rfl); (case hr => (with_reducible apply PR.neqArr (xs := [z.1, z.2]) (ys := [y.1, y.2])); (case hm => kernel_rfl); (case ht => exact rfl); (case hk => exact rfl); (case he => exact rfl); (case hek => exact rfl); (case hes => exact rfl); (case hl => exact ⟨rfl, rfl⟩); (case hx => exact rfl); (case hy => exact rfl))) | ((with_reducible apply XP.pr); (case ho => exact rfl); (case hg => exact rfl); (case hr => (with_reducible apply PR.neqArr (xs := [z.1, z.2]) (ys := [y.1, y.2])); (case hm => kernel_rfl); (case ht => exact rfl); (case hk => exact rfl); (case he => exact rfl); (case hek => exact rfl); (case hes => exact rfl); (case hl => exact ⟨rfl, rfl⟩); (case hx => exact rfl); (case hy => exact rfl)))))))
    ((with_reducible apply XC.cond); (case hc => exact rfl); all_goals (intro hb_; try simp only [pd_true, pd_false, Bool.not_eq_true', Bool.not_eq_false', Bool.and_eq_true, Bool.and_eq_false_iff, Bool.or_eq_true, Bool.or_eq_false_iff, not_true_eq_false, not_false_eq_true, Int.not_lt, Int.not_le] at hb_))
    · (repeat (first | (with_reducible apply XL.op) | ((with_reducible apply XOp.p1); (case hg | hv => exact rfl)) | (with_reducible apply XL.nilT) | (with_reducible apply XC.seq) | (with_reducible apply XC.region (Γ := Γ)) | (with_reducible apply XQ.ret) | (with_reducible apply XQ.rt) | (with_reducible apply XQ.rb)))
      ((with_reducible apply XQ.retE); (case hr => exact .t rfl .nil))
      show Value.bool true = _
      obtain rfl : z = y := by
        simp only [List.cons.injEq, and_true] at hb_
        exact Prod.ext hb_.1 hb_.2
      rw [pdt (show z ∈ Ps.take t from List.mem_of_getElem? (i := i) (by rw [List.getElem?_take_of_lt (by omega)]; exact hi))]
    (repeat (first | (with_reducible apply XL.op) | ((with_reducible apply XOp.p1); (case hg | hv => exact rfl)) | (with_reducible apply XL.nilT) | (with_reducible apply XC.region (Γ := Γ)) | (with_reducible apply XQ.skip) | (with_reducible apply XQ.nt) | (with_reducible apply XQ.nb)))
    refine ⟨k - 1, by omega, _, .of (List.Sublist.refl _), i + 1, by omega, ?_, rfl, rfl, rfl, intS (m := t) (by omega) (by omega), trivial⟩
    rw [take_snocD hi, List.mem_append, List.mem_singleton]
    exact fun h => h.elim hno (fun e => hb_ (by rw [e]))
  obtain rfl : i = t := by omega
  (repeat (first | (with_reducible apply XL.op) | ((with_reducible apply XOp.p1); (case hg | hv => exact rfl)) | (with_reducible apply XL.nilT) | (with_reducible apply XC.seq) | (with_reducible apply XC.region (Γ := Γ)) | (with_reducible apply XQ.ret) | (with_reducible apply XQ.exit) | (with_reducible apply XQ.nt) | (with_reducible apply XQ.et) | ((with_reducible apply XQ.eb); (case hb => exact rfl))))
  ((with_reducible apply XQ.retE); (case hr => exact .t rfl .nil))
  show Value.bool false = _
  rw [pdf hno]
/-- The sizes' array. -/
def szL (l : List Nat) : List Value := (l ++ List.replicate (64 - l.length) 0).map fun (n : Nat) => .int .i64 (n : Int)
theorem szL_len {l : List Nat} (h : l.length ≤ 64) : (szL l).length = 64 := by simp [szL]; omega
theorem szL_at {l : List Nat} {k : Nat} (h : k < 64) : (szL l)[k]? = some (.int .i64 ((l[k]?.getD 0 : Nat) : Int)) := by
  unfold szL
  rw [List.getElem?_map]
  by_cases hk : k < l.length
  · rw [List.getElem?_append_left hk, List.getElem?_eq_getElem hk]; rfl
  · rw [List.getElem?_append_right (by omega), List.getElem?_replicate, if_pos (by omega), List.getElem?_eq_none (by omega)]; rfl
theorem szL_set {l : List Nat} {m : Nat} (h : l.length < 64) : (szL l).set l.length (.int .i64 ((m : Nat) : Int)) = szL (l ++ [m]) := by
  unfold szL
  rw [List.length_append, List.length_singleton, show 64 - l.length = (64 - (l.length + 1)) + 1 by omega, List.replicate_succ, List.map_append, List.map_append, List.map_append, List.map_cons]
  rw [List.set_append_right _ _ (by simp)]
  simp
abbrev szB (b : Nat) (l : List Nat) : Nat × Obj := (b, Obj.cells ⟨szL l⟩ 268 (0, 0))
set_option maxHeartbeats 16000000 in
theorem refBpe_fn (x : LVo) : FC Tryz.prog 66 [.agg ⟨x.cells⟩] [] (fun h => voAt h x) (fun v L => v = .int .i64 (errV x.voc) ∧ L = []) := by
  refine FC.nil ?_
  obtain ⟨⟨B, ab, cb⟩, ⟨Ps, ap, cp⟩⟩ := x
  show FC _ _ _ _ _ (fun v _ => v = .int .i64 (errV ⟨B, Ps⟩))
  refine FC.intro Tryz.func66 rfl (by kernel_rfl) 113 [.tmp 2] rfl rfl rfl ?_
  intro w0 hA
  have hB := hA.b
  have hP := hA.p
  have hbs := hA.bs
  have hps := hA.ps
  change SlA (Kd.int .u8) 1 _ B ab cb at hB
  change SlA turnK 16 _ Ps ap cp at hP
  change B.length ≤ _ at hbs
  change Ps.length * 16 ≤ _ at hps
  have hat := hP.at_
  have ew : IntKind.i64.wrap (IntKind.i64.wrap (1 + (B.length : Int)) + (Ps.length : Int)) = 1 + B.length + Ps.length := by rw [wrap64_of (x := 1 + (B.length : Int)) (by omega) (by omega), wrap64_of (by omega) (by omega)]
  (repeat (first | (with_reducible apply XL.op) | (with_reducible apply XC.seq) | (with_reducible apply XC.region (Γ := Γ))))
  ((with_reducible apply XOp.box); (case hg | hx' => exact rfl); intro ub)
  (repeat (first | (with_reducible apply XL.op) | ((with_reducible apply XOp.p1); (case hg | hv => exact rfl)) | ((with_reducible apply XOp.load); (case hg | ht | hk | hx => exact rfl); (case hc => exact own_cell (i := 0) rfl rfl)) | (with_reducible apply XL.nilT) | (with_reducible apply XC.seq) | (with_reducible apply XC.region (Γ := Γ))))
  by_cases hz : (1 ≤ B.length ∧ B.length ≤ 48) ∧ 1 + B.length + Ps.length ≤ 64
  rotate_left
  · have hno : Value.int .i64 50 = .int .i64 (errV ⟨B, Ps⟩) := by
      rw [errV_no]
      exact fun h => hz ⟨⟨h.1, h.2.1⟩, h.2.2.1⟩
    rcases (by omega : B.length < 1 ∨ (1 ≤ B.length ∧ 48 < B.length) ∨ (1 ≤ B.length ∧ B.length ≤ 48 ∧ 64 < 1 + B.length + Ps.length)) with h1 | ⟨h1, h2⟩ | ⟨h1, h2, h3⟩
    · (repeat (first | (with_reducible apply XL.op) | ((with_reducible apply XOp.p1); (case hg | hv => exact rfl)) | ((with_reducible apply XOp.p0); (case hg => exact rfl)) | (with_reducible apply XL.nilT) | (with_reducible apply XC.seq) | (with_reducible apply XC.region (Γ := Γ)) | (with_reducible apply XQ.ret) | (with_reducible apply XQ.rt) | ((with_reducible apply XC.condT); (case hc => exact rfl)) | (first | ((with_reducible apply XOp.split); (case hg | hj | hd | hb => exact rfl); (fail_if_success (case hf => exact fun h => Bool.noConfusion h)); (fail_if_success (case ht => exact fun h => Bool.noConfusion h)); (first | (case ht => intro hb_; try simp only [pd_true, pd_false, Bool.not_eq_true', Bool.not_eq_false', Bool.and_eq_true, Bool.and_eq_false_iff, Bool.or_eq_true, Bool.or_eq_false_iff, not_true_eq_false, not_false_eq_true, Int.not_lt, Int.not_le] at hb_; first | done | (exfalso; first | omega | contradiction)) | (case hf => intro hb_; try simp only [pd_true, pd_false, Bool.not_eq_true', Bool.not_eq_false', Bool.and_eq_true, Bool.and_eq_false_iff, Bool.or_eq_true, Bool.or_eq_false_iff, not_true_eq_false, not_false_eq_true, Int.not_lt, Int.not_le] at hb_; first | done | (exfalso; first | omega | contradiction))); intro hb_; try simp only [pd_true, pd_false, Bool.not_eq_true', Bool.not_eq_false', Bool.and_eq_true, Bool.and_eq_false_iff, Bool.or_eq_true, Bool.or_eq_false_iff, not_true_eq_false, not_false_eq_true, Int.not_lt, Int.not_le] at hb_) | ((with_reducible apply XP.split); (case ho | hg | hj | hd | hb => exact rfl); (fail_if_success (case hf => exact fun h => Bool.noConfusion h)); (fail_if_success (case ht => exact fun h => Bool.noConfusion h)); (first | (case ht => intro hb_; try simp only [pd_true, pd_false, Bool.not_eq_true', Bool.not_eq_false', Bool.and_eq_true, Bool.and_eq_false_iff, Bool.or_eq_true, Bool.or_eq_false_iff, not_true_eq_false, not_false_eq_true, Int.not_lt, Int.not_le] at hb_; first | done | (exfalso; first | omega | contradiction)) | (case hf => intro hb_; try simp only [pd_true, pd_false, Bool.not_eq_true', Bool.not_eq_false', Bool.and_eq_true, Bool.and_eq_false_iff, Bool.or_eq_true, Bool.or_eq_false_iff, not_true_eq_false, not_false_eq_true, Int.not_lt, Int.not_le] at hb_; first | done | (exfalso; first | omega | contradiction))); intro hb_; try simp only [pd_true, pd_false, Bool.not_eq_true', Bool.not_eq_false', Bool.and_eq_true, Bool.and_eq_false_iff, Bool.or_eq_true, Bool.or_eq_false_iff, not_true_eq_false, not_false_eq_true, Int.not_lt, Int.not_le] at hb_) | ((with_reducible apply XC.cond); (case hc => exact rfl); (first | (case ht => intro hb_; try simp only [pd_true, pd_false, Bool.not_eq_true', Bool.not_eq_false', Bool.and_eq_true, Bool.and_eq_false_iff, Bool.or_eq_true, Bool.or_eq_false_iff, not_true_eq_false, not_false_eq_true, Int.not_lt, Int.not_le] at hb_; first | done | (exfalso; first | omega | contradiction)) | (case hf => intro hb_; try simp only [pd_true, pd_false, Bool.not_eq_true', Bool.not_eq_false', Bool.and_eq_true, Bool.and_eq_false_iff, Bool.or_eq_true, Bool.or_eq_false_iff, not_true_eq_false, not_false_eq_true, Int.not_lt, Int.not_le] at hb_; first | done | (exfalso; first | omega | contradiction))); intro hb_; try simp only [pd_true, pd_false, Bool.not_eq_true', Bool.not_eq_false', Bool.and_eq_true, Bool.and_eq_false_iff, Bool.or_eq_true, Bool.or_eq_false_iff, not_true_eq_false, not_false_eq_true, Int.not_lt, Int.not_le] at hb_))))
      ((with_reducible apply XQ.retE); (case hr => exact .t rfl .nil))
      exact hno
    · (repeat (first | (with_reducible apply XL.op) | ((with_reducible apply XOp.p1); (case hg | hv => exact rfl)) | ((with_reducible apply XOp.p0); (case hg => exact rfl)) | ((with_reducible apply XOp.load); (case hg | ht | hk | hx => exact rfl); (case hc => exact own_cell (i := 0) rfl rfl)) | (with_reducible apply XL.nilT) | (with_reducible apply XC.seq) | (with_reducible apply XC.region (Γ := Γ)) | (with_reducible apply XQ.ret) | (with_reducible apply XQ.rt) | ((with_reducible apply XC.condT); (case hc => exact rfl)) | (first | ((with_reducible apply XOp.split); (case hg | hj | hd | hb => exact rfl); (fail_if_success (case hf => exact fun h => Bool.noConfusion h)); (fail_if_success (case ht => exact fun h => Bool.noConfusion h)); (first | (case ht => intro hb_; try simp only [pd_true, pd_false, Bool.not_eq_true', Bool.not_eq_false', Bool.and_eq_true, Bool.and_eq_false_iff, Bool.or_eq_true, Bool.or_eq_false_iff, not_true_eq_false, not_false_eq_true, Int.not_lt, Int.not_le] at hb_; first | done | (exfalso; first | omega | contradiction)) | (case hf => intro hb_; try simp only [pd_true, pd_false, Bool.not_eq_true', Bool.not_eq_false', Bool.and_eq_true, Bool.and_eq_false_iff, Bool.or_eq_true, Bool.or_eq_false_iff, not_true_eq_false, not_false_eq_true, Int.not_lt, Int.not_le] at hb_; first | done | (exfalso; first | omega | contradiction))); intro hb_; try simp only [pd_true, pd_false, Bool.not_eq_true', Bool.not_eq_false', Bool.and_eq_true, Bool.and_eq_false_iff, Bool.or_eq_true, Bool.or_eq_false_iff, not_true_eq_false, not_false_eq_true, Int.not_lt, Int.not_le] at hb_) | ((with_reducible apply XP.split); (case ho | hg | hj | hd | hb => exact rfl); (fail_if_success (case hf => exact fun h => Bool.noConfusion h)); (fail_if_success (case ht => exact fun h => Bool.noConfusion h)); (first | (case ht => intro hb_; try simp only [pd_true, pd_false, Bool.not_eq_true', Bool.not_eq_false', Bool.and_eq_true, Bool.and_eq_false_iff, Bool.or_eq_true, Bool.or_eq_false_iff, not_true_eq_false, not_false_eq_true, Int.not_lt, Int.not_le] at hb_; first | done | (exfalso; first | omega | contradiction)) | (case hf => intro hb_; try simp only [pd_true, pd_false, Bool.not_eq_true', Bool.not_eq_false', Bool.and_eq_true, Bool.and_eq_false_iff, Bool.or_eq_true, Bool.or_eq_false_iff, not_true_eq_false, not_false_eq_true, Int.not_lt, Int.not_le] at hb_; first | done | (exfalso; first | omega | contradiction))); intro hb_; try simp only [pd_true, pd_false, Bool.not_eq_true', Bool.not_eq_false', Bool.and_eq_true, Bool.and_eq_false_iff, Bool.or_eq_true, Bool.or_eq_false_iff, not_true_eq_false, not_false_eq_true, Int.not_lt, Int.not_le] at hb_) | ((with_reducible apply XC.cond); (case hc => exact rfl); (first | (case ht => intro hb_; try simp only [pd_true, pd_false, Bool.not_eq_true', Bool.not_eq_false', Bool.and_eq_true, Bool.and_eq_false_iff, Bool.or_eq_true, Bool.or_eq_false_iff, not_true_eq_false, not_false_eq_true, Int.not_lt, Int.not_le] at hb_; first | done | (exfalso; first | omega | contradiction)) | (case hf => intro hb_; try simp only [pd_true, pd_false, Bool.not_eq_true', Bool.not_eq_false', Bool.and_eq_true, Bool.and_eq_false_iff, Bool.or_eq_true, Bool.or_eq_false_iff, not_true_eq_false, not_false_eq_true, Int.not_lt, Int.not_le] at hb_; first | done | (exfalso; first | omega | contradiction))); intro hb_; try simp only [pd_true, pd_false, Bool.not_eq_true', Bool.not_eq_false', Bool.and_eq_true, Bool.and_eq_false_iff, Bool.or_eq_true, Bool.or_eq_false_iff, not_true_eq_false, not_false_eq_true, Int.not_lt, Int.not_le] at hb_))))
      ((with_reducible apply XQ.retE); (case hr => exact .t rfl .nil))
      exact hno
    · (repeat (first | (with_reducible apply XL.op) | ((with_reducible apply XOp.p1); (case hg | hv => exact rfl)) | ((with_reducible apply XOp.load); (case hg | ht | hk | hx => exact rfl); (case hc => exact own_cell (i := 0) rfl rfl)) | (with_reducible apply XL.nilT) | (with_reducible apply XC.seq) | (with_reducible apply XC.region (Γ := Γ)) | (with_reducible apply XQ.ret) | (with_reducible apply XQ.rt) | (first | ((with_reducible apply XOp.split); (case hg | hj | hd | hb => exact rfl); (fail_if_success (case hf => exact fun h => Bool.noConfusion h)); (fail_if_success (case ht => exact fun h => Bool.noConfusion h)); (first | (case ht => intro hb_; try simp only [pd_true, pd_false, Bool.not_eq_true', Bool.not_eq_false', Bool.and_eq_true, Bool.and_eq_false_iff, Bool.or_eq_true, Bool.or_eq_false_iff, not_true_eq_false, not_false_eq_true, Int.not_lt, Int.not_le] at hb_; first | done | (exfalso; first | omega | contradiction)) | (case hf => intro hb_; try simp only [pd_true, pd_false, Bool.not_eq_true', Bool.not_eq_false', Bool.and_eq_true, Bool.and_eq_false_iff, Bool.or_eq_true, Bool.or_eq_false_iff, not_true_eq_false, not_false_eq_true, Int.not_lt, Int.not_le] at hb_; first | done | (exfalso; first | omega | contradiction))); intro hb_; try simp only [pd_true, pd_false, Bool.not_eq_true', Bool.not_eq_false', Bool.and_eq_true, Bool.and_eq_false_iff, Bool.or_eq_true, Bool.or_eq_false_iff, not_true_eq_false, not_false_eq_true, Int.not_lt, Int.not_le] at hb_) | ((with_reducible apply XP.split); (case ho | hg | hj | hd | hb => exact rfl); (fail_if_success (case hf => exact fun h => Bool.noConfusion h)); (fail_if_success (case ht => exact fun h => Bool.noConfusion h)); (first | (case ht => intro hb_; try simp only [pd_true, pd_false, Bool.not_eq_true', Bool.not_eq_false', Bool.and_eq_true, Bool.and_eq_false_iff, Bool.or_eq_true, Bool.or_eq_false_iff, not_true_eq_false, not_false_eq_true, Int.not_lt, Int.not_le] at hb_; first | done | (exfalso; first | omega | contradiction)) | (case hf => intro hb_; try simp only [pd_true, pd_false, Bool.not_eq_true', Bool.not_eq_false', Bool.and_eq_true, Bool.and_eq_false_iff, Bool.or_eq_true, Bool.or_eq_false_iff, not_true_eq_false, not_false_eq_true, Int.not_lt, Int.not_le] at hb_; first | done | (exfalso; first | omega | contradiction))); intro hb_; try simp only [pd_true, pd_false, Bool.not_eq_true', Bool.not_eq_false', Bool.and_eq_true, Bool.and_eq_false_iff, Bool.or_eq_true, Bool.or_eq_false_iff, not_true_eq_false, not_false_eq_true, Int.not_lt, Int.not_le] at hb_) | ((with_reducible apply XC.cond); (case hc => exact rfl); (first | (case ht => intro hb_; try simp only [pd_true, pd_false, Bool.not_eq_true', Bool.not_eq_false', Bool.and_eq_true, Bool.and_eq_false_iff, Bool.or_eq_true, Bool.or_eq_false_iff, not_true_eq_false, not_false_eq_true, Int.not_lt, Int.not_le] at hb_; first | done | (exfalso; first | omega | contradiction)) | (case hf => intro hb_; try simp only [pd_true, pd_false, Bool.not_eq_true', Bool.not_eq_false', Bool.and_eq_true, Bool.and_eq_false_iff, Bool.or_eq_true, Bool.or_eq_false_iff, not_true_eq_false, not_false_eq_true, Int.not_lt, Int.not_le] at hb_; first | done | (exfalso; first | omega | contradiction))); intro hb_; try simp only [pd_true, pd_false, Bool.not_eq_true', Bool.not_eq_false', Bool.and_eq_true, Bool.and_eq_false_iff, Bool.or_eq_true, Bool.or_eq_false_iff, not_true_eq_false, not_false_eq_true, Int.not_lt, Int.not_le] at hb_))))
      rw [ew]
      skip
      ((with_reducible apply XQ.retE); (case hr => exact .t rfl .nil))
      exact hno
  obtain ⟨⟨hz1, hz2⟩, hz3⟩ := hz
  (repeat (first | (with_reducible apply XL.op) | ((with_reducible apply XOp.p1); (case hg | hv => exact rfl)) | ((with_reducible apply XOp.load); (case hg | ht | hk | hx => exact rfl); (case hc => exact own_cell (i := 0) rfl rfl)) | (with_reducible apply XL.nilT) | (with_reducible apply XC.seq) | (with_reducible apply XC.region (Γ := Γ)) | (with_reducible apply XQ.skip) | (with_reducible apply XQ.nt) | (with_reducible apply XC.block) | (first | ((with_reducible apply XOp.split); (case hg | hj | hd | hb => exact rfl); (fail_if_success (case hf => exact fun h => Bool.noConfusion h)); (fail_if_success (case ht => exact fun h => Bool.noConfusion h)); (first | (case ht => intro hb_; try simp only [pd_true, pd_false, Bool.not_eq_true', Bool.not_eq_false', Bool.and_eq_true, Bool.and_eq_false_iff, Bool.or_eq_true, Bool.or_eq_false_iff, not_true_eq_false, not_false_eq_true, Int.not_lt, Int.not_le] at hb_; first | done | (exfalso; first | omega | contradiction)) | (case hf => intro hb_; try simp only [pd_true, pd_false, Bool.not_eq_true', Bool.not_eq_false', Bool.and_eq_true, Bool.and_eq_false_iff, Bool.or_eq_true, Bool.or_eq_false_iff, not_true_eq_false, not_false_eq_true, Int.not_lt, Int.not_le] at hb_; first | done | (exfalso; first | omega | contradiction))); intro hb_; try simp only [pd_true, pd_false, Bool.not_eq_true', Bool.not_eq_false', Bool.and_eq_true, Bool.and_eq_false_iff, Bool.or_eq_true, Bool.or_eq_false_iff, not_true_eq_false, not_false_eq_true, Int.not_lt, Int.not_le] at hb_) | ((with_reducible apply XP.split); (case ho | hg | hj | hd | hb => exact rfl); (fail_if_success (case hf => exact fun h => Bool.noConfusion h)); (fail_if_success (case ht => exact fun h => Bool.noConfusion h)); (first | (case ht => intro hb_; try simp only [pd_true, pd_false, Bool.not_eq_true', Bool.not_eq_false', Bool.and_eq_true, Bool.and_eq_false_iff, Bool.or_eq_true, Bool.or_eq_false_iff, not_true_eq_false, not_false_eq_true, Int.not_lt, Int.not_le] at hb_; first | done | (exfalso; first | omega | contradiction)) | (case hf => intro hb_; try simp only [pd_true, pd_false, Bool.not_eq_true', Bool.not_eq_false', Bool.and_eq_true, Bool.and_eq_false_iff, Bool.or_eq_true, Bool.or_eq_false_iff, not_true_eq_false, not_false_eq_true, Int.not_lt, Int.not_le] at hb_; first | done | (exfalso; first | omega | contradiction))); intro hb_; try simp only [pd_true, pd_false, Bool.not_eq_true', Bool.not_eq_false', Bool.and_eq_true, Bool.and_eq_false_iff, Bool.or_eq_true, Bool.or_eq_false_iff, not_true_eq_false, not_false_eq_true, Int.not_lt, Int.not_le] at hb_) | ((with_reducible apply XC.cond); (case hc => exact rfl); (first | (case ht => intro hb_; try simp only [pd_true, pd_false, Bool.not_eq_true', Bool.not_eq_false', Bool.and_eq_true, Bool.and_eq_false_iff, Bool.or_eq_true, Bool.or_eq_false_iff, not_true_eq_false, not_false_eq_true, Int.not_lt, Int.not_le] at hb_; first | done | (exfalso; first | omega | contradiction)) | (case hf => intro hb_; try simp only [pd_true, pd_false, Bool.not_eq_true', Bool.not_eq_false', Bool.and_eq_true, Bool.and_eq_false_iff, Bool.or_eq_true, Bool.or_eq_false_iff, not_true_eq_false, not_false_eq_true, Int.not_lt, Int.not_le] at hb_; first | done | (exfalso; first | omega | contradiction))); intro hb_; try simp only [pd_true, pd_false, Bool.not_eq_true', Bool.not_eq_false', Bool.and_eq_true, Bool.and_eq_false_iff, Bool.or_eq_true, Bool.or_eq_false_iff, not_true_eq_false, not_false_eq_true, Int.not_lt, Int.not_le] at hb_))))
  rw [ew]
  skip
  refine XC.loopP (fun k ρ L => ∃ (i : Nat), i + k = B.length ∧ (B.take i).Nodup ∧ L = [VoB ub (.slice ab B.length cb) (.slice ap Ps.length cp)] ∧ Slots ρ [(0, .agg ⟨[.slice ab B.length cb, .slice ap Ps.length cp]⟩), (1, .pointer (some ⟨ub, 0, none⟩)), (3, .int .i64 i)])
    B.length ⟨0, by simp, by simp, rfl, rfl, rfl, rfl, trivial⟩ ?_
  rintro k ρ L ⟨i, hik, hnd, rfl, hs⟩
  refine XC.slots _ hs ?_
  (repeat (first | (with_reducible apply XL.op) | ((with_reducible apply XOp.p1); (case hg | hv => exact rfl)) | ((with_reducible apply XOp.load); (case hg | ht | hk | hx => exact rfl); (case hc => exact own_cell (i := 0) rfl rfl)) | (with_reducible apply XL.nilT) | (with_reducible apply XC.seq) | (with_reducible apply XC.region (Γ := Γ))))
  ((with_reducible apply XC.cond); (case hc => exact rfl); all_goals (intro hb_; try simp only [pd_true, pd_false, Bool.not_eq_true', Bool.not_eq_false', Bool.and_eq_true, Bool.and_eq_false_iff, Bool.or_eq_true, Bool.or_eq_false_iff, not_true_eq_false, not_false_eq_true, Int.not_lt, Int.not_le] at hb_))
  · obtain ⟨z, hi⟩ : ∃ z, B[i]? = some z := ⟨_, List.getElem?_eq_getElem (by omega)⟩
    (repeat (first | (with_reducible apply XL.op) | ((with_reducible apply XOp.p1); (case hg | hv => exact rfl)) | ((with_reducible apply XOp.loadO (i := 0)); (case hg | ht | hk | hx | hi | hc => exact rfl)) | (with_reducible apply XC.seq) | (with_reducible apply XC.region (Γ := Γ)) | (with_reducible apply XQ.skip) | (with_reducible apply XQ.nt) | (with_reducible apply XC.block)))
    ((with_reducible apply XOp.call (hF := twiceByte_fn ⟨(B, ab, cb), (Ps, ap, cp)⟩ i z hi)); (case hg => exact rfl); (case hc => exact rfl); (case ha => exact rfl); (case hL => exact (List.nil_append _).symm); try (case hA => exact Known.true))
    case hA => exact Known.of_old hA (vo_mono _)
    rintro _ _ ⟨rfl, rfl⟩
    (repeat (first | (with_reducible apply XL.op) | ((with_reducible apply XOp.p1); (case hg | hv => exact rfl)) | (with_reducible apply XL.nilT) | (with_reducible apply XC.seq) | (with_reducible apply XC.region (Γ := Γ))))
    ((with_reducible apply XC.cond); (case hc => exact rfl); all_goals (intro hb_; try simp only [pd_true, pd_false, Bool.not_eq_true', Bool.not_eq_false', Bool.and_eq_true, Bool.and_eq_false_iff, Bool.or_eq_true, Bool.or_eq_false_iff, not_true_eq_false, not_false_eq_true, Int.not_lt, Int.not_le] at hb_))
    · (repeat (first | (with_reducible apply XL.op) | ((with_reducible apply XOp.p1); (case hg | hv => exact rfl)) | (with_reducible apply XL.nilT) | (with_reducible apply XC.seq) | (with_reducible apply XC.region (Γ := Γ)) | (with_reducible apply XQ.ret) | (with_reducible apply XQ.rt) | (with_reducible apply XQ.rb)))
      ((with_reducible apply XQ.retE); (case hr => exact .t rfl .nil))
      show Value.int .i64 50 = _
      rw [errV_no]
      exact fun h => ((nodup_take_succ hi).1 (nodup_take h.2.2.2.1 (i + 1))).2 hb_
    (repeat (first | (with_reducible apply XL.op) | ((with_reducible apply XOp.p1); (case hg | hv => exact rfl)) | (with_reducible apply XL.nilT) | (with_reducible apply XC.region (Γ := Γ)) | (with_reducible apply XQ.skip) | (with_reducible apply XQ.nt) | (with_reducible apply XQ.nb)))
    exact ⟨k - 1, by omega, _, .of (List.Sublist.refl _), i + 1, by omega, (nodup_take_succ hi).2 ⟨hnd, hb_⟩, rfl, rfl, rfl, intS (m := B.length) (by omega) (by omega), trivial⟩
  obtain rfl : i = B.length := by omega
  rw [List.take_length] at hnd
  clear hs hik
  (repeat (first | (with_reducible apply XL.op) | (with_reducible apply XC.seq) | (with_reducible apply XC.region (Γ := Γ)) | (with_reducible apply XQ.exit) | (with_reducible apply XQ.nt) | (with_reducible apply XQ.et) | ((with_reducible apply XQ.eb); (case hb => exact rfl))))
  ((with_reducible apply XOp.alloc); (case hg | ht | hx' => exact rfl); intro sb)
  (repeat (first | (with_reducible apply XL.op) | ((with_reducible apply XOp.p1); (case hg | hv => exact rfl)) | (with_reducible apply XL.nilT) | (with_reducible apply XC.seq) | (with_reducible apply XC.region (Γ := Γ)) | (with_reducible apply XC.block)))
  refine XC.loopP (fun k ρ L => ∃ (i : Nat), 1 ≤ i ∧ i + k = B.length + 1 ∧ L = [szB sb (0 :: List.replicate (i - 1) 1), VoB ub (.slice ab B.length cb) (.slice ap Ps.length cp)] ∧ Slots ρ [(0, .agg ⟨[.slice ab B.length cb, .slice ap Ps.length cp]⟩), (1, .pointer (some ⟨ub, 0, none⟩)), (5, .pointer (some ⟨sb, 0, none⟩)), (6, .int .i64 i)])
    B.length ⟨1, by omega, by omega, rfl, rfl, rfl, rfl, rfl, trivial⟩ ?_
  rintro k ρ L ⟨i, hi1, hik, rfl, hs⟩
  refine XC.slots _ hs ?_
  (repeat (first | (with_reducible apply XL.op) | ((with_reducible apply XOp.p1); (case hg | hv => exact rfl)) | ((with_reducible apply XOp.load); (case hg | ht | hk | hx => exact rfl); (case hc => exact own_cell (i := 1) rfl rfl)) | (with_reducible apply XL.nilT) | (with_reducible apply XC.seq) | (with_reducible apply XC.region (Γ := Γ))))
  ((with_reducible apply XC.cond); (case hc => exact rfl); all_goals (intro hb_; try simp only [pd_true, pd_false, Bool.not_eq_true', Bool.not_eq_false', Bool.and_eq_true, Bool.and_eq_false_iff, Bool.or_eq_true, Bool.or_eq_false_iff, not_true_eq_false, not_false_eq_true, Int.not_lt, Int.not_le] at hb_))
  · (repeat (first | (with_reducible apply XL.op) | ((with_reducible apply XOp.p1); (case hg | hv => exact rfl)) | ((with_reducible apply XOp.pr); (case hg => exact rfl); (case hr => ((with_reducible apply PR.aidx); (case ht | hk | he | hx | hi => exact rfl); (case hr => first | assumption | omega)))) | (with_reducible apply XC.seq) | (with_reducible apply XC.region (Γ := Γ)) | (with_reducible apply XQ.skip) | (with_reducible apply XQ.nt) | (with_reducible apply XC.block)))
    have hset := szL_set (l := 0 :: List.replicate (i - 1) 1) (m := 1) (by simp; omega)
    rw [List.length_cons, List.length_replicate, show (0 :: List.replicate (i - 1) 1) ++ [1] = 0 :: List.replicate i 1 by rw [List.cons_append, ← List.replicate_succ', Nat.sub_add_cancel hi1]] at hset
    ((with_reducible apply XOp.storeE (i := 0) (cs' := szL (0 :: List.replicate i 1))); (case hg => exact rfl); (case ht => exact rfl); (case hk => exact rfl); (case hx => exact rfl); (case hv' => exact rfl); (case h1 => exact rfl); (case hi => exact rfl); (case hs => exact (show 0 + ((i : Nat) : Int).toNat * 1 < _ ∧ List.set _ (0 + ((i : Nat) : Int).toNat * 1) _ = _ from (by rw [show 0 + ((i : Nat) : Int).toNat * 1 = i - 1 + 1 by omega]; exact ⟨by rw [szL_len (by simp; omega)]; omega, hset⟩))); (case ha => exact rfl))
    (repeat (first | (with_reducible apply XL.op) | ((with_reducible apply XOp.p1); (case hg | hv => exact rfl)) | (with_reducible apply XL.nilT) | (with_reducible apply XC.region (Γ := Γ)) | (with_reducible apply XL.nilQ) | (with_reducible apply XQ.nt) | (with_reducible apply XQ.nb)))
    exact ⟨k - 1, by omega, _, .of (List.Sublist.refl _), i + 1, by omega, by omega, rfl, rfl, rfl, rfl, intS (m := B.length + 1) (by omega) (by omega), trivial⟩
  obtain rfl : i = B.length + 1 := by omega
  clear hs hik hi1
  rw [Nat.add_sub_cancel]
  (repeat (first | (with_reducible apply XL.op) | ((with_reducible apply XOp.p1); (case hg | hv => exact rfl)) | (with_reducible apply XL.nilT) | (with_reducible apply XC.seq) | (with_reducible apply XC.region (Γ := Γ)) | (with_reducible apply XQ.exit) | (with_reducible apply XQ.nt) | (with_reducible apply XQ.et) | (with_reducible apply XC.block) | ((with_reducible apply XQ.eb); (case hb => exact rfl))))
  refine XC.loopP (fun k ρ L => ∃ (j : Nat), j + k = Ps.length ∧ pairsOk B.length 16 (pre Ps j) ∧ L = [szB sb (szs B.length (pre Ps j)), VoB ub (.slice ab B.length cb) (.slice ap Ps.length cp)] ∧ Slots ρ [(0, .agg ⟨[.slice ab B.length cb, .slice ap Ps.length cp]⟩), (1, .pointer (some ⟨ub, 0, none⟩)), (5, .pointer (some ⟨sb, 0, none⟩)), (7, .int .i64 j)])
    Ps.length ⟨0, by simp, trivial, rfl, rfl, rfl, rfl, rfl, trivial⟩ ?_
  rintro k ρ L ⟨j, hjk, hok, rfl, hs⟩
  refine XC.slots _ hs ?_
  (repeat (first | (with_reducible apply XL.op) | ((with_reducible apply XOp.p1); (case hg | hv => exact rfl)) | ((with_reducible apply XOp.load); (case hg | ht | hk | hx => exact rfl); (case hc => exact own_cell (i := 1) rfl rfl)) | (with_reducible apply XL.nilT) | (with_reducible apply XC.seq) | (with_reducible apply XC.region (Γ := Γ))))
  ((with_reducible apply XC.cond); (case hc => exact rfl); all_goals (intro hb_; try simp only [pd_true, pd_false, Bool.not_eq_true', Bool.not_eq_false', Bool.and_eq_true, Bool.and_eq_false_iff, Bool.or_eq_true, Bool.or_eq_false_iff, not_true_eq_false, not_false_eq_true, Int.not_lt, Int.not_le] at hb_))
  rotate_left
  · obtain rfl : j = Ps.length := by omega
    rw [pre_all] at hok
    (repeat (first | (with_reducible apply XL.op) | ((with_reducible apply XOp.p1); (case hg | hv => exact rfl)) | (with_reducible apply XL.nilT) | (with_reducible apply XC.seq) | (with_reducible apply XC.region (Γ := Γ)) | (with_reducible apply XQ.ret) | (with_reducible apply XQ.exit) | (with_reducible apply XQ.nt) | (with_reducible apply XQ.et) | ((with_reducible apply XQ.eb); (case hb => exact rfl))))
    ((with_reducible apply XQ.retE); (case hr => exact .t rfl .nil))
    show Value.int .i64 0 = _
    rw [errV_ok ⟨hz1, hz2, hz3, hnd, hok⟩]
  obtain ⟨p, hj⟩ : ∃ p, Ps[j]? = some p := ⟨_, List.getElem?_eq_getElem (by omega)⟩
  have hbad : ¬ pairAt B.length 16 Ps j p → Value.int .i64 50 = .int .i64 (errV ⟨B, Ps⟩) := fun hn => by
    rw [errV_no]
    intro h
    have h5 := h.2.2.2.2
    change pairsOk B.length 16 Ps.reverse at h5
    rw [← pre_all] at h5
    exact hn ((pairs_succ hj).1 (pairs_mono (by omega) (Nat.le_refl _) h5)).2
  have eo : IntKind.i64.wrap (IntKind.i64.wrap ((B.length : Int) + 1) + ((j : Nat) : Int)) = ((B.length + 1 + j : Nat) : Int) := by rw [wrap64_of (x := (B.length : Int) + 1) (by omega) (by omega), wrap64_of (by omega) (by omega)]; omega
  have hr := hP.rawAt hj
  have c0 : cellv (oldv w0 (keys [])) ⟨ablk ap, aoff ap + j * 2 + 0, none⟩ = some (.int .i64 p.1) := hr 0 _ rfl
  have c1 : cellv (oldv w0 (keys [])) ⟨ablk ap, aoff ap + j * 2 + 1, none⟩ = some (.int .i64 p.2) := hr 1 _ rfl
  (repeat (first | (with_reducible apply XL.op) | ((with_reducible apply XOp.p1); (case hg | hv => exact rfl)) | ((with_reducible apply XOp.load); (case hg | ht | hk | hx => exact rfl); (case hc => exact own_cell (i := 1) rfl rfl)) | ((with_reducible apply XOp.pr); (case hg => exact rfl); (case hr => ((with_reducible apply PR.idxA); (case ht | hk | he | hx | hi => exact rfl); (case hr => first | assumption | omega); (case ha => first | assumption | exact SlA.at_ (by assumption))))) | (with_reducible apply XL.nilT) | (with_reducible apply XC.seq) | (with_reducible apply XC.region (Γ := Γ)) | (with_reducible apply XQ.skip) | (with_reducible apply XQ.nt) | (with_reducible apply XC.block)))
  rw [eo]
  (repeat (first | (with_reducible apply XL.op) | ((with_reducible apply XOp.p1); (case hg | hv => exact rfl)) | ((with_reducible apply XOp.load); (case hg | ht | hk | hx => exact rfl); (case hc => exact own_cell (i := 1) rfl rfl)) | ((with_reducible apply XOp.loadO (i := 1)); (case hg | ht | hk | hx | hi | hc => exact rfl)) | ((with_reducible apply XOp.pr); (case hg => exact rfl); (case hr => ((with_reducible apply PR.idxA); (case ht | hk | he | hx | hi => exact rfl); (case hr => first | assumption | omega); (case ha => first | assumption | exact SlA.at_ (by assumption))))) | (with_reducible apply XL.nilT) | (with_reducible apply XC.seq) | (with_reducible apply XC.region (Γ := Γ)) | (first | ((with_reducible apply XOp.load); (case hg | ht | hk | hx => exact rfl); (case hc => exact Known.of_old c0 (Mono.cell _ _))) | ((with_reducible apply XP.load); (case ho | hg | ht | hk | hx => exact rfl); (case hc => exact Known.of_old c0 (Mono.cell _ _)))) | (first | ((with_reducible apply XOp.load); (case hg | ht | hk | hx => exact rfl); (case hc => exact Known.of_old c1 (Mono.cell _ _))) | ((with_reducible apply XP.load); (case ho | hg | ht | hk | hx => exact rfl); (case hc => exact Known.of_old c1 (Mono.cell _ _))))))
  ((with_reducible apply XOp.call (hF := twicePair_fn ⟨(B, ab, cb), (Ps, ap, cp)⟩ j p hj)); (case hg => exact rfl); (case hc => exact rfl); (case ha => exact rfl); (case hL => exact (List.nil_append _).symm); try (case hA => exact Known.true))
  case hA => exact Known.of_old hA (vo_mono _)
  rintro _ _ ⟨rfl, rfl⟩
  have hsl := szs_len B.length (pre Ps j)
  rw [pre_len (by omega)] at hsl
  by_cases hgo : (1 ≤ p.1 ∧ p.1 < B.length + 1 + j) ∧ (1 ≤ p.2 ∧ p.2 < B.length + 1 + j) ∧ p ∉ Ps.take j
  rotate_left
  · have hret := hbad (fun h => hgo ⟨h.2.1, h.2.2.1, h.1⟩)
    by_cases h1 : p.1 < 1
    · (repeat (first | (with_reducible apply XL.op) | ((with_reducible apply XOp.p1); (case hg | hv => exact rfl)) | ((with_reducible apply XOp.p0); (case hg => exact rfl)) | (with_reducible apply XL.nilT) | (with_reducible apply XC.seq) | (with_reducible apply XC.region (Γ := Γ)) | (with_reducible apply XQ.ret) | (with_reducible apply XQ.rt) | (with_reducible apply XQ.rb) | ((with_reducible apply XC.condT); (case hc => exact rfl)) | (first | ((with_reducible apply XOp.split); (case hg | hj | hd | hb => exact rfl); (fail_if_success (case hf => exact fun h => Bool.noConfusion h)); (fail_if_success (case ht => exact fun h => Bool.noConfusion h)); (first | (case ht => intro hb_; try simp only [pd_true, pd_false, Bool.not_eq_true', Bool.not_eq_false', Bool.and_eq_true, Bool.and_eq_false_iff, Bool.or_eq_true, Bool.or_eq_false_iff, not_true_eq_false, not_false_eq_true, Int.not_lt, Int.not_le] at hb_; first | done | (exfalso; first | omega | contradiction)) | (case hf => intro hb_; try simp only [pd_true, pd_false, Bool.not_eq_true', Bool.not_eq_false', Bool.and_eq_true, Bool.and_eq_false_iff, Bool.or_eq_true, Bool.or_eq_false_iff, not_true_eq_false, not_false_eq_true, Int.not_lt, Int.not_le] at hb_; first | done | (exfalso; first | omega | contradiction))); intro hb_; try simp only [pd_true, pd_false, Bool.not_eq_true', Bool.not_eq_false', Bool.and_eq_true, Bool.and_eq_false_iff, Bool.or_eq_true, Bool.or_eq_false_iff, not_true_eq_false, not_false_eq_true, Int.not_lt, Int.not_le] at hb_) | ((with_reducible apply XP.split); (case ho | hg | hj | hd | hb => exact rfl); (fail_if_success (case hf => exact fun h => Bool.noConfusion h)); (fail_if_success (case ht => exact fun h => Bool.noConfusion h)); (first | (case ht => intro hb_; try simp only [pd_true, pd_false, Bool.not_eq_true', Bool.not_eq_false', Bool.and_eq_true, Bool.and_eq_false_iff, Bool.or_eq_true, Bool.or_eq_false_iff, not_true_eq_false, not_false_eq_true, Int.not_lt, Int.not_le] at hb_; first | done | (exfalso; first | omega | contradiction)) | (case hf => intro hb_; try simp only [pd_true, pd_false, Bool.not_eq_true', Bool.not_eq_false', Bool.and_eq_true, Bool.and_eq_false_iff, Bool.or_eq_true, Bool.or_eq_false_iff, not_true_eq_false, not_false_eq_true, Int.not_lt, Int.not_le] at hb_; first | done | (exfalso; first | omega | contradiction))); intro hb_; try simp only [pd_true, pd_false, Bool.not_eq_true', Bool.not_eq_false', Bool.and_eq_true, Bool.and_eq_false_iff, Bool.or_eq_true, Bool.or_eq_false_iff, not_true_eq_false, not_false_eq_true, Int.not_lt, Int.not_le] at hb_) | ((with_reducible apply XC.cond); (case hc => exact rfl); (first | (case ht => intro hb_; try simp only [pd_true, pd_false, Bool.not_eq_true', Bool.not_eq_false', Bool.and_eq_true, Bool.and_eq_false_iff, Bool.or_eq_true, Bool.or_eq_false_iff, not_true_eq_false, not_false_eq_true, Int.not_lt, Int.not_le] at hb_; first | done | (exfalso; first | omega | contradiction)) | (case hf => intro hb_; try simp only [pd_true, pd_false, Bool.not_eq_true', Bool.not_eq_false', Bool.and_eq_true, Bool.and_eq_false_iff, Bool.or_eq_true, Bool.or_eq_false_iff, not_true_eq_false, not_false_eq_true, Int.not_lt, Int.not_le] at hb_; first | done | (exfalso; first | omega | contradiction))); intro hb_; try simp only [pd_true, pd_false, Bool.not_eq_true', Bool.not_eq_false', Bool.and_eq_true, Bool.and_eq_false_iff, Bool.or_eq_true, Bool.or_eq_false_iff, not_true_eq_false, not_false_eq_true, Int.not_lt, Int.not_le] at hb_))))
      ((with_reducible apply XQ.retE); (case hr => exact .t rfl .nil))
      exact hret
    by_cases h2 : p.2 < 1
    · (repeat (first | (with_reducible apply XL.op) | ((with_reducible apply XOp.p1); (case hg | hv => exact rfl)) | ((with_reducible apply XOp.p0); (case hg => exact rfl)) | (with_reducible apply XL.nilT) | (with_reducible apply XC.seq) | (with_reducible apply XC.region (Γ := Γ)) | (with_reducible apply XQ.ret) | (with_reducible apply XQ.rt) | (with_reducible apply XQ.rb) | ((with_reducible apply XC.condT); (case hc => exact rfl)) | (first | ((with_reducible apply XOp.split); (case hg | hj | hd | hb => exact rfl); (fail_if_success (case hf => exact fun h => Bool.noConfusion h)); (fail_if_success (case ht => exact fun h => Bool.noConfusion h)); (first | (case ht => intro hb_; try simp only [pd_true, pd_false, Bool.not_eq_true', Bool.not_eq_false', Bool.and_eq_true, Bool.and_eq_false_iff, Bool.or_eq_true, Bool.or_eq_false_iff, not_true_eq_false, not_false_eq_true, Int.not_lt, Int.not_le] at hb_; first | done | (exfalso; first | omega | contradiction)) | (case hf => intro hb_; try simp only [pd_true, pd_false, Bool.not_eq_true', Bool.not_eq_false', Bool.and_eq_true, Bool.and_eq_false_iff, Bool.or_eq_true, Bool.or_eq_false_iff, not_true_eq_false, not_false_eq_true, Int.not_lt, Int.not_le] at hb_; first | done | (exfalso; first | omega | contradiction))); intro hb_; try simp only [pd_true, pd_false, Bool.not_eq_true', Bool.not_eq_false', Bool.and_eq_true, Bool.and_eq_false_iff, Bool.or_eq_true, Bool.or_eq_false_iff, not_true_eq_false, not_false_eq_true, Int.not_lt, Int.not_le] at hb_) | ((with_reducible apply XP.split); (case ho | hg | hj | hd | hb => exact rfl); (fail_if_success (case hf => exact fun h => Bool.noConfusion h)); (fail_if_success (case ht => exact fun h => Bool.noConfusion h)); (first | (case ht => intro hb_; try simp only [pd_true, pd_false, Bool.not_eq_true', Bool.not_eq_false', Bool.and_eq_true, Bool.and_eq_false_iff, Bool.or_eq_true, Bool.or_eq_false_iff, not_true_eq_false, not_false_eq_true, Int.not_lt, Int.not_le] at hb_; first | done | (exfalso; first | omega | contradiction)) | (case hf => intro hb_; try simp only [pd_true, pd_false, Bool.not_eq_true', Bool.not_eq_false', Bool.and_eq_true, Bool.and_eq_false_iff, Bool.or_eq_true, Bool.or_eq_false_iff, not_true_eq_false, not_false_eq_true, Int.not_lt, Int.not_le] at hb_; first | done | (exfalso; first | omega | contradiction))); intro hb_; try simp only [pd_true, pd_false, Bool.not_eq_true', Bool.not_eq_false', Bool.and_eq_true, Bool.and_eq_false_iff, Bool.or_eq_true, Bool.or_eq_false_iff, not_true_eq_false, not_false_eq_true, Int.not_lt, Int.not_le] at hb_) | ((with_reducible apply XC.cond); (case hc => exact rfl); (first | (case ht => intro hb_; try simp only [pd_true, pd_false, Bool.not_eq_true', Bool.not_eq_false', Bool.and_eq_true, Bool.and_eq_false_iff, Bool.or_eq_true, Bool.or_eq_false_iff, not_true_eq_false, not_false_eq_true, Int.not_lt, Int.not_le] at hb_; first | done | (exfalso; first | omega | contradiction)) | (case hf => intro hb_; try simp only [pd_true, pd_false, Bool.not_eq_true', Bool.not_eq_false', Bool.and_eq_true, Bool.and_eq_false_iff, Bool.or_eq_true, Bool.or_eq_false_iff, not_true_eq_false, not_false_eq_true, Int.not_lt, Int.not_le] at hb_; first | done | (exfalso; first | omega | contradiction))); intro hb_; try simp only [pd_true, pd_false, Bool.not_eq_true', Bool.not_eq_false', Bool.and_eq_true, Bool.and_eq_false_iff, Bool.or_eq_true, Bool.or_eq_false_iff, not_true_eq_false, not_false_eq_true, Int.not_lt, Int.not_le] at hb_))))
      ((with_reducible apply XQ.retE); (case hr => exact .t rfl .nil))
      exact hret
    by_cases h3 : ((B.length + 1 + j : Nat) : Int) ≤ p.1
    · (repeat (first | (with_reducible apply XL.op) | ((with_reducible apply XOp.p1); (case hg | hv => exact rfl)) | ((with_reducible apply XOp.p0); (case hg => exact rfl)) | (with_reducible apply XL.nilT) | (with_reducible apply XC.seq) | (with_reducible apply XC.region (Γ := Γ)) | (with_reducible apply XQ.ret) | (with_reducible apply XQ.rt) | (with_reducible apply XQ.rb) | ((with_reducible apply XC.condT); (case hc => exact rfl)) | (first | ((with_reducible apply XOp.split); (case hg | hj | hd | hb => exact rfl); (fail_if_success (case hf => exact fun h => Bool.noConfusion h)); (fail_if_success (case ht => exact fun h => Bool.noConfusion h)); (first | (case ht => intro hb_; try simp only [pd_true, pd_false, Bool.not_eq_true', Bool.not_eq_false', Bool.and_eq_true, Bool.and_eq_false_iff, Bool.or_eq_true, Bool.or_eq_false_iff, not_true_eq_false, not_false_eq_true, Int.not_lt, Int.not_le] at hb_; first | done | (exfalso; first | omega | contradiction)) | (case hf => intro hb_; try simp only [pd_true, pd_false, Bool.not_eq_true', Bool.not_eq_false', Bool.and_eq_true, Bool.and_eq_false_iff, Bool.or_eq_true, Bool.or_eq_false_iff, not_true_eq_false, not_false_eq_true, Int.not_lt, Int.not_le] at hb_; first | done | (exfalso; first | omega | contradiction))); intro hb_; try simp only [pd_true, pd_false, Bool.not_eq_true', Bool.not_eq_false', Bool.and_eq_true, Bool.and_eq_false_iff, Bool.or_eq_true, Bool.or_eq_false_iff, not_true_eq_false, not_false_eq_true, Int.not_lt, Int.not_le] at hb_) | ((with_reducible apply XP.split); (case ho | hg | hj | hd | hb => exact rfl); (fail_if_success (case hf => exact fun h => Bool.noConfusion h)); (fail_if_success (case ht => exact fun h => Bool.noConfusion h)); (first | (case ht => intro hb_; try simp only [pd_true, pd_false, Bool.not_eq_true', Bool.not_eq_false', Bool.and_eq_true, Bool.and_eq_false_iff, Bool.or_eq_true, Bool.or_eq_false_iff, not_true_eq_false, not_false_eq_true, Int.not_lt, Int.not_le] at hb_; first | done | (exfalso; first | omega | contradiction)) | (case hf => intro hb_; try simp only [pd_true, pd_false, Bool.not_eq_true', Bool.not_eq_false', Bool.and_eq_true, Bool.and_eq_false_iff, Bool.or_eq_true, Bool.or_eq_false_iff, not_true_eq_false, not_false_eq_true, Int.not_lt, Int.not_le] at hb_; first | done | (exfalso; first | omega | contradiction))); intro hb_; try simp only [pd_true, pd_false, Bool.not_eq_true', Bool.not_eq_false', Bool.and_eq_true, Bool.and_eq_false_iff, Bool.or_eq_true, Bool.or_eq_false_iff, not_true_eq_false, not_false_eq_true, Int.not_lt, Int.not_le] at hb_) | ((with_reducible apply XC.cond); (case hc => exact rfl); (first | (case ht => intro hb_; try simp only [pd_true, pd_false, Bool.not_eq_true', Bool.not_eq_false', Bool.and_eq_true, Bool.and_eq_false_iff, Bool.or_eq_true, Bool.or_eq_false_iff, not_true_eq_false, not_false_eq_true, Int.not_lt, Int.not_le] at hb_; first | done | (exfalso; first | omega | contradiction)) | (case hf => intro hb_; try simp only [pd_true, pd_false, Bool.not_eq_true', Bool.not_eq_false', Bool.and_eq_true, Bool.and_eq_false_iff, Bool.or_eq_true, Bool.or_eq_false_iff, not_true_eq_false, not_false_eq_true, Int.not_lt, Int.not_le] at hb_; first | done | (exfalso; first | omega | contradiction))); intro hb_; try simp only [pd_true, pd_false, Bool.not_eq_true', Bool.not_eq_false', Bool.and_eq_true, Bool.and_eq_false_iff, Bool.or_eq_true, Bool.or_eq_false_iff, not_true_eq_false, not_false_eq_true, Int.not_lt, Int.not_le] at hb_))))
      ((with_reducible apply XQ.retE); (case hr => exact .t rfl .nil))
      exact hret
    by_cases h4 : ((B.length + 1 + j : Nat) : Int) ≤ p.2
    · (repeat (first | (with_reducible apply XL.op) | ((with_reducible apply XOp.p1); (case hg | hv => exact rfl)) | ((with_reducible apply XOp.p0); (case hg => exact rfl)) | (with_reducible apply XL.nilT) | (with_reducible apply XC.seq) | (with_reducible apply XC.region (Γ := Γ)) | (with_reducible apply XQ.ret) | (with_reducible apply XQ.rt) | (with_reducible apply XQ.rb) | ((with_reducible apply XC.condT); (case hc => exact rfl)) | (first | ((with_reducible apply XOp.split); (case hg | hj | hd | hb => exact rfl); (fail_if_success (case hf => exact fun h => Bool.noConfusion h)); (fail_if_success (case ht => exact fun h => Bool.noConfusion h)); (first | (case ht => intro hb_; try simp only [pd_true, pd_false, Bool.not_eq_true', Bool.not_eq_false', Bool.and_eq_true, Bool.and_eq_false_iff, Bool.or_eq_true, Bool.or_eq_false_iff, not_true_eq_false, not_false_eq_true, Int.not_lt, Int.not_le] at hb_; first | done | (exfalso; first | omega | contradiction)) | (case hf => intro hb_; try simp only [pd_true, pd_false, Bool.not_eq_true', Bool.not_eq_false', Bool.and_eq_true, Bool.and_eq_false_iff, Bool.or_eq_true, Bool.or_eq_false_iff, not_true_eq_false, not_false_eq_true, Int.not_lt, Int.not_le] at hb_; first | done | (exfalso; first | omega | contradiction))); intro hb_; try simp only [pd_true, pd_false, Bool.not_eq_true', Bool.not_eq_false', Bool.and_eq_true, Bool.and_eq_false_iff, Bool.or_eq_true, Bool.or_eq_false_iff, not_true_eq_false, not_false_eq_true, Int.not_lt, Int.not_le] at hb_) | ((with_reducible apply XP.split); (case ho | hg | hj | hd | hb => exact rfl); (fail_if_success (case hf => exact fun h => Bool.noConfusion h)); (fail_if_success (case ht => exact fun h => Bool.noConfusion h)); (first | (case ht => intro hb_; try simp only [pd_true, pd_false, Bool.not_eq_true', Bool.not_eq_false', Bool.and_eq_true, Bool.and_eq_false_iff, Bool.or_eq_true, Bool.or_eq_false_iff, not_true_eq_false, not_false_eq_true, Int.not_lt, Int.not_le] at hb_; first | done | (exfalso; first | omega | contradiction)) | (case hf => intro hb_; try simp only [pd_true, pd_false, Bool.not_eq_true', Bool.not_eq_false', Bool.and_eq_true, Bool.and_eq_false_iff, Bool.or_eq_true, Bool.or_eq_false_iff, not_true_eq_false, not_false_eq_true, Int.not_lt, Int.not_le] at hb_; first | done | (exfalso; first | omega | contradiction))); intro hb_; try simp only [pd_true, pd_false, Bool.not_eq_true', Bool.not_eq_false', Bool.and_eq_true, Bool.and_eq_false_iff, Bool.or_eq_true, Bool.or_eq_false_iff, not_true_eq_false, not_false_eq_true, Int.not_lt, Int.not_le] at hb_) | ((with_reducible apply XC.cond); (case hc => exact rfl); (first | (case ht => intro hb_; try simp only [pd_true, pd_false, Bool.not_eq_true', Bool.not_eq_false', Bool.and_eq_true, Bool.and_eq_false_iff, Bool.or_eq_true, Bool.or_eq_false_iff, not_true_eq_false, not_false_eq_true, Int.not_lt, Int.not_le] at hb_; first | done | (exfalso; first | omega | contradiction)) | (case hf => intro hb_; try simp only [pd_true, pd_false, Bool.not_eq_true', Bool.not_eq_false', Bool.and_eq_true, Bool.and_eq_false_iff, Bool.or_eq_true, Bool.or_eq_false_iff, not_true_eq_false, not_false_eq_true, Int.not_lt, Int.not_le] at hb_; first | done | (exfalso; first | omega | contradiction))); intro hb_; try simp only [pd_true, pd_false, Bool.not_eq_true', Bool.not_eq_false', Bool.and_eq_true, Bool.and_eq_false_iff, Bool.or_eq_true, Bool.or_eq_false_iff, not_true_eq_false, not_false_eq_true, Int.not_lt, Int.not_le] at hb_))))
      ((with_reducible apply XQ.retE); (case hr => exact .t rfl .nil))
      exact hret
    have h5 : p ∈ Ps.take j := Classical.not_not.1 fun h => hgo ⟨⟨by omega, by omega⟩, ⟨by omega, by omega⟩, h⟩
    rw [pdt h5]
    (repeat (first | (with_reducible apply XL.op) | ((with_reducible apply XOp.p1); (case hg | hv => exact rfl)) | (with_reducible apply XL.nilT) | (with_reducible apply XC.seq) | (with_reducible apply XC.region (Γ := Γ)) | (with_reducible apply XQ.ret) | (with_reducible apply XQ.rt) | (with_reducible apply XQ.rb) | ((with_reducible apply XC.condT); (case hc => exact rfl)) | (first | ((with_reducible apply XOp.split); (case hg | hj | hd | hb => exact rfl); (fail_if_success (case hf => exact fun h => Bool.noConfusion h)); (fail_if_success (case ht => exact fun h => Bool.noConfusion h)); (first | (case ht => intro hb_; try simp only [pd_true, pd_false, Bool.not_eq_true', Bool.not_eq_false', Bool.and_eq_true, Bool.and_eq_false_iff, Bool.or_eq_true, Bool.or_eq_false_iff, not_true_eq_false, not_false_eq_true, Int.not_lt, Int.not_le] at hb_; first | done | (exfalso; first | omega | contradiction)) | (case hf => intro hb_; try simp only [pd_true, pd_false, Bool.not_eq_true', Bool.not_eq_false', Bool.and_eq_true, Bool.and_eq_false_iff, Bool.or_eq_true, Bool.or_eq_false_iff, not_true_eq_false, not_false_eq_true, Int.not_lt, Int.not_le] at hb_; first | done | (exfalso; first | omega | contradiction))); intro hb_; try simp only [pd_true, pd_false, Bool.not_eq_true', Bool.not_eq_false', Bool.and_eq_true, Bool.and_eq_false_iff, Bool.or_eq_true, Bool.or_eq_false_iff, not_true_eq_false, not_false_eq_true, Int.not_lt, Int.not_le] at hb_) | ((with_reducible apply XP.split); (case ho | hg | hj | hd | hb => exact rfl); (fail_if_success (case hf => exact fun h => Bool.noConfusion h)); (fail_if_success (case ht => exact fun h => Bool.noConfusion h)); (first | (case ht => intro hb_; try simp only [pd_true, pd_false, Bool.not_eq_true', Bool.not_eq_false', Bool.and_eq_true, Bool.and_eq_false_iff, Bool.or_eq_true, Bool.or_eq_false_iff, not_true_eq_false, not_false_eq_true, Int.not_lt, Int.not_le] at hb_; first | done | (exfalso; first | omega | contradiction)) | (case hf => intro hb_; try simp only [pd_true, pd_false, Bool.not_eq_true', Bool.not_eq_false', Bool.and_eq_true, Bool.and_eq_false_iff, Bool.or_eq_true, Bool.or_eq_false_iff, not_true_eq_false, not_false_eq_true, Int.not_lt, Int.not_le] at hb_; first | done | (exfalso; first | omega | contradiction))); intro hb_; try simp only [pd_true, pd_false, Bool.not_eq_true', Bool.not_eq_false', Bool.and_eq_true, Bool.and_eq_false_iff, Bool.or_eq_true, Bool.or_eq_false_iff, not_true_eq_false, not_false_eq_true, Int.not_lt, Int.not_le] at hb_) | ((with_reducible apply XC.cond); (case hc => exact rfl); (first | (case ht => intro hb_; try simp only [pd_true, pd_false, Bool.not_eq_true', Bool.not_eq_false', Bool.and_eq_true, Bool.and_eq_false_iff, Bool.or_eq_true, Bool.or_eq_false_iff, not_true_eq_false, not_false_eq_true, Int.not_lt, Int.not_le] at hb_; first | done | (exfalso; first | omega | contradiction)) | (case hf => intro hb_; try simp only [pd_true, pd_false, Bool.not_eq_true', Bool.not_eq_false', Bool.and_eq_true, Bool.and_eq_false_iff, Bool.or_eq_true, Bool.or_eq_false_iff, not_true_eq_false, not_false_eq_true, Int.not_lt, Int.not_le] at hb_; first | done | (exfalso; first | omega | contradiction))); intro hb_; try simp only [pd_true, pd_false, Bool.not_eq_true', Bool.not_eq_false', Bool.and_eq_true, Bool.and_eq_false_iff, Bool.or_eq_true, Bool.or_eq_false_iff, not_true_eq_false, not_false_eq_true, Int.not_lt, Int.not_le] at hb_))))
    ((with_reducible apply XQ.retE); (case hr => exact .t rfl .nil))
    exact hret
  obtain ⟨hp1, hp2, hpn⟩ := hgo
  rw [pdf hpn]
  (repeat (first | (with_reducible apply XL.op) | ((with_reducible apply XOp.p1); (case hg | hv => exact rfl)) | (with_reducible apply XL.nilT) | (with_reducible apply XC.seq) | (with_reducible apply XC.region (Γ := Γ)) | (with_reducible apply XQ.skip) | (with_reducible apply XQ.nt) | ((with_reducible apply XC.condF); (case hc => exact rfl)) | (first | ((with_reducible apply XOp.split); (case hg | hj | hd | hb => exact rfl); (fail_if_success (case hf => exact fun h => Bool.noConfusion h)); (fail_if_success (case ht => exact fun h => Bool.noConfusion h)); (first | (case ht => intro hb_; try simp only [pd_true, pd_false, Bool.not_eq_true', Bool.not_eq_false', Bool.and_eq_true, Bool.and_eq_false_iff, Bool.or_eq_true, Bool.or_eq_false_iff, not_true_eq_false, not_false_eq_true, Int.not_lt, Int.not_le] at hb_; first | done | (exfalso; first | omega | contradiction)) | (case hf => intro hb_; try simp only [pd_true, pd_false, Bool.not_eq_true', Bool.not_eq_false', Bool.and_eq_true, Bool.and_eq_false_iff, Bool.or_eq_true, Bool.or_eq_false_iff, not_true_eq_false, not_false_eq_true, Int.not_lt, Int.not_le] at hb_; first | done | (exfalso; first | omega | contradiction))); intro hb_; try simp only [pd_true, pd_false, Bool.not_eq_true', Bool.not_eq_false', Bool.and_eq_true, Bool.and_eq_false_iff, Bool.or_eq_true, Bool.or_eq_false_iff, not_true_eq_false, not_false_eq_true, Int.not_lt, Int.not_le] at hb_) | ((with_reducible apply XP.split); (case ho | hg | hj | hd | hb => exact rfl); (fail_if_success (case hf => exact fun h => Bool.noConfusion h)); (fail_if_success (case ht => exact fun h => Bool.noConfusion h)); (first | (case ht => intro hb_; try simp only [pd_true, pd_false, Bool.not_eq_true', Bool.not_eq_false', Bool.and_eq_true, Bool.and_eq_false_iff, Bool.or_eq_true, Bool.or_eq_false_iff, not_true_eq_false, not_false_eq_true, Int.not_lt, Int.not_le] at hb_; first | done | (exfalso; first | omega | contradiction)) | (case hf => intro hb_; try simp only [pd_true, pd_false, Bool.not_eq_true', Bool.not_eq_false', Bool.and_eq_true, Bool.and_eq_false_iff, Bool.or_eq_true, Bool.or_eq_false_iff, not_true_eq_false, not_false_eq_true, Int.not_lt, Int.not_le] at hb_; first | done | (exfalso; first | omega | contradiction))); intro hb_; try simp only [pd_true, pd_false, Bool.not_eq_true', Bool.not_eq_false', Bool.and_eq_true, Bool.and_eq_false_iff, Bool.or_eq_true, Bool.or_eq_false_iff, not_true_eq_false, not_false_eq_true, Int.not_lt, Int.not_le] at hb_) | ((with_reducible apply XC.cond); (case hc => exact rfl); (first | (case ht => intro hb_; try simp only [pd_true, pd_false, Bool.not_eq_true', Bool.not_eq_false', Bool.and_eq_true, Bool.and_eq_false_iff, Bool.or_eq_true, Bool.or_eq_false_iff, not_true_eq_false, not_false_eq_true, Int.not_lt, Int.not_le] at hb_; first | done | (exfalso; first | omega | contradiction)) | (case hf => intro hb_; try simp only [pd_true, pd_false, Bool.not_eq_true', Bool.not_eq_false', Bool.and_eq_true, Bool.and_eq_false_iff, Bool.or_eq_true, Bool.or_eq_false_iff, not_true_eq_false, not_false_eq_true, Int.not_lt, Int.not_le] at hb_; first | done | (exfalso; first | omega | contradiction))); intro hb_; try simp only [pd_true, pd_false, Bool.not_eq_true', Bool.not_eq_false', Bool.and_eq_true, Bool.and_eq_false_iff, Bool.or_eq_true, Bool.or_eq_false_iff, not_true_eq_false, not_false_eq_true, Int.not_lt, Int.not_le] at hb_))))
  have hc1 : (szL (szs B.length (pre Ps j)))[p.1.toNat]? = some (.int .i64 (((szs B.length (pre Ps j))[p.1.toNat]?.getD 0 : Nat) : Int)) := szL_at (by omega)
  have hc2 : (szL (szs B.length (pre Ps j)))[p.2.toNat]? = some (.int .i64 (((szs B.length (pre Ps j))[p.2.toNat]?.getD 0 : Nat) : Int)) := szL_at (by omega)
  have hs1 := szs_at_small (mx := 16) (by omega) hok p.1.toNat
  have hs2 := szs_at_small (mx := 16) (by omega) hok p.2.toNat
  have hsum : IntKind.i64.wrap ((((szs B.length (pre Ps j))[p.1.toNat]?.getD 0 : Nat) : Int) + (((szs B.length (pre Ps j))[p.2.toNat]?.getD 0 : Nat) : Int)) = (((szs B.length (pre Ps j))[p.1.toNat]?.getD 0 + (szs B.length (pre Ps j))[p.2.toNat]?.getD 0 : Nat) : Int) := by rw [wrap64_of (by omega) (by omega)]; omega
  ((with_reducible apply XC.regionD (Γ := Γ) mixed (.q 0 (.q 1 (.q 2 (.q 3 (.q 4 (.q 5 (.q 6 (.q 7 (.q 8 (.e 9 (.done))))))))))) [9] []); (case hc => kernel_rfl))
  (repeat (first | ((with_reducible apply XP.p1); (case ho | hg | hv => exact rfl)) | ((with_reducible apply XP.pr); (case ho => exact rfl); (case hg => exact rfl); (case hr => ((with_reducible apply PR.aidx); (case ht | hk | he | hx | hi => exact rfl); (case hr => first | assumption | omega)))) | ((with_reducible apply XP.e); (first | ((with_reducible apply XE.d); (case ho => exact rfl); (case hd => exact rfl)) | ((with_reducible apply XE.e); (case ho => exact rfl)))) | (first | ((with_reducible apply XOp.load); (case hg | ht | hk | hx => exact rfl); (case hc => exact own_cell (i := 0) rfl (by rw [show 0 + p.1.toNat * 1 = p.1.toNat by omega]; exact hc1))) | ((with_reducible apply XP.load); (case ho | hg | ht | hk | hx => exact rfl); (case hc => exact own_cell (i := 0) rfl (by rw [show 0 + p.1.toNat * 1 = p.1.toNat by omega]; exact hc1)))) | (first | ((with_reducible apply XOp.load); (case hg | ht | hk | hx => exact rfl); (case hc => exact own_cell (i := 0) rfl (by rw [show 0 + p.2.toNat * 1 = p.2.toNat by omega]; exact hc2))) | ((with_reducible apply XP.load); (case ho | hg | ht | hk | hx => exact rfl); (case hc => exact own_cell (i := 0) rfl (by rw [show 0 + p.2.toNat * 1 = p.2.toNat by omega]; exact hc2))))))
  rw [hsum]
  have hset := szL_set (l := szs B.length (pre Ps j)) (m := (szs B.length (pre Ps j))[p.1.toNat]?.getD 0 + (szs B.length (pre Ps j))[p.2.toNat]?.getD 0) (by omega)
  rw [hsl, ← szs_succ hj] at hset
  ((with_reducible apply XOp.storeE (i := 0) (cs' := szL (szs B.length (pre Ps (j + 1))))); (case hg => exact rfl); (case ht => exact rfl); (case hk => exact rfl); (case hx => exact rfl); (case hv' => exact rfl); (case h1 => exact rfl); (case hi => exact rfl); (case hs => exact (show 0 + ((B.length + 1 + j : Nat) : Int).toNat * 1 < _ ∧ List.set _ (0 + ((B.length + 1 + j : Nat) : Int).toNat * 1) _ = _ from (by rw [show 0 + ((B.length + 1 + j : Nat) : Int).toNat * 1 = B.length + 1 + j by omega]; exact ⟨by rw [szL_len (by omega)]; omega, hset⟩))); (case ha => exact rfl))
  have hc3 : (szL (szs B.length (pre Ps (j + 1))))[B.length + 1 + j]? = some (.int .i64 (((szs B.length (pre Ps j))[p.1.toNat]?.getD 0 + (szs B.length (pre Ps j))[p.2.toNat]?.getD 0 : Nat) : Int)) := by
    rw [szL_at (by omega), szs_succ hj, List.getElem?_append_right (by omega), hsl, Nat.sub_self]; rfl
  (repeat (first | (with_reducible apply XL.op) | ((with_reducible apply XOp.p1); (case hg | hv => exact rfl)) | ((with_reducible apply XOp.pr); (case hg => exact rfl); (case hr => ((with_reducible apply PR.aidx); (case ht | hk | he | hx | hi => exact rfl); (case hr => first | assumption | omega)))) | (with_reducible apply XL.nilT) | (with_reducible apply XC.seq) | (with_reducible apply XC.region (Γ := Γ)) | (with_reducible apply XQ.nt) | (with_reducible apply XP.done) | (first | ((with_reducible apply XOp.load); (case hg | ht | hk | hx => exact rfl); (case hc => exact own_cell (i := 0) rfl (by rw [show 0 + ((B.length + 1 + j : Nat) : Int).toNat * 1 = B.length + 1 + j by omega]; exact hc3))) | ((with_reducible apply XP.load); (case ho | hg | ht | hk | hx => exact rfl); (case hc => exact own_cell (i := 0) rfl (by rw [show 0 + ((B.length + 1 + j : Nat) : Int).toNat * 1 = B.length + 1 + j by omega]; exact hc3))))))
  ((with_reducible apply XC.cond); (case hc => exact rfl); all_goals (intro hb_; try simp only [pd_true, pd_false, Bool.not_eq_true', Bool.not_eq_false', Bool.and_eq_true, Bool.and_eq_false_iff, Bool.or_eq_true, Bool.or_eq_false_iff, not_true_eq_false, not_false_eq_true, Int.not_lt, Int.not_le] at hb_))
  · (repeat (first | (with_reducible apply XL.op) | ((with_reducible apply XOp.p1); (case hg | hv => exact rfl)) | (with_reducible apply XL.nilT) | (with_reducible apply XC.seq) | (with_reducible apply XC.region (Γ := Γ)) | (with_reducible apply XQ.ret) | (with_reducible apply XQ.rt) | (with_reducible apply XQ.rb)))
    ((with_reducible apply XQ.retE); (case hr => exact .t rfl .nil))
    exact hbad (fun h => by have := h.2.2.2; omega)
  (repeat (first | (with_reducible apply XL.op) | ((with_reducible apply XOp.p1); (case hg | hv => exact rfl)) | (with_reducible apply XL.nilT) | (with_reducible apply XC.region (Γ := Γ)) | (with_reducible apply XQ.skip) | (with_reducible apply XQ.nt) | (with_reducible apply XQ.nb)))
  exact ⟨k - 1, by omega, _, .of (List.Sublist.refl _), j + 1, by omega, (pairs_succ hj).2 ⟨hok, hpn, hp1, hp2, by omega⟩, rfl, rfl, rfl, rfl, intS (m := Ps.length) (by omega) (by omega), trivial⟩
end Go.Proofs.YtopdcegeffnelaaGreatDoorX
/- bpe.Check and Size, both sides; New's error. -/
namespace Go.Proofs.YtopdcegeffnelaaGreatDoorX
open Go Go.SX

theorem bpeCheck_fn (x : LVo) : FC Tryz.prog 21 [.agg ⟨x.cells⟩] [] (fun h => voAt h x) (fun v L => v = .int .i64 (errV x.voc) ∧ L = []) := by
  refine FC.nil ?_
  refine FC.intro Tryz.func21 rfl (by kernel_rfl) 6 [.tmp 2] rfl rfl rfl ?_
  intro w0 hA
  (repeat (first | (with_reducible apply XL.op) | (with_reducible apply XC.seq) | (with_reducible apply XC.region (Γ := Γ))))
  ((with_reducible apply XOp.box); (case hg | hx' => exact rfl); intro ub)
  (repeat (first | (with_reducible apply XL.op) | ((with_reducible apply XOp.p1); (case hg | hv => exact rfl)) | ((with_reducible apply XOp.loadO (i := 0)); (case hg | ht | hk | hx | hi | hc => exact rfl)) | (with_reducible apply XL.nilT) | (with_reducible apply XC.seq) | (with_reducible apply XC.region (Γ := Γ))))
  ((with_reducible apply XOp.callN (hF := pieces_fn x)); (case hg => exact rfl); (case hc => exact rfl); (case ha => exact rfl); try (case hA => exact Known.true))
  case hA => exact Known.of_old hA (vo_mono _)
  rintro _ F (⟨hno, rfl, rfl⟩ | ⟨hok, g, c, rfl, rfl⟩)
  · (repeat (first | (with_reducible apply XL.op) | ((with_reducible apply XOp.p1); (case hg | hv => exact rfl)) | (with_reducible apply XL.nilT) | (with_reducible apply XC.seq) | (with_reducible apply XC.region (Γ := Γ)) | (with_reducible apply XQ.ret) | (with_reducible apply XQ.rt) | ((with_reducible apply XC.condT); (case hc => exact rfl)) | (first | ((with_reducible apply XOp.pr); (case hg => exact rfl); (case hr => (with_reducible apply PR.eqNilS); (case ht => exact rfl); (case hk => exact rfl); (case hx => exact rfl); (case hy => exact rfl))) | ((with_reducible apply XP.pr); (case ho => exact rfl); (case hg => exact rfl); (case hr => (with_reducible apply PR.eqNilS); (case ht => exact rfl); (case hk => exact rfl); (case hx => exact rfl); (case hy => exact rfl))))))
    ((with_reducible apply XQ.retE); (case hr => exact .t rfl .nil))
    rw [errV_no hno]; rfl
  · (repeat (first | (with_reducible apply XL.op) | ((with_reducible apply XOp.p1); (case hg | hv => exact rfl)) | (with_reducible apply XL.nilT) | (with_reducible apply XC.seq) | (with_reducible apply XC.region (Γ := Γ)) | (with_reducible apply XQ.skip) | (with_reducible apply XQ.ret) | (with_reducible apply XQ.nt) | ((with_reducible apply XC.condF); (case hc => exact rfl)) | (first | ((with_reducible apply XOp.pr); (case hg => exact rfl); (case hr => (with_reducible apply PR.eqNilS); (case ht => exact rfl); (case hk => exact rfl); (case hx => exact rfl); (case hy => exact rfl))) | ((with_reducible apply XP.pr); (case ho => exact rfl); (case hg => exact rfl); (case hr => (with_reducible apply PR.eqNilS); (case ht => exact rfl); (case hk => exact rfl); (case hx => exact rfl); (case hy => exact rfl))))))
    ((with_reducible apply XQ.retE); (case hr => exact .t rfl .nil))
    rw [errV_ok hok]; rfl
theorem bpeSize_fn (x : LVo) : FC Tryz.prog 22 [.agg ⟨x.cells⟩] [] (fun h => voAt h x) (fun v L => v = .int .i64 ((sizeV x.voc : Nat) : Int) ∧ L = []) := by
  refine FC.nil ?_
  refine FC.intro Tryz.func22 rfl (by kernel_rfl) 6 [.tmp 2] rfl rfl rfl ?_
  intro w0 hA
  (repeat (first | (with_reducible apply XL.op) | (with_reducible apply XC.seq) | (with_reducible apply XC.region (Γ := Γ))))
  ((with_reducible apply XOp.box); (case hg | hx' => exact rfl); intro ub)
  (repeat (first | (with_reducible apply XL.op) | ((with_reducible apply XOp.p1); (case hg | hv => exact rfl)) | ((with_reducible apply XOp.loadO (i := 0)); (case hg | ht | hk | hx | hi | hc => exact rfl)) | (with_reducible apply XL.nilT) | (with_reducible apply XC.seq) | (with_reducible apply XC.region (Γ := Γ))))
  ((with_reducible apply XOp.callN (hF := pieces_fn x)); (case hg => exact rfl); (case hc => exact rfl); (case ha => exact rfl); try (case hA => exact Known.true))
  case hA => exact Known.of_old hA (vo_mono _)
  rintro _ F (⟨hno, rfl, rfl⟩ | ⟨hok, g, c, rfl, rfl⟩)
  · (repeat (first | (with_reducible apply XL.op) | ((with_reducible apply XOp.p1); (case hg | hv => exact rfl)) | (with_reducible apply XL.nilT) | (with_reducible apply XQ.ret)))
    ((with_reducible apply XQ.retE); (case hr => exact .t rfl .nil))
    rw [sizeV_no hno]; rfl
  · (repeat (first | (with_reducible apply XL.op) | ((with_reducible apply XOp.p1); (case hg | hv => exact rfl)) | (with_reducible apply XL.nilT) | (with_reducible apply XQ.ret)))
    ((with_reducible apply XQ.retE); (case hr => exact .t rfl .nil))
    rw [sizeV_ok hok]; rfl
theorem refSize_fn (x : LVo) : FC Tryz.prog 67 [.agg ⟨x.cells⟩] [] (fun h => voAt h x) (fun v L => v = .int .i64 ((sizeV x.voc : Nat) : Int) ∧ L = []) := by
  refine FC.nil ?_
  obtain ⟨⟨B, ab, cb⟩, ⟨Ps, ap, cp⟩⟩ := x
  show FC _ _ _ _ _ (fun v _ => v = .int .i64 ((sizeV ⟨B, Ps⟩ : Nat) : Int))
  refine FC.intro Tryz.func67 rfl (by kernel_rfl) 14 [.tmp 2] rfl rfl rfl ?_
  intro w0 hA
  have hbs := hA.bs
  have hps := hA.ps
  change B.length ≤ _ at hbs
  change Ps.length * 16 ≤ _ at hps
  have ew : IntKind.i64.wrap (IntKind.i64.wrap (1 + (B.length : Int)) + (Ps.length : Int)) = ((1 + B.length + Ps.length : Nat) : Int) := by rw [wrap64_of (x := 1 + (B.length : Int)) (by omega) (by omega), wrap64_of (by omega) (by omega)]; omega
  (repeat (first | (with_reducible apply XL.op) | (with_reducible apply XC.seq) | (with_reducible apply XC.region (Γ := Γ))))
  ((with_reducible apply XOp.box); (case hg | hx' => exact rfl); intro ub)
  (repeat (first | (with_reducible apply XL.op) | ((with_reducible apply XOp.p1); (case hg | hv => exact rfl)) | ((with_reducible apply XOp.loadO (i := 0)); (case hg | ht | hk | hx | hi | hc => exact rfl)) | (with_reducible apply XL.nilT) | (with_reducible apply XC.seq) | (with_reducible apply XC.region (Γ := Γ))))
  ((with_reducible apply XOp.callN (hF := refBpe_fn ⟨(B, ab, cb), (Ps, ap, cp)⟩)); (case hg => exact rfl); (case hc => exact rfl); (case ha => exact rfl); try (case hA => exact Known.true))
  case hA => exact Known.of_old hA (vo_mono _)
  rintro _ F ⟨rfl, rfl⟩
  by_cases hv : vocOk ⟨B, Ps⟩
  · rw [show errV (LVo.voc ⟨(B, ab, cb), (Ps, ap, cp)⟩) = 0 from errV_ok hv]
    (repeat (first | (with_reducible apply XL.op) | ((with_reducible apply XOp.p1); (case hg | hv => exact rfl)) | ((with_reducible apply XOp.load); (case hg | ht | hk | hx => exact rfl); (case hc => exact own_cell (i := 0) rfl rfl)) | (with_reducible apply XL.nilT) | (with_reducible apply XC.seq) | (with_reducible apply XC.region (Γ := Γ)) | (with_reducible apply XQ.skip) | (with_reducible apply XQ.ret) | (with_reducible apply XQ.nt) | (first | ((with_reducible apply XOp.split); (case hg | hj | hd | hb => exact rfl); (fail_if_success (case hf => exact fun h => Bool.noConfusion h)); (fail_if_success (case ht => exact fun h => Bool.noConfusion h)); (first | (case ht => intro hb_; try simp only [pd_true, pd_false, Bool.not_eq_true', Bool.not_eq_false', Bool.and_eq_true, Bool.and_eq_false_iff, Bool.or_eq_true, Bool.or_eq_false_iff, not_true_eq_false, not_false_eq_true, Int.not_lt, Int.not_le] at hb_; first | done | (exfalso; first | omega | contradiction)) | (case hf => intro hb_; try simp only [pd_true, pd_false, Bool.not_eq_true', Bool.not_eq_false', Bool.and_eq_true, Bool.and_eq_false_iff, Bool.or_eq_true, Bool.or_eq_false_iff, not_true_eq_false, not_false_eq_true, Int.not_lt, Int.not_le] at hb_; first | done | (exfalso; first | omega | contradiction))); intro hb_; try simp only [pd_true, pd_false, Bool.not_eq_true', Bool.not_eq_false', Bool.and_eq_true, Bool.and_eq_false_iff, Bool.or_eq_true, Bool.or_eq_false_iff, not_true_eq_false, not_false_eq_true, Int.not_lt, Int.not_le] at hb_) | ((with_reducible apply XP.split); (case ho | hg | hj | hd | hb => exact rfl); (fail_if_success (case hf => exact fun h => Bool.noConfusion h)); (fail_if_success (case ht => exact fun h => Bool.noConfusion h)); (first | (case ht => intro hb_; try simp only [pd_true, pd_false, Bool.not_eq_true', Bool.not_eq_false', Bool.and_eq_true, Bool.and_eq_false_iff, Bool.or_eq_true, Bool.or_eq_false_iff, not_true_eq_false, not_false_eq_true, Int.not_lt, Int.not_le] at hb_; first | done | (exfalso; first | omega | contradiction)) | (case hf => intro hb_; try simp only [pd_true, pd_false, Bool.not_eq_true', Bool.not_eq_false', Bool.and_eq_true, Bool.and_eq_false_iff, Bool.or_eq_true, Bool.or_eq_false_iff, not_true_eq_false, not_false_eq_true, Int.not_lt, Int.not_le] at hb_; first | done | (exfalso; first | omega | contradiction))); intro hb_; try simp only [pd_true, pd_false, Bool.not_eq_true', Bool.not_eq_false', Bool.and_eq_true, Bool.and_eq_false_iff, Bool.or_eq_true, Bool.or_eq_false_iff, not_true_eq_false, not_false_eq_true, Int.not_lt, Int.not_le] at hb_) | ((with_reducible apply XC.cond); (case hc => exact rfl); (first | (case ht => intro hb_; try simp only [pd_true, pd_false, Bool.not_eq_true', Bool.not_eq_false', Bool.and_eq_true, Bool.and_eq_false_iff, Bool.or_eq_true, Bool.or_eq_false_iff, not_true_eq_false, not_false_eq_true, Int.not_lt, Int.not_le] at hb_; first | done | (exfalso; first | omega | contradiction)) | (case hf => intro hb_; try simp only [pd_true, pd_false, Bool.not_eq_true', Bool.not_eq_false', Bool.and_eq_true, Bool.and_eq_false_iff, Bool.or_eq_true, Bool.or_eq_false_iff, not_true_eq_false, not_false_eq_true, Int.not_lt, Int.not_le] at hb_; first | done | (exfalso; first | omega | contradiction))); intro hb_; try simp only [pd_true, pd_false, Bool.not_eq_true', Bool.not_eq_false', Bool.and_eq_true, Bool.and_eq_false_iff, Bool.or_eq_true, Bool.or_eq_false_iff, not_true_eq_false, not_false_eq_true, Int.not_lt, Int.not_le] at hb_))))
    rw [ew]
    skip
    ((with_reducible apply XQ.retE); (case hr => exact .t rfl .nil))
    rw [sizeV_ok hv]; rfl
  · rw [show errV (LVo.voc ⟨(B, ab, cb), (Ps, ap, cp)⟩) = 50 from errV_no hv]
    (repeat (first | (with_reducible apply XL.op) | ((with_reducible apply XOp.p1); (case hg | hv => exact rfl)) | (with_reducible apply XL.nilT) | (with_reducible apply XC.seq) | (with_reducible apply XC.region (Γ := Γ)) | (with_reducible apply XQ.ret) | (with_reducible apply XQ.rt) | (first | ((with_reducible apply XOp.split); (case hg | hj | hd | hb => exact rfl); (fail_if_success (case hf => exact fun h => Bool.noConfusion h)); (fail_if_success (case ht => exact fun h => Bool.noConfusion h)); (first | (case ht => intro hb_; try simp only [pd_true, pd_false, Bool.not_eq_true', Bool.not_eq_false', Bool.and_eq_true, Bool.and_eq_false_iff, Bool.or_eq_true, Bool.or_eq_false_iff, not_true_eq_false, not_false_eq_true, Int.not_lt, Int.not_le] at hb_; first | done | (exfalso; first | omega | contradiction)) | (case hf => intro hb_; try simp only [pd_true, pd_false, Bool.not_eq_true', Bool.not_eq_false', Bool.and_eq_true, Bool.and_eq_false_iff, Bool.or_eq_true, Bool.or_eq_false_iff, not_true_eq_false, not_false_eq_true, Int.not_lt, Int.not_le] at hb_; first | done | (exfalso; first | omega | contradiction))); intro hb_; try simp only [pd_true, pd_false, Bool.not_eq_true', Bool.not_eq_false', Bool.and_eq_true, Bool.and_eq_false_iff, Bool.or_eq_true, Bool.or_eq_false_iff, not_true_eq_false, not_false_eq_true, Int.not_lt, Int.not_le] at hb_) | ((with_reducible apply XP.split); (case ho | hg | hj | hd | hb => exact rfl); (fail_if_success (case hf => exact fun h => Bool.noConfusion h)); (fail_if_success (case ht => exact fun h => Bool.noConfusion h)); (first | (case ht => intro hb_; try simp only [pd_true, pd_false, Bool.not_eq_true', Bool.not_eq_false', Bool.and_eq_true, Bool.and_eq_false_iff, Bool.or_eq_true, Bool.or_eq_false_iff, not_true_eq_false, not_false_eq_true, Int.not_lt, Int.not_le] at hb_; first | done | (exfalso; first | omega | contradiction)) | (case hf => intro hb_; try simp only [pd_true, pd_false, Bool.not_eq_true', Bool.not_eq_false', Bool.and_eq_true, Bool.and_eq_false_iff, Bool.or_eq_true, Bool.or_eq_false_iff, not_true_eq_false, not_false_eq_true, Int.not_lt, Int.not_le] at hb_; first | done | (exfalso; first | omega | contradiction))); intro hb_; try simp only [pd_true, pd_false, Bool.not_eq_true', Bool.not_eq_false', Bool.and_eq_true, Bool.and_eq_false_iff, Bool.or_eq_true, Bool.or_eq_false_iff, not_true_eq_false, not_false_eq_true, Int.not_lt, Int.not_le] at hb_) | ((with_reducible apply XC.cond); (case hc => exact rfl); (first | (case ht => intro hb_; try simp only [pd_true, pd_false, Bool.not_eq_true', Bool.not_eq_false', Bool.and_eq_true, Bool.and_eq_false_iff, Bool.or_eq_true, Bool.or_eq_false_iff, not_true_eq_false, not_false_eq_true, Int.not_lt, Int.not_le] at hb_; first | done | (exfalso; first | omega | contradiction)) | (case hf => intro hb_; try simp only [pd_true, pd_false, Bool.not_eq_true', Bool.not_eq_false', Bool.and_eq_true, Bool.and_eq_false_iff, Bool.or_eq_true, Bool.or_eq_false_iff, not_true_eq_false, not_false_eq_true, Int.not_lt, Int.not_le] at hb_; first | done | (exfalso; first | omega | contradiction))); intro hb_; try simp only [pd_true, pd_false, Bool.not_eq_true', Bool.not_eq_false', Bool.and_eq_true, Bool.and_eq_false_iff, Bool.or_eq_true, Bool.or_eq_false_iff, not_true_eq_false, not_false_eq_true, Int.not_lt, Int.not_le] at hb_))))
    ((with_reducible apply XQ.retE); (case hr => exact .t rfl .nil))
    rw [sizeV_no hv]; rfl
open Classical in
/-- New's error over a model of weights that fit. -/
noncomputable def errN (V : Voc) (C : Cfg) (c : Srv) : Int := if vocOk V ∧ (V.size : Int) = C.Vocab then c.err C.Len else 50
theorem errN_voc {V : Voc} {C : Cfg} {c : Srv} (h : ¬ vocOk V) : errN V C c = 50 := by unfold errN; rw [if_neg (fun g => h g.1)]
theorem errN_size {V : Voc} {C : Cfg} {c : Srv} (h : ¬ (V.size : Int) = C.Vocab) : errN V C c = 50 := by unfold errN; rw [if_neg (fun g => h g.2)]
theorem errN_srv {V : Voc} {C : Cfg} {c : Srv} (h : vocOk V) (h2 : (V.size : Int) = C.Vocab) : errN V C c = c.err C.Len := by unfold errN; rw [if_pos ⟨h, h2⟩]
theorem err_okS {c : Srv} {l : Int} (h : c.err l = 0) : c.okS l := by
  unfold Go.SX.Srv.err at h
  split at h
  · rename_i g; exact @of_decide_eq_true _ (Classical.propDecidable _) g
  · cases h
end Go.Proofs.YtopdcegeffnelaaGreatDoorX
/- A new pool, a new cache of beginnings; the reference's. -/
namespace Go.Proofs.YtopdcegeffnelaaGreatDoorX
open Go Go.SX

def poolC (l w b s : Int) (c k v : Value) : List Value := [.int .i64 l, .int .i64 w, .int .i64 b, .int .i64 s, c, .int .i64 b, k, v]
def PoolB (pb : Nat) (l w b s : Int) (c k v : Value) : Nat × Obj := (pb, Obj.cells ⟨poolC l w b s c k v⟩ 162 (0, 0))
/-- A new pool: its counts lie in a block of zeros. -/
def PoolR (l w b s : Int) (v : Value) (L : HL) : Prop := ∃ pb cb k u F, v = .tuple #[.pointer (some ⟨pb, 0, none⟩), .int .i64 0] ∧ L = PoolB pb l w b s (.slice (some ⟨cb, 0, none⟩) b.toNat b.toNat) k u :: F ∧ (cb, Obj.cells ⟨zerosL [.int .i64 0] b.toNat⟩ 3 (0, 0)) ∈ F
theorem prod4 {l w b s : Int} (hl : 1 ≤ l ∧ l ≤ 4) (hw : 1 ≤ w ∧ w ≤ 32) (hb : 1 ≤ b ∧ b ≤ 256) (hs : 1 ≤ s ∧ s ≤ 16) :
    ∃ N : Nat, IntKind.i64.wrap (IntKind.i64.wrap (IntKind.i64.wrap (l * w) * b) * s) = (N : Int) ∧ N ≤ 524288 := by
  have h1 : 0 ≤ l * w := Int.mul_nonneg (by omega) (by omega)
  have h2 : l * w ≤ 4 * 32 := Int.mul_le_mul hl.2 hw.2 (by omega) (by omega)
  have h3 : 0 ≤ l * w * b := Int.mul_nonneg (by omega) (by omega)
  have h4 : l * w * b ≤ 128 * 256 := Int.mul_le_mul (by omega) hb.2 (by omega) (by omega)
  have h5 : 0 ≤ l * w * b * s := Int.mul_nonneg (by omega) (by omega)
  have h6 : l * w * b * s ≤ 32768 * 16 := Int.mul_le_mul (by omega) hs.2 (by omega) (by omega)
  refine ⟨(l * w * b * s).toNat, ?_, by omega⟩
  rw [wrap64_of (x := l * w) (by omega) (by omega), wrap64_of (x := l * w * b) (by omega) (by omega), wrap64_of (by omega) (by omega)]
  omega
set_option maxRecDepth 20000 in
theorem shape_fn (pb : Nat) (l w b s : Int) (c k u : Value) : FC Tryz.prog 62 [.pointer (some ⟨pb, 0, none⟩)] [] (fun h => rowv h pb 0 (poolC l w b s c k u))
    (fun v L => v = .tuple #[.int .i64 l, .int .i64 w, .int .i64 b, .int .i64 s] ∧ L = []) := by
  refine FC.nil ?_
  refine FC.intro Tryz.func62 rfl (by kernel_rfl) 24 [.tmp 2, .tmp 3, .tmp 4, .tmp 5] rfl rfl rfl ?_
  intro w0 hR
  have c0 : cellv (oldv w0 (keys [])) ⟨pb, 0, none⟩ = some (.int .i64 l) := hR 0 _ rfl
  have c1 : cellv (oldv w0 (keys [])) ⟨pb, 1, none⟩ = some (.int .i64 w) := hR 1 _ rfl
  have c2 : cellv (oldv w0 (keys [])) ⟨pb, 2, none⟩ = some (.int .i64 b) := hR 2 _ rfl
  have c3 : cellv (oldv w0 (keys [])) ⟨pb, 3, none⟩ = some (.int .i64 s) := hR 3 _ rfl
  (repeat (first | (with_reducible apply XL.op) | ((with_reducible apply XOp.p1); (case hg | hv => exact rfl)) | (with_reducible apply XL.nilT) | (with_reducible apply XC.seq) | (with_reducible apply XC.region (Γ := Γ)) | (with_reducible apply XQ.skip) | (with_reducible apply XQ.nt) | ((with_reducible apply XC.condF); (case hc => exact rfl)) | (first | (first | ((with_reducible apply XOp.pr); (case hg => exact rfl); (case hr => (with_reducible apply PR.eqNilP); (case ht => exact rfl); (case hk => exact rfl); (case hx => exact rfl); (case hy => exact rfl))) | ((with_reducible apply XP.pr); (case ho => exact rfl); (case hg => exact rfl); (case hr => (with_reducible apply PR.eqNilP); (case ht => exact rfl); (case hk => exact rfl); (case hx => exact rfl); (case hy => exact rfl)))) | (first | ((with_reducible apply XOp.pr); (case hg => exact rfl); (case hr => (with_reducible apply PR.neNilP); (case ht => exact rfl); (case hk => exact rfl); (case hx => exact rfl); (case hy => exact rfl))) | ((with_reducible apply XP.pr); (case ho => exact rfl); (case hg => exact rfl); (case hr => (with_reducible apply PR.neNilP); (case ht => exact rfl); (case hk => exact rfl); (case hx => exact rfl); (case hy => exact rfl)))))))
  ((with_reducible apply XC.regionD (Γ := Γ) mixed (.q 0 (.q 1 (.q 2 (.q 3 (.q 4 (.q 5 (.q 6 (.q 7 (.q 8 (.q 9 (.q 10 (.q 11 (.q 12 (.q 13 (.q 14 (.q 15 (.q 16 (.q 17 (.q 18 (.q 19 (.done))))))))))))))))))))) [] []); (case hc => kernel_rfl))
  (repeat (first | (with_reducible apply XQ.ret) | (with_reducible apply XQ.nt) | ((with_reducible apply XP.p1); (case ho | hg | hv => exact rfl)) | (with_reducible apply XP.done) | (first | ((with_reducible apply XOp.load); (case hg | ht | hk | hx => exact rfl); (case hc => exact Known.of_old c0 (Mono.cell _ _))) | ((with_reducible apply XP.load); (case ho | hg | ht | hk | hx => exact rfl); (case hc => exact Known.of_old c0 (Mono.cell _ _)))) | (first | ((with_reducible apply XOp.load); (case hg | ht | hk | hx => exact rfl); (case hc => exact Known.of_old c1 (Mono.cell _ _))) | ((with_reducible apply XP.load); (case ho | hg | ht | hk | hx => exact rfl); (case hc => exact Known.of_old c1 (Mono.cell _ _)))) | (first | ((with_reducible apply XOp.load); (case hg | ht | hk | hx => exact rfl); (case hc => exact Known.of_old c2 (Mono.cell _ _))) | ((with_reducible apply XP.load); (case ho | hg | ht | hk | hx => exact rfl); (case hc => exact Known.of_old c2 (Mono.cell _ _)))) | (first | ((with_reducible apply XOp.load); (case hg | ht | hk | hx => exact rfl); (case hc => exact Known.of_old c3 (Mono.cell _ _))) | ((with_reducible apply XP.load); (case ho | hg | ht | hk | hx => exact rfl); (case hc => exact Known.of_old c3 (Mono.cell _ _))))))
  ((with_reducible apply XQ.retE); (case hr => exact .t rfl (.t rfl (.t rfl (.t rfl .nil)))))
  rfl
set_option maxRecDepth 100000 in
theorem newCache_fn (pb : Nat) (l w b s : Int) (c k u : Value) : FC Tryz.prog 27 [.pointer (some ⟨pb, 0, none⟩)] [] (fun h => rowv h pb 0 (poolC l w b s c k u))
    (fun v L => (∃ xb, v = .pointer (some ⟨xb, 0, none⟩)) ∧ L = []) := by
  refine FC.nil ?_
  refine FC.intro Tryz.func27 rfl (by kernel_rfl) 22 [.tmp 2] rfl rfl rfl ?_
  intro w0 hR
  (repeat (first | (with_reducible apply XL.op) | ((with_reducible apply XOp.p1); (case hg | hv => exact rfl)) | (with_reducible apply XL.nilT) | (with_reducible apply XC.seq) | (with_reducible apply XC.region (Γ := Γ)) | (with_reducible apply XQ.skip) | (with_reducible apply XQ.nt) | ((with_reducible apply XC.condF); (case hc => exact rfl)) | (first | (first | ((with_reducible apply XOp.pr); (case hg => exact rfl); (case hr => (with_reducible apply PR.eqNilP); (case ht => exact rfl); (case hk => exact rfl); (case hx => exact rfl); (case hy => exact rfl))) | ((with_reducible apply XP.pr); (case ho => exact rfl); (case hg => exact rfl); (case hr => (with_reducible apply PR.eqNilP); (case ht => exact rfl); (case hk => exact rfl); (case hx => exact rfl); (case hy => exact rfl)))) | (first | ((with_reducible apply XOp.pr); (case hg => exact rfl); (case hr => (with_reducible apply PR.neNilP); (case ht => exact rfl); (case hk => exact rfl); (case hx => exact rfl); (case hy => exact rfl))) | ((with_reducible apply XP.pr); (case ho => exact rfl); (case hg => exact rfl); (case hr => (with_reducible apply PR.neNilP); (case ht => exact rfl); (case hk => exact rfl); (case hx => exact rfl); (case hy => exact rfl)))))))
  ((with_reducible apply XOp.call (hF := shape_fn pb l w b s c k u)); (case hg => exact rfl); (case hc => exact rfl); (case ha => exact rfl); (case hL => exact (List.nil_append _).symm); try (case hA => exact Known.true))
  case hA => exact Known.of_old hR (Mono.row _ _ _)
  rintro _ _ ⟨rfl, rfl⟩
  (repeat (first | (with_reducible apply XL.op) | ((with_reducible apply XOp.p1); (case hg | hv => exact rfl)) | (with_reducible apply XL.nilT) | (with_reducible apply XC.seq) | (with_reducible apply XC.region (Γ := Γ))))
  ((with_reducible apply XOp.makeMap); (case hg => exact rfl); intro m1 o1 h1)
  (repeat ((with_reducible apply XL.op)))
  ((with_reducible apply XOp.makeMap); (case hg => exact rfl); intro m2 o2 h2)
  (repeat (first | (with_reducible apply XL.op) | ((with_reducible apply XOp.pr); (case hg => exact rfl); (case hr => ((with_reducible apply PR.build); (case ht | hk | hok | hz | hf => exact rfl))))))
  ((with_reducible apply XOp.box); (case hg | hx' => exact rfl); intro xb)
  (repeat (first | (with_reducible apply XL.op) | ((with_reducible apply XOp.p1); (case hg | hv => exact rfl)) | (with_reducible apply XL.nilT) | (with_reducible apply XQ.ret)))
  ((with_reducible apply XQ.retE); (case hr => exact .t rfl .nil))
  exact ⟨xb, rfl⟩
set_option maxRecDepth 20000 in
set_option maxHeartbeats 8000000 in
theorem newPool_fn (l w b s : Int) (hl : 1 ≤ l ∧ l ≤ 4) (hw : 1 ≤ w ∧ w ≤ 32) (hb : 1 ≤ b ∧ b ≤ 256) (hs : 1 ≤ s ∧ s ≤ 16) : FC Tryz.prog 24 [.int .i64 l, .int .i64 w, .int .i64 b, .int .i64 s] [] (fun _ => True)
    (fun v L => PoolR l w b s v L) := by
  refine FC.sub2 ?_
  obtain ⟨N, hN, hN2⟩ := prod4 hl hw hb hs
  refine FC.intro Tryz.func24 rfl (by kernel_rfl) 58 [.tmp 8, .tmp 9] rfl rfl rfl ?_
  intro w0 _
  (repeat (first | (with_reducible apply XL.op) | ((with_reducible apply XOp.p1); (case hg | hv => exact rfl)) | (with_reducible apply XL.nilT) | (with_reducible apply XC.seq) | (with_reducible apply XC.region (Γ := Γ)) | (first | ((with_reducible apply XOp.pr); (case hg => exact rfl); (case hr => (with_reducible apply PR.buildA); (case ht => exact rfl); (case hk => exact rfl); (case he => exact rfl); (case hz => exact rfl); (case hf => exact rfl))) | ((with_reducible apply XP.pr); (case ho => exact rfl); (case hg => exact rfl); (case hr => (with_reducible apply PR.buildA); (case ht => exact rfl); (case hk => exact rfl); (case he => exact rfl); (case hz => exact rfl); (case hf => exact rfl))))))
  ((with_reducible apply XOp.buildSlice); (case hg | ht | hk | he | hz | hzl | hf => exact rfl); intro qb)
  (repeat (first | (with_reducible apply XL.op) | ((with_reducible apply XOp.p1); (case hg | hv => exact rfl)) | (with_reducible apply XL.nilT) | (with_reducible apply XC.block)))
  refine XC.loopP (fun k ρ L => ∃ (i : Nat), i + k = 4 ∧ L = [(qb, Obj.cells ⟨[.int .i64 l, .int .i64 4, .int .i64 w, .int .i64 32, .int .i64 b, .int .i64 256, .int .i64 s, .int .i64 16]⟩ 94 (0, 0))] ∧
      Slots ρ [(0, .int .i64 l), (1, .int .i64 w), (2, .int .i64 b), (3, .int .i64 s), (21, .slice (some ⟨qb, 0, none⟩) 4 4), (22, .int .i64 4), (23, .int .i64 i)])
    4 ⟨0, by simp, rfl, rfl, rfl, rfl, rfl, rfl, rfl, rfl, trivial⟩ ?_
  rintro k ρ L ⟨i, hik, rfl, hs'⟩
  refine XC.slots _ hs' ?_
  (repeat (first | (with_reducible apply XL.op) | ((with_reducible apply XOp.p1); (case hg | hv => exact rfl)) | (with_reducible apply XL.nilT) | (with_reducible apply XC.seq) | (with_reducible apply XC.region (Γ := Γ))))
  ((with_reducible apply XC.cond); (case hc => exact rfl); all_goals (intro hb_; try simp only [pd_true, pd_false, Bool.not_eq_true', Bool.not_eq_false', Bool.and_eq_true, Bool.and_eq_false_iff, Bool.or_eq_true, Bool.or_eq_false_iff, not_true_eq_false, not_false_eq_true, Int.not_lt, Int.not_le] at hb_))
  · obtain ⟨x, y, hq, hx1, hx2⟩ : ∃ x y : Int, (([.int .i64 l, .int .i64 4, .int .i64 w, .int .i64 32, .int .i64 b, .int .i64 256, .int .i64 s, .int .i64 16] : List Value).drop (0 + ((i : Nat) : Int).toNat * 2)).take 2 = [.int .i64 x, .int .i64 y] ∧ 1 ≤ x ∧ x ≤ y := by
      have hi4 : i < 4 := by omega
      match i, hi4 with
      | 0, _ => exact ⟨l, 4, rfl, by omega, by omega⟩
      | 1, _ => exact ⟨w, 32, rfl, by omega, by omega⟩
      | 2, _ => exact ⟨b, 256, rfl, by omega, by omega⟩
      | 3, _ => exact ⟨s, 16, rfl, by omega, by omega⟩
    (repeat (first | (with_reducible apply XL.op) | ((with_reducible apply XOp.pr); (case hg => exact rfl); (case hr => ((with_reducible apply PR.idx); (case ht | hk | he | hx | hi => exact rfl); (case hr => first | assumption | omega)))) | (with_reducible apply XC.seq) | (with_reducible apply XC.region (Γ := Γ)) | (with_reducible apply XQ.skip) | (with_reducible apply XQ.nt) | (with_reducible apply XC.block) | (first | ((with_reducible apply XOp.loadN); (case hg | ht | hk | hx => exact rfl); (case hc => exact own_row (i := 0) rfl hq); (case hl => exact rfl)) | ((with_reducible apply XP.loadN); (case ho | hg | ht | hk | hx => exact rfl); (case hc => exact own_row (i := 0) rfl hq); (case hl => exact rfl)))))
    ((with_reducible apply XOp.alloc); (case hg | ht | hx' => exact rfl); intro zb)
    (repeat (first | (with_reducible apply XL.op) | ((with_reducible apply XOp.p1); (case hg | hv => exact rfl)) | ((with_reducible apply XOp.load); (case hg | ht | hk | hx => exact rfl); (case hc => exact own_cell (i := 0) rfl rfl)) | ((with_reducible apply XOp.storeN (i := 0)); (case hg | ht | hx | hv' | hk | h1 | hi | hs | ha => exact rfl)) | (with_reducible apply XL.nilT) | (with_reducible apply XC.seq) | (with_reducible apply XC.region (Γ := Γ)) | (with_reducible apply XQ.skip) | (with_reducible apply XQ.nt) | (with_reducible apply XQ.nb) | (first | ((with_reducible apply XOp.split); (case hg | hj | hd | hb => exact rfl); (fail_if_success (case hf => exact fun h => Bool.noConfusion h)); (fail_if_success (case ht => exact fun h => Bool.noConfusion h)); (first | (case ht => intro hb_; try simp only [pd_true, pd_false, Bool.not_eq_true', Bool.not_eq_false', Bool.and_eq_true, Bool.and_eq_false_iff, Bool.or_eq_true, Bool.or_eq_false_iff, not_true_eq_false, not_false_eq_true, Int.not_lt, Int.not_le] at hb_; first | done | (exfalso; first | omega | contradiction)) | (case hf => intro hb_; try simp only [pd_true, pd_false, Bool.not_eq_true', Bool.not_eq_false', Bool.and_eq_true, Bool.and_eq_false_iff, Bool.or_eq_true, Bool.or_eq_false_iff, not_true_eq_false, not_false_eq_true, Int.not_lt, Int.not_le] at hb_; first | done | (exfalso; first | omega | contradiction))); intro hb_; try simp only [pd_true, pd_false, Bool.not_eq_true', Bool.not_eq_false', Bool.and_eq_true, Bool.and_eq_false_iff, Bool.or_eq_true, Bool.or_eq_false_iff, not_true_eq_false, not_false_eq_true, Int.not_lt, Int.not_le] at hb_) | ((with_reducible apply XP.split); (case ho | hg | hj | hd | hb => exact rfl); (fail_if_success (case hf => exact fun h => Bool.noConfusion h)); (fail_if_success (case ht => exact fun h => Bool.noConfusion h)); (first | (case ht => intro hb_; try simp only [pd_true, pd_false, Bool.not_eq_true', Bool.not_eq_false', Bool.and_eq_true, Bool.and_eq_false_iff, Bool.or_eq_true, Bool.or_eq_false_iff, not_true_eq_false, not_false_eq_true, Int.not_lt, Int.not_le] at hb_; first | done | (exfalso; first | omega | contradiction)) | (case hf => intro hb_; try simp only [pd_true, pd_false, Bool.not_eq_true', Bool.not_eq_false', Bool.and_eq_true, Bool.and_eq_false_iff, Bool.or_eq_true, Bool.or_eq_false_iff, not_true_eq_false, not_false_eq_true, Int.not_lt, Int.not_le] at hb_; first | done | (exfalso; first | omega | contradiction))); intro hb_; try simp only [pd_true, pd_false, Bool.not_eq_true', Bool.not_eq_false', Bool.and_eq_true, Bool.and_eq_false_iff, Bool.or_eq_true, Bool.or_eq_false_iff, not_true_eq_false, not_false_eq_true, Int.not_lt, Int.not_le] at hb_) | ((with_reducible apply XC.cond); (case hc => exact rfl); (first | (case ht => intro hb_; try simp only [pd_true, pd_false, Bool.not_eq_true', Bool.not_eq_false', Bool.and_eq_true, Bool.and_eq_false_iff, Bool.or_eq_true, Bool.or_eq_false_iff, not_true_eq_false, not_false_eq_true, Int.not_lt, Int.not_le] at hb_; first | done | (exfalso; first | omega | contradiction)) | (case hf => intro hb_; try simp only [pd_true, pd_false, Bool.not_eq_true', Bool.not_eq_false', Bool.and_eq_true, Bool.and_eq_false_iff, Bool.or_eq_true, Bool.or_eq_false_iff, not_true_eq_false, not_false_eq_true, Int.not_lt, Int.not_le] at hb_; first | done | (exfalso; first | omega | contradiction))); intro hb_; try simp only [pd_true, pd_false, Bool.not_eq_true', Bool.not_eq_false', Bool.and_eq_true, Bool.and_eq_false_iff, Bool.or_eq_true, Bool.or_eq_false_iff, not_true_eq_false, not_false_eq_true, Int.not_lt, Int.not_le] at hb_))))
    exact ⟨k - 1, by omega, _, .of (List.sublist_cons_self _ _), i + 1, by omega, rfl, rfl, rfl, rfl, rfl, rfl, rfl, intS (m := 4) (by omega) (by omega), trivial⟩
  (repeat (first | (with_reducible apply XL.op) | ((with_reducible apply XOp.p1); (case hg | hv => exact rfl)) | (with_reducible apply XL.nilT) | (with_reducible apply XC.seq) | (with_reducible apply XC.region (Γ := Γ)) | (with_reducible apply XQ.exit) | (with_reducible apply XQ.nt) | (with_reducible apply XQ.et) | ((with_reducible apply XQ.eb); (case hb => exact rfl))))
  rw [hN]
  have hbn : Value.int .i64 b = .int .i64 ((b.toNat : Nat) : Int) := by rw [Int.toNat_of_nonneg (by omega)]
  skip
  ((with_reducible apply XC.regionL (Γ := Γ) mixed (.q 0 (.q 1 (.q 2 (.q 3 (.q 4 (.q 6 (.q 7 (.q 9 (.b [(5, .b [(8, .e 10 (.q 11 (.e 12 (.q 13 (.q 14 (.done)))))), (10, .e 8 (.q 11 (.e 12 (.q 13 (.q 14 (.done))))))]), (8, .b [(5, .e 10 (.q 11 (.e 12 (.q 13 (.q 14 (.done)))))), (10, .e 5 (.q 11 (.e 12 (.q 13 (.q 14 (.done))))))]), (10, .b [(5, .e 8 (.q 11 (.e 12 (.q 13 (.q 14 (.done)))))), (8, .e 5 (.q 11 (.e 12 (.q 13 (.q 14 (.done))))))])]))))))))) [] ([])); (case hc => kernel_rfl); (case hs => first | exact List.nil_sublist _ | exact List.Sublist.refl _ | exact List.sublist_append_right _ _ | (refine List.Sublist.cons_cons _ (List.nil_sublist _)) | (refine List.Sublist.cons_cons _ (List.Sublist.cons_cons _ (List.nil_sublist _))) | (refine List.Sublist.cons_cons _ (List.Sublist.cons_cons _ (List.Sublist.cons_cons _ (List.nil_sublist _)))) | (refine List.Sublist.cons_cons _ (List.Sublist.cons_cons _ (List.Sublist.cons_cons _ (List.Sublist.cons_cons _ (List.nil_sublist _))))) | ((try simp only [List.append_eq, List.cons_append, List.nil_append, List.append_assoc]); (repeat (first | exact List.Sublist.refl _ | exact List.nil_sublist _ | (with_reducible apply List.Sublist.cons_cons) | (with_reducible apply List.Sublist.cons))); done)))
  (repeat' (first | (with_reducible apply XQ.ret) | (with_reducible apply XQ.nt) | ((with_reducible apply XP.p1); (case ho | hg | hv => exact rfl)) | ((with_reducible apply XP.pr); (case ho => exact rfl); (case hg => exact rfl); (case hr => ((with_reducible apply PR.build); (case ht | hk | hok | hz | hf => exact rfl)))) | (with_reducible apply XP.done) | ((with_reducible apply XP.e); (first | ((with_reducible apply XE.d); (case ho => exact rfl); (case hd => exact rfl)) | ((with_reducible apply XE.e); (case ho => exact rfl)))) | ((with_reducible apply XP.keep); (case hk => first | ((repeat' (first | exact List.forall_mem_nil _ | (with_reducible refine List.forall_mem_cons.2 ⟨?_, ?_⟩) | exact List.mem_cons_self .. | (with_reducible apply List.mem_cons_of_mem) | (with_reducible apply List.mem_append_right))); done) | (intro x hx; first | exact sel_in hx | exact List.mem_cons_of_mem _ (sel_in hx) | exact List.mem_append_right _ (sel_in hx) | exact hx | exact List.mem_cons_of_mem _ hx | exact List.mem_append_right _ hx | ((repeat (first | exact sel_in hx | exact hx | (with_reducible apply List.mem_cons_of_mem) | (with_reducible apply List.mem_append_right))); done) | (rw [List.mem_singleton.1 hx]; (simp; done)) | (rcases List.mem_cons.1 hx with rfl | hx; (simp; done); (rw [List.mem_singleton.1 hx]; (simp; done))) | cases hx))) | (with_reducible apply XP.b) | (with_reducible apply XB.cons) | ((with_reducible apply XE.e); (case ho => exact rfl)) | (with_reducible apply XB.nil) | (with_reducible apply XP.b) | (with_reducible apply XB.cons) | (with_reducible exact XB.nil) | ((with_reducible apply XE.e); (case ho => exact rfl)) | ((with_reducible apply XOp.make (k := b.toNat) (c := b.toNat)); (case hg => exact rfl); (case ht => exact rfl); (case hk => exact rfl); (case he => exact rfl); (case hz => exact rfl); (case hzl => exact rfl); (case hx => exact hbn); (case hy => exact hbn); (case hkc => omega); (case hb => simp only []; omega); (case h63 => omega); intro cb) | ((with_reducible apply XOp.make (k := N) (c := N)); (case hg => exact rfl); (case ht => exact rfl); (case hk => exact rfl); (case he => exact rfl); (case hz => exact rfl); (case hzl => exact rfl); (case hx => exact rfl); (case hy => exact rfl); (case hkc => omega); (case hb => simp only []; omega); (case h63 => omega); intro kb) | ((with_reducible apply XOp.box); (case hg | hx' => exact rfl); intro pb)))
  all_goals ((with_reducible apply XQ.retE); (case hr => exact .t rfl (.t rfl .nil)))
  all_goals exact ⟨_, .of (List.Sublist.refl _), _, cb, _, _, _, rfl, rfl, by first | exact List.mem_cons_self .. | exact List.mem_cons_of_mem _ (List.mem_cons_self ..) | exact List.mem_cons_of_mem _ (List.mem_cons_of_mem _ (List.mem_cons_self ..))⟩
set_option maxRecDepth 100000 in
theorem refCache_fn (pb : Nat) : FC Tryz.prog 71 [.pointer (some ⟨pb, 0, none⟩)] [] (fun _ => True)
    (fun v L => (∃ xb, v = .pointer (some ⟨xb, 0, none⟩)) ∧ L = []) := by
  refine FC.nil ?_
  refine FC.intro Tryz.func71 rfl (by kernel_rfl) 8 [.tmp 2] rfl rfl rfl ?_
  intro w0 _
  (repeat (first | (with_reducible apply XL.op) | ((with_reducible apply XOp.p1); (case hg | hv => exact rfl)) | ((with_reducible apply XOp.pr); (case hg => exact rfl); (case hr => ((with_reducible apply PR.build); (case ht | hk | hok | hz | hf => exact rfl)))) | (with_reducible apply XL.nilT) | (with_reducible apply XC.seq) | (with_reducible apply XC.region (Γ := Γ)) | (with_reducible apply XQ.skip) | (with_reducible apply XQ.nt) | ((with_reducible apply XC.condF); (case hc => exact rfl)) | (first | (first | ((with_reducible apply XOp.pr); (case hg => exact rfl); (case hr => (with_reducible apply PR.eqNilP); (case ht => exact rfl); (case hk => exact rfl); (case hx => exact rfl); (case hy => exact rfl))) | ((with_reducible apply XP.pr); (case ho => exact rfl); (case hg => exact rfl); (case hr => (with_reducible apply PR.eqNilP); (case ht => exact rfl); (case hk => exact rfl); (case hx => exact rfl); (case hy => exact rfl)))) | (first | ((with_reducible apply XOp.pr); (case hg => exact rfl); (case hr => (with_reducible apply PR.neNilP); (case ht => exact rfl); (case hk => exact rfl); (case hx => exact rfl); (case hy => exact rfl))) | ((with_reducible apply XP.pr); (case ho => exact rfl); (case hg => exact rfl); (case hr => (with_reducible apply PR.neNilP); (case ht => exact rfl); (case hk => exact rfl); (case hx => exact rfl); (case hy => exact rfl)))))))
  ((with_reducible apply XOp.box); (case hg | hx' => exact rfl); intro xb)
  (repeat (first | (with_reducible apply XL.op) | ((with_reducible apply XOp.p1); (case hg | hv => exact rfl)) | (with_reducible apply XL.nilT) | (with_reducible apply XQ.ret)))
  ((with_reducible apply XQ.retE); (case hr => exact .t rfl .nil))
  exact ⟨xb, rfl⟩
theorem zeros_fn (n : Nat) (hn : n ≤ 64) : FC Tryz.prog 125 [.int .i64 n] [] (fun _ => True) (fun v L => (∃ a c, v = .slice a n c) ∧ L = []) := by
  refine FC.nil ?_
  refine FC.intro Tryz.func125 rfl (by kernel_rfl) 14 [.tmp 2] rfl rfl rfl ?_
  intro w0 _
  (repeat (first | (with_reducible apply XL.op) | ((with_reducible apply XOp.p1); (case hg | hv => exact rfl)) | (with_reducible apply XL.nilT) | (with_reducible apply XC.seq) | (with_reducible apply XC.region (Γ := Γ)) | (with_reducible apply XC.block)))
  refine XC.loopP (fun k ρ L => ∃ (i : Nat) (v : Value) (F : HL), i + k = n ∧ OwnS 306 1 v i (List.replicate i (.int .i8 0)) F ∧ L = F ++ [] ∧ Slots ρ [(0, .int .i64 n), (3, v), (4, .int .i64 i)])
    n ⟨0, _, [], by simp, OwnS.nil _ _, rfl, rfl, rfl, rfl, trivial⟩ ?_
  rintro k ρ L ⟨i, v, F, hik, hown, rfl, hs⟩
  obtain ⟨a', c', rfl⟩ := hown.val
  refine XC.slots _ hs ?_
  (repeat (first | (with_reducible apply XL.op) | ((with_reducible apply XOp.p1); (case hg | hv => exact rfl)) | (with_reducible apply XL.nilT) | (with_reducible apply XC.seq) | (with_reducible apply XC.region (Γ := Γ))))
  ((with_reducible apply XC.cond); (case hc => exact rfl); all_goals (intro hb_; try simp only [pd_true, pd_false, Bool.not_eq_true', Bool.not_eq_false', Bool.and_eq_true, Bool.and_eq_false_iff, Bool.or_eq_true, Bool.or_eq_false_iff, not_true_eq_false, not_false_eq_true, Int.not_lt, Int.not_le] at hb_))
  · (repeat (first | (with_reducible apply XL.op) | ((with_reducible apply XOp.p1); (case hg | hv => exact rfl)) | (with_reducible apply XC.seq) | (with_reducible apply XC.region (Γ := Γ)) | (with_reducible apply XQ.skip) | (with_reducible apply XQ.nt) | (with_reducible apply XC.block)))
    ((with_reducible apply XOp.buildSlice); (case hg | ht | hk | he | hz | hzl | hf => exact rfl); intro bb)
    (repeat ((with_reducible apply XL.op)))
    ((with_reducible apply XOp.append1); (case hg => exact rfl); (case ht => exact rfl); (case hk => exact rfl); (case he => exact rfl); (case hown => exact hown); (case hs => exact rfl); (case hx => exact rfl); (case hL => exact rfl); (case hl => exact rfl); (case h1 => exact rfl); (case hz => exact rfl); (case hsz => exact Nat.zero_lt_succ _); (case hk0 => exact Nat.zero_lt_succ _); (case h63 => simp only [maxLen]; omega); (case hb => simp only []; omega); intro v_ F_ hown_; obtain ⟨a_, c_, rfl⟩ := hown_.val)
    (repeat (first | (with_reducible apply XL.op) | ((with_reducible apply XOp.p1); (case hg | hv => exact rfl)) | (with_reducible apply XL.nilT) | (with_reducible apply XC.region (Γ := Γ)) | (with_reducible apply XL.nilQ) | (with_reducible apply XQ.nt) | (with_reducible apply XQ.nb)))
    exact ⟨k - 1, by omega, _, .of (List.Sublist.refl _), i + 1, _, F_, by omega, hown_.conv rfl (by rw [List.replicate_succ']; simp [zerosL]), rfl, rfl, rfl, intS (m := n) (by omega) (by omega), trivial⟩
  obtain rfl : i = n := by omega
  (repeat (first | (with_reducible apply XL.op) | ((with_reducible apply XOp.p1); (case hg | hv => exact rfl)) | (with_reducible apply XL.nilT) | (with_reducible apply XC.seq) | (with_reducible apply XC.region (Γ := Γ)) | (with_reducible apply XQ.ret) | (with_reducible apply XQ.exit) | (with_reducible apply XQ.nt) | (with_reducible apply XQ.et) | ((with_reducible apply XQ.eb); (case hb => exact rfl))))
  ((with_reducible apply XQ.retE); (case hr => exact .t rfl .nil))
  exact ⟨a', c', rfl⟩
def rpC (l w b s : Int) (c k u : Value) : List Value := [.int .i64 l, .int .i64 w, .int .i64 b, .int .i64 s, c, k, u]
def RpB (pb : Nat) (l w b s : Int) (c k u : Value) : Nat × Obj := (pb, Obj.cells ⟨rpC l w b s c k u⟩ 271 (0, 0))
set_option maxRecDepth 20000 in
set_option maxHeartbeats 16000000 in
theorem refPool_fn (b s : Int) (hb : 1 ≤ b ∧ b ≤ 256) (hs : 1 ≤ s ∧ s ≤ 16) : FC Tryz.prog 70 [.int .i64 1, .int .i64 1, .int .i64 b, .int .i64 s] [] (fun _ => True)
    (fun v L => (∃ pb, v = .tuple #[.pointer (some ⟨pb, 0, none⟩), .int .i64 0]) ∧ L = []) := by
  refine FC.nil ?_
  obtain ⟨N, hN, hN2⟩ : ∃ N : Nat, IntKind.i64.wrap (IntKind.i64.wrap (b * s) * 1) = (N : Int) ∧ N ≤ 4096 := by
    have h1 : 0 ≤ b * s := Int.mul_nonneg (by omega) (by omega)
    have h2 : b * s ≤ 256 * 16 := Int.mul_le_mul hb.2 hs.2 (by omega) (by omega)
    refine ⟨(b * s).toNat, ?_, by omega⟩
    rw [wrap64_of (x := b * s) (by omega) (by omega), wrap64_of (by omega) (by omega)]; omega
  refine FC.intro Tryz.func70 rfl (by kernel_rfl) 99 [.tmp 8, .tmp 9] rfl rfl rfl ?_
  intro w0 _
  (repeat (first | (with_reducible apply XL.op) | ((with_reducible apply XOp.p1); (case hg | hv => exact rfl)) | ((with_reducible apply XOp.pr); (case hg => exact rfl); (case hr => ((with_reducible apply PR.build); (case ht | hk | hok | hz | hf => exact rfl)))) | (with_reducible apply XL.nilT) | (with_reducible apply XC.seq) | (with_reducible apply XC.region (Γ := Γ)) | (with_reducible apply XQ.skip) | (with_reducible apply XQ.nt) | (first | ((with_reducible apply XOp.split); (case hg | hj | hd | hb => exact rfl); (fail_if_success (case hf => exact fun h => Bool.noConfusion h)); (fail_if_success (case ht => exact fun h => Bool.noConfusion h)); (first | (case ht => intro hb_; try simp only [pd_true, pd_false, Bool.not_eq_true', Bool.not_eq_false', Bool.and_eq_true, Bool.and_eq_false_iff, Bool.or_eq_true, Bool.or_eq_false_iff, not_true_eq_false, not_false_eq_true, Int.not_lt, Int.not_le] at hb_; first | done | (exfalso; first | omega | contradiction)) | (case hf => intro hb_; try simp only [pd_true, pd_false, Bool.not_eq_true', Bool.not_eq_false', Bool.and_eq_true, Bool.and_eq_false_iff, Bool.or_eq_true, Bool.or_eq_false_iff, not_true_eq_false, not_false_eq_true, Int.not_lt, Int.not_le] at hb_; first | done | (exfalso; first | omega | contradiction))); intro hb_; try simp only [pd_true, pd_false, Bool.not_eq_true', Bool.not_eq_false', Bool.and_eq_true, Bool.and_eq_false_iff, Bool.or_eq_true, Bool.or_eq_false_iff, not_true_eq_false, not_false_eq_true, Int.not_lt, Int.not_le] at hb_) | ((with_reducible apply XP.split); (case ho | hg | hj | hd | hb => exact rfl); (fail_if_success (case hf => exact fun h => Bool.noConfusion h)); (fail_if_success (case ht => exact fun h => Bool.noConfusion h)); (first | (case ht => intro hb_; try simp only [pd_true, pd_false, Bool.not_eq_true', Bool.not_eq_false', Bool.and_eq_true, Bool.and_eq_false_iff, Bool.or_eq_true, Bool.or_eq_false_iff, not_true_eq_false, not_false_eq_true, Int.not_lt, Int.not_le] at hb_; first | done | (exfalso; first | omega | contradiction)) | (case hf => intro hb_; try simp only [pd_true, pd_false, Bool.not_eq_true', Bool.not_eq_false', Bool.and_eq_true, Bool.and_eq_false_iff, Bool.or_eq_true, Bool.or_eq_false_iff, not_true_eq_false, not_false_eq_true, Int.not_lt, Int.not_le] at hb_; first | done | (exfalso; first | omega | contradiction))); intro hb_; try simp only [pd_true, pd_false, Bool.not_eq_true', Bool.not_eq_false', Bool.and_eq_true, Bool.and_eq_false_iff, Bool.or_eq_true, Bool.or_eq_false_iff, not_true_eq_false, not_false_eq_true, Int.not_lt, Int.not_le] at hb_) | ((with_reducible apply XC.cond); (case hc => exact rfl); (first | (case ht => intro hb_; try simp only [pd_true, pd_false, Bool.not_eq_true', Bool.not_eq_false', Bool.and_eq_true, Bool.and_eq_false_iff, Bool.or_eq_true, Bool.or_eq_false_iff, not_true_eq_false, not_false_eq_true, Int.not_lt, Int.not_le] at hb_; first | done | (exfalso; first | omega | contradiction)) | (case hf => intro hb_; try simp only [pd_true, pd_false, Bool.not_eq_true', Bool.not_eq_false', Bool.and_eq_true, Bool.and_eq_false_iff, Bool.or_eq_true, Bool.or_eq_false_iff, not_true_eq_false, not_false_eq_true, Int.not_lt, Int.not_le] at hb_; first | done | (exfalso; first | omega | contradiction))); intro hb_; try simp only [pd_true, pd_false, Bool.not_eq_true', Bool.not_eq_false', Bool.and_eq_true, Bool.and_eq_false_iff, Bool.or_eq_true, Bool.or_eq_false_iff, not_true_eq_false, not_false_eq_true, Int.not_lt, Int.not_le] at hb_))))
  ((with_reducible apply XOp.box); (case hg | hx' => exact rfl); intro pb)
  (repeat (first | (with_reducible apply XL.op) | ((with_reducible apply XOp.p1); (case hg | hv => exact rfl)) | (with_reducible apply XL.nilT) | (with_reducible apply XC.seq) | (with_reducible apply XC.region (Γ := Γ)) | (with_reducible apply XC.block)))
  refine XC.loopP (fun k ρ L => ∃ (i : Nat) (v : Value) (F : HL), i + k = b.toNat ∧ OwnS 3 1 v i (List.replicate i (.int .i64 0)) F ∧ L = [RpB pb 1 1 b s v (.slice none 0 0) (.slice none 0 0)] ++ F ∧
      Slots ρ [(0, .int .i64 1), (1, .int .i64 1), (2, .int .i64 b), (3, .int .i64 s), (10, .pointer (some ⟨pb, 0, none⟩)), (11, .int .i64 i)])
    b.toNat ⟨0, _, [], by simp, OwnS.nil _ _, rfl, rfl, rfl, rfl, rfl, rfl, rfl, trivial⟩ ?_
  rintro k ρ L ⟨i, v, F, hik, hown, rfl, hsl⟩
  obtain ⟨va, vc, rfl⟩ := hown.val
  refine XC.slots _ hsl ?_
  (repeat (first | (with_reducible apply XL.op) | ((with_reducible apply XOp.p1); (case hg | hv => exact rfl)) | (with_reducible apply XL.nilT) | (with_reducible apply XC.seq) | (with_reducible apply XC.region (Γ := Γ))))
  ((with_reducible apply XC.cond); (case hc => exact rfl); all_goals (intro hb_; try simp only [pd_true, pd_false, Bool.not_eq_true', Bool.not_eq_false', Bool.and_eq_true, Bool.and_eq_false_iff, Bool.or_eq_true, Bool.or_eq_false_iff, not_true_eq_false, not_false_eq_true, Int.not_lt, Int.not_le] at hb_))
  · (repeat (first | (with_reducible apply XL.op) | ((with_reducible apply XOp.p1); (case hg | hv => exact rfl)) | ((with_reducible apply XOp.load); (case hg | ht | hk | hx => exact rfl); (case hc => exact own_cell (i := 0) rfl rfl)) | (with_reducible apply XC.seq) | (with_reducible apply XC.region (Γ := Γ)) | (with_reducible apply XQ.skip) | (with_reducible apply XQ.nt) | (with_reducible apply XC.block)))
    ((with_reducible apply XOp.buildSlice); (case hg | ht | hk | he | hz | hzl | hf => exact rfl); intro bb)
    (repeat ((with_reducible apply XL.op)))
    ((with_reducible apply XOp.append1R (R := [RpB pb 1 1 b s (.slice va i vc) (.slice none 0 0) (.slice none 0 0)])); (case hg => exact rfl); (case ht => exact rfl); (case hk => exact rfl); (case he => exact rfl); (case hown => exact hown); (case hs => exact rfl); (case hx => exact rfl); (case hL => exact rfl); (case hl => exact rfl); (case h1 => exact rfl); (case hz => exact rfl); (case hsz => exact Nat.zero_lt_succ _); (case hk0 => exact Nat.zero_lt_succ _); (case h63 => simp only [maxLen]; omega); (case hb => simp only []; omega); intro v_ F_ hown_; obtain ⟨a_, c_, rfl⟩ := hown_.val)
    (repeat (first | (with_reducible apply XL.op) | ((with_reducible apply XOp.p1); (case hg | hv => exact rfl)) | ((with_reducible apply XOp.store (i := 0)); (case hg | ht | hk | hx | hv | h1 | hi | hs | ha => exact rfl)) | (with_reducible apply XL.nilT) | (with_reducible apply XC.region (Γ := Γ)) | (with_reducible apply XL.nilQ) | (with_reducible apply XQ.nt) | (with_reducible apply XQ.nb)))
    exact ⟨k - 1, by omega, _, .of (List.Sublist.refl _), i + 1, _, F_, by omega, hown_.conv rfl (by rw [List.replicate_succ']; simp [zerosL]), rfl, rfl, rfl, rfl, rfl, rfl, intS (m := 256) (by omega) (by omega), trivial⟩
  (repeat (first | (with_reducible apply XL.op) | ((with_reducible apply XOp.p1); (case hg | hv => exact rfl)) | (with_reducible apply XL.nilT) | (with_reducible apply XC.seq) | (with_reducible apply XC.region (Γ := Γ)) | (with_reducible apply XQ.exit) | (with_reducible apply XQ.nt) | (with_reducible apply XQ.et) | (with_reducible apply XC.block) | ((with_reducible apply XQ.eb); (case hb => exact rfl))))
  obtain rfl : i = b.toNat := by omega
  refine XC.sub2 (L' := [RpB pb 1 1 b s (.slice va b.toNat vc) (.slice none 0 0) (.slice none 0 0)]) (.of (List.sublist_append_left _ _)) ?_
  refine XC.loopP (fun k ρ L => ∃ (i : Nat) (v1 v2 : Value) (xs ys : List Value) (F1 F2 : HL), i + k = N ∧ OwnS 24 1 v1 i xs F1 ∧ OwnS 24 1 v2 i ys F2 ∧ L = [RpB pb 1 1 b s (.slice va b.toNat vc) v1 v2] ++ (F1 ++ F2) ∧
      Slots ρ [(0, .int .i64 1), (1, .int .i64 1), (2, .int .i64 b), (3, .int .i64 s), (10, .pointer (some ⟨pb, 0, none⟩)), (12, .int .i64 i)])
    N ⟨0, _, _, [], [], [], [], by simp, OwnS.nil _ _, OwnS.nil _ _, rfl, rfl, rfl, rfl, rfl, rfl, rfl, trivial⟩ ?_
  clear hown hsl
  rintro k ρ L ⟨i, v1, v2, xs, ys, F1, F2, hik, h1, h2, rfl, hsl⟩
  obtain ⟨a1, c1, rfl⟩ := h1.val
  obtain ⟨a2, c2, rfl⟩ := h2.val
  refine XC.slots _ hsl ?_
  (repeat (first | (with_reducible apply XL.op) | ((with_reducible apply XOp.p1); (case hg | hv => exact rfl)) | (with_reducible apply XL.nilT) | (with_reducible apply XC.seq) | (with_reducible apply XC.region (Γ := Γ))))
  rw [hN]
  skip
  ((with_reducible apply XC.cond); (case hc => exact rfl); all_goals (intro hb_; try simp only [pd_true, pd_false, Bool.not_eq_true', Bool.not_eq_false', Bool.and_eq_true, Bool.and_eq_false_iff, Bool.or_eq_true, Bool.or_eq_false_iff, not_true_eq_false, not_false_eq_true, Int.not_lt, Int.not_le] at hb_))
  · (repeat (first | (with_reducible apply XL.op) | ((with_reducible apply XOp.p1); (case hg | hv => exact rfl)) | (with_reducible apply XC.seq) | (with_reducible apply XC.region (Γ := Γ)) | (with_reducible apply XQ.skip) | (with_reducible apply XQ.nt) | (with_reducible apply XC.block)))
    ((with_reducible apply XOp.call (hF := zeros_fn 1 (by omega))); (case hg => exact rfl); (case hc => exact rfl); (case ha => exact rfl); (case hL => exact (List.nil_append _).symm); try (case hA => exact Known.true))
    rintro _ _ ⟨⟨z1, y1, rfl⟩, rfl⟩
    (repeat (first | (with_reducible apply XL.op) | ((with_reducible apply XOp.p1); (case hg | hv => exact rfl)) | (with_reducible apply XL.nilT) | (with_reducible apply XC.seq) | (with_reducible apply XC.region (Γ := Γ))))
    ((with_reducible apply XOp.call (hF := zeros_fn 1 (by omega))); (case hg => exact rfl); (case hc => exact rfl); (case ha => exact rfl); (case hL => exact (List.nil_append _).symm); try (case hA => exact Known.true))
    rintro _ _ ⟨⟨z2, y2, rfl⟩, rfl⟩
    (repeat (first | (with_reducible apply XL.op) | ((with_reducible apply XOp.p1); (case hg | hv => exact rfl)) | ((with_reducible apply XOp.load); (case hg | ht | hk | hx => exact rfl); (case hc => exact own_cell (i := 0) rfl rfl)) | (with_reducible apply XL.nilT) | (with_reducible apply XC.seq) | (with_reducible apply XC.region (Γ := Γ))))
    ((with_reducible apply XOp.buildSlice); (case hg | ht | hk | he | hz | hzl | hf => exact rfl); intro bb)
    (repeat ((with_reducible apply XL.op)))
    (refine (show XOp _ _ _ _ _ _ _ _ ((bb, Obj.cells ⟨[.slice z1 1 y1]⟩ 24 (0, 0)) :: ([RpB pb 1 1 b s (.slice va b.toNat vc) (.slice a1 i c1) (.slice a2 i c2)] ++ (F1 ++ F2))) from XOp.perm (L' :=  (bb, Obj.cells ⟨[.slice z1 1 y1]⟩ 24 (0, 0)) :: (([RpB pb 1 1 b s (.slice va b.toNat vc) (.slice a1 i c1) (.slice a2 i c2)] ++ F2) ++ F1)) rfl ?_ (by (first | (with_reducible exact List.Perm.refl _) | refine perm_of_cnt fun p_ => ?_; simp only [List.countP_append, List.countP_cons, List.countP_nil]; omega))))
    ((with_reducible apply XOp.append1R (R := [RpB pb 1 1 b s (.slice va b.toNat vc) (.slice a1 i c1) (.slice a2 i c2)] ++ F2)); (case hg => exact rfl); (case ht => exact rfl); (case hk => exact rfl); (case he => exact rfl); (case hown => exact h1); (case hs => exact rfl); (case hx => exact rfl); (case hL => exact rfl); (case hl => exact rfl); (case h1 => exact rfl); (case hz => exact rfl); (case hsz => exact Nat.zero_lt_succ _); (case hk0 => exact Nat.zero_lt_succ _); (case h63 => simp only [maxLen]; omega); (case hb => simp only []; omega); intro v_ F_ hown_; obtain ⟨a_, c_, rfl⟩ := hown_.val)
    generalize F_ = G1 at *
    generalize a_ = a3 at *
    generalize c_ = c3 at *
    have h1' := hown_
    clear hown_
    (repeat (first | (with_reducible apply XL.op) | ((with_reducible apply XOp.p1); (case hg | hv => exact rfl)) | ((with_reducible apply XOp.load); (case hg | ht | hk | hx => exact rfl); (case hc => exact own_cell (i := 0) rfl rfl)) | ((with_reducible apply XOp.store (i := 0)); (case hg | ht | hk | hx | hv | h1 | hi | hs | ha => exact rfl)) | (with_reducible apply XL.nilT) | (with_reducible apply XC.region (Γ := Γ))))
    ((with_reducible apply XOp.buildSlice); (case hg | ht | hk | he | hz | hzl | hf => exact rfl); intro bd)
    (repeat ((with_reducible apply XL.op)))
    (refine (show XOp _ _ _ _ _ _ _ _ ((bd, Obj.cells ⟨[.slice z2 1 y2]⟩ 24 (0, 0)) :: (([RpB pb 1 1 b s (.slice va b.toNat vc) (.slice a3 (i + 1) c3) (.slice a2 i c2)] ++ F2) ++ G1)) from XOp.perm (L' :=  (bd, Obj.cells ⟨[.slice z2 1 y2]⟩ 24 (0, 0)) :: (([RpB pb 1 1 b s (.slice va b.toNat vc) (.slice a3 (i + 1) c3) (.slice a2 i c2)] ++ G1) ++ F2)) rfl ?_ (by (first | (with_reducible exact List.Perm.refl _) | refine perm_of_cnt fun p_ => ?_; simp only [List.countP_append, List.countP_cons, List.countP_nil]; omega))))
    ((with_reducible apply XOp.append1R (R := [RpB pb 1 1 b s (.slice va b.toNat vc) (.slice a3 (i + 1) c3) (.slice a2 i c2)] ++ G1)); (case hg => exact rfl); (case ht => exact rfl); (case hk => exact rfl); (case he => exact rfl); (case hown => exact h2); (case hs => exact rfl); (case hx => exact rfl); (case hL => exact rfl); (case hl => exact rfl); (case h1 => exact rfl); (case hz => exact rfl); (case hsz => exact Nat.zero_lt_succ _); (case hk0 => exact Nat.zero_lt_succ _); (case h63 => simp only [maxLen]; omega); (case hb => simp only []; omega); intro v_ F_ hown_; obtain ⟨a_, c_, rfl⟩ := hown_.val)
    (repeat (first | (with_reducible apply XL.op) | ((with_reducible apply XOp.p1); (case hg | hv => exact rfl)) | ((with_reducible apply XOp.store (i := 0)); (case hg | ht | hk | hx | hv | h1 | hi | hs | ha => exact rfl)) | (with_reducible apply XL.nilT) | (with_reducible apply XC.region (Γ := Γ)) | (with_reducible apply XL.nilQ) | (with_reducible apply XQ.nt) | (with_reducible apply XQ.nb)))
    exact ⟨k - 1, by omega, _, .of (List.Sublist.refl _), i + 1, _, _, _, _, G1, F_, by omega, h1', hown_, (by first | rfl | (simp; done)), rfl, rfl, rfl, rfl, rfl, intS (m := 4096) (by omega) (by omega), trivial⟩
  (repeat (first | (with_reducible apply XL.op) | ((with_reducible apply XOp.p1); (case hg | hv => exact rfl)) | (with_reducible apply XL.nilT) | (with_reducible apply XC.seq) | (with_reducible apply XC.region (Γ := Γ)) | (with_reducible apply XQ.ret) | (with_reducible apply XQ.exit) | (with_reducible apply XQ.nt) | (with_reducible apply XQ.et) | ((with_reducible apply XQ.eb); (case hb => exact rfl))))
  ((with_reducible apply XQ.retE); (case hr => exact .t rfl (.t rfl .nil)))
  exact ⟨pb, rfl⟩

end Go.Proofs.YtopdcegeffnelaaGreatDoorX
/- Turns and layers: do they fit? The reference's. -/
namespace Go.Proofs.YtopdcegeffnelaaGreatDoorX
open Go Go.SX

theorem refIsL_fn (m : LM) (r c : Int) : FC Tryz.prog 117 [.agg ⟨m.cells⟩, .int .i64 r, .int .i64 c] [] (fun h => lmAt h m) (fun v L => v = .bool (pd (shpP m.mat r c)) ∧ L = []) :=
  refIs_fn m.mat m.d.2.1 m.d.2.2 r c
theorem refGainsL_fn (x : LV) (n : Int) : FC Tryz.prog 118 [slv x, .int .i64 n] [] (fun h => lvAt h x) (fun v L => v = .bool (pd (gainsP x.1 n)) ∧ L = []) :=
  refGains_fn x.1 x.2.1 x.2.2 n
def turnP (x : Int × Int) : Prop := (-16384 ≤ x.1 ∧ x.1 ≤ 16384) ∧ (-16384 ≤ x.2 ∧ x.2 ≤ 16384)
def turnsP (l : List (Int × Int)) (n : Int) : Prop := (l.length : Int) = n ∧ ∀ x ∈ l, turnP x
theorem forall_snoc {α : Type} {p : α → Prop} {l : List α} {i : Nat} {x : α} (h : l[i]? = some x) (ha : ∀ y ∈ l.take i, p y) (hx : p x) : ∀ y ∈ l.take (i + 1), p y := fun y hy => by
  rw [take_snocD h] at hy
  rcases List.mem_append.1 hy with h2 | h2
  · exact ha y h2
  · rw [List.mem_singleton.1 h2]; exact hx
set_option maxHeartbeats 4000000 in
theorem refTurns_fn (l : List (Int × Int)) (a : Option Addr) (cap : Nat) (n : Int) : FC Tryz.prog 119 [.slice a l.length cap, .int .i64 n] [] (fun h => SlA turnK 16 h l a cap)
    (fun v L => v = .bool (pd (turnsP l n)) ∧ L = []) := by
  refine FC.nil ?_
  refine FC.intro Tryz.func119 rfl (by kernel_rfl) 45 [.tmp 4] rfl rfl rfl ?_
  intro w0 hA
  have hsm := hA.bytes
  (repeat (first | (with_reducible apply XL.op) | ((with_reducible apply XOp.p1); (case hg | hv => exact rfl)) | (with_reducible apply XL.nilT) | (with_reducible apply XC.seq) | (with_reducible apply XC.region (Γ := Γ))))
  ((with_reducible apply XC.cond); (case hc => exact rfl); all_goals (intro hb_; try simp only [pd_true, pd_false, Bool.not_eq_true', Bool.not_eq_false', Bool.and_eq_true, Bool.and_eq_false_iff, Bool.or_eq_true, Bool.or_eq_false_iff, not_true_eq_false, not_false_eq_true, Int.not_lt, Int.not_le] at hb_))
  · (repeat (first | (with_reducible apply XL.op) | ((with_reducible apply XOp.p1); (case hg | hv => exact rfl)) | (with_reducible apply XL.nilT) | (with_reducible apply XC.seq) | (with_reducible apply XC.region (Γ := Γ)) | (with_reducible apply XQ.ret) | (with_reducible apply XQ.rt)))
    ((with_reducible apply XQ.retE); (case hr => exact .t rfl .nil))
    exact congrArg Value.bool (pdf (show ¬ turnsP l n from fun h2 => hb_ h2.1)).symm
  (repeat (first | (with_reducible apply XL.op) | ((with_reducible apply XOp.p1); (case hg | hv => exact rfl)) | (with_reducible apply XL.nilT) | (with_reducible apply XC.seq) | (with_reducible apply XC.region (Γ := Γ)) | (with_reducible apply XQ.skip) | (with_reducible apply XQ.nt) | (with_reducible apply XC.block)))
  refine XC.loop (fun k ρ L => ∃ i : Nat, i + k = l.length ∧ L = [] ∧ (∀ y ∈ l.take i, turnP y) ∧ Slots ρ [(0, .slice a l.length cap), (1, .int .i64 n), (5, .int .i64 i)])
    l.length ⟨0, by simp, rfl, by simp, rfl, rfl, rfl, trivial⟩ ?_
  rintro k ρ L ⟨i, hik, rfl, hq, hs⟩
  have hn : (l.length : Int) = n := by first | assumption | omega
  refine XC.slots _ hs ?_
  (repeat (first | (with_reducible apply XL.op) | ((with_reducible apply XOp.p1); (case hg | hv => exact rfl)) | (with_reducible apply XL.nilT) | (with_reducible apply XC.seq) | (with_reducible apply XC.region (Γ := Γ))))
  ((with_reducible apply XC.cond); (case hc => exact rfl); all_goals (intro hb_; try simp only [pd_true, pd_false, Bool.not_eq_true', Bool.not_eq_false', Bool.and_eq_true, Bool.and_eq_false_iff, Bool.or_eq_true, Bool.or_eq_false_iff, not_true_eq_false, not_false_eq_true, Int.not_lt, Int.not_le] at hb_))
  · obtain ⟨x, hi⟩ : ∃ x, l[i]? = some x := ⟨_, List.getElem?_eq_getElem (by omega)⟩
    have hr := hA.rawAt hi
    have c0 : cellv (oldv w0 (keys [])) ⟨ablk a, aoff a + i * 2 + 0, none⟩ = some (.int .i64 x.1) := hr 0 _ rfl
    have c1 : cellv (oldv w0 (keys [])) ⟨ablk a, aoff a + i * 2 + 1, none⟩ = some (.int .i64 x.2) := hr 1 _ rfl
    (repeat' (first | (with_reducible apply XL.op) | ((with_reducible apply XOp.p1); (case hg | hv => exact rfl)) | ((with_reducible apply XOp.p0); (case hg => exact rfl)) | ((with_reducible apply XOp.pr); (case hg => exact rfl); (case hr => ((with_reducible apply PR.idxA); (case ht | hk | he | hx | hi => exact rfl); (case hr => first | assumption | omega); (case ha => first | assumption | exact SlA.at_ (by assumption))))) | (with_reducible apply XL.nilT) | (with_reducible apply XC.seq) | (with_reducible apply XC.region (Γ := Γ)) | (with_reducible apply XQ.skip) | (with_reducible apply XQ.ret) | (with_reducible apply XQ.nt) | (with_reducible apply XQ.nb) | (with_reducible apply XQ.rt) | (with_reducible apply XQ.rb) | (with_reducible apply XC.block) | ((with_reducible apply XC.condT); (case hc => exact rfl)) | (first | ((with_reducible apply XOp.load); (case hg | ht | hk | hx => exact rfl); (case hc => exact Known.of_old c0 (Mono.cell _ _))) | ((with_reducible apply XP.load); (case ho | hg | ht | hk | hx => exact rfl); (case hc => exact Known.of_old c0 (Mono.cell _ _)))) | (first | ((with_reducible apply XOp.load); (case hg | ht | hk | hx => exact rfl); (case hc => exact Known.of_old c1 (Mono.cell _ _))) | ((with_reducible apply XP.load); (case ho | hg | ht | hk | hx => exact rfl); (case hc => exact Known.of_old c1 (Mono.cell _ _)))) | ((with_reducible apply XOp.split); (case hg | hj | hd | hb => exact rfl); (fail_if_success (case hf => exact fun h => Bool.noConfusion h)); (fail_if_success (case ht => exact fun h => Bool.noConfusion h)); all_goals (intro hb_; try simp only [pd_true, pd_false, Bool.not_eq_true', Bool.not_eq_false', Bool.and_eq_true, Bool.and_eq_false_iff, Bool.or_eq_true, Bool.or_eq_false_iff, not_true_eq_false, not_false_eq_true, Int.not_lt, Int.not_le] at hb_)) | ((with_reducible apply XC.cond); (case hc => exact rfl); all_goals (intro hb_; try simp only [pd_true, pd_false, Bool.not_eq_true', Bool.not_eq_false', Bool.and_eq_true, Bool.and_eq_false_iff, Bool.or_eq_true, Bool.or_eq_false_iff, not_true_eq_false, not_false_eq_true, Int.not_lt, Int.not_le] at hb_))))
    iterate 4
      (((with_reducible apply XQ.retE); (case hr => exact .t rfl .nil))
       exact congrArg Value.bool (pdf (show ¬ turnsP l n from fun h => by have := h.2 x (List.mem_of_getElem? hi); unfold turnP at this; omega)).symm)
    exact ⟨k - 1, by omega, i + 1, by omega, rfl, forall_snoc hi hq (by unfold turnP; omega), rfl, rfl, intS (m := l.length) (by omega) (by omega), trivial⟩
  · obtain rfl : i = l.length := by omega
    rw [List.take_length] at hq
    (repeat (first | (with_reducible apply XL.op) | ((with_reducible apply XOp.p1); (case hg | hv => exact rfl)) | (with_reducible apply XL.nilT) | (with_reducible apply XC.seq) | (with_reducible apply XC.region (Γ := Γ)) | (with_reducible apply XQ.ret) | (with_reducible apply XQ.exit) | (with_reducible apply XQ.nt) | (with_reducible apply XQ.et) | ((with_reducible apply XQ.eb); (case hb => exact rfl))))
    ((with_reducible apply XQ.retE); (case hr => exact .t rfl .nil))
    exact congrArg Value.bool (pdt (show turnsP l n from ⟨hn, hq⟩)).symm

theorem by_cell (l : LL) {i : Nat} (h : i < 7) : l.cells[23 + ((i : Nat) : Int).toNat * 1]? = some (.int .i64 (l.by_.getD i 0)) := by
  match i, h with
  | 0, _ => rfl
  | 1, _ => rfl
  | 2, _ => rfl
  | 3, _ => rfl
  | 4, _ => rfl
  | 5, _ => rfl
  | 6, _ => rfl
theorem by_all (l : LL) {p : Int → Prop} (h : ∀ j < 7, p (l.by_.getD j 0)) : ∀ x ∈ l.by_, p x := by
  intro x hx
  obtain ⟨i, hi⟩ := List.getElem?_of_mem hx
  have h7 : i < 7 := (List.getElem?_eq_some_iff.1 hi).1
  have := h i h7
  rwa [List.getD_eq_getElem?_getD, hi] at this
theorem by_mem (l : LL) {j : Nat} (h : j < 7) : l.by_.getD j 0 ∈ l.by_ := by
  have h2 : j < l.by_.length := h
  rw [List.getD_eq_getElem?_getD, List.getElem?_eq_getElem h2]; exact List.getElem_mem h2
theorem keys_wrap {c : Cfg} (hc : c.may) : IntKind.i64.wrap (c.KV * c.head) = c.keys := by
  obtain ⟨_, _, n1, n2⟩ := may_nn hc
  unfold Cfg.keys at *; exact wrap64_of (by omega) (by omega)
structure layP (l : LL) (c : Cfg) : Prop where
  n1 : gainsP l.n1.1 c.Width
  n2 : gainsP l.n2.1 c.Width
  q : shpP l.q.mat c.Width c.Width
  k : shpP l.k.mat c.keys c.Width
  v : shpP l.v.mat c.keys c.Width
  o : shpP l.o.mat c.Width c.Width
  g : shpP l.g.mat c.Hidden c.Width
  u : shpP l.u.mat c.Hidden c.Width
  d : shpP l.d.mat c.Width c.Hidden
  by_ : ∀ j < 7, 0 ≤ l.by_.getD j 0 ∧ l.by_.getD j 0 ≤ 24
theorem layP_iff {h : HV} {l : LL} (hl : llAt h l) (c : Cfg) : layP l c ↔ okL l.lay c := by
  constructor
  · intro p
    exact ⟨(gains_iff hl.n1 _).1 p.n1, (gains_iff hl.n2 _).1 p.n2, (shp_iff hl.q _ _).1 p.q, (shp_iff hl.k _ _).1 p.k, (shp_iff hl.v _ _).1 p.v, (shp_iff hl.o _ _).1 p.o, (shp_iff hl.g _ _).1 p.g, (shp_iff hl.u _ _).1 p.u, (shp_iff hl.d _ _).1 p.d, rfl, by_all l p.by_⟩
  · intro p
    exact ⟨(gains_iff hl.n1 _).2 p.n1, (gains_iff hl.n2 _).2 p.n2, (shp_iff hl.q _ _).2 p.q, (shp_iff hl.k _ _).2 p.k, (shp_iff hl.v _ _).2 p.v, (shp_iff hl.o _ _).2 p.o, (shp_iff hl.g _ _).2 p.g, (shp_iff hl.u _ _).2 p.u, (shp_iff hl.d _ _).2 p.d, fun j hj => p.by_.2 _ (by_mem l hj)⟩
set_option maxHeartbeats 8000000 in
theorem refLayer_fn (l : LL) (c : Cfg) (hc : c.may) : FC Tryz.prog 121 [.agg ⟨l.cells⟩, .agg ⟨c.cells⟩] [] (fun h => llAt h l)
    (fun v L => v = .bool (pd (layP l c)) ∧ L = []) := by
  refine FC.nil ?_
  refine FC.intro Tryz.func121 rfl (by kernel_rfl) 100 [.tmp 4] rfl rfl rfl ?_
  intro w0 hA
  (repeat (first | (with_reducible apply XL.op) | (with_reducible apply XC.seq) | (with_reducible apply XC.region (Γ := Γ))))
  ((with_reducible apply XOp.box); (case hg | hx' => exact rfl); intro lb)
  (repeat ((with_reducible apply XL.op)))
  ((with_reducible apply XOp.box); (case hg | hx' => exact rfl); intro cb)
  (repeat (first | (with_reducible apply XL.op) | ((with_reducible apply XOp.p1); (case hg | hv => exact rfl)) | ((with_reducible apply XOp.load); (case hg | ht | hk | hx => exact rfl); (case hc => exact own_cell (i := 0) rfl rfl)) | (with_reducible apply XL.nilT) | (with_reducible apply XC.seq) | (with_reducible apply XC.region (Γ := Γ))))
  ((with_reducible apply XC.regionD (Γ := Γ) mixed (.q 0 (.q 1 (.q 2 (.e 3 (.q 4 (.q 5 (.done))))))) [] []); (case hc => kernel_rfl))
  (repeat (first | (with_reducible apply XL.op) | ((with_reducible apply XOp.p1); (case hg | hv => exact rfl)) | ((with_reducible apply XOp.load); (case hg | ht | hk | hx => exact rfl); (case hc => exact own_cell (i := 1) rfl rfl)) | (with_reducible apply XC.seq) | (with_reducible apply XC.region (Γ := Γ)) | (with_reducible apply XQ.nt) | ((with_reducible apply XP.p1); (case ho | hg | hv => exact rfl)) | ((with_reducible apply XP.load); (case ho | hg | ht | hk | hx => exact rfl); (case hc => exact own_cell (i := 0) rfl rfl)) | ((with_reducible apply XP.loadO (j := 0)); (case ho | hg | ht | hk | hx | hi | hc => exact rfl)) | (with_reducible apply XP.done) | ((with_reducible apply XP.e); (first | ((with_reducible apply XE.d); (case ho => exact rfl); (case hd => exact rfl)) | ((with_reducible apply XE.e); (case ho => exact rfl)))) | ((with_reducible apply XP.keep); (case hk => first | ((repeat' (first | exact List.forall_mem_nil _ | (with_reducible refine List.forall_mem_cons.2 ⟨?_, ?_⟩) | exact List.mem_cons_self .. | (with_reducible apply List.mem_cons_of_mem) | (with_reducible apply List.mem_append_right))); done) | (intro x hx; first | exact sel_in hx | exact List.mem_cons_of_mem _ (sel_in hx) | exact List.mem_append_right _ (sel_in hx) | exact hx | exact List.mem_cons_of_mem _ hx | exact List.mem_append_right _ hx | ((repeat (first | exact sel_in hx | exact hx | (with_reducible apply List.mem_cons_of_mem) | (with_reducible apply List.mem_append_right))); done) | (rw [List.mem_singleton.1 hx]; (simp; done)) | (rcases List.mem_cons.1 hx with rfl | hx; (simp; done); (rw [List.mem_singleton.1 hx]; (simp; done))) | cases hx))) | (((with_reducible apply XOp.callQ (hF := refHead_fn c hc)); (case hg => exact rfl); (case hc => exact rfl); (case ha => exact rfl); try (case hA => exact Known.true)); rintro _ rfl)))
  (repeat' (first | (with_reducible apply XL.op) | ((with_reducible apply XOp.p1); (case hg | hv => exact rfl)) | ((with_reducible apply XOp.p0); (case hg => exact rfl)) | ((with_reducible apply XOp.load); (case hg | ht | hk | hx => exact rfl); (case hc => exact own_cell (i := 0) rfl rfl)) | ((with_reducible apply XOp.load); (case hg | ht | hk | hx => exact rfl); (case hc => exact own_cell (i := 1) rfl rfl)) | ((with_reducible apply XOp.loadO (i := 1)); (case hg | ht | hk | hx | hi | hc => exact rfl)) | (with_reducible apply XL.nilT) | (with_reducible apply XC.seq) | (with_reducible apply XC.region (Γ := Γ)) | (with_reducible apply XQ.skip) | (with_reducible apply XQ.ret) | (with_reducible apply XQ.nt) | (with_reducible apply XQ.rt) | (with_reducible apply XC.block) | ((with_reducible apply XC.condT); (case hc => exact rfl)) | (((with_reducible apply XOp.callQ (hF := refGainsL_fn _ _)); (case hg => exact rfl); (case hc => exact rfl); (case ha => exact rfl); try (case hA => exact Known.true)); (case hA => first | exact Known.of_old hA.n1 (lv_mono _) | exact Known.of_old hA.n2 (lv_mono _)); rintro _ rfl) | (((with_reducible apply XOp.callQ (hF := refIsL_fn _ _ _)); (case hg => exact rfl); (case hc => exact rfl); (case ha => exact rfl); try (case hA => exact Known.true)); (case hA => first | exact Known.of_old hA.q (lm_mono _) | exact Known.of_old hA.k (lm_mono _) | exact Known.of_old hA.v (lm_mono _) | exact Known.of_old hA.o (lm_mono _) | exact Known.of_old hA.g (lm_mono _) | exact Known.of_old hA.u (lm_mono _) | exact Known.of_old hA.d (lm_mono _)); rintro _ rfl) | ((with_reducible apply XOp.split); (case hg | hj | hd | hb => exact rfl); (fail_if_success (case hf => exact fun h => Bool.noConfusion h)); (fail_if_success (case ht => exact fun h => Bool.noConfusion h)); all_goals (intro hb_; try simp only [pd_true, pd_false, Bool.not_eq_true', Bool.not_eq_false', Bool.and_eq_true, Bool.and_eq_false_iff, Bool.or_eq_true, Bool.or_eq_false_iff, not_true_eq_false, not_false_eq_true, Int.not_lt, Int.not_le] at hb_)) | ((with_reducible apply XC.cond); (case hc => exact rfl); all_goals (intro hb_; try simp only [pd_true, pd_false, Bool.not_eq_true', Bool.not_eq_false', Bool.and_eq_true, Bool.and_eq_false_iff, Bool.or_eq_true, Bool.or_eq_false_iff, not_true_eq_false, not_false_eq_true, Int.not_lt, Int.not_le] at hb_))))
  iterate 9
    (((with_reducible apply XQ.retE); (case hr => exact .t rfl .nil))
     exact congrArg Value.bool (pdf (show ¬ layP l c from fun h => by
       try rw [keys_wrap hc] at hb_
       first | exact hb_ h.n1 | exact hb_ h.n2 | exact hb_ h.q | exact hb_ h.k | exact hb_ h.v | exact hb_ h.o | exact hb_ h.g | exact hb_ h.u | exact hb_ h.d)).symm)
  rename_i p1 p2 p3 p4 p5 p6 p7 p8
  rw [keys_wrap hc] at p5 p6
  refine XC.loop (fun k ρ L => ∃ i : Nat, i + k = 7 ∧ L = [(cb, .cells ⟨c.cells⟩ 23 (0, 0)), (lb, .cells ⟨l.cells⟩ 217 (0, 0))] ∧ (∀ j < i, 0 ≤ l.by_.getD j 0 ∧ l.by_.getD j 0 ≤ 24) ∧ Slots ρ [(2, .pointer (some ⟨lb, 0, none⟩)), (3, .pointer (some ⟨cb, 0, none⟩)), (7, .int .i64 i)])
    7 ⟨0, by simp, rfl, by simp, rfl, rfl, rfl, trivial⟩ ?_
  rintro k ρ L ⟨i, hik, rfl, hq, hs⟩
  refine XC.slots _ hs ?_
  (repeat (first | (with_reducible apply XL.op) | ((with_reducible apply XOp.p1); (case hg | hv => exact rfl)) | (with_reducible apply XL.nilT) | (with_reducible apply XC.seq) | (with_reducible apply XC.region (Γ := Γ))))
  ((with_reducible apply XC.cond); (case hc => exact rfl); all_goals (intro hb_; try simp only [pd_true, pd_false, Bool.not_eq_true', Bool.not_eq_false', Bool.and_eq_true, Bool.and_eq_false_iff, Bool.or_eq_true, Bool.or_eq_false_iff, not_true_eq_false, not_false_eq_true, Int.not_lt, Int.not_le] at hb_))
  · have hc7 := by_cell l (i := i) (by omega)
    (repeat' (first | (with_reducible apply XL.op) | ((with_reducible apply XOp.p1); (case hg | hv => exact rfl)) | ((with_reducible apply XOp.p0); (case hg => exact rfl)) | ((with_reducible apply XOp.pr); (case hg => exact rfl); (case hr => ((with_reducible apply PR.aidx); (case ht | hk | he | hx | hi => exact rfl); (case hr => first | assumption | omega)))) | (with_reducible apply XL.nilT) | (with_reducible apply XC.seq) | (with_reducible apply XC.region (Γ := Γ)) | (with_reducible apply XQ.skip) | (with_reducible apply XQ.ret) | (with_reducible apply XQ.nt) | (with_reducible apply XQ.nb) | (with_reducible apply XQ.rt) | (with_reducible apply XQ.rb) | (with_reducible apply XC.block) | ((with_reducible apply XC.condT); (case hc => exact rfl)) | (first | ((with_reducible apply XOp.load); (case hg | ht | hk | hx => exact rfl); (case hc => exact own_cell (i := 1) rfl hc7)) | ((with_reducible apply XP.load); (case ho | hg | ht | hk | hx => exact rfl); (case hc => exact own_cell (i := 1) rfl hc7))) | ((with_reducible apply XOp.split); (case hg | hj | hd | hb => exact rfl); (fail_if_success (case hf => exact fun h => Bool.noConfusion h)); (fail_if_success (case ht => exact fun h => Bool.noConfusion h)); all_goals (intro hb_; try simp only [pd_true, pd_false, Bool.not_eq_true', Bool.not_eq_false', Bool.and_eq_true, Bool.and_eq_false_iff, Bool.or_eq_true, Bool.or_eq_false_iff, not_true_eq_false, not_false_eq_true, Int.not_lt, Int.not_le] at hb_)) | ((with_reducible apply XC.cond); (case hc => exact rfl); all_goals (intro hb_; try simp only [pd_true, pd_false, Bool.not_eq_true', Bool.not_eq_false', Bool.and_eq_true, Bool.and_eq_false_iff, Bool.or_eq_true, Bool.or_eq_false_iff, not_true_eq_false, not_false_eq_true, Int.not_lt, Int.not_le] at hb_))))
    iterate 2
      (((with_reducible apply XQ.retE); (case hr => exact .t rfl .nil))
       exact congrArg Value.bool (pdf (show ¬ layP l c from fun h => by have := h.by_ i (by omega); omega)).symm)
    exact ⟨k - 1, by omega, i + 1, by omega, rfl, fun j hj => by
      rcases Nat.lt_or_ge j i with h | h
      · exact hq j h
      · obtain rfl : j = i := by omega
        exact ⟨by assumption, by assumption⟩, rfl, rfl, intS (m := 7) (by omega) (by omega), trivial⟩
  · obtain rfl : i = 7 := by omega
    (repeat (first | (with_reducible apply XL.op) | ((with_reducible apply XOp.p1); (case hg | hv => exact rfl)) | (with_reducible apply XL.nilT) | (with_reducible apply XC.seq) | (with_reducible apply XC.region (Γ := Γ)) | (with_reducible apply XQ.ret) | (with_reducible apply XQ.exit) | (with_reducible apply XQ.nt) | (with_reducible apply XQ.et) | ((with_reducible apply XQ.eb); (case hb => exact rfl))))
    ((with_reducible apply XQ.retE); (case hr => exact .t rfl .nil))
    exact congrArg Value.bool (pdt (show layP l c from ⟨p1, p2, p3, p5, p6, p4, p7, p8, by assumption, hq⟩)).symm
end Go.Proofs.YtopdcegeffnelaaGreatDoorX
/- Do the weights fit? The reference's. -/
namespace Go.Proofs.YtopdcegeffnelaaGreatDoorX
open Go Go.SX

structure okP (x : LW) : Prop where
  e : shpP x.E.mat x.C.Vocab x.C.Width
  h : shpP x.H.mat x.C.Vocab x.C.Width
  f : gainsP x.F.1 x.C.Width
  t : turnsP x.T.1 (x.C.head / 2)
  ll : (x.Ls.1.length : Int) = x.C.Layers
  ml : (x.M.1.length : Int) = x.C.Medusa
  l : ∀ l ∈ x.Ls.1, layP l x.C
  m : ∀ m ∈ x.M.1, shpP m.mat x.C.Vocab x.C.Width
theorem okP_iff {h : HV} {x : LW} (hx : lwAt h x) : (x.C.may ∧ okP x) ↔ okW x.w := by
  constructor
  · rintro ⟨c, p⟩
    refine ⟨c, (shp_iff hx.e _ _).1 p.e, p.t, ⟨by show ((x.Ls.1.map LL.lay).length : Int) = _; rw [List.length_map]; exact p.ll, fun l hl => ?_⟩, (gains_iff hx.f _).1 p.f, (shp_iff hx.hd _ _).1 p.h, by show ((x.M.1.map LM.mat).length : Int) = _; rw [List.length_map]; exact p.ml, fun m hm => ?_⟩
    · obtain ⟨y, hy, rfl⟩ := List.mem_map.1 hl
      exact (layP_iff (hx.l.locAt hy) _).1 (p.l y hy)
    · obtain ⟨y, hy, rfl⟩ := List.mem_map.1 hm
      exact (shp_iff (hx.m.locAt hy) _ _).1 (p.m y hy)
  · intro p
    have h1 := p.l.1
    have h2 := p.m.1
    change ((x.Ls.1.map LL.lay).length : Int) = _ at h1
    change ((x.M.1.map LM.mat).length : Int) = _ at h2
    rw [List.length_map] at h1 h2
    exact ⟨p.c, (shp_iff hx.e _ _).2 p.e, (shp_iff hx.hd _ _).2 p.h, (gains_iff hx.f _).2 p.f, p.t, h1, h2,
      fun l hl => (layP_iff (hx.l.locAt hl) _).2 (p.l.2 _ (List.mem_map.2 ⟨l, hl, rfl⟩)), fun m hm => (shp_iff (hx.m.locAt hm) _ _).2 (p.m.2 _ (List.mem_map.2 ⟨m, hm, rfl⟩))⟩
noncomputable def errW (w : Wts) : Int := if pd w.C.may then (if pd (okW w) then 0 else 41) else 40
theorem errW_c {w : Wts} (h : ¬ w.C.may) : errW w = 40 := by unfold errW; rw [pdf h]; rfl
theorem errW_no {w : Wts} (hc : w.C.may) (h : ¬ okW w) : errW w = 41 := by unfold errW; rw [pdt hc, pdf h]; rfl
theorem errW_ok {w : Wts} (h : okW w) : errW w = 0 := by unfold errW; rw [pdt h.c, pdt h]; rfl
theorem errW_zero {w : Wts} (h : errW w = 0) : okW w := by
  by_cases hc : w.C.may
  · by_cases h2 : okW w
    · exact h2
    · rw [errW_no hc h2] at h; omega
  · rw [errW_c hc] at h; omega
theorem cerr_iff (c : Cfg) : c.err = 0 ↔ c.may := by
  unfold Cfg.err; split
  · rename_i h; simp only [decide_eq_true_eq] at h; exact ⟨fun _ => h, fun _ => rfl⟩
  · rename_i h; simp only [decide_eq_true_eq] at h; exact ⟨fun h2 => by omega, fun h2 => absurd h2 h⟩
theorem cerr_no {c : Cfg} (h : ¬ c.may) : c.err = 40 := by unfold Cfg.err; rw [if_neg]; simpa using h
theorem half_wrap {c : Cfg} (hc : c.may) : IntKind.i64.wrap (c.head.tdiv 2) = c.head / 2 := by
  obtain ⟨n1, n2, _, _⟩ := may_nn hc
  rw [Int.tdiv_eq_ediv_of_nonneg n1]; exact wrap64_of (by omega) (by omega)
set_option maxHeartbeats 8000000 in
theorem refCheckW_fn (x : LW) : FC Tryz.prog 65 [.agg ⟨x.cells⟩] [] (fun h => lwAt h x)
    (fun v L => v = .int .i64 (errW x.w) ∧ L = []) := by
  refine FC.nil ?_
  refine FC.intro Tryz.func65 rfl (by kernel_rfl) 98 [.tmp 2] rfl rfl rfl ?_
  intro w0 hA
  (repeat (first | (with_reducible apply XL.op) | (with_reducible apply XC.seq) | (with_reducible apply XC.region (Γ := Γ))))
  ((with_reducible apply XOp.box); (case hg | hx' => exact rfl); intro wb)
  (repeat (first | (with_reducible apply XL.op) | ((with_reducible apply XOp.p1); (case hg | hv => exact rfl)) | ((with_reducible apply XOp.loadO (i := 0)); (case hg | ht | hk | hx | hi | hc => exact rfl)) | (with_reducible apply XL.nilT) | (with_reducible apply XC.seq) | (with_reducible apply XC.region (Γ := Γ))))
  ((with_reducible apply XOp.alloc); (case hg | ht | hx' => exact rfl); intro cb)
  (repeat (first | (with_reducible apply XL.op) | ((with_reducible apply XOp.loadO (i := 0)); (case hg | ht | hk | hx | hi | hc => exact rfl)) | ((with_reducible apply XOp.storeN (i := 0)); (case hg | ht | hx | hv' | hk | h1 | hi | hs | ha => exact rfl)) | (with_reducible apply XL.nilT) | (with_reducible apply XC.seq) | (with_reducible apply XC.region (Γ := Γ))))
  (repeat (first | (with_reducible apply XL.op) | ((with_reducible apply XOp.p1); (case hg | hv => exact rfl)) | (with_reducible apply XL.nilT) | (with_reducible apply XC.seq) | (with_reducible apply XC.region (Γ := Γ)) | (((with_reducible apply XOp.callQ (hF := FC.nil (refCheck_fn x.C))); (case hg => exact rfl); (case hc => exact rfl); (case ha => exact rfl); try (case hA => exact Known.true)); rintro _ rfl)))
  ((with_reducible apply XC.cond); (case hc => exact rfl); all_goals (intro hb_; try simp only [pd_true, pd_false, Bool.not_eq_true', Bool.not_eq_false', Bool.and_eq_true, Bool.and_eq_false_iff, Bool.or_eq_true, Bool.or_eq_false_iff, not_true_eq_false, not_false_eq_true, Int.not_lt, Int.not_le] at hb_))
  · (repeat (first | (with_reducible apply XL.op) | ((with_reducible apply XOp.p1); (case hg | hv => exact rfl)) | (with_reducible apply XL.nilT) | (with_reducible apply XC.seq) | (with_reducible apply XC.region (Γ := Γ)) | (with_reducible apply XQ.ret) | (with_reducible apply XQ.rt)))
    ((with_reducible apply XQ.retE); (case hr => exact .t rfl .nil))
    exact congrArg (Value.int .i64) ((cerr_no (fun h => hb_ ((cerr_iff _).2 h))).trans (errW_c (w := x.w) (fun h => hb_ ((cerr_iff _).2 h))).symm)
  have hc : x.C.may := (cerr_iff _).1 (by first | assumption | exact Classical.not_not.1 hb_)
  have hno : ¬ okP x → errW x.w = 41 := fun h => errW_no hc (fun h2 => h ((okP_iff hA).2 h2).2)
  (repeat (first | (with_reducible apply XC.seq) | (with_reducible apply XQ.skip) | (with_reducible apply XQ.nt)))
  ((with_reducible apply XC.regionD (Γ := Γ) mixed (.q 0 (.q 1 (.q 2 (.q 3 (.q 4 (.q 5 (.e 6 (.q 7 (.q 8 (.q 9 (.q 10 (.q 11 (.q 12 (.q 13 (.q 14 (.e 15 (.q 16 (.q 17 (.q 18 (.q 19 (.q 20 (.q 21 (.q 22 (.e 23 (.q 24 (.q 25 (.q 26 (.q 27 (.q 28 (.q 29 (.e 30 (.q 31 (.e 32 (.q 33 (.q 34 (.done)))))))))))))))))))))))))))))))))))) [] []); (case hc => kernel_rfl))
  (repeat' (first | (with_reducible apply XL.op) | ((with_reducible apply XOp.p1); (case hg | hv => exact rfl)) | ((with_reducible apply XOp.p0); (case hg => exact rfl)) | ((with_reducible apply XOp.load); (case hg | ht | hk | hx => exact rfl); (case hc => exact own_cell (i := 0) rfl rfl)) | ((with_reducible apply XOp.load); (case hg | ht | hk | hx => exact rfl); (case hc => exact own_cell (i := 1) rfl rfl)) | (with_reducible apply XL.nilT) | (with_reducible apply XC.seq) | (with_reducible apply XC.region (Γ := Γ)) | (with_reducible apply XQ.skip) | (with_reducible apply XQ.ret) | (with_reducible apply XQ.nt) | (with_reducible apply XQ.rt) | (with_reducible apply XC.block) | ((with_reducible apply XP.p1); (case ho | hg | hv => exact rfl)) | ((with_reducible apply XP.p0); (case ho | hg => exact rfl)) | ((with_reducible apply XP.load); (case ho | hg | ht | hk | hx => exact rfl); (case hc => exact own_cell (i := 0) rfl rfl)) | ((with_reducible apply XP.load); (case ho | hg | ht | hk | hx => exact rfl); (case hc => exact own_cell (i := 1) rfl rfl)) | ((with_reducible apply XP.loadO (j := 0)); (case ho | hg | ht | hk | hx | hi | hc => exact rfl)) | ((with_reducible apply XP.loadO (j := 1)); (case ho | hg | ht | hk | hx | hi | hc => exact rfl)) | (with_reducible apply XP.done) | ((with_reducible apply XP.e); (first | ((with_reducible apply XE.d); (case ho => exact rfl); (case hd => exact rfl)) | ((with_reducible apply XE.e); (case ho => exact rfl)))) | ((with_reducible apply XP.keep); (case hk => first | ((repeat' (first | exact List.forall_mem_nil _ | (with_reducible refine List.forall_mem_cons.2 ⟨?_, ?_⟩) | exact List.mem_cons_self .. | (with_reducible apply List.mem_cons_of_mem) | (with_reducible apply List.mem_append_right))); done) | (intro x hx; first | exact sel_in hx | exact List.mem_cons_of_mem _ (sel_in hx) | exact List.mem_append_right _ (sel_in hx) | exact hx | exact List.mem_cons_of_mem _ hx | exact List.mem_append_right _ hx | ((repeat (first | exact sel_in hx | exact hx | (with_reducible apply List.mem_cons_of_mem) | (with_reducible apply List.mem_append_right))); done) | (rw [List.mem_singleton.1 hx]; (simp; done)) | (rcases List.mem_cons.1 hx with rfl | hx; (simp; done); (rw [List.mem_singleton.1 hx]; (simp; done))) | cases hx))) | ((with_reducible apply XC.condT); (case hc => exact rfl)) | (((with_reducible apply XOp.callQ (hF := refGainsL_fn _ _)); (case hg => exact rfl); (case hc => exact rfl); (case ha => exact rfl); try (case hA => exact Known.true)); (case hA => exact Known.of_old hA.f (lv_mono _)); rintro _ rfl) | (((with_reducible apply XOp.callQ (hF := refIsL_fn _ _ _)); (case hg => exact rfl); (case hc => exact rfl); (case ha => exact rfl); try (case hA => exact Known.true)); (case hA => first | exact Known.of_old hA.e (lm_mono _) | exact Known.of_old hA.hd (lm_mono _)); rintro _ rfl) | (((with_reducible apply XOp.callQ (hF := refHead_fn x.C hc)); (case hg => exact rfl); (case hc => exact rfl); (case ha => exact rfl); try (case hA => exact Known.true)); rintro _ rfl) | (((with_reducible apply XOp.callQ (hF := refTurns_fn x.T.1 x.T.2.1 x.T.2.2 _)); (case hg => exact rfl); (case hc => exact rfl); (case ha => exact rfl); try (case hA => exact Known.true)); (case hA => exact Known.of_old hA.t (Mono.sl _ _ _ _ _)); rintro _ rfl) | ((with_reducible apply XOp.split); (case hg | hj | hd | hb => exact rfl); (fail_if_success (case hf => exact fun h => Bool.noConfusion h)); (fail_if_success (case ht => exact fun h => Bool.noConfusion h)); all_goals (intro hb_; try simp only [pd_true, pd_false, Bool.not_eq_true', Bool.not_eq_false', Bool.and_eq_true, Bool.and_eq_false_iff, Bool.or_eq_true, Bool.or_eq_false_iff, not_true_eq_false, not_false_eq_true, Int.not_lt, Int.not_le] at hb_)) | ((with_reducible apply XP.split); (case ho | hg | hj | hd | hb => exact rfl); (fail_if_success (case hf => exact fun h => Bool.noConfusion h)); (fail_if_success (case ht => exact fun h => Bool.noConfusion h)); all_goals (intro hb_; try simp only [pd_true, pd_false, Bool.not_eq_true', Bool.not_eq_false', Bool.and_eq_true, Bool.and_eq_false_iff, Bool.or_eq_true, Bool.or_eq_false_iff, not_true_eq_false, not_false_eq_true, Int.not_lt, Int.not_le] at hb_)) | ((with_reducible apply XC.cond); (case hc => exact rfl); all_goals (intro hb_; try simp only [pd_true, pd_false, Bool.not_eq_true', Bool.not_eq_false', Bool.and_eq_true, Bool.and_eq_false_iff, Bool.or_eq_true, Bool.or_eq_false_iff, not_true_eq_false, not_false_eq_true, Int.not_lt, Int.not_le] at hb_))))
  iterate 6
    (((with_reducible apply XQ.retE); (case hr => exact .t rfl .nil))
     exact congrArg (Value.int .i64) (hno fun h => by
       try rw [half_wrap hc] at hb_
       first | exact hb_ h.e | exact hb_ h.h | exact hb_ h.f | exact hb_ h.t | exact hb_ h.ll | exact hb_ h.ml).symm)
  rename_i p1 p2 p3 p4 p5
  rw [half_wrap hc] at p4
  refine XC.loop (fun k ρ L => ∃ i : Nat, i + k = x.Ls.1.length ∧ L = [(cb, .cells ⟨x.C.cells⟩ 23 (0, 0)), (wb, .cells ⟨x.cells⟩ 31 (0, 0))] ∧ (∀ l ∈ x.Ls.1.take i, layP l x.C) ∧ Slots ρ [(1, .pointer (some ⟨wb, 0, none⟩)), (3, .pointer (some ⟨cb, 0, none⟩)), (5, .int .i64 i)])
    x.Ls.1.length ⟨0, by simp, rfl, by simp, rfl, rfl, rfl, trivial⟩ ?_
  rintro k ρ L ⟨i, hik, rfl, hq, hs⟩
  have hL := hA.l.locRaw
  have hLa := hL.at_
  have hLb := hL.bytes
  refine XC.slots _ hs ?_
  (repeat (first | (with_reducible apply XL.op) | ((with_reducible apply XOp.p1); (case hg | hv => exact rfl)) | ((with_reducible apply XOp.load); (case hg | ht | hk | hx => exact rfl); (case hc => exact own_cell (i := 0) rfl rfl)) | (with_reducible apply XL.nilT) | (with_reducible apply XC.seq) | (with_reducible apply XC.region (Γ := Γ))))
  ((with_reducible apply XC.cond); (case hc => exact rfl); all_goals (intro hb_; try simp only [pd_true, pd_false, Bool.not_eq_true', Bool.not_eq_false', Bool.and_eq_true, Bool.and_eq_false_iff, Bool.or_eq_true, Bool.or_eq_false_iff, not_true_eq_false, not_false_eq_true, Int.not_lt, Int.not_le] at hb_))
  · obtain ⟨l, hi⟩ : ∃ l, x.Ls.1[i]? = some l := ⟨_, List.getElem?_eq_getElem (by omega)⟩
    have hl := hA.l.locAt (List.mem_of_getElem? hi)
    (repeat (first | (with_reducible apply XC.seq) | (with_reducible apply XQ.skip) | (with_reducible apply XQ.nt) | (with_reducible apply XC.block)))
    ((with_reducible apply XC.regionD (Γ := Γ) mixed (.q 0 (.q 1 (.q 2 (.q 3 (.q 4 (.q 5 (.e 6 (.q 7 (.done))))))))) [] []); (case hc => kernel_rfl))
    (repeat' (first | (with_reducible apply XL.op) | ((with_reducible apply XOp.p1); (case hg | hv => exact rfl)) | (with_reducible apply XL.nilT) | (with_reducible apply XC.seq) | (with_reducible apply XC.region (Γ := Γ)) | (with_reducible apply XQ.skip) | (with_reducible apply XQ.ret) | (with_reducible apply XQ.nt) | (with_reducible apply XQ.nb) | (with_reducible apply XQ.rt) | (with_reducible apply XQ.rb) | ((with_reducible apply XP.p1); (case ho | hg | hv => exact rfl)) | ((with_reducible apply XP.load); (case ho | hg | ht | hk | hx => exact rfl); (case hc => exact own_cell (i := 1) rfl rfl)) | ((with_reducible apply XP.loadO (j := 0)); (case ho | hg | ht | hk | hx | hi | hc => exact rfl)) | ((with_reducible apply XP.pr); (case ho => exact rfl); (case hg => exact rfl); (case hr => ((with_reducible apply PR.idxA); (case ht | hk | he | hx | hi => exact rfl); (case hr => first | assumption | omega); (case ha => first | assumption | exact SlA.at_ (by assumption))))) | (with_reducible apply XP.done) | ((with_reducible apply XP.e); (first | ((with_reducible apply XE.d); (case ho => exact rfl); (case hd => exact rfl)) | ((with_reducible apply XE.e); (case ho => exact rfl)))) | ((with_reducible apply XP.keep); (case hk => first | ((repeat' (first | exact List.forall_mem_nil _ | (with_reducible refine List.forall_mem_cons.2 ⟨?_, ?_⟩) | exact List.mem_cons_self .. | (with_reducible apply List.mem_cons_of_mem) | (with_reducible apply List.mem_append_right))); done) | (intro x hx; first | exact sel_in hx | exact List.mem_cons_of_mem _ (sel_in hx) | exact List.mem_append_right _ (sel_in hx) | exact hx | exact List.mem_cons_of_mem _ hx | exact List.mem_append_right _ hx | ((repeat (first | exact sel_in hx | exact hx | (with_reducible apply List.mem_cons_of_mem) | (with_reducible apply List.mem_append_right))); done) | (rw [List.mem_singleton.1 hx]; (simp; done)) | (rcases List.mem_cons.1 hx with rfl | hx; (simp; done); (rw [List.mem_singleton.1 hx]; (simp; done))) | cases hx))) | (first | ((with_reducible apply XOp.loadN); (case hg | ht | hk | hx => exact rfl); (case hc => exact Known.of_old (hL.rawAt hi) (Mono.row _ _ _)); (case hl => exact rfl)) | ((with_reducible apply XP.loadN); (case ho | hg | ht | hk | hx => exact rfl); (case hc => exact Known.of_old (hL.rawAt hi) (Mono.row _ _ _)); (case hl => exact rfl))) | (((with_reducible apply XOp.callQ (hF := refLayer_fn l x.C hc)); (case hg => exact rfl); (case hc => exact rfl); (case ha => exact rfl); try (case hA => exact Known.true)); (case hA => exact Known.of_old hl (ll_mono _)); rintro _ rfl) | ((with_reducible apply XC.cond); (case hc => exact rfl); all_goals (intro hb_; try simp only [pd_true, pd_false, Bool.not_eq_true', Bool.not_eq_false', Bool.and_eq_true, Bool.and_eq_false_iff, Bool.or_eq_true, Bool.or_eq_false_iff, not_true_eq_false, not_false_eq_true, Int.not_lt, Int.not_le] at hb_))))
    · ((with_reducible apply XQ.retE); (case hr => exact .t rfl .nil))
      exact congrArg (Value.int .i64) (hno fun h => hb_ (h.l l (List.mem_of_getElem? hi))).symm
    · exact ⟨k - 1, by omega, i + 1, by omega, rfl, forall_snoc hi hq (by assumption), rfl, rfl, intS (m := x.Ls.1.length) (by omega) (by omega), trivial⟩
  obtain rfl : i = x.Ls.1.length := by omega
  rw [List.take_length] at hq
  (repeat (first | (with_reducible apply XL.op) | ((with_reducible apply XOp.p1); (case hg | hv => exact rfl)) | (with_reducible apply XL.nilT) | (with_reducible apply XC.seq) | (with_reducible apply XC.region (Γ := Γ)) | (with_reducible apply XQ.exit) | (with_reducible apply XQ.nt) | (with_reducible apply XQ.et) | (with_reducible apply XC.block) | ((with_reducible apply XQ.eb); (case hb => exact rfl))))
  refine XC.loop (fun k ρ L => ∃ i : Nat, i + k = x.M.1.length ∧ L = [(cb, .cells ⟨x.C.cells⟩ 23 (0, 0)), (wb, .cells ⟨x.cells⟩ 31 (0, 0))] ∧ (∀ l ∈ x.M.1.take i, shpP l.mat x.C.Vocab x.C.Width) ∧ Slots ρ [(1, .pointer (some ⟨wb, 0, none⟩)), (3, .pointer (some ⟨cb, 0, none⟩)), (7, .int .i64 i)])
    x.M.1.length ⟨0, by simp, rfl, by simp, rfl, rfl, rfl, trivial⟩ ?_
  rintro k ρ L ⟨i, hik, rfl, hq2, hs⟩
  have hM := hA.m.locRaw
  have hMa := hM.at_
  have hMb := hM.bytes
  refine XC.slots _ hs ?_
  (repeat (first | (with_reducible apply XL.op) | ((with_reducible apply XOp.p1); (case hg | hv => exact rfl)) | ((with_reducible apply XOp.load); (case hg | ht | hk | hx => exact rfl); (case hc => exact own_cell (i := 0) rfl rfl)) | (with_reducible apply XL.nilT) | (with_reducible apply XC.seq) | (with_reducible apply XC.region (Γ := Γ))))
  ((with_reducible apply XC.cond); (case hc => exact rfl); all_goals (intro hb_; try simp only [pd_true, pd_false, Bool.not_eq_true', Bool.not_eq_false', Bool.and_eq_true, Bool.and_eq_false_iff, Bool.or_eq_true, Bool.or_eq_false_iff, not_true_eq_false, not_false_eq_true, Int.not_lt, Int.not_le] at hb_))
  · obtain ⟨l, hi⟩ : ∃ l, x.M.1[i]? = some l := ⟨_, List.getElem?_eq_getElem (by omega)⟩
    have hl := hA.m.locAt (List.mem_of_getElem? hi)
    (repeat (first | (with_reducible apply XC.seq) | (with_reducible apply XQ.skip) | (with_reducible apply XQ.nt) | (with_reducible apply XC.block)))
    ((with_reducible apply XC.regionD (Γ := Γ) mixed (.q 0 (.q 1 (.q 2 (.q 3 (.q 4 (.q 5 (.q 6 (.q 7 (.q 8 (.e 9 (.q 10 (.done)))))))))))) [] []); (case hc => kernel_rfl))
    (repeat' (first | (with_reducible apply XL.op) | ((with_reducible apply XOp.p1); (case hg | hv => exact rfl)) | (with_reducible apply XL.nilT) | (with_reducible apply XC.seq) | (with_reducible apply XC.region (Γ := Γ)) | (with_reducible apply XQ.skip) | (with_reducible apply XQ.ret) | (with_reducible apply XQ.nt) | (with_reducible apply XQ.nb) | (with_reducible apply XQ.rt) | (with_reducible apply XQ.rb) | ((with_reducible apply XP.p1); (case ho | hg | hv => exact rfl)) | ((with_reducible apply XP.load); (case ho | hg | ht | hk | hx => exact rfl); (case hc => exact own_cell (i := 0) rfl rfl)) | ((with_reducible apply XP.load); (case ho | hg | ht | hk | hx => exact rfl); (case hc => exact own_cell (i := 1) rfl rfl)) | ((with_reducible apply XP.pr); (case ho => exact rfl); (case hg => exact rfl); (case hr => ((with_reducible apply PR.idxA); (case ht | hk | he | hx | hi => exact rfl); (case hr => first | assumption | omega); (case ha => first | assumption | exact SlA.at_ (by assumption))))) | (with_reducible apply XP.done) | ((with_reducible apply XP.e); (first | ((with_reducible apply XE.d); (case ho => exact rfl); (case hd => exact rfl)) | ((with_reducible apply XE.e); (case ho => exact rfl)))) | ((with_reducible apply XP.keep); (case hk => first | ((repeat' (first | exact List.forall_mem_nil _ | (with_reducible refine List.forall_mem_cons.2 ⟨?_, ?_⟩) | exact List.mem_cons_self .. | (with_reducible apply List.mem_cons_of_mem) | (with_reducible apply List.mem_append_right))); done) | (intro x hx; first | exact sel_in hx | exact List.mem_cons_of_mem _ (sel_in hx) | exact List.mem_append_right _ (sel_in hx) | exact hx | exact List.mem_cons_of_mem _ hx | exact List.mem_append_right _ hx | ((repeat (first | exact sel_in hx | exact hx | (with_reducible apply List.mem_cons_of_mem) | (with_reducible apply List.mem_append_right))); done) | (rw [List.mem_singleton.1 hx]; (simp; done)) | (rcases List.mem_cons.1 hx with rfl | hx; (simp; done); (rw [List.mem_singleton.1 hx]; (simp; done))) | cases hx))) | (first | ((with_reducible apply XOp.loadN); (case hg | ht | hk | hx => exact rfl); (case hc => exact Known.of_old (hM.rawAt hi) (Mono.row _ _ _)); (case hl => exact rfl)) | ((with_reducible apply XP.loadN); (case ho | hg | ht | hk | hx => exact rfl); (case hc => exact Known.of_old (hM.rawAt hi) (Mono.row _ _ _)); (case hl => exact rfl))) | (((with_reducible apply XOp.callQ (hF := refIsL_fn l _ _)); (case hg => exact rfl); (case hc => exact rfl); (case ha => exact rfl); try (case hA => exact Known.true)); (case hA => exact Known.of_old hl (lm_mono _)); rintro _ rfl) | ((with_reducible apply XC.cond); (case hc => exact rfl); all_goals (intro hb_; try simp only [pd_true, pd_false, Bool.not_eq_true', Bool.not_eq_false', Bool.and_eq_true, Bool.and_eq_false_iff, Bool.or_eq_true, Bool.or_eq_false_iff, not_true_eq_false, not_false_eq_true, Int.not_lt, Int.not_le] at hb_))))
    · ((with_reducible apply XQ.retE); (case hr => exact .t rfl .nil))
      exact congrArg (Value.int .i64) (hno fun h => hb_ (h.m l (List.mem_of_getElem? hi))).symm
    · exact ⟨k - 1, by omega, i + 1, by omega, rfl, forall_snoc hi hq2 (by assumption), rfl, rfl, intS (m := x.M.1.length) (by omega) (by omega), trivial⟩
  obtain rfl : i = x.M.1.length := by omega
  rw [List.take_length] at hq2
  (repeat (first | (with_reducible apply XL.op) | ((with_reducible apply XOp.p1); (case hg | hv => exact rfl)) | (with_reducible apply XL.nilT) | (with_reducible apply XC.seq) | (with_reducible apply XC.region (Γ := Γ)) | (with_reducible apply XQ.ret) | (with_reducible apply XQ.exit) | (with_reducible apply XQ.nt) | (with_reducible apply XQ.et) | ((with_reducible apply XQ.eb); (case hb => exact rfl))))
  ((with_reducible apply XQ.retE); (case hr => exact .t rfl .nil))
  exact congrArg (Value.int .i64) (errW_ok ((okP_iff hA).1 ⟨hc, p1, p2, p3, p4, p5, by assumption, hq, hq2⟩)).symm
end Go.Proofs.YtopdcegeffnelaaGreatDoorX
/- A layer's bytes: the reference's. -/
namespace Go.Proofs.YtopdcegeffnelaaGreatDoorX
open Go Go.SX

end Go.Proofs.YtopdcegeffnelaaGreatDoorX
/- How long the parts of weights that fit are. -/
namespace Go.Proofs.YtopdcegeffnelaaGreatDoorX
open Go Go.SX

structure szW (w : Wts) : Prop where
  e : w.Embed.Data.length ≤ 2048
  t : w.Turns.length ≤ 16
  l : w.Layers.length ≤ 4
  lb : ∀ l ∈ w.Layers, (layBody l).length ≤ 30000
  f : w.Final.length ≤ 32
  h : w.Head.Data.length ≤ 2048
  m : w.Medusa.length ≤ 4
  mb : ∀ m ∈ w.Medusa, m.Data.length ≤ 2048
end Go.Proofs.YtopdcegeffnelaaGreatDoorX
/- The file's bytes: the reference's. -/
namespace Go.Proofs.YtopdcegeffnelaaGreatDoorX
open Go Go.SX

def secsL (x : LW) : List Int := beginB ++ secB 67 (x.C.list.map toB) ++ secB 69 (x.E.d.1.map toB) ++ secB 84 (x.T.1.flatMap turnB)
end Go.Proofs.YtopdcegeffnelaaGreatDoorX
/- The reference's Encode. -/
namespace Go.Proofs.YtopdcegeffnelaaGreatDoorX
open Go Go.SX

noncomputable def encS (w : Wts) : List Int := if pd (okW w) then fileOf digS w else []
def EncR (w : Wts) (v : Value) (L : HL) : Prop := ∃ u m, v = .tuple #[u, .int .i64 (errW w)] ∧ OwnS 5 1 u m ((encS w).map (.int .u8)) L ∧ m ≤ 1000000
end Go.Proofs.YtopdcegeffnelaaGreatDoorX
/- The matrices of a layer: where each lies, and its measures. -/
namespace Go.Proofs.YtopdcegeffnelaaGreatDoorX
open Go Go.SX

def sidesL : List Value := [.int .i64 0, .int .i64 0, .int .i64 1, .int .i64 0, .int .i64 1, .int .i64 0, .int .i64 0, .int .i64 0, .int .i64 2, .int .i64 0, .int .i64 2, .int .i64 0, .int .i64 0, .int .i64 2]
/-- The program's table of sides, as it is laid. -/
def sidesK (h : HV) : Prop := rowv h 0 0 sidesL
theorem sides_mono : Mono sidesK := Mono.row _ _ _
def zf (i j : Nat) (v : Int) : Value := match Nat.blt j i with | true => .int .i64 v | false => .int .i64 0
def shC (c : Cfg) (i : Nat) : List Value := [.func (.func 222) #[] #[], zf i 0 (measS c 0), zf i 0 (measS c 0), .func (.func 223) #[] #[], zf i 1 (measS c 1), zf i 1 (measS c 0), .func (.func 224) #[] #[], zf i 2 (measS c 1), zf i 2 (measS c 0),
  .func (.func 225) #[] #[], zf i 3 (measS c 0), zf i 3 (measS c 0), .func (.func 226) #[] #[], zf i 4 (measS c 2), zf i 4 (measS c 0), .func (.func 227) #[] #[], zf i 5 (measS c 2), zf i 5 (measS c 0), .func (.func 228) #[] #[], zf i 6 (measS c 0), zf i 6 (measS c 2)]
set_option maxHeartbeats 8000000 in
theorem shapes_fn (c : Cfg) (hc : c.may) : FC Tryz.prog 180 [.agg ⟨c.cells⟩] [] (fun h => sidesK h)
    (fun v L => ∃ b, v = .slice (some ⟨b, 0, none⟩) 7 7 ∧ L = [(b, .cells ⟨shC c 7⟩ 336 (0, 0))]) := by
  refine FC.sub2 ?_
  refine FC.intro Tryz.func180 rfl (by kernel_rfl) 40 [.tmp 2] rfl rfl rfl ?_
  intro w0 hA
  (repeat (first | (with_reducible apply XL.op) | (with_reducible apply XC.seq) | (with_reducible apply XC.region (Γ := Γ))))
  ((with_reducible apply XOp.box); (case hg | hx' => exact rfl); intro cb)
  (repeat (first | (with_reducible apply XL.op) | ((with_reducible apply XOp.p1); (case hg | hv => exact rfl)) | ((with_reducible apply XOp.pr); (case hg => exact rfl); (case hr => ((with_reducible apply PR.build); (case ht | hk | hok | hz | hf => exact rfl)))) | (with_reducible apply XL.nilT) | (with_reducible apply XC.seq) | (with_reducible apply XC.region (Γ := Γ))))
  ((with_reducible apply XOp.buildSlice); (case hg | ht | hk | he | hz | hzl | hf => exact rfl); intro b)
  (repeat (first | (with_reducible apply XL.op) | ((with_reducible apply XOp.p1); (case hg | hv => exact rfl)) | (with_reducible apply XL.nilT) | (with_reducible apply XC.seq) | (with_reducible apply XC.region (Γ := Γ)) | (with_reducible apply XC.block)))
  refine XC.loop (fun k ρ L => ∃ i : Nat, i + k = 7 ∧ L = [(b, .cells ⟨shC c i⟩ 336 (0, 0)), (cb, .cells ⟨c.cells⟩ 23 (0, 0))] ∧ Slots ρ [(1, .pointer (some ⟨cb, 0, none⟩)), (3, .slice (some ⟨b, 0, none⟩) 7 7), (14, .int .i64 7), (15, .int .i64 i)])
    7 ⟨0, by simp, rfl, rfl, rfl, rfl, rfl, trivial⟩ ?_
  rintro k ρ L ⟨i, hik, rfl, hs⟩
  refine XC.slots _ hs ?_
  (repeat (first | (with_reducible apply XL.op) | ((with_reducible apply XOp.p1); (case hg | hv => exact rfl)) | (with_reducible apply XL.nilT) | (with_reducible apply XC.seq) | (with_reducible apply XC.region (Γ := Γ))))
  ((with_reducible apply XC.cond); (case hc => exact rfl); all_goals (intro hb_; try simp only [pd_true, pd_false, Bool.not_eq_true', Bool.not_eq_false', Bool.and_eq_true, Bool.and_eq_false_iff, Bool.or_eq_true, Bool.or_eq_false_iff, not_true_eq_false, not_false_eq_true, Int.not_lt, Int.not_le] at hb_))
  · have hcA : cellv (oldv w0 (keys [])) ⟨0, 0 + i * 2 + 0, none⟩ = some ((sidesL[i * 2]?).getD undef) := by
      have := hA (i * 2) _ (List.getElem?_eq_getElem (by show i * 2 < 14; omega))
      rw [List.getElem?_eq_getElem (by show i * 2 < 14; omega)]; exact this
    have hcB : cellv (oldv w0 (keys [])) ⟨0, 0 + i * 2 + 1, none⟩ = some ((sidesL[i * 2 + 1]?).getD undef) := by
      have := hA (i * 2 + 1) _ (List.getElem?_eq_getElem (by show i * 2 + 1 < 14; omega))
      rw [List.getElem?_eq_getElem (by show i * 2 + 1 < 14; omega)]; exact this
    rcases (by omega : i = 0 ∨ i = 1 ∨ i = 2 ∨ i = 3 ∨ i = 4 ∨ i = 5 ∨ i = 6) with rfl | rfl | rfl | rfl | rfl | rfl | rfl
    all_goals (repeat (first | (with_reducible apply XL.op) | ((with_reducible apply XOp.p1); (case hg | hv => exact rfl)) | (with_reducible apply XL.nilT) | (with_reducible apply XC.seq) | (with_reducible apply XC.region (Γ := Γ)) | (with_reducible apply XQ.skip) | (with_reducible apply XQ.nt) | (with_reducible apply XC.block)))
    all_goals ((with_reducible apply XC.regionD (Γ := Γ) mixed (.q 0 (.q 1 (.q 2 (.q 3 (.q 4 (.q 5 (.q 6 (.q 7 (.q 8 (.q 10 (.q 11 (.q 12 (.q 13 (.q 14 (.e 9 (.e 15 (.q 16 (.q 17 (.e 18 (.q 19 (.q 20 (.e 21 (.done))))))))))))))))))))))) [] [false, true]); (case hc => kernel_rfl))
    all_goals (repeat (first | (with_reducible apply XL.op) | ((with_reducible apply XOp.p1); (case hg | hv => exact rfl)) | ((with_reducible apply XOp.store (i := 0)); (case hg | ht | hk | hx | hv | h1 | hi | hs | ha => exact rfl)) | (with_reducible apply XL.nilT) | (with_reducible apply XC.region (Γ := Γ)) | (with_reducible apply XQ.nt) | (with_reducible apply XQ.nb) | ((with_reducible apply XP.p1); (case ho | hg | hv => exact rfl)) | ((with_reducible apply XP.loadO (j := 0)); (case ho | hg | ht | hk | hx | hi | hc => exact rfl)) | (with_reducible apply XP.done) | ((with_reducible apply XP.e); (first | ((with_reducible apply XE.d); (case ho => exact rfl); (case hd => exact rfl)) | ((with_reducible apply XE.e); (case ho => exact rfl)))) | ((with_reducible apply XP.keep); (case hk => first | ((repeat' (first | exact List.forall_mem_nil _ | (with_reducible refine List.forall_mem_cons.2 ⟨?_, ?_⟩) | exact List.mem_cons_self .. | (with_reducible apply List.mem_cons_of_mem) | (with_reducible apply List.mem_append_right))); done) | (intro x hx; first | exact sel_in hx | exact List.mem_cons_of_mem _ (sel_in hx) | exact List.mem_append_right _ (sel_in hx) | exact hx | exact List.mem_cons_of_mem _ hx | exact List.mem_append_right _ hx | ((repeat (first | exact sel_in hx | exact hx | (with_reducible apply List.mem_cons_of_mem) | (with_reducible apply List.mem_append_right))); done) | (rw [List.mem_singleton.1 hx]; (simp; done)) | (rcases List.mem_cons.1 hx with rfl | hx; (simp; done); (rw [List.mem_singleton.1 hx]; (simp; done))) | cases hx))) | (first | ((with_reducible apply XOp.load); (case hg | ht | hk | hx => exact rfl); (case hc => exact Known.of_old hcA (Mono.cell _ _))) | ((with_reducible apply XP.load); (case ho | hg | ht | hk | hx => exact rfl); (case hc => exact Known.of_old hcA (Mono.cell _ _)))) | (first | ((with_reducible apply XOp.load); (case hg | ht | hk | hx => exact rfl); (case hc => exact Known.of_old hcB (Mono.cell _ _))) | ((with_reducible apply XP.load); (case ho | hg | ht | hk | hx => exact rfl); (case hc => exact Known.of_old hcB (Mono.cell _ _)))) | (((with_reducible apply XOp.callQ (hF := measure_fn c hc _)); (case hg => exact rfl); (case hc => exact rfl); (case ha => exact rfl); try (case hA => exact Known.true)); rintro _ rfl)))
    all_goals first | exact ⟨k - 1, by omega, 1, by omega, rfl, rfl, rfl, rfl, intS2 (i := 0) (m := 7) (by omega) (by omega), trivial⟩ | exact ⟨k - 1, by omega, 2, by omega, rfl, rfl, rfl, rfl, intS2 (i := 1) (m := 7) (by omega) (by omega), trivial⟩ | exact ⟨k - 1, by omega, 3, by omega, rfl, rfl, rfl, rfl, intS2 (i := 2) (m := 7) (by omega) (by omega), trivial⟩ | exact ⟨k - 1, by omega, 4, by omega, rfl, rfl, rfl, rfl, intS2 (i := 3) (m := 7) (by omega) (by omega), trivial⟩ | exact ⟨k - 1, by omega, 5, by omega, rfl, rfl, rfl, rfl, intS2 (i := 4) (m := 7) (by omega) (by omega), trivial⟩ | exact ⟨k - 1, by omega, 6, by omega, rfl, rfl, rfl, rfl, intS2 (i := 5) (m := 7) (by omega) (by omega), trivial⟩ | exact ⟨k - 1, by omega, 7, by omega, rfl, rfl, rfl, rfl, intS2 (i := 6) (m := 7) (by omega) (by omega), trivial⟩
  · obtain rfl : i = 7 := by omega
    (repeat (first | (with_reducible apply XL.op) | ((with_reducible apply XOp.p1); (case hg | hv => exact rfl)) | (with_reducible apply XL.nilT) | (with_reducible apply XC.seq) | (with_reducible apply XC.region (Γ := Γ)) | (with_reducible apply XQ.ret) | (with_reducible apply XQ.exit) | (with_reducible apply XQ.nt) | (with_reducible apply XQ.et) | ((with_reducible apply XQ.eb); (case hb => exact rfl))))
    ((with_reducible apply XQ.retE); (case hr => exact .t rfl .nil))
    exact ⟨_, .of (List.Sublist.cons_cons _ (List.nil_sublist _)), b, rfl, rfl⟩

theorem shape1_fn (lb off : Nat) : FC Tryz.prog 222 [.pointer (some ⟨lb, off, none⟩)] [] (fun _ => True) (fun v L => v = .pointer (some ⟨lb, off + 2, none⟩) ∧ L = []) := by
  refine FC.nil ?_
  refine FC.intro Tryz.func222 rfl (by kernel_rfl) 6 [.tmp 2] rfl rfl rfl ?_
  intro w0 _
  (repeat (first | (with_reducible apply XL.op) | ((with_reducible apply XOp.p1); (case hg | hv => exact rfl)) | (with_reducible apply XL.nilT) | (with_reducible apply XC.seq) | (with_reducible apply XC.region (Γ := Γ)) | (with_reducible apply XQ.ret)))
  ((with_reducible apply XQ.retE); (case hr => exact .t rfl .nil))
  rfl
theorem shape2_fn (lb off : Nat) : FC Tryz.prog 223 [.pointer (some ⟨lb, off, none⟩)] [] (fun _ => True) (fun v L => v = .pointer (some ⟨lb, off + 5, none⟩) ∧ L = []) := by
  refine FC.nil ?_
  refine FC.intro Tryz.func223 rfl (by kernel_rfl) 6 [.tmp 2] rfl rfl rfl ?_
  intro w0 _
  (repeat (first | (with_reducible apply XL.op) | ((with_reducible apply XOp.p1); (case hg | hv => exact rfl)) | (with_reducible apply XL.nilT) | (with_reducible apply XC.seq) | (with_reducible apply XC.region (Γ := Γ)) | (with_reducible apply XQ.ret)))
  ((with_reducible apply XQ.retE); (case hr => exact .t rfl .nil))
  rfl
theorem shape3_fn (lb off : Nat) : FC Tryz.prog 224 [.pointer (some ⟨lb, off, none⟩)] [] (fun _ => True) (fun v L => v = .pointer (some ⟨lb, off + 8, none⟩) ∧ L = []) := by
  refine FC.nil ?_
  refine FC.intro Tryz.func224 rfl (by kernel_rfl) 6 [.tmp 2] rfl rfl rfl ?_
  intro w0 _
  (repeat (first | (with_reducible apply XL.op) | ((with_reducible apply XOp.p1); (case hg | hv => exact rfl)) | (with_reducible apply XL.nilT) | (with_reducible apply XC.seq) | (with_reducible apply XC.region (Γ := Γ)) | (with_reducible apply XQ.ret)))
  ((with_reducible apply XQ.retE); (case hr => exact .t rfl .nil))
  rfl
theorem shape4_fn (lb off : Nat) : FC Tryz.prog 225 [.pointer (some ⟨lb, off, none⟩)] [] (fun _ => True) (fun v L => v = .pointer (some ⟨lb, off + 11, none⟩) ∧ L = []) := by
  refine FC.nil ?_
  refine FC.intro Tryz.func225 rfl (by kernel_rfl) 6 [.tmp 2] rfl rfl rfl ?_
  intro w0 _
  (repeat (first | (with_reducible apply XL.op) | ((with_reducible apply XOp.p1); (case hg | hv => exact rfl)) | (with_reducible apply XL.nilT) | (with_reducible apply XC.seq) | (with_reducible apply XC.region (Γ := Γ)) | (with_reducible apply XQ.ret)))
  ((with_reducible apply XQ.retE); (case hr => exact .t rfl .nil))
  rfl
theorem shape5_fn (lb off : Nat) : FC Tryz.prog 226 [.pointer (some ⟨lb, off, none⟩)] [] (fun _ => True) (fun v L => v = .pointer (some ⟨lb, off + 14, none⟩) ∧ L = []) := by
  refine FC.nil ?_
  refine FC.intro Tryz.func226 rfl (by kernel_rfl) 6 [.tmp 2] rfl rfl rfl ?_
  intro w0 _
  (repeat (first | (with_reducible apply XL.op) | ((with_reducible apply XOp.p1); (case hg | hv => exact rfl)) | (with_reducible apply XL.nilT) | (with_reducible apply XC.seq) | (with_reducible apply XC.region (Γ := Γ)) | (with_reducible apply XQ.ret)))
  ((with_reducible apply XQ.retE); (case hr => exact .t rfl .nil))
  rfl
theorem shape6_fn (lb off : Nat) : FC Tryz.prog 227 [.pointer (some ⟨lb, off, none⟩)] [] (fun _ => True) (fun v L => v = .pointer (some ⟨lb, off + 17, none⟩) ∧ L = []) := by
  refine FC.nil ?_
  refine FC.intro Tryz.func227 rfl (by kernel_rfl) 6 [.tmp 2] rfl rfl rfl ?_
  intro w0 _
  (repeat (first | (with_reducible apply XL.op) | ((with_reducible apply XOp.p1); (case hg | hv => exact rfl)) | (with_reducible apply XL.nilT) | (with_reducible apply XC.seq) | (with_reducible apply XC.region (Γ := Γ)) | (with_reducible apply XQ.ret)))
  ((with_reducible apply XQ.retE); (case hr => exact .t rfl .nil))
  rfl
theorem shape7_fn (lb off : Nat) : FC Tryz.prog 228 [.pointer (some ⟨lb, off, none⟩)] [] (fun _ => True) (fun v L => v = .pointer (some ⟨lb, off + 20, none⟩) ∧ L = []) := by
  refine FC.nil ?_
  refine FC.intro Tryz.func228 rfl (by kernel_rfl) 6 [.tmp 2] rfl rfl rfl ?_
  intro w0 _
  (repeat (first | (with_reducible apply XL.op) | ((with_reducible apply XOp.p1); (case hg | hv => exact rfl)) | (with_reducible apply XL.nilT) | (with_reducible apply XC.seq) | (with_reducible apply XC.region (Γ := Γ)) | (with_reducible apply XQ.ret)))
  ((with_reducible apply XQ.retE); (case hr => exact .t rfl .nil))
  rfl
end Go.Proofs.YtopdcegeffnelaaGreatDoorX
/- Does a layer fit? The program's. -/
namespace Go.Proofs.YtopdcegeffnelaaGreatDoorX
open Go Go.SX

theorem shapedL_fn (m : LM) (r c : Int) : FC Tryz.prog 174 [.agg ⟨m.cells⟩, .int .i64 r, .int .i64 c] [] (fun h => lmAt h m) (fun v L => v = .bool (pd (shpP m.mat r c)) ∧ L = []) :=
  shaped_fn m.mat m.d.2.1 m.d.2.2 r c
theorem gainsL_fn (x : LV) (n : Int) : FC Tryz.prog 175 [slv x, .int .i64 n] [] (fun h => lvAt h x) (fun v L => v = .bool (pd (gainsP x.1 n)) ∧ L = []) :=
  gains_fn x.1 x.2.1 x.2.2 n
theorem meas0 (c : Cfg) : measS c 0 = c.Width := by unfold measS; rw [if_neg (by omega), if_neg (by omega)]
theorem meas1 (c : Cfg) : measS c 1 = c.keys := by unfold measS; rw [if_pos rfl]
theorem meas2 (c : Cfg) : measS c 2 = c.Hidden := by unfold measS; rw [if_neg (by omega), if_pos rfl]
/-- The j-th matrix of a layer has its shape. -/
def matJ (l : LL) (c : Cfg) : Nat → Prop
  | 0 => shpP l.q.mat (measS c 0) (measS c 0)
  | 1 => shpP l.k.mat (measS c 1) (measS c 0)
  | 2 => shpP l.v.mat (measS c 1) (measS c 0)
  | 3 => shpP l.o.mat (measS c 0) (measS c 0)
  | 4 => shpP l.g.mat (measS c 2) (measS c 0)
  | 5 => shpP l.u.mat (measS c 2) (measS c 0)
  | 6 => shpP l.d.mat (measS c 0) (measS c 2)
  | _ => True
theorem layP_mats {l : LL} {c : Cfg} (h : layP l c) : ∀ j < 7, matJ l c j := by
  obtain ⟨_, _, h0, h1, h2, h3, h4, h5, h6, _⟩ := h
  rw [← meas0] at h0 h1 h2 h3 h4 h5 h6
  rw [← meas1] at h1 h2
  rw [← meas2] at h4 h5 h6
  intro j hj
  rcases (by omega : j = 0 ∨ j = 1 ∨ j = 2 ∨ j = 3 ∨ j = 4 ∨ j = 5 ∨ j = 6) with rfl | rfl | rfl | rfl | rfl | rfl | rfl <;> assumption
theorem mats_layP {l : LL} {c : Cfg} (h : ∀ j < 7, matJ l c j) (n1 : gainsP l.n1.1 c.Width) (n2 : gainsP l.n2.1 c.Width) (hb : ∀ j < 7, 0 ≤ l.by_.getD j 0 ∧ l.by_.getD j 0 ≤ 24) : layP l c := by
  have h0 := h 0 (by omega); have h1 := h 1 (by omega); have h2 := h 2 (by omega); have h3 := h 3 (by omega); have h4 := h 4 (by omega); have h5 := h 5 (by omega); have h6 := h 6 (by omega)
  simp only [matJ, meas0, meas1, meas2] at h0 h1 h2 h3 h4 h5 h6
  exact ⟨n1, n2, h0, h1, h2, h3, h4, h5, h6, hb⟩
theorem by_get (l : LL) {i : Nat} (h : i < 7) : (l.by_.map (Value.int .i64))[((i : Nat) : Int).toNat]? = some (.int .i64 (l.by_.getD i 0)) := by
  match i, h with
  | 0, _ => rfl
  | 1, _ => rfl
  | 2, _ => rfl
  | 3, _ => rfl
  | 4, _ => rfl
  | 5, _ => rfl
  | 6, _ => rfl
set_option maxHeartbeats 8000000 in
theorem fits_fn (l : LL) (lb off : Nat) (c : Cfg) (hc : c.may) : FC Tryz.prog 177 [.pointer (some ⟨lb, off, none⟩), .agg ⟨c.cells⟩] [] (fun h => sidesK h ∧ rowv h lb off l.cells ∧ llAt h l)
    (fun v L => v = .bool (pd (layP l c)) ∧ L = []) := by
  refine FC.nil ?_
  refine FC.intro Tryz.func177 rfl (by kernel_rfl) 56 [.tmp 4] rfl rfl rfl ?_
  rintro w0 ⟨hS, hR, hA⟩
  (repeat (first | (with_reducible apply XL.op) | (with_reducible apply XC.seq) | (with_reducible apply XC.region (Γ := Γ))))
  ((with_reducible apply XOp.box); (case hg | hx' => exact rfl); intro cb)
  (repeat (first | (with_reducible apply XL.op) | ((with_reducible apply XOp.p1); (case hg | hv => exact rfl)) | ((with_reducible apply XOp.loadO (i := 0)); (case hg | ht | hk | hx | hi | hc => exact rfl)) | (with_reducible apply XL.nilT) | (with_reducible apply XC.seq) | (with_reducible apply XC.region (Γ := Γ))))
  ((with_reducible apply XOp.callR (R := [_]) (F := []) (hF := shapes_fn c hc)); (case hg => exact rfl); (case hc => exact rfl); (case ha => exact rfl); (case hL => exact rfl); try (case hA => exact Known.true))
  case hA => exact Known.of_old hS sides_mono
  rintro _ _ ⟨b, rfl, rfl⟩
  (repeat (first | (with_reducible apply XL.op) | ((with_reducible apply XOp.p1); (case hg | hv => exact rfl)) | (with_reducible apply XL.nilT) | (with_reducible apply XC.block)))
  have hno : ∀ j < 7, ¬ matJ l c j → Value.bool false = Value.bool (pd (layP l c)) := fun j hj h => congrArg Value.bool (pdf (fun h2 => h (layP_mats h2 j hj))).symm
  refine XC.loopP (fun k ρ L => ∃ i : Nat, i + k = 7 ∧ L = [(cb, .cells ⟨c.cells⟩ 23 (0, 0)), (b, .cells ⟨shC c 7⟩ 336 (0, 0))] ∧ (∀ j < i, matJ l c j) ∧ Slots ρ [(0, .pointer (some ⟨lb, off, none⟩)), (3, .pointer (some ⟨cb, 0, none⟩)), (10, .slice (some ⟨b, 0, none⟩) 7 7), (11, .int .i64 7), (12, .int .i64 i)])
    7 ⟨0, by simp, rfl, by simp, rfl, rfl, rfl, rfl, rfl, trivial⟩ ?_
  rintro k ρ L ⟨i, hik, rfl, hq, hs⟩
  refine XC.slots _ hs ?_
  (repeat (first | (with_reducible apply XL.op) | ((with_reducible apply XOp.p1); (case hg | hv => exact rfl)) | (with_reducible apply XL.nilT) | (with_reducible apply XC.seq) | (with_reducible apply XC.region (Γ := Γ))))
  ((with_reducible apply XC.cond); (case hc => exact rfl); all_goals (intro hb_; try simp only [pd_true, pd_false, Bool.not_eq_true', Bool.not_eq_false', Bool.and_eq_true, Bool.and_eq_false_iff, Bool.or_eq_true, Bool.or_eq_false_iff, not_true_eq_false, not_false_eq_true, Int.not_lt, Int.not_le] at hb_))
  · have m0 : rowv (oldv w0 (keys [])) lb (off + 2) l.q.cells := rowv_sub hR 2 3
    have m1 : rowv (oldv w0 (keys [])) lb (off + 5) l.k.cells := rowv_sub hR 5 3
    have m2 : rowv (oldv w0 (keys [])) lb (off + 8) l.v.cells := rowv_sub hR 8 3
    have m3 : rowv (oldv w0 (keys [])) lb (off + 11) l.o.cells := rowv_sub hR 11 3
    have m4 : rowv (oldv w0 (keys [])) lb (off + 14) l.g.cells := rowv_sub hR 14 3
    have m5 : rowv (oldv w0 (keys [])) lb (off + 17) l.u.cells := rowv_sub hR 17 3
    have m6 : rowv (oldv w0 (keys [])) lb (off + 20) l.d.cells := rowv_sub hR 20 3
    rcases (by omega : i = 0 ∨ i = 1 ∨ i = 2 ∨ i = 3 ∨ i = 4 ∨ i = 5 ∨ i = 6) with rfl | rfl | rfl | rfl | rfl | rfl | rfl
    all_goals (repeat (first | (with_reducible apply XL.op) | ((with_reducible apply XOp.p1); (case hg | hv => exact rfl)) | ((with_reducible apply XOp.loadO (i := 1)); (case hg | ht | hk | hx | hi | hc => exact rfl)) | (with_reducible apply XC.seq) | (with_reducible apply XC.region (Γ := Γ)) | (with_reducible apply XQ.skip) | (with_reducible apply XQ.nt) | (with_reducible apply XC.block)))
    all_goals ((with_reducible apply XOp.alloc); (case hg | ht | hx' => exact rfl); intro sb)
    all_goals (repeat (first | (with_reducible apply XL.op) | ((with_reducible apply XOp.storeN (i := 0)); (case hg | ht | hx | hv' | hk | h1 | hi | hs | ha => exact rfl)) | (with_reducible apply XL.nilT) | (with_reducible apply XC.seq)))
    all_goals ((with_reducible apply XC.regionD (Γ := Γ) mixed (.q 0 (.q 1 (.q 2 (.q 6 (.q 7 (.q 8 (.q 9 (.e 3 (.q 4 (.q 5 (.e 10 (.q 11 (.done))))))))))))) [] []); (case hc => kernel_rfl))
    all_goals (repeat' (first | (with_reducible apply XL.op) | ((with_reducible apply XOp.p1); (case hg | hv => exact rfl)) | (with_reducible apply XL.nilT) | (with_reducible apply XC.seq) | (with_reducible apply XC.region (Γ := Γ)) | (with_reducible apply XQ.skip) | (with_reducible apply XQ.ret) | (with_reducible apply XQ.nt) | (with_reducible apply XQ.nb) | (with_reducible apply XQ.rt) | (with_reducible apply XQ.rb) | ((with_reducible apply XP.p1); (case ho | hg | hv => exact rfl)) | ((with_reducible apply XP.load); (case ho | hg | ht | hk | hx => exact rfl); (case hc => exact own_cell (i := 0) rfl rfl)) | (with_reducible apply XP.done) | ((with_reducible apply XP.e); (first | ((with_reducible apply XE.d); (case ho => exact rfl); (case hd => exact rfl)) | ((with_reducible apply XE.e); (case ho => exact rfl)))) | ((with_reducible apply XP.keep); (case hk => first | ((repeat' (first | exact List.forall_mem_nil _ | (with_reducible refine List.forall_mem_cons.2 ⟨?_, ?_⟩) | exact List.mem_cons_self .. | (with_reducible apply List.mem_cons_of_mem) | (with_reducible apply List.mem_append_right))); done) | (intro x hx; first | exact sel_in hx | exact List.mem_cons_of_mem _ (sel_in hx) | exact List.mem_append_right _ (sel_in hx) | exact hx | exact List.mem_cons_of_mem _ hx | exact List.mem_append_right _ hx | ((repeat (first | exact sel_in hx | exact hx | (with_reducible apply List.mem_cons_of_mem) | (with_reducible apply List.mem_append_right))); done) | (rw [List.mem_singleton.1 hx]; (simp; done)) | (rcases List.mem_cons.1 hx with rfl | hx; (simp; done); (rw [List.mem_singleton.1 hx]; (simp; done))) | cases hx))) | (((with_reducible apply XOp.callQ (hF := shape1_fn lb off)); (case hg => exact rfl); (case hc => exact rfl); (case ha => exact rfl); try (case hA => exact Known.true)); rintro _ rfl) | (((with_reducible apply XOp.callQ (hF := shape2_fn lb off)); (case hg => exact rfl); (case hc => exact rfl); (case ha => exact rfl); try (case hA => exact Known.true)); rintro _ rfl) | (((with_reducible apply XOp.callQ (hF := shape3_fn lb off)); (case hg => exact rfl); (case hc => exact rfl); (case ha => exact rfl); try (case hA => exact Known.true)); rintro _ rfl) | (((with_reducible apply XOp.callQ (hF := shape4_fn lb off)); (case hg => exact rfl); (case hc => exact rfl); (case ha => exact rfl); try (case hA => exact Known.true)); rintro _ rfl) | (((with_reducible apply XOp.callQ (hF := shape5_fn lb off)); (case hg => exact rfl); (case hc => exact rfl); (case ha => exact rfl); try (case hA => exact Known.true)); rintro _ rfl) | (((with_reducible apply XOp.callQ (hF := shape6_fn lb off)); (case hg => exact rfl); (case hc => exact rfl); (case ha => exact rfl); try (case hA => exact Known.true)); rintro _ rfl) | (((with_reducible apply XOp.callQ (hF := shape7_fn lb off)); (case hg => exact rfl); (case hc => exact rfl); (case ha => exact rfl); try (case hA => exact Known.true)); rintro _ rfl) | (first | ((with_reducible apply XOp.loadN); (case hg | ht | hk | hx => exact rfl); (case hc => exact Known.of_old m0 (Mono.row _ _ _)); (case hl => exact rfl)) | ((with_reducible apply XP.loadN); (case ho | hg | ht | hk | hx => exact rfl); (case hc => exact Known.of_old m0 (Mono.row _ _ _)); (case hl => exact rfl))) | (first | ((with_reducible apply XOp.loadN); (case hg | ht | hk | hx => exact rfl); (case hc => exact Known.of_old m1 (Mono.row _ _ _)); (case hl => exact rfl)) | ((with_reducible apply XP.loadN); (case ho | hg | ht | hk | hx => exact rfl); (case hc => exact Known.of_old m1 (Mono.row _ _ _)); (case hl => exact rfl))) | (first | ((with_reducible apply XOp.loadN); (case hg | ht | hk | hx => exact rfl); (case hc => exact Known.of_old m2 (Mono.row _ _ _)); (case hl => exact rfl)) | ((with_reducible apply XP.loadN); (case ho | hg | ht | hk | hx => exact rfl); (case hc => exact Known.of_old m2 (Mono.row _ _ _)); (case hl => exact rfl))) | (first | ((with_reducible apply XOp.loadN); (case hg | ht | hk | hx => exact rfl); (case hc => exact Known.of_old m3 (Mono.row _ _ _)); (case hl => exact rfl)) | ((with_reducible apply XP.loadN); (case ho | hg | ht | hk | hx => exact rfl); (case hc => exact Known.of_old m3 (Mono.row _ _ _)); (case hl => exact rfl))) | (first | ((with_reducible apply XOp.loadN); (case hg | ht | hk | hx => exact rfl); (case hc => exact Known.of_old m4 (Mono.row _ _ _)); (case hl => exact rfl)) | ((with_reducible apply XP.loadN); (case ho | hg | ht | hk | hx => exact rfl); (case hc => exact Known.of_old m4 (Mono.row _ _ _)); (case hl => exact rfl))) | (first | ((with_reducible apply XOp.loadN); (case hg | ht | hk | hx => exact rfl); (case hc => exact Known.of_old m5 (Mono.row _ _ _)); (case hl => exact rfl)) | ((with_reducible apply XP.loadN); (case ho | hg | ht | hk | hx => exact rfl); (case hc => exact Known.of_old m5 (Mono.row _ _ _)); (case hl => exact rfl))) | (first | ((with_reducible apply XOp.loadN); (case hg | ht | hk | hx => exact rfl); (case hc => exact Known.of_old m6 (Mono.row _ _ _)); (case hl => exact rfl)) | ((with_reducible apply XP.loadN); (case ho | hg | ht | hk | hx => exact rfl); (case hc => exact Known.of_old m6 (Mono.row _ _ _)); (case hl => exact rfl))) | (((with_reducible apply XOp.callQ (hF := shapedL_fn _ _ _)); (case hg => exact rfl); (case hc => exact rfl); (case ha => exact rfl); try (case hA => exact Known.true)); (case hA => first | exact Known.of_old hA.q (lm_mono _) | exact Known.of_old hA.k (lm_mono _) | exact Known.of_old hA.v (lm_mono _) | exact Known.of_old hA.o (lm_mono _) | exact Known.of_old hA.g (lm_mono _) | exact Known.of_old hA.u (lm_mono _) | exact Known.of_old hA.d (lm_mono _)); rintro _ rfl) | ((with_reducible apply XC.cond); (case hc => exact rfl); all_goals (intro hb_; try simp only [pd_true, pd_false, Bool.not_eq_true', Bool.not_eq_false', Bool.and_eq_true, Bool.and_eq_false_iff, Bool.or_eq_true, Bool.or_eq_false_iff, not_true_eq_false, not_false_eq_true, Int.not_lt, Int.not_le] at hb_))))
    all_goals first | (((with_reducible apply XQ.retE); (case hr => exact .t rfl .nil)); (first | exact hno 0 (by omega) hb_ | exact hno 1 (by omega) hb_ | exact hno 2 (by omega) hb_ | exact hno 3 (by omega) hb_ | exact hno 4 (by omega) hb_ | exact hno 5 (by omega) hb_ | exact hno 6 (by omega) hb_)) | exact ⟨k - 1, by omega, _, .of (List.sublist_cons_self _ _), 1, by omega, rfl, fun j hj => by rcases (by omega : j < 0 ∨ j = 0) with h | rfl; exact hq j h; first | assumption | exact hb_, rfl, rfl, rfl, rfl, intS2 (i := 0) (m := 7) (by omega) (by omega), trivial⟩ | exact ⟨k - 1, by omega, _, .of (List.sublist_cons_self _ _), 2, by omega, rfl, fun j hj => by rcases (by omega : j < 1 ∨ j = 1) with h | rfl; exact hq j h; first | assumption | exact hb_, rfl, rfl, rfl, rfl, intS2 (i := 1) (m := 7) (by omega) (by omega), trivial⟩ | exact ⟨k - 1, by omega, _, .of (List.sublist_cons_self _ _), 3, by omega, rfl, fun j hj => by rcases (by omega : j < 2 ∨ j = 2) with h | rfl; exact hq j h; first | assumption | exact hb_, rfl, rfl, rfl, rfl, intS2 (i := 2) (m := 7) (by omega) (by omega), trivial⟩ | exact ⟨k - 1, by omega, _, .of (List.sublist_cons_self _ _), 4, by omega, rfl, fun j hj => by rcases (by omega : j < 3 ∨ j = 3) with h | rfl; exact hq j h; first | assumption | exact hb_, rfl, rfl, rfl, rfl, intS2 (i := 3) (m := 7) (by omega) (by omega), trivial⟩ | exact ⟨k - 1, by omega, _, .of (List.sublist_cons_self _ _), 5, by omega, rfl, fun j hj => by rcases (by omega : j < 4 ∨ j = 4) with h | rfl; exact hq j h; first | assumption | exact hb_, rfl, rfl, rfl, rfl, intS2 (i := 4) (m := 7) (by omega) (by omega), trivial⟩ | exact ⟨k - 1, by omega, _, .of (List.sublist_cons_self _ _), 6, by omega, rfl, fun j hj => by rcases (by omega : j < 5 ∨ j = 5) with h | rfl; exact hq j h; first | assumption | exact hb_, rfl, rfl, rfl, rfl, intS2 (i := 5) (m := 7) (by omega) (by omega), trivial⟩ | exact ⟨k - 1, by omega, _, .of (List.sublist_cons_self _ _), 7, by omega, rfl, fun j hj => by rcases (by omega : j < 6 ∨ j = 6) with h | rfl; exact hq j h; first | assumption | exact hb_, rfl, rfl, rfl, rfl, intS2 (i := 6) (m := 7) (by omega) (by omega), trivial⟩
  obtain rfl : i = 7 := by omega
  have hB : rowv (oldv w0 (keys [])) lb (off + 23) (l.by_.map (Value.int .i64)) := rowv_sub hR 23 7
  (repeat (first | (with_reducible apply XL.op) | ((with_reducible apply XOp.p1); (case hg | hv => exact rfl)) | (with_reducible apply XL.nilT) | (with_reducible apply XC.seq) | (with_reducible apply XC.region (Γ := Γ)) | (with_reducible apply XQ.exit) | (with_reducible apply XQ.nt) | (with_reducible apply XQ.et) | (with_reducible apply XC.block) | ((with_reducible apply XQ.eb); (case hb => exact rfl)) | (first | ((with_reducible apply XOp.loadN); (case hg | ht | hk | hx => exact rfl); (case hc => exact Known.of_old hB (Mono.row _ _ _)); (case hl => exact rfl)) | ((with_reducible apply XP.loadN); (case ho | hg | ht | hk | hx => exact rfl); (case hc => exact Known.of_old hB (Mono.row _ _ _)); (case hl => exact rfl)))))
  refine XC.subl (L' := [(cb, .cells ⟨c.cells⟩ 23 (0, 0))]) (List.Sublist.cons_cons _ (List.nil_sublist _)) ?_
  refine XC.loop (fun k ρ L => ∃ i : Nat, i + k = 7 ∧ L = [(cb, .cells ⟨c.cells⟩ 23 (0, 0))] ∧ (∀ j < i, 0 ≤ l.by_.getD j 0 ∧ l.by_.getD j 0 ≤ 24) ∧ Slots ρ [(0, .pointer (some ⟨lb, off, none⟩)), (3, .pointer (some ⟨cb, 0, none⟩)), (32, .agg ⟨l.by_.map (Value.int .i64)⟩), (33, .int .i64 i)])
    7 ⟨0, by simp, rfl, by simp, rfl, rfl, rfl, rfl, trivial⟩ ?_
  rintro k ρ L ⟨i, hik, rfl, hq2, hs⟩
  refine XC.slots _ hs ?_
  (repeat (first | (with_reducible apply XL.op) | ((with_reducible apply XOp.p1); (case hg | hv => exact rfl)) | (with_reducible apply XL.nilT) | (with_reducible apply XC.seq) | (with_reducible apply XC.region (Γ := Γ))))
  ((with_reducible apply XC.cond); (case hc => exact rfl); all_goals (intro hb_; try simp only [pd_true, pd_false, Bool.not_eq_true', Bool.not_eq_false', Bool.and_eq_true, Bool.and_eq_false_iff, Bool.or_eq_true, Bool.or_eq_false_iff, not_true_eq_false, not_false_eq_true, Int.not_lt, Int.not_le] at hb_))
  · (repeat' (first | (with_reducible apply XL.op) | ((with_reducible apply XOp.p1); (case hg | hv => exact rfl)) | (with_reducible apply XL.nilT) | (with_reducible apply XC.seq) | (with_reducible apply XC.region (Γ := Γ)) | (with_reducible apply XQ.skip) | (with_reducible apply XQ.ret) | (with_reducible apply XQ.nt) | (with_reducible apply XQ.nb) | (with_reducible apply XQ.rt) | (with_reducible apply XQ.rb) | (with_reducible apply XC.block) | (first | ((with_reducible apply XOp.pr); (case hg => exact rfl); (case hr => (with_reducible apply PR.arr); (case ht => exact rfl); (case hk => exact rfl); (case he => exact rfl); (case hag => exact rfl); (case hs => exact rfl); (case hx => exact rfl); (case hi => exact rfl); (case hr => first | assumption | omega); (case hc => exact by_get l (i := i) (by omega)))) | ((with_reducible apply XP.pr); (case ho => exact rfl); (case hg => exact rfl); (case hr => (with_reducible apply PR.arr); (case ht => exact rfl); (case hk => exact rfl); (case he => exact rfl); (case hag => exact rfl); (case hs => exact rfl); (case hx => exact rfl); (case hi => exact rfl); (case hr => first | assumption | omega); (case hc => exact by_get l (i := i) (by omega))))) | (((with_reducible apply XOp.callQ (hF := within_fn _ _ _)); (case hg => exact rfl); (case hc => exact rfl); (case ha => exact rfl); try (case hA => exact Known.true)); rintro _ rfl) | ((with_reducible apply XC.cond); (case hc => exact rfl); all_goals (intro hb_; try simp only [pd_true, pd_false, Bool.not_eq_true', Bool.not_eq_false', Bool.and_eq_true, Bool.and_eq_false_iff, Bool.or_eq_true, Bool.or_eq_false_iff, not_true_eq_false, not_false_eq_true, Int.not_lt, Int.not_le] at hb_))))
    · ((with_reducible apply XQ.retE); (case hr => exact .t rfl .nil))
      exact congrArg Value.bool (pdf (fun h => by have := h.by_ i (by omega); omega)).symm
    · exact ⟨k - 1, by omega, i + 1, by omega, rfl, fun j hj => by
        rcases Nat.lt_or_ge j i with h | h
        · exact hq2 j h
        · obtain rfl : j = i := by omega
          omega, rfl, rfl, rfl, intS2 (m := 7) (by omega) (by omega), trivial⟩
  obtain rfl : i = 7 := by omega
  have hN0 : cellv (oldv w0 (keys [])) ⟨lb, off + 0, none⟩ = some (slv l.n1) := hR 0 _ rfl
  have hN1 : cellv (oldv w0 (keys [])) ⟨lb, off + 1, none⟩ = some (slv l.n2) := hR 1 _ rfl
  (repeat (first | (with_reducible apply XC.seq) | (with_reducible apply XQ.exit) | (with_reducible apply XQ.nt) | (with_reducible apply XQ.et) | ((with_reducible apply XQ.eb); (case hb => exact rfl))))
  ((with_reducible apply XC.regionD (Γ := Γ) mixed (.q 0 (.q 1 (.q 2 (.q 3 (.q 4 (.q 5 (.e 6 (.q 7 (.q 8 (.q 9 (.q 10 (.q 11 (.q 12 (.q 13 (.e 14 (.q 15 (.q 16 (.done)))))))))))))))))) [] []); (case hc => kernel_rfl))
  (repeat' (first | ((with_reducible apply XOp.p0); (case hg => exact rfl)) | (with_reducible apply XQ.ret) | (with_reducible apply XQ.nt) | ((with_reducible apply XP.p1); (case ho | hg | hv => exact rfl)) | ((with_reducible apply XP.p0); (case ho | hg => exact rfl)) | ((with_reducible apply XP.load); (case ho | hg | ht | hk | hx => exact rfl); (case hc => exact own_cell (i := 0) rfl rfl)) | (with_reducible apply XP.done) | ((with_reducible apply XP.e); (first | ((with_reducible apply XE.d); (case ho => exact rfl); (case hd => exact rfl)) | ((with_reducible apply XE.e); (case ho => exact rfl)))) | ((with_reducible apply XP.keep); (case hk => first | ((repeat' (first | exact List.forall_mem_nil _ | (with_reducible refine List.forall_mem_cons.2 ⟨?_, ?_⟩) | exact List.mem_cons_self .. | (with_reducible apply List.mem_cons_of_mem) | (with_reducible apply List.mem_append_right))); done) | (intro x hx; first | exact sel_in hx | exact List.mem_cons_of_mem _ (sel_in hx) | exact List.mem_append_right _ (sel_in hx) | exact hx | exact List.mem_cons_of_mem _ hx | exact List.mem_append_right _ hx | ((repeat (first | exact sel_in hx | exact hx | (with_reducible apply List.mem_cons_of_mem) | (with_reducible apply List.mem_append_right))); done) | (rw [List.mem_singleton.1 hx]; (simp; done)) | (rcases List.mem_cons.1 hx with rfl | hx; (simp; done); (rw [List.mem_singleton.1 hx]; (simp; done))) | cases hx))) | (first | ((with_reducible apply XOp.load); (case hg | ht | hk | hx => exact rfl); (case hc => exact Known.of_old hN0 (Mono.cell _ _))) | ((with_reducible apply XP.load); (case ho | hg | ht | hk | hx => exact rfl); (case hc => exact Known.of_old hN0 (Mono.cell _ _)))) | (first | ((with_reducible apply XOp.load); (case hg | ht | hk | hx => exact rfl); (case hc => exact Known.of_old hN1 (Mono.cell _ _))) | ((with_reducible apply XP.load); (case ho | hg | ht | hk | hx => exact rfl); (case hc => exact Known.of_old hN1 (Mono.cell _ _)))) | (((with_reducible apply XOp.callQ (hF := gainsL_fn _ _)); (case hg => exact rfl); (case hc => exact rfl); (case ha => exact rfl); try (case hA => exact Known.true)); (case hA => first | exact Known.of_old hA.n1 (lv_mono _) | exact Known.of_old hA.n2 (lv_mono _)); rintro _ rfl) | ((with_reducible apply XP.split); (case ho | hg | hj | hd | hb => exact rfl); (fail_if_success (case hf => exact fun h => Bool.noConfusion h)); (fail_if_success (case ht => exact fun h => Bool.noConfusion h)); all_goals (intro hb_; try simp only [pd_true, pd_false, Bool.not_eq_true', Bool.not_eq_false', Bool.and_eq_true, Bool.and_eq_false_iff, Bool.or_eq_true, Bool.or_eq_false_iff, not_true_eq_false, not_false_eq_true, Int.not_lt, Int.not_le] at hb_))))
  all_goals ((with_reducible apply XQ.retE); (case hr => exact .t rfl .nil))
  · refine congrArg Value.bool ?_
    by_cases h2 : gainsP l.n2.1 c.Width
    · rw [pdt h2, pdt (mats_layP hq hb_ h2 hq2)]
    · rw [pdf h2, pdf (fun h => h2 h.n2)]
  · exact congrArg Value.bool (pdf (fun h => hb_ h.n1)).symm
end Go.Proofs.YtopdcegeffnelaaGreatDoorX
/- Do the weights fit? The program's. -/
namespace Go.Proofs.YtopdcegeffnelaaGreatDoorX
open Go Go.SX

theorem pdc {p q : Prop} (h : p ↔ q) : pd p = pd q := by rw [propext h]
structure okP1 (x : LW) : Prop where
  e : shpP x.E.mat x.C.Vocab x.C.Width
  h : shpP x.H.mat x.C.Vocab x.C.Width
  f : gainsP x.F.1 x.C.Width
  t : (x.T.1.length : Int) = x.C.head / 2
  ll : (x.Ls.1.length : Int) = x.C.Layers
  ml : (x.M.1.length : Int) = x.C.Medusa
theorem max_le (a b n : Int) : (if b > a then b else a) ≤ n ↔ a ≤ n ∧ b ≤ n := by split <;> omega
theorem min_ge (a b n : Int) : n ≤ (if b < a then b else a) ↔ n ≤ a ∧ n ≤ b := by split <;> omega
theorem turn_iff (y : Int × Int) : ((if y.2 > y.1 then y.2 else y.1) ≤ 16384 ∧ -16384 ≤ (if y.2 < y.1 then y.2 else y.1)) ↔ turnP y := by
  rw [max_le, min_ge]; unfold turnP; omega
set_option maxHeartbeats 8000000 in
theorem checkW_fn (x : LW) : FC Tryz.prog 110 [.agg ⟨x.cells⟩] [] (fun h => sidesK h ∧ lwAt h x)
    (fun v L => v = .int .i64 (errW x.w) ∧ L = []) := by
  refine FC.nil ?_
  refine FC.intro Tryz.func110 rfl (by kernel_rfl) 126 [.tmp 2] rfl rfl rfl ?_
  rintro w0 ⟨hS, hA⟩
  (repeat (first | (with_reducible apply XL.op) | (with_reducible apply XC.seq) | (with_reducible apply XC.region (Γ := Γ))))
  ((with_reducible apply XOp.box); (case hg | hx' => exact rfl); intro wb)
  (repeat (first | (with_reducible apply XL.op) | ((with_reducible apply XOp.p1); (case hg | hv => exact rfl)) | ((with_reducible apply XOp.loadO (i := 0)); (case hg | ht | hk | hx | hi | hc => exact rfl)) | (with_reducible apply XL.nilT) | (with_reducible apply XC.seq) | (with_reducible apply XC.region (Γ := Γ))))
  ((with_reducible apply XOp.alloc); (case hg | ht | hx' => exact rfl); intro cb)
  (repeat (first | (with_reducible apply XL.op) | ((with_reducible apply XOp.loadO (i := 0)); (case hg | ht | hk | hx | hi | hc => exact rfl)) | ((with_reducible apply XOp.storeN (i := 0)); (case hg | ht | hx | hv' | hk | h1 | hi | hs | ha => exact rfl)) | (with_reducible apply XL.nilT) | (with_reducible apply XC.seq) | (with_reducible apply XC.region (Γ := Γ))))
  (repeat (first | (with_reducible apply XL.op) | ((with_reducible apply XOp.p1); (case hg | hv => exact rfl)) | (with_reducible apply XL.nilT) | (with_reducible apply XC.seq) | (with_reducible apply XC.region (Γ := Γ)) | (((with_reducible apply XOp.callQ (hF := FC.nil (check_fn x.C))); (case hg => exact rfl); (case hc => exact rfl); (case ha => exact rfl); try (case hA => exact Known.true)); rintro _ rfl)))
  ((with_reducible apply XC.cond); (case hc => exact rfl); all_goals (intro hb_; try simp only [pd_true, pd_false, Bool.not_eq_true', Bool.not_eq_false', Bool.and_eq_true, Bool.and_eq_false_iff, Bool.or_eq_true, Bool.or_eq_false_iff, not_true_eq_false, not_false_eq_true, Int.not_lt, Int.not_le] at hb_))
  · (repeat (first | (with_reducible apply XL.op) | ((with_reducible apply XOp.p1); (case hg | hv => exact rfl)) | (with_reducible apply XL.nilT) | (with_reducible apply XC.seq) | (with_reducible apply XC.region (Γ := Γ)) | (with_reducible apply XQ.ret) | (with_reducible apply XQ.rt)))
    ((with_reducible apply XQ.retE); (case hr => exact .t rfl .nil))
    exact congrArg (Value.int .i64) ((cerr_no (fun h => hb_ ((cerr_iff _).2 h))).trans (errW_c (w := x.w) (fun h => hb_ ((cerr_iff _).2 h))).symm)
  have hc : x.C.may := (cerr_iff _).1 (by first | assumption | exact Classical.not_not.1 hb_)
  (repeat (first | (with_reducible apply XC.seq) | (with_reducible apply XQ.skip) | (with_reducible apply XQ.nt)))
  refine XC.cut (fun ρ L => L = [(cb, .cells ⟨x.C.cells⟩ 23 (0, 0)), (wb, .cells ⟨x.cells⟩ 31 (0, 0))] ∧ Slots ρ [(1, .pointer (some ⟨wb, 0, none⟩)), (3, .pointer (some ⟨cb, 0, none⟩)), (5, .bool (pd (okP1 x)))]) _ ?_ ?_
  · ((with_reducible apply XC.regionD (Γ := Γ) mixed (.q 0 (.q 1 (.q 2 (.q 3 (.q 4 (.q 5 (.e 6 (.q 7 (.q 8 (.q 9 (.q 10 (.q 11 (.q 12 (.q 13 (.e 14 (.q 15 (.q 16 (.q 17 (.q 18 (.q 19 (.q 20 (.e 21 (.q 22 (.q 23 (.q 24 (.q 25 (.q 26 (.q 27 (.e 28 (.q 29 (.q 30 (.q 31 (.q 32 (.q 33 (.q 34 (.q 35 (.q 36 (.q 37 (.q 38 (.q 39 (.q 40 (.q 41 (.q 42 (.q 43 (.q 44 (.q 45 (.q 46 (.q 47 (.q 48 (.done)))))))))))))))))))))))))))))))))))))))))))))))))) [] []); (case hc => kernel_rfl))
    (repeat' (first | ((with_reducible apply XOp.p0); (case hg => exact rfl)) | (with_reducible apply XQ.nt) | ((with_reducible apply XP.p1); (case ho | hg | hv => exact rfl)) | ((with_reducible apply XP.p0); (case ho | hg => exact rfl)) | ((with_reducible apply XP.load); (case ho | hg | ht | hk | hx => exact rfl); (case hc => exact own_cell (i := 0) rfl rfl)) | ((with_reducible apply XP.load); (case ho | hg | ht | hk | hx => exact rfl); (case hc => exact own_cell (i := 1) rfl rfl)) | ((with_reducible apply XP.loadO (j := 0)); (case ho | hg | ht | hk | hx | hi | hc => exact rfl)) | ((with_reducible apply XP.loadO (j := 1)); (case ho | hg | ht | hk | hx | hi | hc => exact rfl)) | (with_reducible apply XP.done) | ((with_reducible apply XP.e); (first | ((with_reducible apply XE.d); (case ho => exact rfl); (case hd => exact rfl)) | ((with_reducible apply XE.e); (case ho => exact rfl)))) | ((with_reducible apply XP.keep); (case hk => first | ((repeat' (first | exact List.forall_mem_nil _ | (with_reducible refine List.forall_mem_cons.2 ⟨?_, ?_⟩) | exact List.mem_cons_self .. | (with_reducible apply List.mem_cons_of_mem) | (with_reducible apply List.mem_append_right))); done) | (intro x hx; first | exact sel_in hx | exact List.mem_cons_of_mem _ (sel_in hx) | exact List.mem_append_right _ (sel_in hx) | exact hx | exact List.mem_cons_of_mem _ hx | exact List.mem_append_right _ hx | ((repeat (first | exact sel_in hx | exact hx | (with_reducible apply List.mem_cons_of_mem) | (with_reducible apply List.mem_append_right))); done) | (rw [List.mem_singleton.1 hx]; (simp; done)) | (rcases List.mem_cons.1 hx with rfl | hx; (simp; done); (rw [List.mem_singleton.1 hx]; (simp; done))) | cases hx))) | (((with_reducible apply XOp.callQ (hF := gainsL_fn _ _)); (case hg => exact rfl); (case hc => exact rfl); (case ha => exact rfl); try (case hA => exact Known.true)); (case hA => exact Known.of_old hA.f (lv_mono _)); rintro _ rfl) | (((with_reducible apply XOp.callQ (hF := shapedL_fn _ _ _)); (case hg => exact rfl); (case hc => exact rfl); (case ha => exact rfl); try (case hA => exact Known.true)); (case hA => first | exact Known.of_old hA.e (lm_mono _) | exact Known.of_old hA.hd (lm_mono _)); rintro _ rfl) | (((with_reducible apply XOp.callQ (hF := head_fn x.C hc)); (case hg => exact rfl); (case hc => exact rfl); (case ha => exact rfl); try (case hA => exact Known.true)); rintro _ rfl) | ((with_reducible apply XP.split); (case ho | hg | hj | hd | hb => exact rfl); (fail_if_success (case hf => exact fun h => Bool.noConfusion h)); (fail_if_success (case ht => exact fun h => Bool.noConfusion h)); all_goals (intro hb_; try simp only [pd_true, pd_false, Bool.not_eq_true', Bool.not_eq_false', Bool.and_eq_true, Bool.and_eq_false_iff, Bool.or_eq_true, Bool.or_eq_false_iff, not_true_eq_false, not_false_eq_true, Int.not_lt, Int.not_le] at hb_))))
    all_goals refine ⟨rfl, rfl, rfl, ?_, trivial⟩
    all_goals refine congrArg Value.bool ?_
    all_goals try rw [half_wrap hc] at *
    · exact pdc ⟨fun h => ⟨by assumption, by assumption, by assumption, by assumption, by assumption, h⟩, fun h => h.ml⟩
    all_goals exact (pdf fun h => by first | exact hb_ h.ll | exact hb_ h.t | exact hb_ h.f | exact hb_ h.h | exact hb_ h.e).symm
  rintro ρ L ⟨rfl, hs⟩
  refine XC.slots _ hs ?_
  (repeat (first | (with_reducible apply XL.op) | ((with_reducible apply XOp.p1); (case hg | hv => exact rfl)) | ((with_reducible apply XOp.load); (case hg | ht | hk | hx => exact rfl); (case hc => exact own_cell (i := 1) rfl rfl)) | (with_reducible apply XL.nilT) | (with_reducible apply XC.seq) | (with_reducible apply XC.region (Γ := Γ)) | (with_reducible apply XC.block)))
  have hT := hA.t
  have hTa := hT.at_
  have hTb := hT.bytes
  have hL := hA.l.locRaw
  have hLa := hL.at_
  have hLb := hL.bytes
  have hM := hA.m.locRaw
  have hMa := hM.at_
  have hMb := hM.bytes
  refine XC.loopP (fun k ρ L => ∃ i : Nat, i + k = x.T.1.length ∧ L = [(cb, .cells ⟨x.C.cells⟩ 23 (0, 0)), (wb, .cells ⟨x.cells⟩ 31 (0, 0))] ∧ Slots ρ [(1, .pointer (some ⟨wb, 0, none⟩)), (3, .pointer (some ⟨cb, 0, none⟩)), (5, .bool (pd (okP1 x ∧ ∀ y ∈ x.T.1.take i, turnP y))), (67, sla x.T), (68, .int .i64 x.T.1.length), (69, .int .i64 i)])
    x.T.1.length ⟨0, by simp, rfl, rfl, rfl, ?_, rfl, rfl, rfl, trivial⟩ ?_
  · exact congrArg Value.bool (pdc ⟨fun h => ⟨h, by simp⟩, fun h => h.1⟩)
  · rintro k ρ L ⟨i, hik, rfl, hs⟩
    refine XC.slots _ hs ?_
    (repeat (first | (with_reducible apply XL.op) | ((with_reducible apply XOp.p1); (case hg | hv => exact rfl)) | (with_reducible apply XL.nilT) | (with_reducible apply XC.seq) | (with_reducible apply XC.region (Γ := Γ))))
    ((with_reducible apply XC.cond); (case hc => exact rfl); all_goals (intro hb_; try simp only [pd_true, pd_false, Bool.not_eq_true', Bool.not_eq_false', Bool.and_eq_true, Bool.and_eq_false_iff, Bool.or_eq_true, Bool.or_eq_false_iff, not_true_eq_false, not_false_eq_true, Int.not_lt, Int.not_le] at hb_))
    · obtain ⟨y, hi⟩ : ∃ y, x.T.1[i]? = some y := ⟨_, List.getElem?_eq_getElem (by omega)⟩
      have hn : (∀ z ∈ x.T.1.take (i + 1), turnP z) ↔ (∀ z ∈ x.T.1.take i, turnP z) ∧ turnP y := by
        rw [take_snocD hi]; simp only [List.forall_mem_append, List.forall_mem_singleton]
      (repeat (first | (with_reducible apply XL.op) | ((with_reducible apply XOp.pr); (case hg => exact rfl); (case hr => ((with_reducible apply PR.idxA); (case ht | hk | he | hx | hi => exact rfl); (case hr => first | assumption | omega); (case ha => first | assumption | exact SlA.at_ (by assumption))))) | (with_reducible apply XC.seq) | (with_reducible apply XC.region (Γ := Γ)) | (with_reducible apply XQ.skip) | (with_reducible apply XQ.nt) | (with_reducible apply XC.block) | (first | ((with_reducible apply XOp.loadN); (case hg | ht | hk | hx => exact rfl); (case hc => exact Known.of_old (hT.rawAt hi) (Mono.row _ _ _)); (case hl => exact rfl)) | ((with_reducible apply XP.loadN); (case ho | hg | ht | hk | hx => exact rfl); (case hc => exact Known.of_old (hT.rawAt hi) (Mono.row _ _ _)); (case hl => exact rfl)))))
      ((with_reducible apply XOp.alloc); (case hg | ht | hx' => exact rfl); intro tb)
      (repeat' (first | (with_reducible apply XL.op) | ((with_reducible apply XOp.p1); (case hg | hv => exact rfl)) | ((with_reducible apply XOp.p0); (case hg => exact rfl)) | ((with_reducible apply XOp.load); (case hg | ht | hk | hx => exact rfl); (case hc => exact own_cell (i := 0) rfl rfl)) | ((with_reducible apply XOp.storeN (i := 0)); (case hg | ht | hx | hv' | hk | h1 | hi | hs | ha => exact rfl)) | (with_reducible apply XL.nilT) | (with_reducible apply XC.region (Γ := Γ)) | (with_reducible apply XL.nilQ) | (with_reducible apply XQ.nt) | (with_reducible apply XQ.nb) | ((with_reducible apply XOp.split); (case hg | hj | hd | hb => exact rfl); (fail_if_success (case hf => exact fun h => Bool.noConfusion h)); (fail_if_success (case ht => exact fun h => Bool.noConfusion h)); all_goals (intro hb_; try simp only [pd_true, pd_false, Bool.not_eq_true', Bool.not_eq_false', Bool.and_eq_true, Bool.and_eq_false_iff, Bool.or_eq_true, Bool.or_eq_false_iff, not_true_eq_false, not_false_eq_true, Int.not_lt, Int.not_le] at hb_))))
      all_goals refine ⟨k - 1, by omega, _, .of (List.sublist_cons_self _ _), i + 1, by omega, rfl, rfl, rfl, ?_, rfl, rfl, intS2 (m := x.T.1.length) (by omega) (by omega), trivial⟩
      all_goals refine congrArg Value.bool ?_
      all_goals rw [hn]
      · rename_i hp
        exact pdc ⟨fun h => ⟨hp.1, hp.2, (turn_iff y).1 ⟨hb_, h⟩⟩, fun h => ((turn_iff y).2 h.2.2).2⟩
      · exact (pdf fun h => absurd ((turn_iff y).2 h.2.2).1 (Int.not_le.2 hb_)).symm
      · exact (pdf fun h => hb_ ⟨h.1, h.2.1⟩).symm
    obtain rfl : i = x.T.1.length := by omega
    rw [List.take_length]
    (repeat (first | (with_reducible apply XL.op) | ((with_reducible apply XOp.p1); (case hg | hv => exact rfl)) | ((with_reducible apply XOp.load); (case hg | ht | hk | hx => exact rfl); (case hc => exact own_cell (i := 1) rfl rfl)) | (with_reducible apply XL.nilT) | (with_reducible apply XC.seq) | (with_reducible apply XC.region (Γ := Γ)) | (with_reducible apply XQ.exit) | (with_reducible apply XQ.nt) | (with_reducible apply XQ.et) | (with_reducible apply XC.block) | ((with_reducible apply XQ.eb); (case hb => exact rfl))))
    refine XC.loopP (fun k ρ L => ∃ i : Nat, i + k = x.Ls.1.length ∧ L = [(cb, .cells ⟨x.C.cells⟩ 23 (0, 0)), (wb, .cells ⟨x.cells⟩ 31 (0, 0))] ∧ Slots ρ [(1, .pointer (some ⟨wb, 0, none⟩)), (3, .pointer (some ⟨cb, 0, none⟩)), (5, .bool (pd ((okP1 x ∧ ∀ y ∈ x.T.1, turnP y) ∧ ∀ l ∈ x.Ls.1.take i, layP l x.C))), (93, .int .i64 x.Ls.1.length), (94, .int .i64 i)])
      x.Ls.1.length ⟨0, by simp, rfl, rfl, rfl, ?_, rfl, rfl, trivial⟩ ?_
    · exact congrArg Value.bool (pdc ⟨fun h => ⟨h, by simp⟩, fun h => h.1⟩)
    rintro k ρ L ⟨i, hik, rfl, hs⟩
    refine XC.slots _ hs ?_
    (repeat (first | (with_reducible apply XL.op) | ((with_reducible apply XOp.p1); (case hg | hv => exact rfl)) | (with_reducible apply XL.nilT) | (with_reducible apply XC.seq) | (with_reducible apply XC.region (Γ := Γ))))
    ((with_reducible apply XC.cond); (case hc => exact rfl); all_goals (intro hb_; try simp only [pd_true, pd_false, Bool.not_eq_true', Bool.not_eq_false', Bool.and_eq_true, Bool.and_eq_false_iff, Bool.or_eq_true, Bool.or_eq_false_iff, not_true_eq_false, not_false_eq_true, Int.not_lt, Int.not_le] at hb_))
    · obtain ⟨l, hi⟩ : ∃ l, x.Ls.1[i]? = some l := ⟨_, List.getElem?_eq_getElem (by omega)⟩
      have hl := hA.l.locAt (List.mem_of_getElem? hi)
      have hn : (∀ z ∈ x.Ls.1.take (i + 1), layP z x.C) ↔ (∀ z ∈ x.Ls.1.take i, layP z x.C) ∧ layP l x.C := by
        rw [take_snocD hi]; simp only [List.forall_mem_append, List.forall_mem_singleton]
      (repeat (first | (with_reducible apply XL.op) | ((with_reducible apply XOp.p1); (case hg | hv => exact rfl)) | (with_reducible apply XL.nilT) | (with_reducible apply XC.seq) | (with_reducible apply XC.region (Γ := Γ)) | (with_reducible apply XQ.skip) | (with_reducible apply XQ.nt) | (with_reducible apply XC.block)))
      ((with_reducible apply XC.regionD (Γ := Γ) mixed (.q 0 (.q 1 (.q 2 (.q 3 (.q 4 (.q 5 (.q 6 (.e 7 (.q 8 (.q 9 (.done))))))))))) [] []); (case hc => kernel_rfl))
      (repeat' (first | (with_reducible apply XL.op) | ((with_reducible apply XOp.p1); (case hg | hv => exact rfl)) | ((with_reducible apply XOp.p0); (case hg => exact rfl)) | (with_reducible apply XL.nilT) | (with_reducible apply XC.region (Γ := Γ)) | (with_reducible apply XQ.nt) | (with_reducible apply XQ.nb) | ((with_reducible apply XP.p1); (case ho | hg | hv => exact rfl)) | ((with_reducible apply XP.p0); (case ho | hg => exact rfl)) | ((with_reducible apply XP.load); (case ho | hg | ht | hk | hx => exact rfl); (case hc => exact own_cell (i := 1) rfl rfl)) | ((with_reducible apply XP.loadO (j := 0)); (case ho | hg | ht | hk | hx | hi | hc => exact rfl)) | ((with_reducible apply XP.pr); (case ho => exact rfl); (case hg => exact rfl); (case hr => ((with_reducible apply PR.idxA); (case ht | hk | he | hx | hi => exact rfl); (case hr => first | assumption | omega); (case ha => first | assumption | exact SlA.at_ (by assumption))))) | (with_reducible apply XP.done) | ((with_reducible apply XP.e); (first | ((with_reducible apply XE.d); (case ho => exact rfl); (case hd => exact rfl)) | ((with_reducible apply XE.e); (case ho => exact rfl)))) | ((with_reducible apply XP.keep); (case hk => first | ((repeat' (first | exact List.forall_mem_nil _ | (with_reducible refine List.forall_mem_cons.2 ⟨?_, ?_⟩) | exact List.mem_cons_self .. | (with_reducible apply List.mem_cons_of_mem) | (with_reducible apply List.mem_append_right))); done) | (intro x hx; first | exact sel_in hx | exact List.mem_cons_of_mem _ (sel_in hx) | exact List.mem_append_right _ (sel_in hx) | exact hx | exact List.mem_cons_of_mem _ hx | exact List.mem_append_right _ hx | ((repeat (first | exact sel_in hx | exact hx | (with_reducible apply List.mem_cons_of_mem) | (with_reducible apply List.mem_append_right))); done) | (rw [List.mem_singleton.1 hx]; (simp; done)) | (rcases List.mem_cons.1 hx with rfl | hx; (simp; done); (rw [List.mem_singleton.1 hx]; (simp; done))) | cases hx))) | (((with_reducible apply XOp.callQ (hF := fits_fn l (ablk x.Ls.2.1) (aoff x.Ls.2.1 + ((i : Nat) : Int).toNat * 30) x.C hc)); (case hg => exact rfl); (case hc => exact rfl); (case ha => exact rfl); try (case hA => exact Known.true)); (case hA => exact Known.and (Known.of_old hS sides_mono) (Known.and (Known.of_old (hL.rawAt hi) (Mono.row _ _ _)) (Known.of_old hl (ll_mono _)))); rintro _ rfl) | ((with_reducible apply XP.split); (case ho | hg | hj | hd | hb => exact rfl); (fail_if_success (case hf => exact fun h => Bool.noConfusion h)); (fail_if_success (case ht => exact fun h => Bool.noConfusion h)); all_goals (intro hb_; try simp only [pd_true, pd_false, Bool.not_eq_true', Bool.not_eq_false', Bool.and_eq_true, Bool.and_eq_false_iff, Bool.or_eq_true, Bool.or_eq_false_iff, not_true_eq_false, not_false_eq_true, Int.not_lt, Int.not_le] at hb_))))
      all_goals refine ⟨k - 1, by omega, _, .of (List.Sublist.refl _), i + 1, by omega, rfl, rfl, rfl, ?_, rfl, intS2 (m := x.Ls.1.length) (by omega) (by omega), trivial⟩
      all_goals refine congrArg Value.bool ?_
      all_goals rw [hn]
      · exact pdc ⟨fun h => ⟨hb_.1, hb_.2, h⟩, fun h => h.2.2⟩
      · exact (pdf fun h => hb_ ⟨h.1, h.2.1⟩).symm
    obtain rfl : i = x.Ls.1.length := by omega
    rw [List.take_length]
    (repeat (first | (with_reducible apply XL.op) | ((with_reducible apply XOp.p1); (case hg | hv => exact rfl)) | ((with_reducible apply XOp.load); (case hg | ht | hk | hx => exact rfl); (case hc => exact own_cell (i := 1) rfl rfl)) | (with_reducible apply XL.nilT) | (with_reducible apply XC.seq) | (with_reducible apply XC.region (Γ := Γ)) | (with_reducible apply XQ.exit) | (with_reducible apply XQ.nt) | (with_reducible apply XQ.et) | (with_reducible apply XC.block) | ((with_reducible apply XQ.eb); (case hb => exact rfl))))
    refine XC.loopP (fun k ρ L => ∃ i : Nat, i + k = x.M.1.length ∧ L = [(cb, .cells ⟨x.C.cells⟩ 23 (0, 0)), (wb, .cells ⟨x.cells⟩ 31 (0, 0))] ∧ Slots ρ [(1, .pointer (some ⟨wb, 0, none⟩)), (3, .pointer (some ⟨cb, 0, none⟩)), (5, .bool (pd (((okP1 x ∧ ∀ y ∈ x.T.1, turnP y) ∧ ∀ l ∈ x.Ls.1, layP l x.C) ∧ ∀ m ∈ x.M.1.take i, shpP m.mat x.C.Vocab x.C.Width))), (108, sla x.M), (109, .int .i64 x.M.1.length), (110, .int .i64 i)])
      x.M.1.length ⟨0, by simp, rfl, rfl, rfl, ?_, rfl, rfl, rfl, trivial⟩ ?_
    · exact congrArg Value.bool (pdc ⟨fun h => ⟨h, by simp⟩, fun h => h.1⟩)
    rintro k ρ L ⟨i, hik, rfl, hs⟩
    refine XC.slots _ hs ?_
    (repeat (first | (with_reducible apply XL.op) | ((with_reducible apply XOp.p1); (case hg | hv => exact rfl)) | (with_reducible apply XL.nilT) | (with_reducible apply XC.seq) | (with_reducible apply XC.region (Γ := Γ))))
    ((with_reducible apply XC.cond); (case hc => exact rfl); all_goals (intro hb_; try simp only [pd_true, pd_false, Bool.not_eq_true', Bool.not_eq_false', Bool.and_eq_true, Bool.and_eq_false_iff, Bool.or_eq_true, Bool.or_eq_false_iff, not_true_eq_false, not_false_eq_true, Int.not_lt, Int.not_le] at hb_))
    · obtain ⟨l, hi⟩ : ∃ l, x.M.1[i]? = some l := ⟨_, List.getElem?_eq_getElem (by omega)⟩
      have hl := hA.m.locAt (List.mem_of_getElem? hi)
      have hn : (∀ z ∈ x.M.1.take (i + 1), shpP z.mat x.C.Vocab x.C.Width) ↔ (∀ z ∈ x.M.1.take i, shpP z.mat x.C.Vocab x.C.Width) ∧ shpP l.mat x.C.Vocab x.C.Width := by
        rw [take_snocD hi]; simp only [List.forall_mem_append, List.forall_mem_singleton]
      (repeat (first | (with_reducible apply XL.op) | ((with_reducible apply XOp.pr); (case hg => exact rfl); (case hr => ((with_reducible apply PR.idxA); (case ht | hk | he | hx | hi => exact rfl); (case hr => first | assumption | omega); (case ha => first | assumption | exact SlA.at_ (by assumption))))) | (with_reducible apply XC.seq) | (with_reducible apply XC.region (Γ := Γ)) | (with_reducible apply XQ.skip) | (with_reducible apply XQ.nt) | (with_reducible apply XC.block) | (first | ((with_reducible apply XOp.loadN); (case hg | ht | hk | hx => exact rfl); (case hc => exact Known.of_old (hM.rawAt hi) (Mono.row _ _ _)); (case hl => exact rfl)) | ((with_reducible apply XP.loadN); (case ho | hg | ht | hk | hx => exact rfl); (case hc => exact Known.of_old (hM.rawAt hi) (Mono.row _ _ _)); (case hl => exact rfl)))))
      ((with_reducible apply XOp.alloc); (case hg | ht | hx' => exact rfl); intro mb)
      (repeat' (first | (with_reducible apply XL.op) | ((with_reducible apply XOp.p1); (case hg | hv => exact rfl)) | ((with_reducible apply XOp.p0); (case hg => exact rfl)) | ((with_reducible apply XOp.load); (case hg | ht | hk | hx => exact rfl); (case hc => exact own_cell (i := 1) rfl rfl)) | ((with_reducible apply XOp.loadO (i := 0)); (case hg | ht | hk | hx | hi | hc => exact rfl)) | ((with_reducible apply XOp.storeN (i := 0)); (case hg | ht | hx | hv' | hk | h1 | hi | hs | ha => exact rfl)) | (with_reducible apply XL.nilT) | (with_reducible apply XC.region (Γ := Γ)) | (with_reducible apply XL.nilQ) | (with_reducible apply XQ.nt) | (with_reducible apply XQ.nb) | (((with_reducible apply XOp.callQ (hF := shapedL_fn l _ _)); (case hg => exact rfl); (case hc => exact rfl); (case ha => exact rfl); try (case hA => exact Known.true)); (case hA => exact Known.of_old hl (lm_mono _)); rintro _ rfl) | ((with_reducible apply XOp.split); (case hg | hj | hd | hb => exact rfl); (fail_if_success (case hf => exact fun h => Bool.noConfusion h)); (fail_if_success (case ht => exact fun h => Bool.noConfusion h)); all_goals (intro hb_; try simp only [pd_true, pd_false, Bool.not_eq_true', Bool.not_eq_false', Bool.and_eq_true, Bool.and_eq_false_iff, Bool.or_eq_true, Bool.or_eq_false_iff, not_true_eq_false, not_false_eq_true, Int.not_lt, Int.not_le] at hb_))))
      all_goals refine ⟨k - 1, by omega, _, .of (List.sublist_cons_self _ _), i + 1, by omega, rfl, rfl, rfl, ?_, rfl, rfl, intS2 (m := x.M.1.length) (by omega) (by omega), trivial⟩
      all_goals refine congrArg Value.bool ?_
      all_goals rw [hn]
      · exact pdc ⟨fun h => ⟨hb_.1, hb_.2, h⟩, fun h => h.2.2⟩
      · exact (pdf fun h => hb_ ⟨h.1, h.2.1⟩).symm
    obtain rfl : i = x.M.1.length := by omega
    rw [List.take_length]
    have hall : (((okP1 x ∧ ∀ y ∈ x.T.1, turnP y) ∧ ∀ l ∈ x.Ls.1, layP l x.C) ∧ ∀ m ∈ x.M.1, shpP m.mat x.C.Vocab x.C.Width) ↔ okW x.w := by
      rw [← okP_iff hA]
      constructor
      · rintro ⟨⟨⟨p, t⟩, l⟩, m⟩
        exact ⟨hc, p.e, p.h, p.f, ⟨p.t, t⟩, p.ll, p.ml, l, m⟩
      · rintro ⟨_, p⟩
        exact ⟨⟨⟨⟨p.e, p.h, p.f, p.t.1, p.ll, p.ml⟩, p.t.2⟩, p.l⟩, p.m⟩
    rw [pdc hall]
    (repeat' (first | (with_reducible apply XL.op) | ((with_reducible apply XOp.p1); (case hg | hv => exact rfl)) | (with_reducible apply XL.nilT) | (with_reducible apply XC.seq) | (with_reducible apply XC.region (Γ := Γ)) | (with_reducible apply XQ.skip) | (with_reducible apply XQ.ret) | (with_reducible apply XQ.exit) | (with_reducible apply XQ.nt) | (with_reducible apply XQ.rt) | (with_reducible apply XQ.et) | ((with_reducible apply XQ.eb); (case hb => exact rfl)) | ((with_reducible apply XC.cond); (case hc => exact rfl); all_goals (intro hb_; try simp only [pd_true, pd_false, Bool.not_eq_true', Bool.not_eq_false', Bool.and_eq_true, Bool.and_eq_false_iff, Bool.or_eq_true, Bool.or_eq_false_iff, not_true_eq_false, not_false_eq_true, Int.not_lt, Int.not_le] at hb_))))
    · ((with_reducible apply XQ.retE); (case hr => exact .t rfl .nil))
      exact congrArg (Value.int .i64) (errW_no hc hb_).symm
    · ((with_reducible apply XQ.retE); (case hr => exact .t rfl .nil))
      exact congrArg (Value.int .i64) (errW_ok hb_).symm
end Go.Proofs.YtopdcegeffnelaaGreatDoorX
/- Pieces of the program's Encode: a section behind the file's beginning; one list's bytes, two lists' bytes. -/
namespace Go.Proofs.YtopdcegeffnelaaGreatDoorX
open Go Go.SX

theorem _root_.Go.SX.FC.pre {f : Nat} {vs : List Value} {L0 : HL} {A A' : HV → Prop} {Post : Value → HL → Prop} (h : FC Tryz.prog f vs L0 A Post) (hA : ∀ h, A' h → A h) : FC Tryz.prog f vs L0 A' Post :=
  ⟨h.1, fun w h1 h2 h3 => h.2 w h1 h2 (fun h hh => hA _ (h3 h hh))⟩
end Go.Proofs.YtopdcegeffnelaaGreatDoorX
/- The program's Encode. -/
namespace Go.Proofs.YtopdcegeffnelaaGreatDoorX
open Go Go.SX

def mlist (l : LL) : List LV := [l.q.d, l.k.d, l.v.d, l.o.d, l.g.d, l.u.d, l.d.d]
end Go.Proofs.YtopdcegeffnelaaGreatDoorX
/- Are two weights the same? -/
namespace Go.Proofs.YtopdcegeffnelaaGreatDoorX
open Go Go.SX

theorem lay_eq (x y : LL) : x.lay = y.lay ↔ x.n1.1 = y.n1.1 ∧ x.n2.1 = y.n2.1 ∧ x.q.mat = y.q.mat ∧ x.k.mat = y.k.mat ∧ x.v.mat = y.v.mat ∧ x.o.mat = y.o.mat ∧ x.g.mat = y.g.mat ∧ x.u.mat = y.u.mat ∧ x.d.mat = y.d.mat ∧ x.by_ = y.by_ := by
  simp only [LL.lay, Lay.mk.injEq]
end Go.Proofs.YtopdcegeffnelaaGreatDoorX
/- Are two weights the same? -/
namespace Go.Proofs.YtopdcegeffnelaaGreatDoorX
open Go Go.SX

theorem w_eq (x y : LW) : x.w = y.w ↔ x.C = y.C ∧ x.E.mat = y.E.mat ∧ x.T.1 = y.T.1 ∧ x.Ls.1.map LL.lay = y.Ls.1.map LL.lay ∧ x.F.1 = y.F.1 ∧ x.H.mat = y.H.mat ∧ x.M.1.map LM.mat = y.M.1.map LM.mat := by
  simp only [LW.w, Wts.mk.injEq]
end Go.Proofs.YtopdcegeffnelaaGreatDoorX
/- What some blocks show of themselves; a layer whose lists have marks behind them. -/
namespace Go.Proofs.YtopdcegeffnelaaGreatDoorX
open Go Go.SX

/-- Whoever sees the blocks F sees A. -/
def Held (F : HL) (A : HV → Prop) : Prop := ∀ h : HV, (∀ x ∈ F, h x.1 = some x.2) → A h
theorem Held.known {F : HL} {A : HV → Prop} (a : Held F A) {w0 : World} {K : List Nat} {L : HL} (s : ∀ x ∈ F, x ∈ L) : Known w0 K L A := fun h e => a h fun x hx => e.1 x (s x hx)
theorem Held.sub {F G : HL} {A : HV → Prop} (a : Held F A) (s : ∀ x ∈ F, x ∈ G) : Held G A := fun h hh => a h fun x hx => hh x (s x hx)
theorem Held.and {F : HL} {A B : HV → Prop} (a : Held F A) (b : Held F B) : Held F (fun h => A h ∧ B h) := fun h hh => ⟨a h hh, b h hh⟩
theorem Held.imp {F : HL} {A B : HV → Prop} (a : Held F A) (f : ∀ h, A h → B h) : Held F B := fun h hh => f h (a h hh)
theorem Held.frag {F : HL} {B : HV → Prop} (hb : B (fv F)) (m : Mono B) : Held F B := fun h hh => m _ _ (fun b o ho => by
  unfold fv at ho
  obtain ⟨x, hx, rfl⟩ := Option.map_eq_some_iff.1 ho
  have h1 := List.mem_of_find?_eq_some hx
  have h2 : x.1 = b := by simpa using List.find?_some hx
  rw [← h2]; exact hh x h1) hb
theorem Held.nil {A : HV → Prop} (h : ∀ h, A h) : Held [] A := fun x _ => h x
theorem Held.row {b : Nat} {cs : List Value} {t : Nat} {fz : Nat × Nat} {F : HL} (hm : (b, Obj.cells ⟨cs⟩ t fz) ∈ F) : Held F (fun h => rowv h b 0 cs) := fun h hh i v hv => by
  have h1 := hh _ hm
  simp only at h1
  simp [cellv, h1, hv]

/-- A list with 64 marks behind it, in a block of its own. -/
structure mkLv (h : HV) (x : LV) : Prop where
  at_ : lvAt h x
  marks : ∃ b, x.2 = (some ⟨b, 0, none⟩, x.1.length + 64) ∧ rowv h b 0 ((x.1 ++ mk64).map (.int .i8))
structure wideL (h : HV) (l : LL) : Prop where
  n1 : mkLv h l.n1
  n2 : mkLv h l.n2
  q : mkLv h l.q.d
  k : mkLv h l.k.d
  v : mkLv h l.v.d
  o : mkLv h l.o.d
  g : mkLv h l.g.d
  u : mkLv h l.u.d
  d : mkLv h l.d.d
theorem wideL.at {h : HV} {l : LL} (p : wideL h l) : llAt h l := ⟨p.n1.at_, p.n2.at_, p.q.at_, p.k.at_, p.v.at_, p.o.at_, p.g.at_, p.u.at_, p.d.at_⟩
/-- The same list, at another place. -/
abbrev mvd (x : LV) (b : Nat) : LV := (x.1, some ⟨b, 0, none⟩, x.1.length + 64)
end Go.Proofs.YtopdcegeffnelaaGreatDoorX
/- Weights of their own, each list with marks behind it. -/
namespace Go.Proofs.YtopdcegeffnelaaGreatDoorX
open Go Go.SX

def zlv : LV := ([], none, 0)
def zmat : LM := ⟨0, 0, zlv⟩
def zeroM : List Value := zmat.cells
def zeroT : List Value := turnV (0, 0)
def zlay (v : LV) : LL := ⟨v, zlv, zmat, zmat, zmat, zmat, zmat, zmat, zmat, 0, 0, 0, 0, 0, 0, 0⟩
def zeroL : List Value := (zlay zlv).cells
def zeroW : List Value := (⟨⟨0, 0, 0, 0, 0, 0, 0, 0⟩, zmat, ([], none, 0), ([], none, 0), zlv, zmat, ([], none, 0)⟩ : LW).cells
/-- A layer behind the end: its first list is one mark. -/
def tailL (h : HV) (l : LL) : Prop := ∃ b, l = zlay ([-77], some ⟨b, 0, none⟩, 1) ∧ cellv h ⟨b, 0, none⟩ = some (.int .i8 (-77))
def tailM : LM := ⟨-77, 0, zlv⟩
def tk64 : List (Int × Int) := List.replicate 64 (-77, 0)
def xcells (x : LW) (eb fb hb : Nat) : List Value := [.int .i64 x.C.Vocab, .int .i64 x.C.Width, .int .i64 x.C.Heads, .int .i64 x.C.KV, .int .i64 x.C.Layers, .int .i64 x.C.Hidden, .int .i64 x.C.Len, .int .i64 x.C.Medusa,
  .int .i64 x.E.r, .int .i64 x.E.c, slv (mvd x.E.d eb), sla x.T, sla x.Ls, slv (mvd x.F fb), .int .i64 x.H.r, .int .i64 x.H.c, slv (mvd x.H.d hb), sla x.M]
theorem flat_len {α : Type} (f : α → List Value) (k : Nat) (hk : ∀ x, (f x).length = k) : ∀ l : List α, (l.flatMap f).length = l.length * k
  | [] => by simp
  | x :: l => by rw [List.flatMap_cons, List.length_append, hk, flat_len f k hk l, List.length_cons, Nat.succ_mul]; omega
/-- What the blocks of such weights show, but for the list Final. -/
structure wideR (h : HV) (x : LW) : Prop where
  e : mkLv h x.E.d
  hd : mkLv h x.H.d
  t : ∃ b, x.T.2 = (some ⟨b, 0, none⟩, x.T.1.length + 64) ∧ rowv h b 0 ((x.T.1 ++ tk64).flatMap turnV)
  l : ∃ b tl, x.Ls.2 = (some ⟨b, 0, none⟩, x.Ls.1.length + 8) ∧ tl.length = 8 ∧ rowv h b 0 ((x.Ls.1 ++ tl).flatMap LL.cells) ∧ ∀ l ∈ tl, tailL h l
  ll : ∀ l ∈ x.Ls.1, wideL h l
  m : ∃ b, x.M.2 = (some ⟨b, 0, none⟩, x.M.1.length + 8) ∧ rowv h b 0 ((x.M.1 ++ List.replicate 8 tailM).flatMap LM.cells)
  mm : ∀ m ∈ x.M.1, mkLv h m.d
/-- Where the lists of such weights lie. -/
structure formW (x : LW) : Prop where
  t : ∃ b, x.T.2 = (some ⟨b, 0, none⟩, x.T.1.length + 64)
  l : ∃ b, x.Ls.2 = (some ⟨b, 0, none⟩, x.Ls.1.length + 8)
  m : ∃ b, x.M.2 = (some ⟨b, 0, none⟩, x.M.1.length + 8)
end Go.Proofs.YtopdcegeffnelaaGreatDoorX
/- Are such weights as they were made, with the marks? -/
namespace Go.Proofs.YtopdcegeffnelaaGreatDoorX
open Go Go.SX

end Go.Proofs.YtopdcegeffnelaaGreatDoorX
/- Lists in memory of their own. -/
namespace Go.Proofs.YtopdcegeffnelaaGreatDoorX
open Go Go.SX
/-- A list of numbers in memory of its own. -/
def OwnV (x : LV) (F : HL) : Prop := OwnS 306 1 (slv x) x.1.length (x.1.map (.int .i8)) F ∧ x.1.length * 1 ≤ 140737488355328 ∧ ∀ y ∈ x.1, inK .i8 y
theorem OwnV.held {x : LV} {F : HL} (h : OwnV x F) : Held F (fun h => lvAt h x) := by
  obtain ⟨xs, a, c⟩ := x
  obtain ⟨h1, h2, h3⟩ := h
  obtain ⟨a2, c2, e2, _, s2⟩ := h1.slA (by_ := 1) h3 h2
  obtain ⟨rfl, _, rfl⟩ := Value.slice.inj e2
  exact Held.frag s2 (Mono.sl _ _ _ _ _)
/-- Lists of numbers, each in memory of its own. -/
def OwnAll : List LV → HL → Prop
  | [], L => L = []
  | x :: xs, L => ∃ F G, OwnV x F ∧ OwnAll xs G ∧ L = F ++ G
theorem OwnAll.nil : OwnAll [] [] := rfl
theorem OwnV.all {x : LV} {F : HL} (h : OwnV x F) : OwnAll [x] F := ⟨F, [], h, rfl, (List.append_nil F).symm⟩
theorem OwnAll.app {xs ys : List LV} {F G : HL} (h : OwnAll xs F) (h2 : OwnAll ys G) : OwnAll (xs ++ ys) (F ++ G) := by
  induction xs generalizing F with
  | nil => obtain rfl := h; exact h2
  | cons x xs ih =>
    obtain ⟨A, B, ha, hb, rfl⟩ := h
    exact ⟨A, B ++ G, ha, ih hb, List.append_assoc _ _ _⟩
theorem OwnAll.held {xs : List LV} {F : HL} (h : OwnAll xs F) : Held F (fun h => ∀ x ∈ xs, lvAt h x) := by
  induction xs generalizing F with
  | nil => exact fun _ _ x hx => by simp at hx
  | cons x xs ih =>
    obtain ⟨A, B, ha, hb, rfl⟩ := h
    intro h hh y hy
    rcases List.mem_cons.1 hy with rfl | hy
    · exact ha.held h fun z hz => hh z (List.mem_append_left _ hz)
    · exact ih hb h (fun z hz => hh z (List.mem_append_right _ hz)) y hy
def LL.nl (l : LL) : List LV := [l.n1, l.n2, l.q.d, l.k.d, l.v.d, l.o.d, l.g.d, l.u.d, l.d.d]
def LW.nl (x : LW) : List LV := [x.E.d, x.F, x.H.d] ++ (x.Ls.1.flatMap LL.nl ++ x.M.1.map (·.d))
/-- Weights whose lists lie each in memory of its own. -/
structure OwnW (x : LW) (L : HL) : Prop where
  bt : x.T.1.length * 16 ≤ 140737488355328
  bl : x.Ls.1.length * 384 ≤ 140737488355328
  bm : x.M.1.length * 40 ≤ 140737488355328
  lists : ∃ Fn Ft Fl Fm : HL, OwnAll x.nl Fn ∧ OwnS 329 2 (sla x.T) x.T.1.length (x.T.1.flatMap turnV) Ft ∧ OwnS 217 30 (sla x.Ls) x.Ls.1.length (x.Ls.1.flatMap LL.cells) Fl ∧ OwnS 26 3 (sla x.M) x.M.1.length (x.M.1.flatMap LM.cells) Fm ∧ L.Perm (Fn ++ (Ft ++ (Fl ++ Fm)))
theorem raw_at {α : Type} {f : α → List Value} {k : Nat} {hk : ∀ x, (f x).length = k} {by_ e : Nat} {xs : List α} {a : Option Addr} {c : Nat} {F : HL} (h : OwnS e k (.slice a xs.length c) xs.length (xs.flatMap f) F) (hb : xs.length * by_ ≤ 140737488355328) :
    Held F (fun h => SlA (Kd.raw f k hk) by_ h xs a c) := by
  obtain ⟨a2, c2, e2, s2⟩ := h.raw (f := f) (k := k) (hk := hk) (by_ := by_) rfl hb
  obtain ⟨rfl, _, rfl⟩ := Value.slice.inj e2
  exact Held.frag s2 (Mono.sl _ _ _ _ _)
theorem OwnW.held {x : LW} {L : HL} (h : OwnW x L) : Held L (fun h => lwAt h x) := by
  obtain ⟨bt, bl, bm, Fn, Ft, Fl, Fm, h1, h2, h3, h4, hp⟩ := h
  intro h hh
  have g : ∀ {A : HL}, (∀ y ∈ A, y ∈ Fn ++ (Ft ++ (Fl ++ Fm))) → ∀ y ∈ A, _ := fun s y hy => hh y (hp.mem_iff.2 (s y hy))
  have q1 := h1.held h (g (A := Fn) fun y hy => by simp [hy])
  have q2 := raw_at (f := turnV) (k := 2) (hk := fun _ => rfl) (a := x.T.2.1) (c := x.T.2.2) h2 bt h (g (A := Ft) fun y hy => by simp [hy])
  have q3 := raw_at (f := LL.cells) (k := 30) (hk := fun _ => rfl) (a := x.Ls.2.1) (c := x.Ls.2.2) h3 bl h (g (A := Fl) fun y hy => by simp [hy])
  have q4 := raw_at (f := LM.cells) (k := 3) (hk := fun _ => rfl) (a := x.M.2.1) (c := x.M.2.2) h4 bm h (g (A := Fm) fun y hy => by simp [hy])
  refine ⟨q1 _ (by simp [LW.nl]), q2, SlA.ofRaw q3 fun l hl => ?_, q1 _ (by simp [LW.nl]), q1 _ (by simp [LW.nl]), SlA.ofRaw q4 fun m hm => q1 _ ?_⟩
  · have hin : ∀ y ∈ l.nl, lvAt h y := fun y hy => q1 y (by
      unfold LW.nl
      exact List.mem_append_right _ (List.mem_append_left _ (List.mem_flatMap.2 ⟨l, hl, hy⟩)))
    exact ⟨hin _ (by simp [LL.nl]), hin _ (by simp [LL.nl]), hin _ (by simp [LL.nl]), hin _ (by simp [LL.nl]), hin _ (by simp [LL.nl]), hin _ (by simp [LL.nl]), hin _ (by simp [LL.nl]), hin _ (by simp [LL.nl]), hin _ (by simp [LL.nl])⟩
  · unfold LW.nl
    exact List.mem_append_right _ (List.mem_append_right _ (List.mem_map.2 ⟨m, hm, rfl⟩))
theorem OwnAll.cons {x : LV} {xs : List LV} {F G : HL} (h : OwnV x F) (g : OwnAll xs G) : OwnAll (x :: xs) (F ++ G) := ⟨F, G, h, g, rfl⟩
/-- The same, in any order. -/
def OwnP (xs : List LV) (L : HL) : Prop := ∃ F, OwnAll xs F ∧ L.Perm F
theorem OwnP.nil : OwnP [] [] := ⟨[], rfl, List.Perm.refl _⟩
theorem OwnP.one {x : LV} {F : HL} (h : OwnV x F) : OwnP [x] F := ⟨F, h.all, List.Perm.refl _⟩
theorem OwnP.app {xs ys : List LV} {F G : HL} (h : OwnP xs F) (g : OwnP ys G) : OwnP (xs ++ ys) (F ++ G) := by
  obtain ⟨A, ha, pa⟩ := h
  obtain ⟨B, hb, pb⟩ := g
  exact ⟨A ++ B, ha.app hb, pa.append pb⟩
theorem OwnP.perm {xs : List LV} {F G : HL} (h : OwnP xs F) (p : G.Perm F) : OwnP xs G := by
  obtain ⟨A, ha, pa⟩ := h
  exact ⟨A, ha, p.trans pa⟩
theorem OwnP.snoc {D : List LM} {m : LM} {F G : HL} (h : OwnP (D.map (·.d)) G) (g : OwnV m.d F) : OwnP ((D ++ [m]).map (·.d)) (F ++ G) := by
  rw [List.map_append]
  exact OwnP.perm (h.app (OwnP.one g)) List.perm_append_comm
/-- These blocks, the lists' own, and others that nobody looks at. -/
def OwnX (B : HL) (xs : List LV) (G : HL) : Prop := ∃ G0 J, OwnAll xs G0 ∧ G.Perm (B ++ (G0 ++ J))
theorem OwnX.nil (B : HL) : OwnX B [] B := ⟨[], [], rfl, by simp⟩
theorem OwnX.add {B : HL} {xs ys : List LV} {F G : HL} (h : OwnX B xs G) (g : OwnP ys F) : OwnX B (xs ++ ys) (F ++ G) := by
  obtain ⟨A, J, ha, pa⟩ := h
  obtain ⟨C, hc, pc⟩ := g
  refine ⟨A ++ C, J, ha.app hc, (pc.append pa).trans ?_⟩
  refine perm_of_cnt fun p_ => ?_
  simp only [List.countP_append]; omega
end Go.Proofs.YtopdcegeffnelaaGreatDoorX
/- Copies, each list in memory of its own. -/
namespace Go.Proofs.YtopdcegeffnelaaGreatDoorX
open Go Go.SX

theorem copyNarrow_own (x : LV) : FC Tryz.prog 115 [slv x] [] (fun h => lvAt h x)
    (fun v L => ∃ x' : LV, v = slv x' ∧ x'.1 = x.1 ∧ OwnV x' L) := by
  refine FC.sub2 ?_
  obtain ⟨xs, a, cap⟩ := x
  refine FC.intro Tryz.func115 rfl (by kernel_rfl) 19 [.tmp 2] rfl rfl rfl ?_
  intro w0 hA
  change SlA (Kd.int .i8) 1 _ xs a cap at hA
  have hsm := hA.bytes
  have hok := hA.okAll
  (repeat (first | (with_reducible apply XL.op) | ((with_reducible apply XOp.p1); (case hg | hv => exact rfl)) | (with_reducible apply XL.nilT) | (with_reducible apply XC.seq) | (with_reducible apply XC.region (Γ := Γ)) | (with_reducible apply XC.block)))
  refine XC.loop (fun k ρ L => ∃ (i : Nat) (v : Value) (F : HL), i + k = xs.length ∧ OwnS 306 1 v i ((xs.take i).map (.int .i8)) F ∧ L = F ++ [] ∧ Slots ρ [(0, .slice a xs.length cap), (3, v), (4, .int .i64 i)])
    xs.length ⟨0, _, [], by simp, OwnS.nil _ _, rfl, rfl, rfl, rfl, trivial⟩ ?_
  rintro k ρ L ⟨i, v, F, hik, hown, rfl, hs⟩
  obtain ⟨a', c', rfl⟩ := hown.val
  refine XC.slots _ hs ?_
  (repeat (first | (with_reducible apply XL.op) | ((with_reducible apply XOp.p1); (case hg | hv => exact rfl)) | (with_reducible apply XL.nilT) | (with_reducible apply XC.seq) | (with_reducible apply XC.region (Γ := Γ))))
  ((with_reducible apply XC.cond); (case hc => exact rfl); all_goals (intro hb_; try simp only [pd_true, pd_false, Bool.not_eq_true', Bool.not_eq_false', Bool.and_eq_true, Bool.and_eq_false_iff, Bool.or_eq_true, Bool.or_eq_false_iff, not_true_eq_false, not_false_eq_true, Int.not_lt, Int.not_le] at hb_))
  · obtain ⟨x, hi⟩ : ∃ x, xs[i]? = some x := ⟨_, List.getElem?_eq_getElem (by omega)⟩
    have hc := (hA.int i (by omega)).1
    rw [hi] at hc
    change cellv _ _ = some (.int .i8 x) at hc
    (repeat (first | (with_reducible apply XL.op) | ((with_reducible apply XOp.p1); (case hg | hv => exact rfl)) | ((with_reducible apply XOp.pr); (case hg => exact rfl); (case hr => ((with_reducible apply PR.idxA); (case ht | hk | he | hx | hi => exact rfl); (case hr => first | assumption | omega); (case ha => first | assumption | exact SlA.at_ (by assumption))))) | (with_reducible apply XC.seq) | (with_reducible apply XC.region (Γ := Γ)) | (with_reducible apply XQ.skip) | (with_reducible apply XQ.nt) | (with_reducible apply XC.block) | (first | ((with_reducible apply XOp.load); (case hg | ht | hk | hx => exact rfl); (case hc => exact Known.of_old hc (Mono.cell _ _))) | ((with_reducible apply XP.load); (case ho | hg | ht | hk | hx => exact rfl); (case hc => exact Known.of_old hc (Mono.cell _ _))))))
    ((with_reducible apply XOp.buildSlice); (case hg | ht | hk | he | hz | hzl | hf => exact rfl); intro bb)
    (repeat ((with_reducible apply XL.op)))
    ((with_reducible apply XOp.append1); (case hg => exact rfl); (case ht => exact rfl); (case hk => exact rfl); (case he => exact rfl); (case hown => exact hown); (case hs => exact rfl); (case hx => exact rfl); (case hL => exact rfl); (case hl => exact rfl); (case h1 => exact rfl); (case hz => exact rfl); (case hsz => exact Nat.zero_lt_succ _); (case hk0 => exact Nat.zero_lt_succ _); (case h63 => simp only [maxLen]; omega); (case hb => simp only []; omega); intro v_ F_ hown_; obtain ⟨a_, c_, rfl⟩ := hown_.val)
    (repeat (first | (with_reducible apply XL.op) | ((with_reducible apply XOp.p1); (case hg | hv => exact rfl)) | (with_reducible apply XL.nilT) | (with_reducible apply XC.region (Γ := Γ)) | (with_reducible apply XL.nilQ) | (with_reducible apply XQ.nt) | (with_reducible apply XQ.nb)))
    exact ⟨k - 1, by omega, i + 1, _, F_, by omega, hown_.conv rfl (by rw [take_snocD hi]; simp [zerosL]), rfl, rfl, rfl, intS (m := xs.length) (by omega) (by omega), trivial⟩
  · obtain rfl : i = xs.length := by omega
    rw [List.take_length] at hown
    (repeat (first | (with_reducible apply XL.op) | ((with_reducible apply XOp.p1); (case hg | hv => exact rfl)) | (with_reducible apply XL.nilT) | (with_reducible apply XC.seq) | (with_reducible apply XC.region (Γ := Γ)) | (with_reducible apply XQ.ret) | (with_reducible apply XQ.exit) | (with_reducible apply XQ.nt) | (with_reducible apply XQ.et) | ((with_reducible apply XQ.eb); (case hb => exact rfl))))
    ((with_reducible apply XQ.retE); (case hr => exact .t rfl .nil))
    exact ⟨F, .of (by rw [List.append_nil]; exact List.Sublist.refl _), (xs, a', c'), rfl, rfl, hown, hsm, hok⟩
theorem copyMat_own (m : LM) : FC Tryz.prog 112 [.agg ⟨m.cells⟩] [] (fun h => lmAt h m)
    (fun v L => ∃ m' : LM, v = .agg ⟨m'.cells⟩ ∧ m'.mat = m.mat ∧ OwnV m'.d L) := by
  refine FC.sub2 ?_
  refine FC.intro Tryz.func112 rfl (by kernel_rfl) 11 [.cell 2 26] rfl rfl rfl ?_
  intro w0 hA
  (repeat (first | (with_reducible apply XL.op) | (with_reducible apply XC.seq) | (with_reducible apply XC.region (Γ := Γ))))
  ((with_reducible apply XOp.box); (case hg | hx' => exact rfl); intro mb)
  (repeat ((with_reducible apply XL.op)))
  ((with_reducible apply XOp.alloc); (case hg | ht | hx' => exact rfl); intro rb)
  (repeat (first | (with_reducible apply XL.nilT) | (with_reducible apply XC.seq)))
  ((with_reducible apply XC.regionD (Γ := Γ) mixed (.q 0 (.q 1 (.q 2 (.q 3 (.q 4 (.q 5 (.e 6 (.q 7 (.e 8 (.done)))))))))) [8] [false, true]); (case hc => kernel_rfl))
  (repeat (first | ((with_reducible apply XP.p1); (case ho | hg | hv => exact rfl)) | ((with_reducible apply XP.load); (case ho | hg | ht | hk | hx => exact rfl); (case hc => exact own_cell (i := 0) rfl rfl)) | ((with_reducible apply XP.e); (first | ((with_reducible apply XE.d); (case ho => exact rfl); (case hd => exact rfl)) | ((with_reducible apply XE.e); (case ho => exact rfl))))))
  ((with_reducible apply XOp.callN (hF := copyNarrow_own m.d)); (case hg => exact rfl); (case hc => exact rfl); (case ha => exact rfl); try (case hA => exact Known.true))
  case hA => exact Known.of_old hA (lm_mono _)
  rintro _ F ⟨d', rfl, hd, hF⟩
  refine ⟨fun y hy => List.mem_append_left _ (sel_in hy), ?_⟩
  (repeat (first | ((with_reducible apply XOp.storeN (i := 0)); (case hg | ht | hx | hv' | hk | h1 | hi | hs | ha => exact rfl)) | (with_reducible apply XQ.ret) | (with_reducible apply XQ.nt) | ((with_reducible apply XP.pr); (case ho => exact rfl); (case hg => exact rfl); (case hr => ((with_reducible apply PR.build); (case ht | hk | hok | hz | hf => exact rfl)))) | (with_reducible apply XP.done) | ((with_reducible apply XP.e); (first | ((with_reducible apply XE.d); (case ho => exact rfl); (case hd => exact rfl)) | ((with_reducible apply XE.e); (case ho => exact rfl))))))
  ((with_reducible apply XQ.retE); (case hr => exact .row rfl (by kernel_rfl) (by kernel_rfl) (own_row (i := 0) (m := 3) rfl rfl) .nil))
  exact ⟨F, .of (by ((try simp only [List.append_eq, List.cons_append, List.nil_append, List.append_assoc]); repeat (first | exact List.Sublist.refl _ | exact List.nil_sublist _ | (with_reducible apply List.Sublist.cons_cons) | (with_reducible apply List.Sublist.cons) | exact List.sublist_append_right _ _))), ⟨m.r, m.c, d'⟩, rfl, by simp [LM.mat, hd], hF⟩
theorem copyTurns_own (x : LA (Int × Int)) : FC Tryz.prog 113 [sla x] [] (fun h => SlA turnK 16 h x.1 x.2.1 x.2.2)
    (fun v L => ∃ x' : LA (Int × Int), v = sla x' ∧ x'.1 = x.1 ∧ OwnS 329 2 (sla x') x'.1.length (x'.1.flatMap turnV) L) := by
  refine FC.sub2 ?_
  obtain ⟨xs, a, cap⟩ := x
  refine FC.intro Tryz.func113 rfl (by kernel_rfl) 19 [.tmp 2] rfl rfl rfl ?_
  intro w0 hA
  change SlA turnK 16 _ xs a cap at hA
  have hsm := hA.bytes
  have hat := hA.at_
  (repeat (first | (with_reducible apply XL.op) | ((with_reducible apply XOp.p1); (case hg | hv => exact rfl)) | (with_reducible apply XL.nilT) | (with_reducible apply XC.seq) | (with_reducible apply XC.region (Γ := Γ)) | (with_reducible apply XC.block)))
  refine XC.loop (fun k ρ L => ∃ (i : Nat) (v : Value) (F : HL), i + k = xs.length ∧ OwnS 329 2 v i ((xs.take i).flatMap turnV) F ∧ L = F ++ [] ∧ Slots ρ [(0, .slice a xs.length cap), (3, v), (4, .int .i64 i)])
    xs.length ⟨0, _, [], by simp, OwnS.nil _ _, rfl, rfl, rfl, rfl, trivial⟩ ?_
  rintro k ρ L ⟨i, v, F, hik, hown, rfl, hs⟩
  obtain ⟨a', c', rfl⟩ := hown.val
  refine XC.slots _ hs ?_
  (repeat (first | (with_reducible apply XL.op) | ((with_reducible apply XOp.p1); (case hg | hv => exact rfl)) | (with_reducible apply XL.nilT) | (with_reducible apply XC.seq) | (with_reducible apply XC.region (Γ := Γ))))
  ((with_reducible apply XC.cond); (case hc => exact rfl); all_goals (intro hb_; try simp only [pd_true, pd_false, Bool.not_eq_true', Bool.not_eq_false', Bool.and_eq_true, Bool.and_eq_false_iff, Bool.or_eq_true, Bool.or_eq_false_iff, not_true_eq_false, not_false_eq_true, Int.not_lt, Int.not_le] at hb_))
  · obtain ⟨x, hi⟩ : ∃ x, xs[i]? = some x := ⟨_, List.getElem?_eq_getElem (by omega)⟩
    (repeat (first | (with_reducible apply XL.op) | ((with_reducible apply XOp.p1); (case hg | hv => exact rfl)) | ((with_reducible apply XOp.pr); (case hg => exact rfl); (case hr => ((with_reducible apply PR.idxA); (case ht | hk | he | hx | hi => exact rfl); (case hr => first | assumption | omega); (case ha => first | assumption | exact SlA.at_ (by assumption))))) | (with_reducible apply XC.seq) | (with_reducible apply XC.region (Γ := Γ)) | (with_reducible apply XQ.skip) | (with_reducible apply XQ.nt) | (with_reducible apply XC.block) | (first | ((with_reducible apply XOp.loadN); (case hg | ht | hk | hx => exact rfl); (case hc => exact Known.of_old (hA.rawAt hi) (Mono.row _ _ _)); (case hl => exact rfl)) | ((with_reducible apply XP.loadN); (case ho | hg | ht | hk | hx => exact rfl); (case hc => exact Known.of_old (hA.rawAt hi) (Mono.row _ _ _)); (case hl => exact rfl)))))
    ((with_reducible apply XOp.buildSlice); (case hg | ht | hk | he | hz | hzl | hf => exact rfl); intro bb)
    (repeat ((with_reducible apply XL.op)))
    ((with_reducible apply XOp.append1); (case hg => exact rfl); (case ht => exact rfl); (case hk => exact rfl); (case he => exact rfl); (case hown => exact hown); (case hs => exact rfl); (case hx => exact rfl); (case hL => exact rfl); (case hl => exact rfl); (case h1 => exact rfl); (case hz => exact rfl); (case hsz => exact Nat.zero_lt_succ _); (case hk0 => exact Nat.zero_lt_succ _); (case h63 => simp only [maxLen]; omega); (case hb => simp only []; omega); intro v_ F_ hown_; obtain ⟨a_, c_, rfl⟩ := hown_.val)
    (repeat (first | (with_reducible apply XL.op) | ((with_reducible apply XOp.p1); (case hg | hv => exact rfl)) | (with_reducible apply XL.nilT) | (with_reducible apply XC.region (Γ := Γ)) | (with_reducible apply XL.nilQ) | (with_reducible apply XQ.nt) | (with_reducible apply XQ.nb)))
    exact ⟨k - 1, by omega, i + 1, _, F_, by omega, hown_.conv rfl (by rw [take_snocD hi, List.flatMap_append]; simp [zerosL, turnV]), rfl, rfl, rfl, intS (m := xs.length) (by omega) (by omega), trivial⟩
  · obtain rfl : i = xs.length := by omega
    rw [List.take_length] at hown
    (repeat (first | (with_reducible apply XL.op) | ((with_reducible apply XOp.p1); (case hg | hv => exact rfl)) | (with_reducible apply XL.nilT) | (with_reducible apply XC.seq) | (with_reducible apply XC.region (Γ := Γ)) | (with_reducible apply XQ.ret) | (with_reducible apply XQ.exit) | (with_reducible apply XQ.nt) | (with_reducible apply XQ.et) | ((with_reducible apply XQ.eb); (case hb => exact rfl))))
    ((with_reducible apply XQ.retE); (case hr => exact .t rfl .nil))
    exact ⟨F, .of (by rw [List.append_nil]; exact List.Sublist.refl _), (xs, a', c'), rfl, rfl, hown⟩
set_option maxHeartbeats 16000000 in
theorem copyLayer_own (l : LL) : FC Tryz.prog 114 [.agg ⟨l.cells⟩] [] (fun h => llAt h l)
    (fun v L => ∃ l' : LL, v = .agg ⟨l'.cells⟩ ∧ l'.lay = l.lay ∧ OwnAll l'.nl L) := by
  refine FC.sub2 ?_
  refine FC.intro Tryz.func114 rfl (by kernel_rfl) 42 [.cell 2 217] rfl rfl rfl ?_
  intro w0 hA
  (repeat (first | (with_reducible apply XL.op) | (with_reducible apply XC.seq) | (with_reducible apply XC.region (Γ := Γ))))
  ((with_reducible apply XOp.box); (case hg | hx' => exact rfl); intro yb)
  (repeat ((with_reducible apply XL.op)))
  ((with_reducible apply XOp.alloc); (case hg | ht | hx' => exact rfl); intro rb)
  (repeat (first | (with_reducible apply XL.op) | ((with_reducible apply XOp.loadO (i := 1)); (case hg | ht | hk | hx | hi | hc => exact rfl)) | (with_reducible apply XL.nilT) | (with_reducible apply XC.seq) | (with_reducible apply XC.region (Γ := Γ))))
  ((with_reducible apply XOp.alloc); (case hg | ht | hx' => exact rfl); intro xb)
  (repeat (first | (with_reducible apply XL.op) | ((with_reducible apply XOp.p1); (case hg | hv => exact rfl)) | ((with_reducible apply XOp.load); (case hg | ht | hk | hx => exact rfl); (case hc => exact own_cell (i := 2) rfl rfl)) | ((with_reducible apply XOp.storeN (i := 0)); (case hg | ht | hx | hv' | hk | h1 | hi | hs | ha => exact rfl)) | (with_reducible apply XL.nilT) | (with_reducible apply XC.seq) | (with_reducible apply XC.region (Γ := Γ))))
  ((with_reducible apply XOp.callN (hF := copyNarrow_own l.n1)); (case hg => exact rfl); (case hc => exact rfl); (case ha => exact rfl); try (case hA => exact Known.true))
  case hA => exact Known.of_old hA.n1 (lv_mono _)
  rintro _ F0 ⟨x0, rfl, e0, f0⟩
  (repeat (first | (with_reducible apply XL.op) | ((with_reducible apply XOp.p1); (case hg | hv => exact rfl)) | ((with_reducible apply XOp.load); (case hg | ht | hk | hx => exact rfl); (case hc => exact own_cell (i := 2) rfl rfl)) | ((with_reducible apply XOp.store (i := 0)); (case hg | ht | hk | hx | hv | h1 | hi | hs | ha => exact rfl)) | (with_reducible apply XL.nilT) | (with_reducible apply XC.seq) | (with_reducible apply XC.region (Γ := Γ))))
  ((with_reducible apply XOp.callN (hF := copyNarrow_own l.n2)); (case hg => exact rfl); (case hc => exact rfl); (case ha => exact rfl); try (case hA => exact Known.true))
  case hA => exact Known.of_old hA.n2 (lv_mono _)
  rintro _ F1 ⟨x1, rfl, e1, f1⟩
  (repeat (first | (with_reducible apply XL.op) | ((with_reducible apply XOp.p1); (case hg | hv => exact rfl)) | ((with_reducible apply XOp.loadO (i := 2)); (case hg | ht | hk | hx | hi | hc => exact rfl)) | ((with_reducible apply XOp.store (i := 0)); (case hg | ht | hk | hx | hv | h1 | hi | hs | ha => exact rfl)) | (with_reducible apply XL.nilT) | (with_reducible apply XC.seq) | (with_reducible apply XC.region (Γ := Γ))))
  ((with_reducible apply XOp.callN (hF := copyMat_own l.q)); (case hg => exact rfl); (case hc => exact rfl); (case ha => exact rfl); try (case hA => exact Known.true))
  case hA => exact Known.of_old hA.q (lm_mono _)
  rintro _ F2 ⟨x2, rfl, e2, f2⟩
  (repeat (first | (with_reducible apply XL.op) | ((with_reducible apply XOp.p1); (case hg | hv => exact rfl)) | ((with_reducible apply XOp.loadO (i := 2)); (case hg | ht | hk | hx | hi | hc => exact rfl)) | ((with_reducible apply XOp.storeN (i := 0)); (case hg | ht | hx | hv' | hk | h1 | hi | hs | ha => exact rfl)) | (with_reducible apply XL.nilT) | (with_reducible apply XC.seq) | (with_reducible apply XC.region (Γ := Γ))))
  ((with_reducible apply XOp.callN (hF := copyMat_own l.k)); (case hg => exact rfl); (case hc => exact rfl); (case ha => exact rfl); try (case hA => exact Known.true))
  case hA => exact Known.of_old hA.k (lm_mono _)
  rintro _ F3 ⟨x3, rfl, e3, f3⟩
  (repeat (first | (with_reducible apply XL.op) | ((with_reducible apply XOp.p1); (case hg | hv => exact rfl)) | ((with_reducible apply XOp.loadO (i := 2)); (case hg | ht | hk | hx | hi | hc => exact rfl)) | ((with_reducible apply XOp.storeN (i := 0)); (case hg | ht | hx | hv' | hk | h1 | hi | hs | ha => exact rfl)) | (with_reducible apply XL.nilT) | (with_reducible apply XC.seq) | (with_reducible apply XC.region (Γ := Γ))))
  ((with_reducible apply XOp.callN (hF := copyMat_own l.v)); (case hg => exact rfl); (case hc => exact rfl); (case ha => exact rfl); try (case hA => exact Known.true))
  case hA => exact Known.of_old hA.v (lm_mono _)
  rintro _ F4 ⟨x4, rfl, e4, f4⟩
  (repeat (first | (with_reducible apply XL.op) | ((with_reducible apply XOp.p1); (case hg | hv => exact rfl)) | ((with_reducible apply XOp.loadO (i := 2)); (case hg | ht | hk | hx | hi | hc => exact rfl)) | ((with_reducible apply XOp.storeN (i := 0)); (case hg | ht | hx | hv' | hk | h1 | hi | hs | ha => exact rfl)) | (with_reducible apply XL.nilT) | (with_reducible apply XC.seq) | (with_reducible apply XC.region (Γ := Γ))))
  ((with_reducible apply XOp.callN (hF := copyMat_own l.o)); (case hg => exact rfl); (case hc => exact rfl); (case ha => exact rfl); try (case hA => exact Known.true))
  case hA => exact Known.of_old hA.o (lm_mono _)
  rintro _ F5 ⟨x5, rfl, e5, f5⟩
  (repeat (first | (with_reducible apply XL.op) | ((with_reducible apply XOp.p1); (case hg | hv => exact rfl)) | ((with_reducible apply XOp.loadO (i := 2)); (case hg | ht | hk | hx | hi | hc => exact rfl)) | ((with_reducible apply XOp.storeN (i := 0)); (case hg | ht | hx | hv' | hk | h1 | hi | hs | ha => exact rfl)) | (with_reducible apply XL.nilT) | (with_reducible apply XC.seq) | (with_reducible apply XC.region (Γ := Γ))))
  ((with_reducible apply XOp.callN (hF := copyMat_own l.g)); (case hg => exact rfl); (case hc => exact rfl); (case ha => exact rfl); try (case hA => exact Known.true))
  case hA => exact Known.of_old hA.g (lm_mono _)
  rintro _ F6 ⟨x6, rfl, e6, f6⟩
  (repeat (first | (with_reducible apply XL.op) | ((with_reducible apply XOp.p1); (case hg | hv => exact rfl)) | ((with_reducible apply XOp.loadO (i := 2)); (case hg | ht | hk | hx | hi | hc => exact rfl)) | ((with_reducible apply XOp.storeN (i := 0)); (case hg | ht | hx | hv' | hk | h1 | hi | hs | ha => exact rfl)) | (with_reducible apply XL.nilT) | (with_reducible apply XC.seq) | (with_reducible apply XC.region (Γ := Γ))))
  ((with_reducible apply XOp.callN (hF := copyMat_own l.u)); (case hg => exact rfl); (case hc => exact rfl); (case ha => exact rfl); try (case hA => exact Known.true))
  case hA => exact Known.of_old hA.u (lm_mono _)
  rintro _ F7 ⟨x7, rfl, e7, f7⟩
  (repeat (first | (with_reducible apply XL.op) | ((with_reducible apply XOp.p1); (case hg | hv => exact rfl)) | ((with_reducible apply XOp.loadO (i := 2)); (case hg | ht | hk | hx | hi | hc => exact rfl)) | ((with_reducible apply XOp.storeN (i := 0)); (case hg | ht | hx | hv' | hk | h1 | hi | hs | ha => exact rfl)) | (with_reducible apply XL.nilT) | (with_reducible apply XC.seq) | (with_reducible apply XC.region (Γ := Γ))))
  ((with_reducible apply XOp.callN (hF := copyMat_own l.d)); (case hg => exact rfl); (case hc => exact rfl); (case ha => exact rfl); try (case hA => exact Known.true))
  case hA => exact Known.of_old hA.d (lm_mono _)
  rintro _ F8 ⟨x8, rfl, e8, f8⟩
  (repeat (first | (with_reducible apply XL.op) | ((with_reducible apply XOp.p1); (case hg | hv => exact rfl)) | ((with_reducible apply XOp.loadO (i := 0)); (case hg | ht | hk | hx | hi | hc => exact rfl)) | ((with_reducible apply XOp.storeN (i := 0)); (case hg | ht | hx | hv' | hk | h1 | hi | hs | ha => exact rfl)) | ((with_reducible apply XOp.storeN (i := 1)); (case hg | ht | hx | hv' | hk | h1 | hi | hs | ha => exact rfl)) | (with_reducible apply XL.nilT) | (with_reducible apply XC.seq) | (with_reducible apply XC.region (Γ := Γ)) | (with_reducible apply XQ.ret)))
  ((with_reducible apply XQ.retE); (case hr => exact .row rfl (by kernel_rfl) (by kernel_rfl) (own_row (i := 1) (m := 30) rfl rfl) .nil))
  refine ⟨F0 ++ (F1 ++ (F2 ++ (F3 ++ (F4 ++ (F5 ++ (F6 ++ (F7 ++ F8))))))), .of (by ((try simp only [List.append_eq, List.cons_append, List.nil_append, List.append_assoc]); repeat (first | exact List.Sublist.refl _ | exact List.nil_sublist _ | (with_reducible apply List.Sublist.cons_cons) | (with_reducible apply List.Sublist.cons) | exact List.sublist_append_right _ _))), ⟨x0, x1, x2, x3, x4, x5, x6, x7, x8, l.b0, l.b1, l.b2, l.b3, l.b4, l.b5, l.b6⟩, rfl, ?_, OwnAll.cons f0 (.cons f1 (.cons f2 (.cons f3 (.cons f4 (.cons f5 (.cons f6 (.cons f7 (OwnV.all f8))))))))⟩
  exact (lay_eq _ _).2 ⟨e0, e1, e2, e3, e4, e5, e6, e7, e8, rfl⟩
end Go.Proofs.YtopdcegeffnelaaGreatDoorX
