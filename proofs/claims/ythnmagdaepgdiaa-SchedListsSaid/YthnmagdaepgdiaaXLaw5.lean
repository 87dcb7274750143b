/- The laws' own helpers: are two plans the same? -/
import Derived.Test.YthnmagdaepgdiaaXLaw4
import Derived.Test.YthnmagdaepgdiaaXSEq
set_option linter.unusedSimpArgs false
set_option linter.unusedVariables false
namespace Go.Proofs.YthnmagdaepgdiaaX
open Go Go.SX

def nums (x : Slc) : List Int := [x.Id, x.Prefill, x.Nodes]
theorem nums_inj {x y : Slc} : nums x = nums y ↔ x = y := by
  cases x; cases y; simp [nums]
abbrev slcK : Kd Slc := Kd.raw Slc.cells 3 (fun _ => rfl)
theorem eqPlan_fn (o1 o2 : List Int) (s1 s2 : List Slc) (a1 b1 a2 b2 : Option Addr) (c1 d1 c2 d2 : Nat) :
    FC Try.prog 19 [.agg ⟨[.slice a1 o1.length c1, .slice b1 s1.length d1]⟩, .agg ⟨[.slice a2 o2.length c2, .slice b2 s2.length d2]⟩] []
    (fun h => (SlA (Kd.int .i64) 8 h o1 a1 c1 ∧ SlA (Kd.int .i64) 8 h o2 a2 c2) ∧ SlA slcK 24 h s1 b1 d1 ∧ SlA slcK 24 h s2 b2 d2) (fun v L => v = .bool (pd (o1 = o2 ∧ s1 = s2)) ∧ L = []) := by
  refine FC.nil ?_
  refine FC.intro Try.func19 rfl (by kernel_rfl) 39 [.tmp 4] rfl rfl rfl ?_
  rintro w0 ⟨⟨hO1, hO2⟩, hS1, hS2⟩
  have hsm := hS1.bytes
  (repeat (first | (with_reducible apply XL.op) | (with_reducible apply XC.seq) | (with_reducible apply XC.region (Γ := Γ))))
  ((with_reducible apply XOp.box); (case hg | hx' => exact rfl); intro xb)
  (repeat ((with_reducible apply XL.op)))
  ((with_reducible apply XOp.box); (case hg | hx' => exact rfl); intro yb)
  (repeat' (first | (with_reducible apply XL.op) | ((with_reducible apply XOp.p1); (case hg | hv => exact rfl)) | ((with_reducible apply XOp.p0); (case hg => exact rfl)) | ((with_reducible apply XOp.load); (case hg | ht | hk | hx => exact rfl); (case hc => exact own_cell (i := 0) rfl rfl)) | ((with_reducible apply XOp.load); (case hg | ht | hk | hx => exact rfl); (case hc => exact own_cell (i := 1) rfl rfl)) | (with_reducible apply XL.nilT) | (with_reducible apply XC.seq) | (with_reducible apply XC.region (Γ := Γ)) | (with_reducible apply XQ.skip) | (with_reducible apply XQ.ret) | (with_reducible apply XQ.nt) | (with_reducible apply XQ.rt) | (with_reducible apply XC.block) | ((with_reducible apply XC.condT); (case hc => exact rfl)) | (((with_reducible apply XOp.callQ (hF := eqInts_fn o1 o2 a1 a2 c1 c2)); (case hg => exact rfl); (case hc => exact rfl); (case ha => exact rfl); try (case hA => exact Known.true)); (case hA => exact (Known.of_old hO1 (Mono.sl _ _ _ _ _)).and (Known.of_old hO2 (Mono.sl _ _ _ _ _))); rintro _ rfl) | ((with_reducible apply XOp.split); (case hg | hj | hd | hb => exact rfl); (fail_if_success (case hf => exact fun h => Bool.noConfusion h)); (fail_if_success (case ht => exact fun h => Bool.noConfusion h)); all_goals (intro hb_; try simp only [pd_true, pd_false, Bool.not_eq_true', Bool.not_eq_false', Bool.and_eq_true, Bool.and_eq_false_iff, Bool.or_eq_true, Bool.or_eq_false_iff, not_true_eq_false, not_false_eq_true, Int.not_lt, Int.not_le] at hb_)) | ((with_reducible apply XC.cond); (case hc => exact rfl); all_goals (intro hb_; try simp only [pd_true, pd_false, Bool.not_eq_true', Bool.not_eq_false', Bool.and_eq_true, Bool.and_eq_false_iff, Bool.or_eq_true, Bool.or_eq_false_iff, not_true_eq_false, not_false_eq_true, Int.not_lt, Int.not_le] at hb_))))
  · ((with_reducible apply XQ.retE); (case hr => exact .t rfl .nil))
    exact congrArg Value.bool (pdf (fun h => by first | exact hb_ h.1 | exact hb_ (by rw [h.2]))).symm
  · ((with_reducible apply XQ.retE); (case hr => exact .t rfl .nil))
    exact congrArg Value.bool (pdf (fun h => by first | exact hb_ h.1 | exact hb_ (by rw [h.2]))).symm
  · refine XC.loopS (fun k ρ L => ∃ i : Nat, i + k = s1.length ∧ L = [(yb, .cells ⟨[.slice a2 o2.length c2, .slice b2 s2.length d2]⟩ 34 (0, 0)), (xb, .cells ⟨[.slice a1 o1.length c1, .slice b1 s1.length d1]⟩ 34 (0, 0))] ∧ (∀ j, j < i → s1[j]? = s2[j]?) ∧
      Slots ρ [(2, .pointer (some ⟨xb, 0, none⟩)), (3, .pointer (some ⟨yb, 0, none⟩)), (5, .int .i64 i)]) s1.length ⟨0, by simp, rfl, by simp, rfl, rfl, rfl, trivial⟩ ?_
    rintro k ρ L ⟨i, hik, rfl, hq, hs⟩
    have hll : s1.length = s2.length := by omega
    refine XC.slots _ hs ?_
    (repeat (first | (with_reducible apply XL.op) | ((with_reducible apply XOp.p1); (case hg | hv => exact rfl)) | ((with_reducible apply XOp.load); (case hg | ht | hk | hx => exact rfl); (case hc => exact own_cell (i := 1) rfl rfl)) | (with_reducible apply XL.nilT) | (with_reducible apply XC.seq) | (with_reducible apply XC.region (Γ := Γ))))
    ((with_reducible apply XC.cond); (case hc => exact rfl); all_goals (intro hb_; try simp only [pd_true, pd_false, Bool.not_eq_true', Bool.not_eq_false', Bool.and_eq_true, Bool.and_eq_false_iff, Bool.or_eq_true, Bool.or_eq_false_iff, not_true_eq_false, not_false_eq_true, Int.not_lt, Int.not_le] at hb_))
    · obtain ⟨x, hi⟩ : ∃ x, s1[i]? = some x := ⟨_, List.getElem?_eq_getElem (by omega)⟩
      obtain ⟨y, hj⟩ : ∃ y, s2[i]? = some y := ⟨_, List.getElem?_eq_getElem (by omega)⟩
      have h1 := hS1.rawAt hi
      have h2 := hS2.rawAt hj
      (repeat (first | (with_reducible apply XC.seq) | (with_reducible apply XQ.skip) | (with_reducible apply XQ.nt) | (with_reducible apply XC.block)))
      ((with_reducible apply XC.regionD (Γ := Γ) mixed (.q 0 (.q 1 (.q 2 (.q 3 (.q 4 (.q 5 (.q 6 (.q 7 (.q 8 (.q 9 (.q 10 (.done)))))))))))) [] []); (case hc => kernel_rfl))
      (repeat (first | ((with_reducible apply XP.p1); (case ho | hg | hv => exact rfl)) | ((with_reducible apply XP.load); (case ho | hg | ht | hk | hx => exact rfl); (case hc => exact own_cell (i := 0) rfl rfl)) | ((with_reducible apply XP.load); (case ho | hg | ht | hk | hx => exact rfl); (case hc => exact own_cell (i := 1) rfl rfl)) | ((with_reducible apply XP.pr); (case ho => exact rfl); (case hg => exact rfl); (case hr => ((with_reducible apply PR.idxA); (case ht | hk | he | hx | hi => exact rfl); (case hr => first | assumption | omega); (case ha => first | assumption | exact SlA.at_ (by assumption))))) | (first | ((with_reducible apply XOp.loadN); (case hg | ht | hk | hx => exact rfl); (case hc => exact Known.of_old h1 (Mono.row _ _ _)); (case hl => exact rfl)) | ((with_reducible apply XP.loadN); (case ho | hg | ht | hk | hx => exact rfl); (case hc => exact Known.of_old h1 (Mono.row _ _ _)); (case hl => exact rfl))) | (first | ((with_reducible apply XOp.loadN); (case hg | ht | hk | hx => exact rfl); (case hc => exact Known.of_old h2 (Mono.row _ _ _)); (case hl => exact rfl)) | ((with_reducible apply XP.loadN); (case ho | hg | ht | hk | hx => exact rfl); (case hc => exact Known.of_old h2 (Mono.row _ _ _)); (case hl => exact rfl)))))
      ((with_reducible apply XP.pr); (case ho => exact rfl); (case hg => exact rfl); (case hr => exact PR.neqInts (xs := nums x) (ys := nums y) (by kernel_rfl) (by kernel_rfl) (by kernel_rfl) (by kernel_rfl) (by constructor <;> kernel_rfl) rfl rfl))
      (repeat (first | (with_reducible apply XQ.nt) | (with_reducible apply XP.done)))
      ((with_reducible apply XC.cond); (case hc => exact rfl); all_goals (intro hb_; try simp only [pd_true, pd_false, Bool.not_eq_true', Bool.not_eq_false', Bool.and_eq_true, Bool.and_eq_false_iff, Bool.or_eq_true, Bool.or_eq_false_iff, not_true_eq_false, not_false_eq_true, Int.not_lt, Int.not_le] at hb_))
      · (repeat (first | (with_reducible apply XL.op) | ((with_reducible apply XOp.p1); (case hg | hv => exact rfl)) | (with_reducible apply XL.nilT) | (with_reducible apply XC.seq) | (with_reducible apply XC.region (Γ := Γ)) | (with_reducible apply XQ.ret) | (with_reducible apply XQ.rt) | (with_reducible apply XQ.rb)))
        ((with_reducible apply XQ.retE); (case hr => exact .t rfl .nil))
        exact congrArg Value.bool (pdf (fun h => hb_ (nums_inj.2 (by rw [h.2] at hi; rw [hi] at hj; exact Option.some.inj hj)))).symm
      · (repeat (first | (with_reducible apply XL.op) | ((with_reducible apply XOp.p1); (case hg | hv => exact rfl)) | (with_reducible apply XL.nilT) | (with_reducible apply XC.region (Γ := Γ)) | (with_reducible apply XQ.skip) | (with_reducible apply XQ.nt) | (with_reducible apply XQ.nb)))
        refine ⟨k - 1, by omega, _, List.Sublist.refl _, i + 1, by omega, rfl, fun j hj2 => ?_, rfl, rfl, intS (m := s1.length) (by omega) (by omega), trivial⟩
        have hxy : nums x = nums y := by assumption
        by_cases h : j = i
        · subst h; rw [hi, hj, nums_inj.1 hxy]
        · exact hq j (by omega)
    · (repeat (first | (with_reducible apply XL.op) | ((with_reducible apply XOp.p1); (case hg | hv => exact rfl)) | (with_reducible apply XL.nilT) | (with_reducible apply XC.seq) | (with_reducible apply XC.region (Γ := Γ)) | (with_reducible apply XQ.ret) | (with_reducible apply XQ.exit) | (with_reducible apply XQ.nt) | (with_reducible apply XQ.et) | ((with_reducible apply XQ.eb); (case hb => exact rfl))))
      ((with_reducible apply XQ.retE); (case hr => exact .t rfl .nil))
      refine congrArg Value.bool (pdt ⟨by assumption, List.ext_getElem? fun j => ?_⟩).symm
      by_cases h : j < i
      · exact hq j h
      · rw [List.getElem?_eq_none (by omega), List.getElem?_eq_none (by omega)]
end Go.Proofs.YthnmagdaepgdiaaX
