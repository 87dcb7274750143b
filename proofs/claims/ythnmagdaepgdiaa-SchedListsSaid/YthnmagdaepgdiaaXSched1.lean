/- Which measures may be: both functions come to the same number. -/
import Derived.Test.YthnmagdaepgdiaaXLibI
import Derived.Test.YthnmagdaepgdiaaXSPlan
set_option linter.unusedSimpArgs false
set_option linter.unusedVariables false
namespace Go.Proofs.YthnmagdaepgdiaaX
open Go Go.SX

def _root_.Go.SX.Srv.cells (c : Srv) : List Value := [.int .i64 c.Blocks, .int .i64 c.Block, .int .i64 c.Budget, .int .i64 c.Chunk, .int .i64 c.Tree]
def _root_.Go.SX.Srv.ok (c : Srv) : Prop := inK .i64 c.Blocks ∧ inK .i64 c.Block ∧ inK .i64 c.Budget ∧ inK .i64 c.Chunk ∧ inK .i64 c.Tree
def srvK : Kd Srv := ⟨5, fun _ c cs => cs = c.cells ∧ c.ok, fun h => by rw [h.1]; rfl, fun _ h => h⟩
theorem rdrSrv {H : Type} (enc : TypeId × Value → H) (W : World) : Rdr enc Try.prog W 23 srvK := fun fuel cs x h hw => by
  have hl := rdr_struct_len Try.underlying23 h
  have hc : Try.prog.cellsOf 23 = 5 := by kernel_rfl
  have h1 : Try.prog.cellsOf 3 = 1 := by kernel_rfl
  obtain ⟨a0, e0⟩ := rdr_field Try.underlying23 h hw (i := 0) rfl (rdr_int Try.underlying3) rfl h1
  obtain ⟨a1, e1⟩ := rdr_field Try.underlying23 h hw (i := 1) rfl (rdr_int Try.underlying3) rfl h1
  obtain ⟨a2, e2⟩ := rdr_field Try.underlying23 h hw (i := 2) rfl (rdr_int Try.underlying3) rfl h1
  obtain ⟨a3, e3⟩ := rdr_field Try.underlying23 h hw (i := 3) rfl (rdr_int Try.underlying3) rfl h1
  obtain ⟨a4, e4⟩ := rdr_field Try.underlying23 h hw (i := 4) rfl (rdr_int Try.underlying3) rfl h1
  obtain ⟨c0, c1, c2, c3, c4, rfl⟩ := len5 (hl.trans hc)
  simp [Kd.int] at e0 e1 e2 e3 e4
  exact ⟨⟨a0, a1, a2, a3, a4⟩, by simp [Go.SX.Srv.cells, e0.1, e1.1, e2.1, e3.1, e4.1], e0.2, e1.2, e2.2, e3.2, e4.2⟩

theorem within_fn (a lo hi : Int) : FC Try.prog 32 [.int .i64 a, .int .i64 lo, .int .i64 hi] [] (fun _ => True)
    (fun v L => v = .bool (pd (lo ≤ a) && pd (a ≤ hi)) ∧ L = []) := by
  refine FC.intro Try.func32 rfl (by kernel_rfl) 15 [.tmp 6] rfl rfl rfl ?_
  intro w0 _
  (repeat' (first | (with_reducible apply XL.op) | ((with_reducible apply XOp.p1); (case hg | hv => exact rfl)) | ((with_reducible apply XOp.p0); (case hg => exact rfl)) | (with_reducible apply XL.nilT) | (with_reducible apply XC.seq) | (with_reducible apply XC.region (Γ := Γ)) | (with_reducible apply XQ.ret) | ((with_reducible apply XOp.split); (case hg | hj | hd | hb => exact rfl); (fail_if_success (case hf => exact fun h => Bool.noConfusion h)); (fail_if_success (case ht => exact fun h => Bool.noConfusion h)); all_goals (intro hb_; try simp only [pd_true, pd_false, Bool.not_eq_true', Bool.not_eq_false', Bool.and_eq_true, Bool.and_eq_false_iff, Bool.or_eq_true, Bool.or_eq_false_iff, not_true_eq_false, not_false_eq_true, Int.not_lt, Int.not_le] at hb_))))
  all_goals ((with_reducible apply XQ.retE); (case hr => exact .t rfl .nil))
  · simp [resV, pdt hb_]
  · simp [resV, pdf (show ¬ lo ≤ a by omega)]

noncomputable def _root_.Go.SX.Srv.err (c : Srv) (l : Int) : Int := if @decide (c.okS l) (Classical.propDecidable _) then 0 else 200
theorem err_ok {c : Srv} {l : Int} (h : c.okS l) : Value.int .i64 0 = .int .i64 (c.err l) := by unfold Go.SX.Srv.err; simp [h]
theorem err_no {c : Srv} {l : Int} (h : ¬ c.okS l) : Value.int .i64 200 = .int .i64 (c.err l) := by unfold Go.SX.Srv.err; simp [h]
theorem small_mul {a b : Int} (ha : 1 ≤ a ∧ a ≤ 256) (hb : 1 ≤ b ∧ b ≤ 16) : IntKind.i64.wrap (a * b) = a * b := by
  have h1 : 0 ≤ a * b := Int.mul_nonneg (by omega) (by omega)
  have h2 : a * b ≤ 256 * 16 := Int.mul_le_mul ha.2 hb.2 (by omega) (by omega)
  exact wrap64_of (by omega) (by omega)

theorem check_fn (c : Srv) (l : Int) : FC Try.prog 12 [.agg ⟨c.cells⟩, .int .i64 l] [] (fun _ => True)
    (fun v L => v = .int .i64 (c.err l) ∧ L = []) := by
  refine FC.nil ?_
  refine FC.intro Try.func12 rfl (by kernel_rfl) 52 [.tmp 4] rfl rfl rfl ?_
  intro w0 _
  (repeat' (first | (with_reducible apply XL.op) | ((with_reducible apply XOp.p1); (case hg | hv => exact rfl)) | ((with_reducible apply XOp.p0); (case hg => exact rfl)) | ((with_reducible apply XOp.load); (case hg | ht | hk | hx => exact rfl); (case hc => exact own_cell (i := 0) rfl rfl)) | ((with_reducible apply XOp.box); (case hg | hx' => exact rfl); intro bx_) | (with_reducible apply XL.nilT) | (with_reducible apply XC.seq) | (with_reducible apply XC.region (Γ := Γ)) | (with_reducible apply XQ.skip) | (with_reducible apply XQ.ret) | (with_reducible apply XQ.nt) | (with_reducible apply XQ.rt) | ((with_reducible apply XC.condT); (case hc => exact rfl)) | (((with_reducible apply XOp.call (hF := within_fn _ _ _)); (case hg => exact rfl); (case hc => exact rfl); (case ha => exact rfl); (case hL => exact (List.nil_append _).symm); try (case hA => exact Known.true)); rintro _ _ ⟨rfl, rfl⟩) | ((with_reducible apply XOp.split); (case hg | hj | hd | hb => exact rfl); (fail_if_success (case hf => exact fun h => Bool.noConfusion h)); (fail_if_success (case ht => exact fun h => Bool.noConfusion h)); all_goals (intro hb_; try simp only [pd_true, pd_false, Bool.not_eq_true', Bool.not_eq_false', Bool.and_eq_true, Bool.and_eq_false_iff, Bool.or_eq_true, Bool.or_eq_false_iff, not_true_eq_false, not_false_eq_true, Int.not_lt, Int.not_le] at hb_)) | ((with_reducible apply XC.cond); (case hc => exact rfl); all_goals (intro hb_; try simp only [pd_true, pd_false, Bool.not_eq_true', Bool.not_eq_false', Bool.and_eq_true, Bool.and_eq_false_iff, Bool.or_eq_true, Bool.or_eq_false_iff, not_true_eq_false, not_false_eq_true, Int.not_lt, Int.not_le] at hb_))))
  all_goals ((with_reducible apply XQ.retE); (case hr => exact .t rfl .nil))
  all_goals first
    | (refine err_no fun h => ?_
       obtain ⟨h1, h2, h3, h4, h5, h6, h7⟩ := h
       have := small_mul h2 h3
       omega)
    | (have hm := small_mul (a := c.Blocks) (b := c.Block) (by omega) (by omega)
       exact err_ok ⟨by omega, by omega, by omega, by omega, by omega, by omega, by omega⟩)

theorem refCheck_fn (c : Srv) (l : Int) : FC Try.prog 13 [.agg ⟨c.cells⟩, .int .i64 l] [] (fun _ => True)
    (fun v L => v = .int .i64 (c.err l) ∧ L = []) := by
  refine FC.nil ?_
  refine FC.intro Try.func13 rfl (by kernel_rfl) 65 [.tmp 4] rfl rfl rfl ?_
  intro w0 _
  (repeat' (first | (with_reducible apply XL.op) | ((with_reducible apply XOp.p1); (case hg | hv => exact rfl)) | ((with_reducible apply XOp.p0); (case hg => exact rfl)) | ((with_reducible apply XOp.load); (case hg | ht | hk | hx => exact rfl); (case hc => exact own_cell (i := 0) rfl rfl)) | ((with_reducible apply XOp.box); (case hg | hx' => exact rfl); intro bx_) | (with_reducible apply XL.nilT) | (with_reducible apply XC.seq) | (with_reducible apply XC.region (Γ := Γ)) | (with_reducible apply XQ.skip) | (with_reducible apply XQ.ret) | (with_reducible apply XQ.nt) | (with_reducible apply XQ.rt) | ((with_reducible apply XC.condT); (case hc => exact rfl)) | ((with_reducible apply XOp.split); (case hg | hj | hd | hb => exact rfl); (fail_if_success (case hf => exact fun h => Bool.noConfusion h)); (fail_if_success (case ht => exact fun h => Bool.noConfusion h)); all_goals (intro hb_; try simp only [pd_true, pd_false, Bool.not_eq_true', Bool.not_eq_false', Bool.and_eq_true, Bool.and_eq_false_iff, Bool.or_eq_true, Bool.or_eq_false_iff, not_true_eq_false, not_false_eq_true, Int.not_lt, Int.not_le] at hb_)) | ((with_reducible apply XC.cond); (case hc => exact rfl); all_goals (intro hb_; try simp only [pd_true, pd_false, Bool.not_eq_true', Bool.not_eq_false', Bool.and_eq_true, Bool.and_eq_false_iff, Bool.or_eq_true, Bool.or_eq_false_iff, not_true_eq_false, not_false_eq_true, Int.not_lt, Int.not_le] at hb_))))
  all_goals ((with_reducible apply XQ.retE); (case hr => exact .t rfl .nil))
  all_goals first
    | (refine err_no fun h => ?_
       obtain ⟨h1, h2, h3, h4, h5, h6, h7⟩ := h
       have := small_mul h2 h3
       omega)
    | (have hm := small_mul (a := c.Blocks) (b := c.Block) (by omega) (by omega)
       exact err_ok ⟨by omega, by omega, by omega, by omega, by omega, by omega, by omega⟩)

theorem schedChecks_fn (v0 v1 : Value) (c : Srv) (l : Int) : FC Try.prog 3 [v0, v1] [] (fun h => agg srvK h c v0 ∧ one (Kd.int .i64) h l v1) (fun v _ => v = .bool true) := by
  refine FC.intro Try.func3 rfl (by kernel_rfl) 14 [.tmp 4] rfl rfl rfl ?_
  intro w0 hA
  obtain ⟨⟨cs, rfl, rfl, _⟩, he, _⟩ := hA
  cases he
  (repeat' (first | (with_reducible apply XL.op) | ((with_reducible apply XOp.p1); (case hg | hv => exact rfl)) | ((with_reducible apply XOp.loadO (i := 0)); (case hg | ht | hk | hx | hi | hc => exact rfl)) | ((with_reducible apply XOp.box); (case hg | hx' => exact rfl); intro bx_) | (with_reducible apply XL.nilT) | (with_reducible apply XC.seq) | (with_reducible apply XC.region (Γ := Γ)) | (with_reducible apply XQ.ret) | (((with_reducible apply XOp.call (hF := check_fn _ _)); (case hg => exact rfl); (case hc => exact rfl); (case ha => exact rfl); (case hL => exact (List.nil_append _).symm); try (case hA => exact Known.true)); rintro _ _ ⟨rfl, rfl⟩) | (((with_reducible apply XOp.call (hF := refCheck_fn _ _)); (case hg => exact rfl); (case hc => exact rfl); (case ha => exact rfl); (case hL => exact (List.nil_append _).symm); try (case hA => exact Known.true)); rintro _ _ ⟨rfl, rfl⟩)))
  all_goals ((with_reducible apply XQ.retE); (case hr => exact .t rfl .nil))
  all_goals simp [resV, pd_eq]
end Go.Proofs.YthnmagdaepgdiaaX
