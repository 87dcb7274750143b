/- Seats in memory; which seats may be. -/
import Derived.Test.YthnmagdaepgdiaaXSched1
set_option linter.unusedSimpArgs false
set_option linter.unusedVariables false
namespace Go.Proofs.YthnmagdaepgdiaaX
open Go Go.SX

def _root_.Go.SX.Seat.cells (s : Seat) (v : Value) : List Value := [.int .i64 s.Id, .int .i64 s.Known, .int .i64 s.Cached, .int .i64 s.Want, v]
def _root_.Go.SX.Seat.ok (s : Seat) : Prop := inK .i64 s.Id ∧ inK .i64 s.Known ∧ inK .i64 s.Cached ∧ inK .i64 s.Want
def seatK : Kd Seat := ⟨5, fun h s cs => ∃ a cap, cs = s.cells (.slice a s.Held.length cap) ∧ SlA (Kd.int .i64) 8 h s.Held a cap ∧ s.ok, fun ⟨_, _, h, _⟩ => by rw [h]; rfl,
  fun m ⟨a, cap, h1, h2, h3⟩ => ⟨a, cap, h1, h2.mono m, h3⟩⟩
theorem rdrSeat {H : Type} (enc : TypeId × Value → H) (W : World) : Rdr enc Try.prog W 46 seatK := fun fuel cs x h hw => by
  have hl := rdr_struct_len Try.underlying46 h
  have hc : Try.prog.cellsOf 46 = 5 := by kernel_rfl
  have h1 : Try.prog.cellsOf 3 = 1 := by kernel_rfl
  have h8 : Try.prog.bytesOf 3 = 8 := by kernel_rfl
  have h2 : Try.prog.cellsOf 28 = 1 := by kernel_rfl
  obtain ⟨a0, e0⟩ := rdr_field Try.underlying46 h hw (i := 0) rfl (rdr_int Try.underlying3) rfl h1
  obtain ⟨a1, e1⟩ := rdr_field Try.underlying46 h hw (i := 1) rfl (rdr_int Try.underlying3) rfl h1
  obtain ⟨a2, e2⟩ := rdr_field Try.underlying46 h hw (i := 2) rfl (rdr_int Try.underlying3) rfl h1
  obtain ⟨a3, e3⟩ := rdr_field Try.underlying46 h hw (i := 3) rfl (rdr_int Try.underlying3) rfl h1
  obtain ⟨xs, _, e4, a, cap, rfl, hA, _⟩ := rdr_field Try.underlying46 h hw (i := 4) rfl (rdr_slice Try.underlying28 h1 h8 rfl (by decide) (rdr_int Try.underlying3)) rfl h2
  obtain ⟨c0, c1, c2, c3, c4, rfl⟩ := len5 (hl.trans hc)
  simp [Kd.int] at e0 e1 e2 e3 e4
  exact ⟨⟨a0, a1, a2, a3, xs⟩, a, cap, by simp [Go.SX.Seat.cells, e0.1, e1.1, e2.1, e3.1, e4], hA, e0.2, e1.2, e2.2, e3.2⟩

theorem need_fn (n b : Int) (hn : 0 ≤ n ∧ n ≤ 1000000) (hb : 1 ≤ b ∧ b ≤ 1000000) : FC Try.prog 41 [.int .i64 n, .int .i64 b] [] (fun _ => True) (fun v L => v = .int .i64 (needI n b) ∧ L = []) := by
  refine FC.intro Try.func41 rfl (by kernel_rfl) 11 [.tmp 4] rfl rfl rfl ?_
  intro w0 _
  (repeat' (first | (with_reducible apply XL.op) | ((with_reducible apply XOp.p1); (case hg | hv => exact rfl)) | ((with_reducible apply XOp.pr); (case hg => exact rfl); (case hr => ((with_reducible apply PR.quo); (case hx | hy => exact rfl); (case hr => first | assumption | omega | (rw [wrap64_of (by omega) (by omega)]; omega))))) | (with_reducible apply XL.nilT) | (with_reducible apply XC.seq) | (with_reducible apply XC.region (Γ := Γ)) | (with_reducible apply XQ.ret)))
  ((with_reducible apply XQ.retE); (case hr => exact .t rfl .nil))
  have e1 : IntKind.i64.wrap (n + b) = n + b := wrap64_of (by omega) (by omega)
  have e2 : IntKind.i64.wrap (n + b - 1) = n + b - 1 := wrap64_of (by omega) (by omega)
  have e3 : 0 ≤ (n + b - 1) / b := Int.ediv_nonneg (by omega) (by omega)
  have e4 : (n + b - 1) / b ≤ n + b - 1 := Int.ediv_le_self _ (by omega)
  refine ⟨?_, rfl⟩
  show Value.int _ _ = _
  rw [e1, e2, Int.tdiv_eq_ediv_of_nonneg (by omega), wrap64_of (by omega) (by omega)]; rfl
theorem refNeed_fn (n b : Int) (hn : 0 ≤ n ∧ n ≤ 1000000) (hb : 1 ≤ b ∧ b ≤ 1000000) : FC Try.prog 60 [.int .i64 n, .int .i64 b] [] (fun _ => True) (fun v L => v = .int .i64 (needI n b) ∧ L = []) := by
  refine FC.intro Try.func60 rfl (by kernel_rfl) 11 [.tmp 4] rfl rfl rfl ?_
  intro w0 _
  (repeat' (first | (with_reducible apply XL.op) | ((with_reducible apply XOp.p1); (case hg | hv => exact rfl)) | ((with_reducible apply XOp.pr); (case hg => exact rfl); (case hr => ((with_reducible apply PR.quo); (case hx | hy => exact rfl); (case hr => first | assumption | omega | (rw [wrap64_of (by omega) (by omega)]; omega))))) | (with_reducible apply XL.nilT) | (with_reducible apply XC.seq) | (with_reducible apply XC.region (Γ := Γ)) | (with_reducible apply XQ.ret)))
  ((with_reducible apply XQ.retE); (case hr => exact .t rfl .nil))
  have e1 : IntKind.i64.wrap (n + b) = n + b := wrap64_of (by omega) (by omega)
  have e2 : IntKind.i64.wrap (n + b - 1) = n + b - 1 := wrap64_of (by omega) (by omega)
  have e3 : 0 ≤ (n + b - 1) / b := Int.ediv_nonneg (by omega) (by omega)
  have e4 : (n + b - 1) / b ≤ n + b - 1 := Int.ediv_le_self _ (by omega)
  refine ⟨?_, rfl⟩
  show Value.int _ _ = _
  rw [e1, e2, Int.tdiv_eq_ediv_of_nonneg (by omega), wrap64_of (by omega) (by omega)]; rfl
end Go.Proofs.YthnmagdaepgdiaaX
