/- Small facts on numbers of Go's kinds. -/
import Derived.Test.YthnmagdaepgdiaaXData
set_option linter.unusedSimpArgs false
set_option linter.unusedVariables false
namespace Go.SX
open Go Go.RowKit
theorem inK_i64 {x : Int} : inK .i64 x ↔ -9223372036854775808 ≤ x ∧ x ≤ 9223372036854775807 := by
  simp [inK, Lit.wf, IntKind.min, IntKind.max, IntKind.signed, IntKind.bits]
theorem inK_u8 {x : Int} : inK .u8 x ↔ 0 ≤ x ∧ x ≤ 255 := by
  simp [inK, Lit.wf, IntKind.min, IntKind.max, IntKind.signed, IntKind.bits]
theorem inK_i8 {x : Int} : inK .i8 x ↔ -128 ≤ x ∧ x ≤ 127 := by
  simp [inK, Lit.wf, IntKind.min, IntKind.max, IntKind.signed, IntKind.bits]
theorem inK_u64 {x : Int} : inK .u64 x ↔ 0 ≤ x ∧ x ≤ 18446744073709551615 := by
  simp [inK, Lit.wf, IntKind.min, IntKind.max, IntKind.signed, IntKind.bits]
theorem inK_u32 {x : Int} : inK .u32 x ↔ 0 ≤ x ∧ x ≤ 4294967295 := by
  simp [inK, Lit.wf, IntKind.min, IntKind.max, IntKind.signed, IntKind.bits]
theorem inK_i16 {x : Int} : inK .i16 x ↔ -32768 ≤ x ∧ x ≤ 32767 := by
  simp [inK, Lit.wf, IntKind.min, IntKind.max, IntKind.signed, IntKind.bits]
theorem inK_i32 {x : Int} : inK .i32 x ↔ -2147483648 ≤ x ∧ x ≤ 2147483647 := by
  simp [inK, Lit.wf, IntKind.min, IntKind.max, IntKind.signed, IntKind.bits]
theorem wrap_of {k : IntKind} {x : Int} (h : inK k x) : k.wrap x = x := by
  cases k <;> simp [inK, Lit.wf, IntKind.min, IntKind.max, IntKind.signed, IntKind.bits] at h <;> simp [IntKind.wrap, IntKind.signed, IntKind.bits] <;> (try split) <;> omega
theorem wrap64_of {x : Int} (h1 : -9223372036854775808 ≤ x) (h2 : x ≤ 9223372036854775807) : IntKind.i64.wrap x = x := wrap_of (inK_i64.2 ⟨h1, h2⟩)
theorem inK_wrap (k : IntKind) (x : Int) : inK k (k.wrap x) := by unfold inK; exact Go.wf_wrap k x
theorem wrapS {i m : Nat} (h : i < m) (hm : m ≤ 140737488355328) : IntKind.i64.wrap ((i : Int) + 1) = ((i + 1 : Nat) : Int) := by
  rw [wrap64_of (by omega) (by omega)]; omega
theorem intS {i m : Nat} (h : i < m) (hm : m ≤ 140737488355328) : Value.int .i64 (IntKind.i64.wrap ((i : Int) + 1)) = .int .i64 ((i + 1 : Nat) : Int) := by rw [wrapS h hm]
theorem SlA.small {α : Type} {d : Kd α} {by_ : Nat} {h : HV} {xs : List α} {a : Option Addr} {cap : Nat} (s : SlA d by_ h xs a cap) (hb : 0 < by_) : xs.length ≤ 140737488355328 := by
  have h1 := s.bytes
  have : xs.length * 1 ≤ xs.length * by_ := Nat.mul_le_mul_left _ hb
  omega
theorem pdt {p : Prop} (h : p) : pd p = true := pd_true.2 h
theorem pdf {p : Prop} (h : ¬ p) : pd p = false := pd_false.2 h
end Go.SX
