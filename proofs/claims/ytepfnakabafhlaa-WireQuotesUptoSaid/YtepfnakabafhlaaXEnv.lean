/- The types of this seat's program that the proofs meet, as a table; written by genenv.py. -/
import Derived.Test.YtepfnakabafhlaaProg
import Derived.Test.YtepfnakabafhlaaXArith
import Derived.Test.YtepfnakabafhlaaXStr
namespace Go.Proofs.YtepfnakabafhlaaX
open Go Go.SX
def tab : List (Nat × TR) := [
  (0, ⟨.tuple, 1, 0, .tuple #[]⟩),
  (1, ⟨.func, 1, 8, .nilFunc⟩),
  (2, ⟨.int .i64, 1, 8, .int .i64 0⟩),
  (3, ⟨.int .i64, 1, 8, .int .i64 0⟩),
  (4, ⟨.bool, 1, 1, .bool false⟩),
  (5, ⟨.int .u8, 1, 1, .int .u8 0⟩),
  (7, ⟨.struct [(0, 1, 1), (1, 1, 1), (2, 1, 1), (3, 1, 1)], 4, 24, .agg #[.int .i64 0, .int .i64 0, .bool false, .int .u8 0]⟩),
  (9, ⟨.string, 1, 16, .string ⟨#[]⟩⟩),
  (12, ⟨.int .u64, 1, 8, .int .u64 0⟩),
  (13, ⟨.struct [(0, 1, 1), (1, 1, 1)], 2, 24, .agg #[.string ⟨#[]⟩, .int .u64 0]⟩),
  (20, ⟨.iface, 1, 16, .nilIface⟩),
  (21, ⟨.int .i32, 1, 4, .int .i32 0⟩),
  (22, ⟨.slice 5, 1, 24, .slice none 0 0⟩),
  (23, ⟨.func, 1, 8, .nilFunc⟩),
  (24, ⟨.func, 1, 8, .nilFunc⟩),
  (25, ⟨.func, 1, 8, .nilFunc⟩),
  (26, ⟨.func, 1, 8, .nilFunc⟩),
  (27, ⟨.func, 1, 8, .nilFunc⟩),
  (28, ⟨.int .u64, 1, 8, .int .u64 0⟩),
  (29, ⟨.func, 1, 8, .nilFunc⟩),
  (30, ⟨.func, 1, 8, .nilFunc⟩),
  (36, ⟨.func, 1, 8, .nilFunc⟩),
  (37, ⟨.int .u32, 1, 4, .int .u32 0⟩),
  (40, ⟨.func, 1, 8, .nilFunc⟩),
  (41, ⟨.ptr 5, 1, 8, .pointer none⟩),
  (46, ⟨.other, 1, 8, .pointer none⟩)]
theorem tab_ok : tab.map (fun x => SX.look Try.prog x.1) = tab.map (fun x => some x.2) := by kernel_rfl
noncomputable def Γ : Env Try.prog := ⟨tab, tab_ok⟩
theorem mixed : Try.prog.follows .mixedOrders = true := by kernel_rfl
end Go.Proofs.YtepfnakabafhlaaX
