/- The types of this seat's program that the proofs meet, as a table; written by genenv.py. -/
import Derived.Test.YtepfnakabafhlaaDoorProg
import Derived.Test.YtepfnakabafhlaaDoorXPWLs1
import Derived.Test.YtepfnakabafhlaaDoorXPWLs2
import Derived.Test.YtepfnakabafhlaaDoorRows
import Derived.LaidMore
import Derived.LaidHandle
import Derived.MakeChecks
set_option linter.unusedSimpArgs false
set_option linter.unusedVariables false
namespace Go.Proofs.YtepfnakabafhlaaDoorX
open Go Go.SX
def tab : List (Nat × TR) := [
  (0, ⟨.tuple, 1, 0, .tuple #[]⟩),
  (1, ⟨.func, 1, 8, .nilFunc⟩),
  (2, ⟨.int .i64, 1, 8, .int .i64 0⟩),
  (3, ⟨.int .i64, 1, 8, .int .i64 0⟩),
  (4, ⟨.bool, 1, 1, .bool false⟩),
  (5, ⟨.int .u8, 1, 1, .int .u8 0⟩),
  (7, ⟨.struct [(0, 1, 1), (1, 1, 1), (2, 1, 1), (3, 1, 1)], 4, 24, .agg #[.int .i64 0, .int .i64 0, .bool false, .int .u8 0]⟩),
  (9, ⟨.string, 1, 16, .string ⟨#[]⟩⟩),
  (12, ⟨.int .u64, 1, 8, .int .u64 0⟩),
  (13, ⟨.struct [(0, 1, 1), (1, 1, 1)], 2, 24, .agg #[.string ⟨#[]⟩, .int .u64 0]⟩),
  (20, ⟨.iface, 1, 16, .nilIface⟩),
  (21, ⟨.int .i32, 1, 4, .int .i32 0⟩),
  (22, ⟨.func, 1, 8, .nilFunc⟩),
  (23, ⟨.slice 5, 1, 24, .slice none 0 0⟩),
  (24, ⟨.int .i64, 1, 8, .int .i64 0⟩),
  (25, ⟨.tuple, 1, 0, .tuple #[.slice none 0 0, .int .i64 0, .int .i64 0]⟩),
  (26, ⟨.func, 1, 8, .nilFunc⟩),
  (27, ⟨.func, 1, 8, .nilFunc⟩),
  (28, ⟨.func, 1, 8, .nilFunc⟩),
  (29, ⟨.slice 3, 1, 24, .slice none 0 0⟩),
  (30, ⟨.int .u64, 1, 8, .int .u64 0⟩),
  (31, ⟨.slice 9, 1, 24, .slice none 0 0⟩),
  (32, ⟨.struct [(0, 1, 1), (1, 1, 1), (2, 1, 1), (3, 1, 1), (4, 1, 1), (5, 1, 1), (6, 1, 1)], 7, 120, .agg #[.string ⟨#[]⟩, .int .i64 0, .slice none 0 0, .slice none 0 0, .int .u64 0, .string ⟨#[]⟩, .slice none 0 0]⟩),
  (33, ⟨.struct [(0, 1, 1), (1, 1, 1), (2, 1, 1), (3, 1, 1), (4, 1, 1), (5, 1, 1), (6, 1, 1)], 7, 120, .agg #[.string ⟨#[]⟩, .int .i64 0, .slice none 0 0, .slice none 0 0, .int .u64 0, .string ⟨#[]⟩, .slice none 0 0]⟩),
  (34, ⟨.tuple, 1, 0, .tuple #[.agg #[.string ⟨#[]⟩, .int .i64 0, .slice none 0 0, .slice none 0 0, .int .u64 0, .string ⟨#[]⟩, .slice none 0 0], .int .i64 0]⟩),
  (35, ⟨.func, 1, 8, .nilFunc⟩),
  (36, ⟨.struct [(0, 1, 1), (1, 1, 1), (2, 1, 1), (3, 1, 1), (4, 1, 1), (5, 1, 1), (6, 1, 1)], 7, 120, .agg #[.string ⟨#[]⟩, .int .i64 0, .slice none 0 0, .slice none 0 0, .int .u64 0, .string ⟨#[]⟩, .slice none 0 0]⟩),
  (37, ⟨.tuple, 1, 0, .tuple #[.agg #[.string ⟨#[]⟩, .int .i64 0, .slice none 0 0, .slice none 0 0, .int .u64 0, .string ⟨#[]⟩, .slice none 0 0], .int .i64 0]⟩),
  (38, ⟨.func, 1, 8, .nilFunc⟩),
  (39, ⟨.func, 1, 8, .nilFunc⟩),
  (40, ⟨.func, 1, 8, .nilFunc⟩),
  (41, ⟨.tuple, 1, 0, .tuple #[.string ⟨#[]⟩, .int .i64 0]⟩),
  (42, ⟨.func, 1, 8, .nilFunc⟩),
  (43, ⟨.func, 1, 8, .nilFunc⟩),
  (44, ⟨.func, 1, 8, .nilFunc⟩),
  (45, ⟨.func, 1, 8, .nilFunc⟩),
  (46, ⟨.func, 1, 8, .nilFunc⟩),
  (47, ⟨.func, 1, 8, .nilFunc⟩),
  (48, ⟨.func, 1, 8, .nilFunc⟩),
  (49, ⟨.func, 1, 8, .nilFunc⟩),
  (50, ⟨.slice 36, 1, 24, .slice none 0 0⟩),
  (51, ⟨.slice 33, 1, 24, .slice none 0 0⟩),
  (52, ⟨.func, 1, 8, .nilFunc⟩),
  (53, ⟨.func, 1, 8, .nilFunc⟩),
  (54, ⟨.tuple, 1, 0, .tuple #[.int .u8 0, .int .i64 0]⟩),
  (55, ⟨.func, 1, 8, .nilFunc⟩),
  (56, ⟨.func, 1, 8, .nilFunc⟩),
  (57, ⟨.ptr 59, 1, 8, .pointer none⟩),
  (58, ⟨.struct [(0, 1, 1), (1, 1, 1)], 2, 24, .agg #[.string ⟨#[]⟩, .bool false]⟩),
  (59, ⟨.struct [(0, 1, 1), (1, 1, 1)], 2, 24, .agg #[.string ⟨#[]⟩, .bool false]⟩),
  (60, ⟨.func, 1, 8, .nilFunc⟩),
  (61, ⟨.func, 1, 8, .nilFunc⟩),
  (62, ⟨.func, 1, 8, .nilFunc⟩),
  (63, ⟨.struct [(0, 1, 1), (1, 1, 1), (2, 1, 1), (3, 1, 1)], 4, 40, .agg #[.string ⟨#[]⟩, .int .i64 0, .nilFunc, .nilFunc]⟩),
  (64, ⟨.struct [(0, 1, 1), (1, 1, 1), (2, 1, 1), (3, 1, 1)], 4, 40, .agg #[.string ⟨#[]⟩, .int .i64 0, .nilFunc, .nilFunc]⟩),
  (65, ⟨.tuple, 1, 0, .tuple #[.agg #[.string ⟨#[]⟩, .int .i64 0, .nilFunc, .nilFunc], .bool false]⟩),
  (66, ⟨.func, 1, 8, .nilFunc⟩),
  (67, ⟨.func, 1, 8, .nilFunc⟩),
  (68, ⟨.ptr 33, 1, 8, .pointer none⟩),
  (69, ⟨.ptr 71, 1, 8, .pointer none⟩),
  (70, ⟨.struct [(0, 1, 1), (1, 1, 1)], 2, 24, .agg #[.string ⟨#[]⟩, .int .i64 0]⟩),
  (71, ⟨.struct [(0, 1, 1), (1, 1, 1)], 2, 24, .agg #[.string ⟨#[]⟩, .int .i64 0]⟩),
  (72, ⟨.func, 1, 8, .nilFunc⟩),
  (73, ⟨.func, 1, 8, .nilFunc⟩),
  (74, ⟨.func, 1, 8, .nilFunc⟩),
  (75, ⟨.func, 1, 8, .nilFunc⟩),
  (76, ⟨.func, 1, 8, .nilFunc⟩),
  (77, ⟨.func, 1, 8, .nilFunc⟩),
  (78, ⟨.func, 1, 8, .nilFunc⟩),
  (79, ⟨.func, 1, 8, .nilFunc⟩),
  (80, ⟨.int .u64, 1, 8, .int .u64 0⟩),
  (81, ⟨.func, 1, 8, .nilFunc⟩),
  (82, ⟨.func, 1, 8, .nilFunc⟩),
  (83, ⟨.struct [(0, 1, 1), (1, 1, 1)], 2, 24, .agg #[.string ⟨#[]⟩, .int .i64 0]⟩),
  (84, ⟨.array 6 83, 12, 144, .agg #[.string ⟨#[]⟩, .int .i64 0, .string ⟨#[]⟩, .int .i64 0, .string ⟨#[]⟩, .int .i64 0, .string ⟨#[]⟩, .int .i64 0, .string ⟨#[]⟩, .int .i64 0, .string ⟨#[]⟩, .int .i64 0]⟩),
  (85, ⟨.iface, 1, 16, .nilIface⟩),
  (86, ⟨.iface, 1, 16, .nilIface⟩),
  (87, ⟨.tuple, 1, 0, .tuple #[.int .i64 0, .nilIface]⟩),
  (88, ⟨.func, 1, 8, .nilFunc⟩),
  (89, ⟨.func, 1, 8, .nilFunc⟩),
  (90, ⟨.tuple, 1, 0, .tuple #[.string ⟨#[]⟩, .bool false]⟩),
  (91, ⟨.func, 1, 8, .nilFunc⟩),
  (92, ⟨.func, 1, 8, .nilFunc⟩),
  (93, ⟨.func, 1, 8, .nilFunc⟩),
  (94, ⟨.tuple, 1, 0, .tuple #[.int .u64 0, .nilIface]⟩),
  (95, ⟨.func, 1, 8, .nilFunc⟩),
  (96, ⟨.int .i64, 1, 8, .int .i64 0⟩),
  (97, ⟨.ptr 108, 1, 8, .pointer none⟩),
  (98, ⟨.func, 1, 8, .nilFunc⟩),
  (99, ⟨.func, 1, 8, .nilFunc⟩),
  (100, ⟨.array 24 5, 24, 24, .agg #[.int .u8 0, .int .u8 0, .int .u8 0, .int .u8 0, .int .u8 0, .int .u8 0, .int .u8 0, .int .u8 0, .int .u8 0, .int .u8 0, .int .u8 0, .int .u8 0, .int .u8 0, .int .u8 0, .int .u8 0, .int .u8 0, .int .u8 0, .int .u8 0, .int .u8 0, .int .u8 0, .int .u8 0, .int .u8 0, .int .u8 0, .int .u8 0]⟩),
  (101, ⟨.func, 1, 8, .nilFunc⟩),
  (102, ⟨.func, 1, 8, .nilFunc⟩),
  (103, ⟨.tuple, 1, 0, .tuple #[.slice none 0 0, .string ⟨#[]⟩]⟩),
  (104, ⟨.func, 1, 8, .nilFunc⟩),
  (105, ⟨.func, 1, 8, .nilFunc⟩),
  (106, ⟨.func, 1, 8, .nilFunc⟩),
  (107, ⟨.struct [(0, 1, 1), (1, 1, 1), (2, 1, 1)], 3, 48, .agg #[.string ⟨#[]⟩, .string ⟨#[]⟩, .nilIface]⟩),
  (108, ⟨.struct [(0, 1, 1), (1, 1, 1), (2, 1, 1)], 3, 48, .agg #[.string ⟨#[]⟩, .string ⟨#[]⟩, .nilIface]⟩),
  (109, ⟨.func, 1, 8, .nilFunc⟩),
  (110, ⟨.func, 1, 8, .nilFunc⟩),
  (111, ⟨.func, 1, 8, .nilFunc⟩),
  (112, ⟨.array 20 30, 20, 160, .agg #[.int .u64 0, .int .u64 0, .int .u64 0, .int .u64 0, .int .u64 0, .int .u64 0, .int .u64 0, .int .u64 0, .int .u64 0, .int .u64 0, .int .u64 0, .int .u64 0, .int .u64 0, .int .u64 0, .int .u64 0, .int .u64 0, .int .u64 0, .int .u64 0, .int .u64 0, .int .u64 0]⟩),
  (113, ⟨.int .u32, 1, 4, .int .u32 0⟩),
  (114, ⟨.array 65 5, 65, 65, .agg #[.int .u8 0, .int .u8 0, .int .u8 0, .int .u8 0, .int .u8 0, .int .u8 0, .int .u8 0, .int .u8 0, .int .u8 0, .int .u8 0, .int .u8 0, .int .u8 0, .int .u8 0, .int .u8 0, .int .u8 0, .int .u8 0, .int .u8 0, .int .u8 0, .int .u8 0, .int .u8 0, .int .u8 0, .int .u8 0, .int .u8 0, .int .u8 0, .int .u8 0, .int .u8 0, .int .u8 0, .int .u8 0, .int .u8 0, .int .u8 0, .int .u8 0, .int .u8 0, .int .u8 0, .int .u8 0, .int .u8 0, .int .u8 0, .int .u8 0, .int .u8 0, .int .u8 0, .int .u8 0, .int .u8 0, .int .u8 0, .int .u8 0, .int .u8 0, .int .u8 0, .int .u8 0, .int .u8 0, .int .u8 0, .int .u8 0, .int .u8 0, .int .u8 0, .int .u8 0, .int .u8 0, .int .u8 0, .int .u8 0, .int .u8 0, .int .u8 0, .int .u8 0, .int .u8 0, .int .u8 0, .int .u8 0, .int .u8 0, .int .u8 0, .int .u8 0, .int .u8 0]⟩),
  (115, ⟨.func, 1, 8, .nilFunc⟩),
  (116, ⟨.func, 1, 8, .nilFunc⟩),
  (117, ⟨.ptr 5, 1, 8, .pointer none⟩),
  (118, ⟨.ptr 120, 1, 8, .pointer none⟩),
  (119, ⟨.struct [(0, 1, 1)], 1, 16, .agg #[.string ⟨#[]⟩]⟩),
  (120, ⟨.struct [(0, 1, 1)], 1, 16, .agg #[.string ⟨#[]⟩]⟩),
  (121, ⟨.func, 1, 8, .nilFunc⟩),
  (122, ⟨.array 32 5, 32, 32, .agg #[.int .u8 0, .int .u8 0, .int .u8 0, .int .u8 0, .int .u8 0, .int .u8 0, .int .u8 0, .int .u8 0, .int .u8 0, .int .u8 0, .int .u8 0, .int .u8 0, .int .u8 0, .int .u8 0, .int .u8 0, .int .u8 0, .int .u8 0, .int .u8 0, .int .u8 0, .int .u8 0, .int .u8 0, .int .u8 0, .int .u8 0, .int .u8 0, .int .u8 0, .int .u8 0, .int .u8 0, .int .u8 0, .int .u8 0, .int .u8 0, .int .u8 0, .int .u8 0]⟩),
  (123, ⟨.array 64 5, 64, 64, .agg #[.int .u8 0, .int .u8 0, .int .u8 0, .int .u8 0, .int .u8 0, .int .u8 0, .int .u8 0, .int .u8 0, .int .u8 0, .int .u8 0, .int .u8 0, .int .u8 0, .int .u8 0, .int .u8 0, .int .u8 0, .int .u8 0, .int .u8 0, .int .u8 0, .int .u8 0, .int .u8 0, .int .u8 0, .int .u8 0, .int .u8 0, .int .u8 0, .int .u8 0, .int .u8 0, .int .u8 0, .int .u8 0, .int .u8 0, .int .u8 0, .int .u8 0, .int .u8 0, .int .u8 0, .int .u8 0, .int .u8 0, .int .u8 0, .int .u8 0, .int .u8 0, .int .u8 0, .int .u8 0, .int .u8 0, .int .u8 0, .int .u8 0, .int .u8 0, .int .u8 0, .int .u8 0, .int .u8 0, .int .u8 0, .int .u8 0, .int .u8 0, .int .u8 0, .int .u8 0, .int .u8 0, .int .u8 0, .int .u8 0, .int .u8 0, .int .u8 0, .int .u8 0, .int .u8 0, .int .u8 0, .int .u8 0, .int .u8 0, .int .u8 0, .int .u8 0]⟩),
  (131, ⟨.func, 1, 8, .nilFunc⟩),
  (136, ⟨.other, 1, 8, .pointer none⟩)]
theorem tab_ok : tab.map (fun x => SX.look Tryd.prog x.1) = tab.map (fun x => some x.2) := by kernel_rfl
noncomputable def Γ : Env Tryd.prog := ⟨tab, tab_ok⟩
theorem mixed : Tryd.prog.follows .mixedOrders = true := by kernel_rfl
end Go.Proofs.YtepfnakabafhlaaDoorX
/- Bytes: copied, held against others. -/
namespace Go.Proofs.YtepfnakabafhlaaDoorX
open Go Go.SX

theorem copyBytes_fn (xs : List Int) (a : Option Addr) (cap : Nat) : FC Tryd.prog 21 [.slice a xs.length cap] [] (fun h => SlA (Kd.int .u8) 1 h xs a cap)
    (fun v L => OwnS 5 1 v xs.length (xs.map (.int .u8)) L) := by
  refine FC.intro Tryd.func21 rfl (by kernel_rfl) 19 [.tmp 2] rfl rfl rfl ?_
  intro w0 hA
  have hsm := hA.bytes
  (repeat (first | (with_reducible apply XL.op) | ((with_reducible apply XOp.p1); (case hg | hv => exact rfl)) | (with_reducible apply XL.nilT) | (with_reducible apply XC.seq) | (with_reducible apply XC.region (Γ := Γ)) | (with_reducible apply XC.block)))
  refine XC.loop (fun k ρ L => ∃ (i : Nat) (v : Value) (F : HL), i + k = xs.length ∧ L = F ++ [] ∧ OwnS 5 1 v i ((xs.take i).map (.int .u8)) F ∧ Slots ρ [(0, .slice a xs.length cap), (3, v), (4, .int .i64 i)])
    xs.length ⟨0, _, [], by simp, rfl, OwnS.nil _ _, rfl, rfl, rfl, trivial⟩ ?_
  rintro k ρ L ⟨i, v, F, hik, rfl, hown, hs⟩
  obtain ⟨a', c', rfl⟩ := hown.val
  refine XC.slots _ hs ?_
  (repeat' (first | (with_reducible apply XL.op) | ((with_reducible apply XOp.p1); (case hg | hv => exact rfl)) | ((with_reducible apply XOp.pr); (case hg => exact rfl); (case hr => ((with_reducible apply PR.idxA); (case ht | hk | he | hx | hi => exact rfl); (case hr => first | assumption | omega); (case ha => first | assumption | exact SlA.at_ (by assumption))))) | ((with_reducible apply XOp.buildSlice); (case hg | ht | hk | he | hz | hzl | hf => exact rfl); intro bs_) | (with_reducible apply XL.nilT) | (with_reducible apply XC.seq) | (with_reducible apply XC.region (Γ := Γ)) | (with_reducible apply XL.nilQ) | (with_reducible apply XQ.skip) | (with_reducible apply XQ.ret) | (with_reducible apply XQ.exit) | (with_reducible apply XQ.nt) | (with_reducible apply XQ.nb) | (with_reducible apply XQ.et) | (with_reducible apply XC.block) | ((with_reducible apply XQ.eb); (case hb => exact rfl)) | (first | ((with_reducible apply XOp.load); (case hg | ht | hk | hx => exact rfl); (case hc => exact Known.of_old (hA.int i (by omega)).1 (Mono.cell _ _))) | ((with_reducible apply XP.load); (case ho | hg | ht | hk | hx => exact rfl); (case hc => exact Known.of_old (hA.int i (by omega)).1 (Mono.cell _ _)))) | ((with_reducible apply XOp.append1); (case hg => exact rfl); (case ht => exact rfl); (case hk => exact rfl); (case he => exact rfl); (case hown => exact hown); (case hs => exact rfl); (case hx => exact rfl); (case hL => exact rfl); (case hl => exact rfl); (case h1 => exact rfl); (case hz => exact rfl); (case hsz => exact Nat.zero_lt_succ _); (case hk0 => exact Nat.zero_lt_succ _); (case h63 => simp only [maxLen]; omega); (case hb => simp only []; omega); intro v_ F_ hown_; obtain ⟨a_, c_, rfl⟩ := hown_.val) | ((with_reducible apply XC.cond); (case hc => exact rfl); all_goals (intro hb_; try simp only [pd_true, pd_false, Bool.not_eq_true', Bool.not_eq_false', Bool.and_eq_true, Bool.and_eq_false_iff, Bool.or_eq_true, Bool.or_eq_false_iff, not_true_eq_false, not_false_eq_true, Int.not_lt, Int.not_le] at hb_))))
  · exact ⟨k - 1, by omega, i + 1, _, F_, by omega, rfl, by rw [take_map_snoc _ _ _ 0 (by omega)]; exact hown_, rfl, rfl, intS (m := xs.length) (by omega) (by omega), trivial⟩
  · ((with_reducible apply XQ.retE); (case hr => exact .t rfl .nil))
    obtain rfl : i = xs.length := by omega
    rw [List.append_nil]
    rw [List.take_length] at hown; exact hown

theorem eqBytes_fn (xs ys : List Int) (a b : Option Addr) (ca cb : Nat) : FC Tryd.prog 13 [.slice a xs.length ca, .slice b ys.length cb] []
    (fun h => SlA (Kd.int .u8) 1 h xs a ca ∧ SlA (Kd.int .u8) 1 h ys b cb) (fun v L => v = .bool (pd (xs = ys)) ∧ L = []) := by
  refine FC.intro Tryd.func13 rfl (by kernel_rfl) 26 [.tmp 4] rfl rfl rfl ?_
  rintro w0 ⟨hA, hB⟩
  have hsm := hA.bytes
  (repeat (first | (with_reducible apply XL.op) | ((with_reducible apply XOp.p1); (case hg | hv => exact rfl)) | (with_reducible apply XL.nilT) | (with_reducible apply XC.seq) | (with_reducible apply XC.region (Γ := Γ))))
  ((with_reducible apply XC.cond); (case hc => exact rfl); all_goals (intro hb_; try simp only [pd_true, pd_false, Bool.not_eq_true', Bool.not_eq_false', Bool.and_eq_true, Bool.and_eq_false_iff, Bool.or_eq_true, Bool.or_eq_false_iff, not_true_eq_false, not_false_eq_true, Int.not_lt, Int.not_le] at hb_))
  · (repeat (first | (with_reducible apply XL.op) | ((with_reducible apply XOp.p1); (case hg | hv => exact rfl)) | (with_reducible apply XL.nilT) | (with_reducible apply XC.seq) | (with_reducible apply XC.region (Γ := Γ)) | (with_reducible apply XQ.ret) | (with_reducible apply XQ.rt)))
    ((with_reducible apply XQ.retE); (case hr => exact .t rfl .nil))
    refine ⟨?_, rfl⟩
    rw [pdf (fun h => hb_ (by rw [h]))]; rfl
  (repeat (first | (with_reducible apply XL.op) | ((with_reducible apply XOp.p1); (case hg | hv => exact rfl)) | (with_reducible apply XL.nilT) | (with_reducible apply XC.seq) | (with_reducible apply XC.region (Γ := Γ)) | (with_reducible apply XQ.skip) | (with_reducible apply XQ.nt) | (with_reducible apply XC.block)))
  refine XC.loop (fun k ρ L => ∃ (i : Nat), i + k = xs.length ∧ L = [] ∧ (∀ j, j < i → xs[j]? = ys[j]?) ∧ Slots ρ [(0, .slice a xs.length ca), (1, .slice b ys.length cb), (5, .int .i64 i)])
    xs.length ⟨0, by simp, rfl, by simp, rfl, rfl, rfl, trivial⟩ ?_
  rintro k ρ L ⟨i, hik, rfl, hq, hs⟩
  refine XC.slots _ hs ?_
  (repeat' (first | (with_reducible apply XL.op) | ((with_reducible apply XOp.p1); (case hg | hv => exact rfl)) | (with_reducible apply XL.nilT) | (with_reducible apply XC.seq) | (with_reducible apply XC.region (Γ := Γ)) | (with_reducible apply XQ.skip) | (with_reducible apply XQ.ret) | (with_reducible apply XQ.exit) | (with_reducible apply XQ.nt) | (with_reducible apply XQ.nb) | (with_reducible apply XQ.rt) | (with_reducible apply XQ.rb) | (with_reducible apply XQ.et) | (with_reducible apply XC.block) | ((with_reducible apply XP.p1); (case ho | hg | hv => exact rfl)) | ((with_reducible apply XP.pr); (case ho => exact rfl); (case hg => exact rfl); (case hr => ((with_reducible apply PR.idxA); (case ht | hk | he | hx | hi => exact rfl); (case hr => first | assumption | omega); (case ha => first | assumption | exact SlA.at_ (by assumption))))) | (with_reducible apply XP.done) | ((with_reducible apply XQ.eb); (case hb => exact rfl)) | ((with_reducible apply XC.regionD (Γ := Γ) mixed (.q 0 (.q 1 (.q 2 (.q 3 (.q 4 (.q 5 (.q 6 (.q 7 (.q 8 (.done)))))))))) [] []); (case hc => kernel_rfl)) | (first | ((with_reducible apply XOp.load); (case hg | ht | hk | hx => exact rfl); (case hc => exact Known.of_old (hA.int i (by omega)).1 (Mono.cell _ _))) | ((with_reducible apply XP.load); (case ho | hg | ht | hk | hx => exact rfl); (case hc => exact Known.of_old (hA.int i (by omega)).1 (Mono.cell _ _)))) | (first | ((with_reducible apply XOp.load); (case hg | ht | hk | hx => exact rfl); (case hc => exact Known.of_old (hB.int i (by omega)).1 (Mono.cell _ _))) | ((with_reducible apply XP.load); (case ho | hg | ht | hk | hx => exact rfl); (case hc => exact Known.of_old (hB.int i (by omega)).1 (Mono.cell _ _)))) | ((with_reducible apply XC.cond); (case hc => exact rfl); all_goals (intro hb_; try simp only [pd_true, pd_false, Bool.not_eq_true', Bool.not_eq_false', Bool.and_eq_true, Bool.and_eq_false_iff, Bool.or_eq_true, Bool.or_eq_false_iff, not_true_eq_false, not_false_eq_true, Int.not_lt, Int.not_le] at hb_))))
  · ((with_reducible apply XQ.retE); (case hr => exact .t rfl .nil))
    refine ⟨?_, rfl⟩
    rw [pdf (fun h => hb_ (by rw [h]))]; rfl
  · refine ⟨k - 1, by omega, i + 1, by omega, rfl, fun j hj => ?_, rfl, rfl, intS (m := xs.length) (by omega) (by omega), trivial⟩
    by_cases h : j = i
    · subst h; rw [List.getElem?_eq_getElem (by omega), List.getElem?_eq_getElem (by omega)] at hb_ ⊢; simpa using hb_
    · exact hq j (by omega)
  · ((with_reducible apply XQ.retE); (case hr => exact .t rfl .nil))
    refine ⟨?_, rfl⟩
    rw [pdt (List.ext_getElem? fun j => ?_)]; rfl
    by_cases h : j < i
    · exact hq j h
    · rw [List.getElem?_eq_none (by omega), List.getElem?_eq_none (by omega)]
end Go.Proofs.YtepfnakabafhlaaDoorX
/- The literal of any bytes. -/
namespace Go.Proofs.YtepfnakabafhlaaDoorX
open Go Go.SX

theorem dig_ok {n : Int} (h : 0 ≤ n ∧ n < 16) : inK .u8 (dig n) := inK_u8.2 (by unfold dig; split <;> omega)
theorem escL_ok {c : Int} (h : inK .u8 c) : ∀ x ∈ escL c, inK .u8 x := by
  have hc := inK_u8.1 h
  unfold escL
  split
  · simpa using h
  · split
    · intro x hx; simp at hx; rcases hx with rfl | rfl
      · exact inK_u8.2 (by omega)
      · exact h
    · intro x hx; simp at hx; rcases hx with rfl | rfl | rfl | rfl
      · exact inK_u8.2 (by omega)
      · exact inK_u8.2 (by omega)
      · exact dig_ok (by omega)
      · exact dig_ok (by omega)
theorem flat_ok {xs : List Int} (h : ∀ x ∈ xs, inK .u8 x) : ∀ x ∈ xs.flatMap escL, inK .u8 x := by
  intro x hx
  obtain ⟨c, hc, hx⟩ := List.mem_flatMap.1 hx
  exact escL_ok (h c hc) x hx
theorem quoteL_ok {xs : List Int} (h : ∀ x ∈ xs, inK .u8 x) : ∀ x ∈ quoteL xs, inK .u8 x := by
  intro x hx
  simp only [quoteL, List.mem_cons, List.mem_append, List.not_mem_nil, or_false, List.cons_append] at hx
  rcases hx with rfl | hx | rfl
  · exact inK_u8.2 (by omega)
  · exact flat_ok h x hx
  · exact inK_u8.2 (by omega)
theorem take_flat (f : Int → List Int) (xs : List Int) (i : Nat) (h : i < xs.length) : (xs.take (i + 1)).flatMap f = (xs.take i).flatMap f ++ f (xs[i]?.getD 0) := by
  rw [List.take_add_one, List.flatMap_append, List.getElem?_eq_getElem h]; simp
theorem all_ok {k : IntKind} {by_ : Nat} {h : HV} {xs : List Int} {a : Option Addr} {cap : Nat} (s : SlA (Kd.int k) by_ h xs a cap) : ∀ x ∈ xs, inK k x := by
  intro x hx
  obtain ⟨i, hi⟩ := List.getElem?_of_mem hx
  have := (s.int i (List.getElem?_eq_some_iff.1 hi).1).2
  rw [hi] at this; exact this

theorem and15 {c : Int} (h : 0 ≤ c ∧ c ≤ 255) : bitsV .and .u8 c 15 = c % 16 := by
  obtain ⟨n, rfl⟩ := Int.eq_ofNat_of_zero_le h.1
  have : ∀ m : Fin 256, bitsV .and .u8 (m.1 : Int) 15 = (m.1 : Int) % 16 := by decide +kernel
  exact this ⟨n, by omega⟩
theorem digAt {n : Int} (h : 0 ≤ n ∧ n < 16) : byteAt ⟨#[48, 49, 50, 51, 52, 53, 54, 55, 56, 57, 97, 98, 99, 100, 101, 102]⟩ n.toNat = dig n := by
  obtain ⟨n, rfl⟩ := Int.eq_ofNat_of_zero_le h.1
  have : ∀ m : Fin 16, byteAt ⟨#[48, 49, 50, 51, 52, 53, 54, 55, 56, 57, 97, 98, 99, 100, 101, 102]⟩ (m.1 : Int).toNat = dig m.1 := by decide +kernel
  exact this ⟨n, by omega⟩

theorem plain_fn (c : Int) : FC Tryd.prog 41 [.int .u8 c] [] (fun _ => True) (fun v L => v = .bool (pd (isPlain c)) ∧ L = []) := by
  refine FC.intro Tryd.func41 rfl (by kernel_rfl) 17 [.tmp 2] rfl rfl rfl ?_
  intro w0 _
  (repeat' (first | (with_reducible apply XL.op) | ((with_reducible apply XOp.p1); (case hg | hv => exact rfl)) | ((with_reducible apply XOp.p0); (case hg => exact rfl)) | (with_reducible apply XL.nilT) | (with_reducible apply XC.seq) | (with_reducible apply XC.region (Γ := Γ)) | (with_reducible apply XQ.ret) | ((with_reducible apply XOp.split); (case hg | hj | hd | hb => exact rfl); (fail_if_success (case hf => exact fun h => Bool.noConfusion h)); (fail_if_success (case ht => exact fun h => Bool.noConfusion h)); all_goals (intro hb_; try simp only [pd_true, pd_false, Bool.not_eq_true', Bool.not_eq_false', Bool.and_eq_true, Bool.and_eq_false_iff, Bool.or_eq_true, Bool.or_eq_false_iff, not_true_eq_false, not_false_eq_true, Int.not_lt, Int.not_le] at hb_))))
  all_goals ((with_reducible apply XQ.retE); (case hr => exact .t rfl .nil))
  all_goals refine ⟨?_, rfl⟩
  all_goals show Value.bool _ = Value.bool _
  all_goals congr 1
  all_goals rw [Bool.eq_iff_iff]
  all_goals simp only [pd_true, isPlain, Bool.not_eq_true', pd_false, Bool.false_eq_true, false_iff]
  all_goals omega

theorem quote_fn (xs : List Int) (a : Option Addr) (cap : Nat) (hn : xs.length ≤ 1073741824) : FC Tryd.prog 24 [.slice a xs.length cap] [] (fun h => SlA (Kd.int .u8) 1 h xs a cap)
    (fun v _ => v = .string (strOf (quoteL xs))) := by
  refine FC.intro Tryd.func24 rfl (by kernel_rfl) 45 [.tmp 2] rfl rfl rfl ?_
  intro w0 hA
  (repeat (first | (with_reducible apply XL.op) | ((with_reducible apply XOp.p1); (case hg | hv => exact rfl)) | ((with_reducible apply XOp.buildSlice); (case hg | ht | hk | he | hz | hzl | hf => exact rfl); intro bs_) | (with_reducible apply XL.nilT) | (with_reducible apply XC.seq) | (with_reducible apply XC.region (Γ := Γ)) | (with_reducible apply XC.block)))
  refine XC.loop (fun k ρ L => ∃ (i : Nat) (m : Nat) (v : Value) (F : HL), i + k = xs.length ∧ L = F ++ [] ∧ m = ((34 :: (xs.take i).flatMap escL).length) ∧ OwnS 5 1 v m ((34 :: (xs.take i).flatMap escL).map (.int .u8)) F ∧
      Slots ρ [(0, .slice a xs.length cap), (3, v), (7, .slice a xs.length cap), (8, .int .i64 xs.length), (9, .int .i64 i)])
    xs.length ⟨0, 1, _, _, by simp, (List.append_nil _).symm, by simp, ⟨by simp, .inr ⟨_, _, [], rfl, rfl, Nat.le_refl _, by decide, rfl⟩⟩, rfl, rfl, rfl, rfl, rfl, trivial⟩ ?_
  rintro k ρ L ⟨i, m, v, F, hik, rfl, hm, hown, hs⟩
  obtain ⟨a', c', rfl⟩ := hown.val
  have hml : m ≤ 4 * i + 1 := by
    have := flat_length (xs.take i)
    rw [List.length_take] at this
    simp only [List.length_cons] at hm; omega
  refine XC.slots _ hs ?_
  (repeat (first | (with_reducible apply XL.op) | ((with_reducible apply XOp.p1); (case hg | hv => exact rfl)) | (with_reducible apply XL.nilT) | (with_reducible apply XC.seq) | (with_reducible apply XC.region (Γ := Γ))))
  ((with_reducible apply XC.cond); (case hc => exact rfl); all_goals (intro hb_; try simp only [pd_true, pd_false, Bool.not_eq_true', Bool.not_eq_false', Bool.and_eq_true, Bool.and_eq_false_iff, Bool.or_eq_true, Bool.or_eq_false_iff, not_true_eq_false, not_false_eq_true, Int.not_lt, Int.not_le] at hb_))
  · have hc := inK_u8.1 (hA.int i (by omega)).2
    have h4 : 0 ≤ (xs[i]?.getD 0).fdiv (2 ^ min (Int.toNat 4) IntKind.u8.bits) ∧ (xs[i]?.getD 0).fdiv (2 ^ min (Int.toNat 4) IntKind.u8.bits) < ((⟨#[48, 49, 50, 51, 52, 53, 54, 55, 56, 57, 97, 98, 99, 100, 101, 102]⟩ : ByteArray).size : Int) := by
      rw [show (2 : Int) ^ min (Int.toNat 4) IntKind.u8.bits = 16 from rfl, show ((⟨#[48, 49, 50, 51, 52, 53, 54, 55, 56, 57, 97, 98, 99, 100, 101, 102]⟩ : ByteArray).size : Int) = 16 from rfl, Int.fdiv_eq_ediv_of_nonneg _ (by omega)]
      omega
    have h15 : 0 ≤ bitsV .and .u8 (xs[i]?.getD 0) 15 ∧ bitsV .and .u8 (xs[i]?.getD 0) 15 < ((⟨#[48, 49, 50, 51, 52, 53, 54, 55, 56, 57, 97, 98, 99, 100, 101, 102]⟩ : ByteArray).size : Int) := by
      rw [and15 hc, show ((⟨#[48, 49, 50, 51, 52, 53, 54, 55, 56, 57, 97, 98, 99, 100, 101, 102]⟩ : ByteArray).size : Int) = 16 from rfl]
      omega
    (repeat' (first | (with_reducible apply XL.op) | ((with_reducible apply XOp.p1); (case hg | hv => exact rfl)) | ((with_reducible apply XOp.p0); (case hg => exact rfl)) | ((with_reducible apply XOp.pr); (case hg => exact rfl); (case hr => ((with_reducible apply PR.idxA); (case ht | hk | he | hx | hi => exact rfl); (case hr => first | assumption | omega); (case ha => first | assumption | exact SlA.at_ (by assumption))))) | ((with_reducible apply XOp.buildSlice); (case hg | ht | hk | he | hz | hzl | hf => exact rfl); intro bs_) | (with_reducible apply XL.nilT) | (with_reducible apply XC.seq) | (with_reducible apply XC.region (Γ := Γ)) | (with_reducible apply XL.nilQ) | (with_reducible apply XQ.skip) | (with_reducible apply XQ.nt) | (with_reducible apply XQ.nb) | (with_reducible apply XC.block) | ((with_reducible apply XP.p1); (case ho | hg | hv => exact rfl)) | ((with_reducible apply XP.pr); (case ho => exact rfl); (case hg => exact rfl); (case hr => ((with_reducible apply PR.sidx); (case ht | hk | hx | hi => exact rfl); (case hr => first | assumption | omega)))) | (with_reducible apply XP.done) | ((with_reducible apply XP.e); (first | ((with_reducible apply XE.d); (case ho => exact rfl); (case hd => exact rfl)) | ((with_reducible apply XE.e); (case ho => exact rfl)))) | ((with_reducible apply XP.keep); (case hk => first | ((repeat' (first | exact List.forall_mem_nil _ | (with_reducible refine List.forall_mem_cons.2 ⟨?_, ?_⟩) | exact List.mem_cons_self .. | (with_reducible apply List.mem_cons_of_mem) | (with_reducible apply List.mem_append_right))); done) | (intro x hx; first | exact sel_in hx | exact List.mem_cons_of_mem _ (sel_in hx) | exact List.mem_append_right _ (sel_in hx) | exact hx | exact List.mem_cons_of_mem _ hx | exact List.mem_append_right _ hx | ((repeat (first | exact sel_in hx | exact hx | (with_reducible apply List.mem_cons_of_mem) | (with_reducible apply List.mem_append_right))); done) | (rw [List.mem_singleton.1 hx]; (simp; done)) | (rcases List.mem_cons.1 hx with rfl | hx; (simp; done); (rw [List.mem_singleton.1 hx]; (simp; done))) | cases hx))) | ((with_reducible apply XC.condT); (case hc => exact rfl)) | (first | ((with_reducible apply XOp.load); (case hg | ht | hk | hx => exact rfl); (case hc => exact Known.of_old (hA.int i (by omega)).1 (Mono.cell _ _))) | ((with_reducible apply XP.load); (case ho | hg | ht | hk | hx => exact rfl); (case hc => exact Known.of_old (hA.int i (by omega)).1 (Mono.cell _ _)))) | (((with_reducible apply XOp.call (hF := plain_fn _)); (case hg => exact rfl); (case hc => exact rfl); (case ha => exact rfl); (case hL => exact (List.nil_append _).symm); try (case hA => exact Known.true)); rintro _ _ ⟨rfl, rfl⟩) | ((with_reducible apply XOp.append1); (case hg => exact rfl); (case ht => exact rfl); (case hk => exact rfl); (case he => exact rfl); (case hown => exact hown); (case hs => exact rfl); (case hx => exact rfl); (case hL => exact rfl); (case hl => exact rfl); (case h1 => exact rfl); (case hz => exact rfl); (case hsz => exact Nat.zero_lt_succ _); (case hk0 => exact Nat.zero_lt_succ _); (case h63 => simp only [maxLen]; omega); (case hb => simp only []; omega); intro v_ F_ hown_; obtain ⟨a_, c_, rfl⟩ := hown_.val) | ((with_reducible apply XC.regionL (Γ := Γ) mixed (.q 0 (.q 1 (.q 2 (.q 3 (.q 4 (.q 5 (.q 6 (.e 7 (.e 8 (.e 9 (.done))))))))))) [8] ([])); (case hc => kernel_rfl); (case hs => first | exact List.nil_sublist _ | exact List.Sublist.refl _ | exact List.sublist_append_right _ _ | (refine List.Sublist.cons_cons _ (List.nil_sublist _)) | (refine List.Sublist.cons_cons _ (List.Sublist.cons_cons _ (List.nil_sublist _))) | (refine List.Sublist.cons_cons _ (List.Sublist.cons_cons _ (List.Sublist.cons_cons _ (List.nil_sublist _)))) | (refine List.Sublist.cons_cons _ (List.Sublist.cons_cons _ (List.Sublist.cons_cons _ (List.Sublist.cons_cons _ (List.nil_sublist _))))) | ((try simp only [List.append_eq, List.cons_append, List.nil_append, List.append_assoc]); (repeat (first | exact List.Sublist.refl _ | exact List.nil_sublist _ | (with_reducible apply List.Sublist.cons_cons) | (with_reducible apply List.Sublist.cons))); done))) | ((with_reducible apply XOp.split); (case hg | hj | hd | hb => exact rfl); (fail_if_success (case hf => exact fun h => Bool.noConfusion h)); (fail_if_success (case ht => exact fun h => Bool.noConfusion h)); all_goals (intro hb_; try simp only [pd_true, pd_false, Bool.not_eq_true', Bool.not_eq_false', Bool.and_eq_true, Bool.and_eq_false_iff, Bool.or_eq_true, Bool.or_eq_false_iff, not_true_eq_false, not_false_eq_true, Int.not_lt, Int.not_le] at hb_)) | ((with_reducible apply XC.cond); (case hc => exact rfl); all_goals (intro hb_; try simp only [pd_true, pd_false, Bool.not_eq_true', Bool.not_eq_false', Bool.and_eq_true, Bool.and_eq_false_iff, Bool.or_eq_true, Bool.or_eq_false_iff, not_true_eq_false, not_false_eq_true, Int.not_lt, Int.not_le] at hb_))))
    · have he : escL (xs[i]?.getD 0) = [xs[i]?.getD 0] := by unfold escL; rw [if_pos hb_]
      exact ⟨k - 1, by omega, i + 1, m + 1, _, F_, by omega, rfl, by rw [take_flat _ _ _ (by omega), he]; simp [hm], by rw [take_flat _ _ _ (by omega), ← List.cons_append, List.map_append, he]; exact hown_, rfl, rfl, rfl, rfl, intS (m := xs.length) (by omega) (by omega), trivial⟩
    · have he : escL (xs[i]?.getD 0) = [92, xs[i]?.getD 0] := by unfold escL; rw [if_neg ‹_›, if_pos (.inl hb_)]
      exact ⟨k - 1, by omega, i + 1, m + 2, _, F_, by omega, rfl, by rw [take_flat _ _ _ (by omega), he]; simp [hm], by rw [take_flat _ _ _ (by omega), ← List.cons_append, List.map_append, he]; exact hown_, rfl, rfl, rfl, rfl, intS (m := xs.length) (by omega) (by omega), trivial⟩
    · have he : escL (xs[i]?.getD 0) = [92, xs[i]?.getD 0] := by unfold escL; rw [if_neg ‹_›, if_pos (.inr hb_)]
      exact ⟨k - 1, by omega, i + 1, m + 2, _, F_, by omega, rfl, by rw [take_flat _ _ _ (by omega), he]; simp [hm], by rw [take_flat _ _ _ (by omega), ← List.cons_append, List.map_append, he]; exact hown_, rfl, rfl, rfl, rfl, intS (m := xs.length) (by omega) (by omega), trivial⟩
    · have he : escL (xs[i]?.getD 0) = [92, 120, dig (xs[i]?.getD 0 / 16), dig (xs[i]?.getD 0 % 16)] := by unfold escL; rw [if_neg ‹_›, if_neg (by omega)]
      rw [show (2 : Int) ^ min (Int.toNat 4) IntKind.u8.bits = 16 from rfl, Int.fdiv_eq_ediv_of_nonneg _ (by omega), digAt (by omega), and15 hc, digAt (by omega)] at hown_
      exact ⟨k - 1, by omega, i + 1, m + 4, _, F_, by omega, rfl, by rw [take_flat _ _ _ (by omega), he]; simp [hm], by rw [take_flat _ _ _ (by omega), ← List.cons_append, List.map_append, he]; exact hown_, rfl, rfl, rfl, rfl, intS (m := xs.length) (by omega) (by omega), trivial⟩
  · (repeat (first | (with_reducible apply XL.op) | ((with_reducible apply XOp.p1); (case hg | hv => exact rfl)) | ((with_reducible apply XOp.buildSlice); (case hg | ht | hk | he | hz | hzl | hf => exact rfl); intro bs_) | (with_reducible apply XC.seq) | (with_reducible apply XC.region (Γ := Γ)) | (with_reducible apply XQ.exit) | (with_reducible apply XQ.nt) | (with_reducible apply XQ.et) | ((with_reducible apply XQ.eb); (case hb => exact rfl)) | ((with_reducible apply XOp.append1); (case hg => exact rfl); (case ht => exact rfl); (case hk => exact rfl); (case he => exact rfl); (case hown => exact hown); (case hs => exact rfl); (case hx => exact rfl); (case hL => exact rfl); (case hl => exact rfl); (case h1 => exact rfl); (case hz => exact rfl); (case hsz => exact Nat.zero_lt_succ _); (case hk0 => exact Nat.zero_lt_succ _); (case h63 => simp only [maxLen]; omega); (case hb => simp only []; omega); intro v_ F_ hown_; obtain ⟨a_, c_, rfl⟩ := hown_.val)))
    obtain rfl : i = xs.length := by omega
    rw [List.take_length] at hown_
    have hok := quoteL_ok (all_ok hA)
    obtain ⟨a2, c2, he2, hm2, hsl⟩ := OwnS.slA (xs := quoteL xs) (by_ := 1) (k := .u8) (by simpa [quoteL, zerosL] using hown_) hok (by
      have := flat_length xs; simp only [quoteL, List.length_append, List.length_cons, List.length_nil]; omega)
    simp only [Value.slice.injEq] at he2
    obtain ⟨rfl, _, rfl⟩ := he2
    ((with_reducible apply XOp.pr); (case hg => exact rfl); (case hr => (with_reducible apply PR.toStr); (case hs => exact rfl); (case hk => exact rfl); (case he => exact rfl); (case hek => exact rfl); (case hd => exact rfl); (case hdk => exact rfl); (case hx => exact rfl); (case hl => exact hm2.symm); (case hA => exact  Known.of_frag hsl (Mono.sl _ _ _ _ _) (by simp))))
    (repeat (first | (with_reducible apply XL.op) | ((with_reducible apply XOp.p1); (case hg | hv => exact rfl)) | (with_reducible apply XL.nilT) | (with_reducible apply XQ.ret)))
    ((with_reducible apply XQ.retE); (case hr => exact .t rfl .nil))
    rfl

def refDig (n : Int) : Int := dig n
theorem digit_fn (n : Int) (h : 0 ≤ n ∧ n < 16) : FC Tryd.prog 43 [.int .u8 n] [] (fun _ => True) (fun v L => v = .int .u8 (dig n) ∧ L = []) := by
  refine FC.intro Tryd.func43 rfl (by kernel_rfl) 10 [.tmp 2] rfl rfl rfl ?_
  intro w0 _
  (repeat' (first | (with_reducible apply XL.op) | ((with_reducible apply XOp.p1); (case hg | hv => exact rfl)) | (with_reducible apply XL.nilT) | (with_reducible apply XC.seq) | (with_reducible apply XC.region (Γ := Γ)) | (with_reducible apply XQ.skip) | (with_reducible apply XQ.ret) | (with_reducible apply XQ.nt) | (with_reducible apply XQ.rt) | ((with_reducible apply XC.cond); (case hc => exact rfl); all_goals (intro hb_; try simp only [pd_true, pd_false, Bool.not_eq_true', Bool.not_eq_false', Bool.and_eq_true, Bool.and_eq_false_iff, Bool.or_eq_true, Bool.or_eq_false_iff, not_true_eq_false, not_false_eq_true, Int.not_lt, Int.not_le] at hb_))))
  all_goals ((with_reducible apply XQ.retE); (case hr => exact .t rfl .nil))
  all_goals refine ⟨?_, rfl⟩
  all_goals show Value.int _ _ = Value.int _ _
  all_goals congr 1
  · rw [wrap_of (inK_u8.2 (by omega))]; unfold dig; rw [if_pos (by omega)]
  · rw [wrap_of (x := 97 + n) (inK_u8.2 (by omega)), wrap_of (inK_u8.2 (by omega))]; unfold dig; rw [if_neg (by omega)]; omega

theorem esc_q {c : Int} (h : c = 34 ∨ c = 92) : escL c = [92, c] := by unfold escL; rw [if_neg (fun hp => by have := hp.2.2; omega), if_pos h]
theorem esc_p {c : Int} (h : 32 ≤ c ∧ c ≤ 126 ∧ c ≠ 34 ∧ c ≠ 92) : escL c = [c] := by unfold escL; rw [if_pos (show isPlain c from h)]
theorem esc_n {c : Int} (h : ¬ isPlain c) (h1 : ¬ c = 34) (h2 : ¬ c = 92) : escL c = [92, 120, dig (c / 16), dig (c % 16)] := by unfold escL; rw [if_neg h, if_neg (by omega)]

theorem refQuote_fn (xs : List Int) (a : Option Addr) (cap : Nat) (hn : xs.length ≤ 1073741824) : FC Tryd.prog 28 [.slice a xs.length cap] [] (fun h => SlA (Kd.int .u8) 1 h xs a cap)
    (fun v _ => v = .string (strOf (quoteL xs))) := by
  refine FC.intro Tryd.func28 rfl (by kernel_rfl) 65 [.tmp 2] rfl rfl rfl ?_
  intro w0 hA
  (repeat (first | (with_reducible apply XL.op) | ((with_reducible apply XOp.p1); (case hg | hv => exact rfl)) | ((with_reducible apply XOp.buildSlice); (case hg | ht | hk | he | hz | hzl | hf => exact rfl); intro bs_) | (with_reducible apply XL.nilT) | (with_reducible apply XC.seq) | (with_reducible apply XC.region (Γ := Γ)) | (with_reducible apply XC.block)))
  refine XC.loop (fun k ρ L => ∃ (i : Nat) (m : Nat) (v : Value) (F : HL), i + k = xs.length ∧ L = F ++ [] ∧ m = ((34 :: (xs.take i).flatMap escL).length) ∧ OwnS 5 1 v m ((34 :: (xs.take i).flatMap escL).map (.int .u8)) F ∧
      Slots ρ [(0, .slice a xs.length cap), (3, v), (4, .int .i64 i)])
    xs.length ⟨0, 1, _, _, by simp, (List.append_nil _).symm, by simp, ⟨by simp, .inr ⟨_, _, [], rfl, rfl, Nat.le_refl _, by decide, rfl⟩⟩, rfl, rfl, rfl, trivial⟩ ?_
  rintro k ρ L ⟨i, m, v, F, hik, rfl, hm, hown, hs⟩
  obtain ⟨a', c', rfl⟩ := hown.val
  have hml : m ≤ 4 * i + 1 := by
    have := flat_length (xs.take i)
    rw [List.length_take] at this
    simp only [List.length_cons] at hm; omega
  refine XC.slots _ hs ?_
  (repeat (first | (with_reducible apply XL.op) | ((with_reducible apply XOp.p1); (case hg | hv => exact rfl)) | (with_reducible apply XL.nilT) | (with_reducible apply XC.seq) | (with_reducible apply XC.region (Γ := Γ))))
  ((with_reducible apply XC.cond); (case hc => exact rfl); all_goals (intro hb_; try simp only [pd_true, pd_false, Bool.not_eq_true', Bool.not_eq_false', Bool.and_eq_true, Bool.and_eq_false_iff, Bool.or_eq_true, Bool.or_eq_false_iff, not_true_eq_false, not_false_eq_true, Int.not_lt, Int.not_le] at hb_))
  · have hc := inK_u8.1 (hA.int i (by omega)).2
    have hd1 : IntKind.u8.wrap ((xs[i]?.getD 0).tdiv 16) = xs[i]?.getD 0 / 16 := by rw [Int.tdiv_eq_ediv_of_nonneg (by omega), wrap_of (inK_u8.2 (by omega))]
    have hd2 : (xs[i]?.getD 0).tmod 16 = xs[i]?.getD 0 % 16 := Int.tmod_eq_emod_of_nonneg (by omega)
    (repeat' (first | (with_reducible apply XL.op) | ((with_reducible apply XOp.p1); (case hg | hv => exact rfl)) | ((with_reducible apply XOp.p0); (case hg => exact rfl)) | ((with_reducible apply XOp.pr); (case hg => exact rfl); (case hr => ((with_reducible apply PR.idxA); (case ht | hk | he | hx | hi => exact rfl); (case hr => first | assumption | omega); (case ha => first | assumption | exact SlA.at_ (by assumption))))) | ((with_reducible apply XOp.buildSlice); (case hg | ht | hk | he | hz | hzl | hf => exact rfl); intro bs_) | (with_reducible apply XL.nilT) | (with_reducible apply XC.seq) | (with_reducible apply XC.region (Γ := Γ)) | (with_reducible apply XL.nilQ) | (with_reducible apply XQ.skip) | (with_reducible apply XQ.nt) | (with_reducible apply XQ.nb) | (with_reducible apply XC.block) | ((with_reducible apply XC.condT); (case hc => exact rfl)) | ((with_reducible apply XC.condF); (case hc => exact rfl)) | (first | ((with_reducible apply XOp.load); (case hg | ht | hk | hx => exact rfl); (case hc => exact Known.of_old (hA.int i (by omega)).1 (Mono.cell _ _))) | ((with_reducible apply XP.load); (case ho | hg | ht | hk | hx => exact rfl); (case hc => exact Known.of_old (hA.int i (by omega)).1 (Mono.cell _ _)))) | ((with_reducible apply XOp.append1); (case hg => exact rfl); (case ht => exact rfl); (case hk => exact rfl); (case he => exact rfl); (case hown => exact hown_); (case hs => exact rfl); (case hx => exact rfl); (case hL => exact rfl); (case hl => exact rfl); (case h1 => exact rfl); (case hz => exact rfl); (case hsz => exact Nat.zero_lt_succ _); (case hk0 => exact Nat.zero_lt_succ _); (case h63 => simp only [maxLen]; omega); (case hb => simp only []; omega); intro v_ F_ hown_; obtain ⟨a_, c_, rfl⟩ := hown_.val) | ((with_reducible apply XOp.append1); (case hg => exact rfl); (case ht => exact rfl); (case hk => exact rfl); (case he => exact rfl); (case hown => exact hown); (case hs => exact rfl); (case hx => exact rfl); (case hL => exact rfl); (case hl => exact rfl); (case h1 => exact rfl); (case hz => exact rfl); (case hsz => exact Nat.zero_lt_succ _); (case hk0 => exact Nat.zero_lt_succ _); (case h63 => simp only [maxLen]; omega); (case hb => simp only []; omega); intro v_ F_ hown_; obtain ⟨a_, c_, rfl⟩ := hown_.val) | (((with_reducible apply XOp.call (hF := digit_fn (IntKind.u8.wrap ((xs[i]?.getD 0).tdiv 16)) (by rw [hd1]; omega))); (case hg => exact rfl); (case hc => exact rfl); (case ha => exact rfl); (case hL => exact (List.nil_append _).symm); try (case hA => exact Known.true)); rintro _ _ ⟨rfl, rfl⟩) | (((with_reducible apply XOp.call (hF := digit_fn ((xs[i]?.getD 0).tmod 16) (by rw [hd2]; omega))); (case hg => exact rfl); (case hc => exact rfl); (case ha => exact rfl); (case hL => exact (List.nil_append _).symm); try (case hA => exact Known.true)); rintro _ _ ⟨rfl, rfl⟩) | ((with_reducible apply XOp.split); (case hg | hj | hd | hb => exact rfl); (fail_if_success (case hf => exact fun h => Bool.noConfusion h)); (fail_if_success (case ht => exact fun h => Bool.noConfusion h)); all_goals (intro hb_; try simp only [pd_true, pd_false, Bool.not_eq_true', Bool.not_eq_false', Bool.and_eq_true, Bool.and_eq_false_iff, Bool.or_eq_true, Bool.or_eq_false_iff, not_true_eq_false, not_false_eq_true, Int.not_lt, Int.not_le] at hb_)) | ((with_reducible apply XC.cond); (case hc => exact rfl); all_goals (intro hb_; try simp only [pd_true, pd_false, Bool.not_eq_true', Bool.not_eq_false', Bool.and_eq_true, Bool.and_eq_false_iff, Bool.or_eq_true, Bool.or_eq_false_iff, not_true_eq_false, not_false_eq_true, Int.not_lt, Int.not_le] at hb_))))
    all_goals refine ⟨k - 1, by omega, i + 1, (34 :: (xs.take (i + 1)).flatMap escL).length, .slice a_ _ c_, F_, by omega, rfl, rfl, ?_, rfl, rfl, intS (m := xs.length) (by omega) (by omega), trivial⟩
    all_goals rw [take_flat _ _ _ (by omega)]
    · rw [esc_q (.inl hb_)]; exact hown_.conv (by rw [hm]; simp only [List.length_cons, List.length_append, List.length_nil]) (by simp [zerosL])
    · rw [esc_q (.inr hb_)]; exact hown_.conv (by rw [hm]; simp only [List.length_cons, List.length_append, List.length_nil]) (by simp [zerosL])
    · rw [esc_p ⟨‹_›, ‹_›, ‹_›, ‹_›⟩]; exact hown_.conv (by rw [hm]; simp only [List.length_cons, List.length_append, List.length_nil]) (by simp [zerosL])
    all_goals rw [hd1, hd2] at hown_
    all_goals rw [esc_n (c := xs[i]?.getD 0) (fun h => by have := h.1; have := h.2.1; omega) ‹_› ‹_›]; exact hown_.conv (by rw [hm]; simp only [List.length_cons, List.length_append, List.length_nil]) (by simp [zerosL])
  · (repeat (first | (with_reducible apply XL.op) | ((with_reducible apply XOp.p1); (case hg | hv => exact rfl)) | ((with_reducible apply XOp.buildSlice); (case hg | ht | hk | he | hz | hzl | hf => exact rfl); intro bs_) | (with_reducible apply XL.nilT) | (with_reducible apply XC.seq) | (with_reducible apply XC.region (Γ := Γ)) | (with_reducible apply XQ.exit) | (with_reducible apply XQ.nt) | (with_reducible apply XQ.et) | ((with_reducible apply XQ.eb); (case hb => exact rfl)) | ((with_reducible apply XOp.append1); (case hg => exact rfl); (case ht => exact rfl); (case hk => exact rfl); (case he => exact rfl); (case hown => exact hown); (case hs => exact rfl); (case hx => exact rfl); (case hL => exact rfl); (case hl => exact rfl); (case h1 => exact rfl); (case hz => exact rfl); (case hsz => exact Nat.zero_lt_succ _); (case hk0 => exact Nat.zero_lt_succ _); (case h63 => simp only [maxLen]; omega); (case hb => simp only []; omega); intro v_ F_ hown_; obtain ⟨a_, c_, rfl⟩ := hown_.val)))
    obtain rfl : i = xs.length := by omega
    rw [List.take_length] at hown_
    have hok := quoteL_ok (all_ok hA)
    obtain ⟨a2, c2, he2, hm2, hsl⟩ := OwnS.slA (xs := quoteL xs) (by_ := 1) (k := .u8) (by simpa [quoteL, zerosL] using hown_) hok (by
      have := flat_length xs; simp only [quoteL, List.length_append, List.length_cons, List.length_nil]; omega)
    simp only [Value.slice.injEq] at he2
    obtain ⟨rfl, _, rfl⟩ := he2
    ((with_reducible apply XOp.pr); (case hg => exact rfl); (case hr => (with_reducible apply PR.toStr); (case hs => exact rfl); (case hk => exact rfl); (case he => exact rfl); (case hek => exact rfl); (case hd => exact rfl); (case hdk => exact rfl); (case hx => exact rfl); (case hl => exact hm2.symm); (case hA => exact  Known.of_frag hsl (Mono.sl _ _ _ _ _) (by simp))))
    (repeat (first | (with_reducible apply XL.op) | ((with_reducible apply XOp.p1); (case hg | hv => exact rfl)) | (with_reducible apply XL.nilT) | (with_reducible apply XQ.ret)))
    ((with_reducible apply XQ.retE); (case hr => exact .t rfl .nil))
    rfl
end Go.Proofs.YtepfnakabafhlaaDoorX
/- The library's functions that lines reach: blanks cut, looked for; numbers as text and back. -/
namespace Go.SX
open Go Go.RowKit
theorem FC.ofCalls {P : Program} {f : Nat} {vs : List Value} {A : HV → Prop} {B : Value → Prop} (hfn : isFn P f = true)
    (h : ∀ w : World, A (hv w) → Calls P f vs.toArray w (fun e w' => ∃ v, e = .returned v ∧ B v ∧ Below w.heap.size w w')) : FC P f vs [] A (fun v L => B v ∧ L = []) :=
  ⟨hfn, fun w _ _ hA => (h w (hA _ (fun b o ho => (show w.heap[b]? = some o by simpa [oldv, keys] using ho)))).mono fun e w' ⟨v, he, hb, bel⟩ =>
    ⟨v, [], he, ⟨bel.size, bel.os, bel.tape, bel.output, (by simp), (by simp [keys]), fun b hb _ => bel.block b hb, (by simp)⟩, hb, rfl⟩⟩
end Go.SX
namespace Go.Proofs.YtepfnakabafhlaaDoorX
open Go Go.SX Go.RowKit

/-- Whoever sees the blocks F sees A. -/
def Held (F : HL) (A : HV → Prop) : Prop := ∀ h : HV, (∀ x ∈ F, h x.1 = some x.2) → A h
theorem Held.known {F : HL} {A : HV → Prop} (a : Held F A) {w0 : World} {K : List Nat} {L : HL} (s : ∀ x ∈ F, x ∈ L) : Known w0 K L A := fun h e => a h fun x hx => e.1 x (s x hx)
theorem Held.sub {F G : HL} {A : HV → Prop} (a : Held F A) (s : ∀ x ∈ F, x ∈ G) : Held G A := fun h hh => a h fun x hx => hh x (s x hx)
theorem Held.and {F : HL} {A B : HV → Prop} (a : Held F A) (b : Held F B) : Held F (fun h => A h ∧ B h) := fun h hh => ⟨a h hh, b h hh⟩
theorem Held.imp {F : HL} {A B : HV → Prop} (a : Held F A) (f : ∀ h, A h → B h) : Held F B := fun h hh => f h (a h hh)
theorem Held.frag {F : HL} {B : HV → Prop} (hb : B (fv F)) (m : Mono B) : Held F B := fun h hh => m _ _ (fun b o ho => by
  unfold fv at ho
  obtain ⟨x, hx, rfl⟩ := Option.map_eq_some_iff.1 ho
  have h1 := List.mem_of_find?_eq_some hx
  have h2 : x.1 = b := by simpa using List.find?_some hx
  rw [← h2]; exact hh x h1) hb
theorem Held.nil {A : HV → Prop} (h : ∀ h, A h) : Held [] A := fun x _ => h x
abbrev byAt (h : HV) (l : List Int) (a : Option Addr) (c : Nat) : Prop := SlA (Kd.int .u8) 1 h l a c
theorem own_by {v : Value} {m : Nat} {xs : List Int} {F : HL} (h : OwnS 5 1 v m (xs.map (.int .u8)) F) (hb : isB xs) (hl : xs.length * 1 ≤ 140737488355328) :
    ∃ a c, v = .slice a m c ∧ m = xs.length ∧ Held F (fun h => byAt h xs a c) := by
  obtain ⟨a, c, rfl, hm, s⟩ := h.slA (by_ := 1) (fun y hy => inK_u8.2 (hb y hy)) hl
  exact ⟨a, c, by rw [hm], hm, Held.frag s (Mono.sl _ _ _ _ _)⟩

def wordsC : List Value := [.string (strOf wAsk), .int .i64 6, .string (strOf wCancel), .int .i64 0, .string (strOf wOk), .int .i64 0, .string (strOf wError), .int .i64 1, .string (strOf wText), .int .i64 0, .string (strOf wEnd), .int .i64 1]
structure libK (h : HV) : Prop where
  pow : ∃ t fz, h 4 = some (.cells ⟨Lib.pow10Tab.map (Value.int .u64)⟩ t fz)
  syn : ∃ tp p t fz, h 2 = some (.cells ⟨[.iface tp p]⟩ t fz)
  rng : ∃ tp p t fz, h 3 = some (.cells ⟨[.iface tp p]⟩ t fz)
  words : ∃ t fz, h 0 = some (.cells ⟨wordsC⟩ t fz)
theorem lib_mono : Mono libK := fun _ _ s h => ⟨by obtain ⟨t, fz, e⟩ := h.pow; exact ⟨t, fz, s _ _ e⟩, by obtain ⟨tp, p, t, fz, e⟩ := h.syn; exact ⟨tp, p, t, fz, s _ _ e⟩,
  by obtain ⟨tp, p, t, fz, e⟩ := h.rng; exact ⟨tp, p, t, fz, s _ _ e⟩, by obtain ⟨t, fz, e⟩ := h.words; exact ⟨t, fz, s _ _ e⟩⟩
theorem gPow : Tryd.prog.globalNamed "internal/strconv.uint64pow10" = some 4 := by kernel_rfl
theorem gSyn : Tryd.prog.globalNamed "strconv.ErrSyntax" = some 2 := by kernel_rfl
theorem gRng : Tryd.prog.globalNamed "strconv.ErrRange" = some 3 := by kernel_rfl
theorem gWords : Tryd.prog.globalNamed "augur/wire.words" = some 0 := by kernel_rfl
theorem var_of {w : World} {g : Nat} {nm : String} {cs : List Value} (hg : Tryd.prog.globalNamed nm = some g) (h : ∃ t fz, w.heap[g]? = some (.cells ⟨cs⟩ t fz)) : w.var? Tryd.prog nm = some ⟨cs⟩ := by
  obtain ⟨t, fz, e⟩ := h
  unfold World.var?
  rw [hg]
  show (match w.heap[g]? with | some (.cells cs _ _) => some cs | _ => none) = _
  rw [e]
theorem tab_of {w : World} (h : libK (hv w)) : Lib.TabIs Tryd.prog w "internal/strconv.uint64pow10" .u64 Lib.pow10Tab := by
  unfold Lib.TabIs
  rw [var_of gPow h.pow]
theorem grow_below (w : World) (k : Nat) (os : Array Obj) : Below w.heap.size w (Go.Sort.grow (w.drewN k) os) := by
  have hd : ∀ k, Below w.heap.size w (w.drewN k) := by
    intro k
    induction k with
    | zero => exact Below.refl _ _
    | succ k ih => exact ih.drew
  have h := hd k
  refine ⟨h.os, h.tape, h.output, ?_, fun b hb => ?_⟩
  · show w.heap.size ≤ ((w.drewN k).heap ++ os).size
    have := h.size
    rw [Array.size_append]; omega
  · show ((w.drewN k).heap ++ os)[b]? = _
    rw [Array.getElem?_append_left (by have := h.size; omega)]; exact h.block b hb

theorem itoa_fn (n : Int) (hn : inK .i64 n) : FC Tryd.prog 38 [.int .i64 n] [] libK (fun v L => v = .string (strOf (intL n)) ∧ L = []) := by
  have hn := inK_i64.1 hn
  refine FC.ofCalls (by kernel_rfl) fun w hw => (Tryd.strconv_Itoa n hn.1 hn.2 w (tab_of hw)).mono ?_
  rintro e w' ⟨rfl, k, os, rfl⟩
  exact ⟨_, rfl, by unfold intL; rw [strOf_ib], grow_below _ _ _⟩
theorem fmtInt_fn (n : Int) (hn : inK .i64 n) : FC Tryd.prog 53 [.int .i64 n, .int .i64 10] [] libK (fun v L => v = .string (strOf (intL n)) ∧ L = []) := by
  have hn := inK_i64.1 hn
  refine FC.ofCalls (by kernel_rfl) fun w hw => (Tryd.strconv_FormatInt_10 n hn.1 hn.2 w (tab_of hw)).mono ?_
  rintro e w' ⟨rfl, k, os, rfl⟩
  exact ⟨_, rfl, by unfold intL; rw [strOf_ib], grow_below _ _ _⟩
theorem u8_app (a b : List Int) : u8 (a ++ b) = u8 a ++ u8 b := by unfold u8; rw [List.map_append]
theorem cut_fn (t : List Int) (hB : isB t) : FC Tryd.prog 55 [.string (strOf t), .string ⟨#[32]⟩] [] (fun _ => True)
    (fun v L => v = .tuple #[.string (strOf (if t.head? = some 32 then t.drop 1 else t)), .bool (pd (t.head? = some 32))] ∧ L = []) := by
  refine FC.ofCalls (by kernel_rfl) fun w _ => (Tryd.strings_CutPrefix (strOf t) ⟨#[32]⟩ w).mono ?_
  rintro e w' ⟨rfl, rfl⟩
  refine ⟨_, rfl, ?_, Below.refl _ _⟩
  have hp : Lib.hasPrefix (strOf t).data.toList [32] = pd (t.head? = some 32) := by
    rw [strOf_data]
    cases t with
    | nil => rw [pdf (by simp)]; rfl
    | cons c t =>
      have hc := hB c (by simp)
      simp only [Lib.hasPrefix, u8, List.map_cons, List.isPrefixOf, List.head?_cons, Option.some.injEq]
      rw [pd_eq]
      by_cases h : c = 32
      · subst h; rfl
      · have h2 : ¬ (32 : UInt8) = UInt8.ofNat c.toNat := fun e => h (by
          have := congrArg UInt8.toNat e
          rw [UInt8.toNat_ofNat'] at this
          have h3 : (32 : UInt8).toNat = 32 := rfl
          omega)
        simp [h, h2]
  have ht : (⟨(Lib.trimPrefix (strOf t).data.toList [32]).toArray⟩ : ByteArray) = strOf (if t.head? = some 32 then t.drop 1 else t) := by
    unfold Lib.trimPrefix
    rw [hp]
    by_cases h : t.head? = some 32
    · rw [pdt h, if_pos rfl, if_pos h]
      show _ = ByteArray.mk (u8 (t.drop 1)).toArray
      rw [strOf_data]; unfold u8; rw [List.map_drop]; rfl
    · rw [pdf h, if_neg (by simp), if_neg h]
  show Value.tuple #[.string ⟨(Lib.trimPrefix (strOf t).data.toList [32]).toArray⟩, .bool (Lib.hasPrefix (strOf t).data.toList [32])] = _
  rw [ht, hp]
theorem index_head : ∀ (t : List Int), isB t → Lib.indexByte (u8 t) 32 = if (headW t).length < t.length then ((headW t).length : Int) else -1
  | [], _ => rfl
  | c :: t, hB => by
    have hc := hB c (by simp)
    have ih := index_head t fun x hx => hB x (by simp [hx])
    have hh : headW (c :: t) = if c = 32 then [] else c :: headW t := by
      unfold headW; rw [List.takeWhile_cons]
      by_cases h : c = 32
      · rw [if_neg (by simpa using h), if_pos h]
      · rw [if_pos (by simpa using h), if_neg h]
    have he : (UInt8.ofNat c.toNat == 32) = decide (c = 32) := by
      by_cases h : c = 32
      · subst h; rfl
      · have h2 : ¬ UInt8.ofNat c.toNat = (32 : UInt8) := fun e => h (by
          have := congrArg UInt8.toNat e
          rw [UInt8.toNat_ofNat'] at this
          have h3 : (32 : UInt8).toNat = 32 := rfl
          omega)
        simp [h, h2]
    show (if (UInt8.ofNat c.toNat == 32) = true then (0 : Int) else if (Lib.indexByte (u8 t) 32 == -1) = true then -1 else Lib.indexByte (u8 t) 32 + 1) = _
    rw [he, ih, hh]
    by_cases h : c = 32
    · rw [if_pos (by simp [h]), if_pos h]; simp
    · rw [if_neg (by simp [h]), if_neg h]
      by_cases h3 : (headW t).length < t.length
      · rw [if_pos h3, if_neg (fun e => by have := eq_of_beq e; omega), if_pos (by simp only [List.length_cons]; omega)]; simp
      · rw [if_neg h3, if_pos (show ((-1 : Int) == -1) = true from rfl), if_neg (by simp only [List.length_cons]; omega)]
theorem index_fn (t : List Int) (hB : isB t) : FC Tryd.prog 45 [.string (strOf t), .int .u8 32] [] (fun _ => True)
    (fun v L => v = .int .i64 (if (headW t).length < t.length then ((headW t).length : Int) else -1) ∧ L = []) := by
  refine FC.ofCalls (by kernel_rfl) fun w _ => (Tryd.strings_IndexByte (strOf t) 32 w).mono ?_
  rintro e w' ⟨rfl, rfl⟩
  refine ⟨_, rfl, ?_, Below.refl _ _⟩
  rw [strOf_data]
  exact congrArg (Value.int .i64) (index_head t hB)
/-- What strconv hands back beside a number. -/
def errV (ok : Bool) (v : Value) : Prop := match ok with | true => v = .nilIface | false => ∃ te pe, v = .iface te pe
theorem parseInt_fn (t : List Int) (hl : t.length ≤ 281474976710656) : FC Tryd.prog 52 [.string (strOf t), .int .i64 10, .int .i64 64] [] libK
    (fun v L => (∃ e, v = .tuple #[.int .i64 (pInt t).1, e] ∧ errV (pInt t).2 e) ∧ L = []) := by
  refine FC.ofCalls (by kernel_rfl) fun w hw => ?_
  have hs : (strOf t).size ≤ 281474976710656 := by rw [strOf_size]; exact hl
  obtain ⟨tp1, p1, t1, fz1, e1⟩ := hw.syn
  obtain ⟨tp2, p2, t2, fz2, e2⟩ := hw.rng
  cases h : Lib.parseIntB 64 (u8 t) with
  | ok v =>
    have hp : pInt t = (v, true) := by unfold pInt; rw [h]
    rw [hp]
    refine (Tryd.strconv_ParseInt_10_at64_ok (strOf t) (by omega) v h w).mono ?_
    rintro e w' ⟨rfl, hw'⟩
    refine ⟨_, rfl, ⟨_, rfl, rfl⟩, ?_⟩
    rcases hw' with rfl | ⟨t, rfl⟩
    · exact Below.refl _ _
    · exact Lib.bytesWorld_below _ _ _
  | «syntax» =>
    have hp : pInt t = (0, false) := by unfold pInt; rw [h]
    rw [hp]
    refine (Tryd.strconv_ParseInt_10_at64_syntax_var (strOf t) hs h tp1 p1 w (var_of gSyn ⟨t1, fz1, e1⟩)).mono ?_
    rintro e w' ⟨N, rfl, _, _, bel⟩
    exact ⟨_, rfl, ⟨_, rfl, _, _, rfl⟩, bel⟩
  | range =>
    have hp : pInt t = (Lib.intSat 64 (u8 t), false) := by unfold pInt; rw [h]
    rw [hp]
    refine (Tryd.strconv_ParseInt_10_at64_range_var (strOf t) hs h tp2 p2 w (var_of gRng ⟨t2, fz2, e2⟩)).mono ?_
    rintro e w' ⟨N, rfl, _, _, bel⟩
    exact ⟨_, rfl, ⟨_, rfl, _, _, rfl⟩, bel⟩
theorem parseUint_fn (t : List Int) (hl : t.length ≤ 281474976710656) : FC Tryd.prog 65 [.string (strOf t), .int .i64 10, .int .i64 64] [] libK
    (fun v L => (∃ e, v = .tuple #[.int .u64 (pUint t).1, e] ∧ errV (pUint t).2 e) ∧ L = []) := by
  refine FC.ofCalls (by kernel_rfl) fun w hw => ?_
  have hs : (strOf t).size ≤ 281474976710656 := by rw [strOf_size]; exact hl
  obtain ⟨tp1, p1, t1, fz1, e1⟩ := hw.syn
  obtain ⟨tp2, p2, t2, fz2, e2⟩ := hw.rng
  cases h : Lib.parseUintB 64 (u8 t) with
  | ok v =>
    have hp : pUint t = (((v : Nat) : Int), true) := by unfold pUint; rw [h]
    rw [hp]
    refine (Tryd.strconv_ParseUint_10_at64_ok (strOf t) (by omega) v h w).mono ?_
    rintro e w' ⟨rfl, hw'⟩
    refine ⟨_, rfl, ⟨_, rfl, rfl⟩, ?_⟩
    rcases hw' with rfl | rfl
    · exact Below.refl _ _
    · exact Lib.bytesWorld_below _ _ _
  | «syntax» =>
    have hp : pUint t = (0, false) := by unfold pUint; rw [h]
    rw [hp]
    refine (Tryd.strconv_ParseUint_10_at64_syntax_var (strOf t) hs h tp1 p1 w (var_of gSyn ⟨t1, fz1, e1⟩)).mono ?_
    rintro e w' ⟨N, rfl, _, _, bel⟩
    exact ⟨_, rfl, ⟨_, rfl, _, _, rfl⟩, bel⟩
  | range =>
    have hp : pUint t = (18446744073709551615, false) := by unfold pUint; rw [h]
    rw [hp]
    refine (Tryd.strconv_ParseUint_10_at64_range_var (strOf t) hs h tp2 p2 w (var_of gRng ⟨t2, fz2, e2⟩)).mono ?_
    rintro e w' ⟨N, rfl, _, _, bel⟩
    exact ⟨_, rfl, ⟨_, rfl, _, _, rfl⟩, bel⟩
end Go.Proofs.YtepfnakabafhlaaDoorX
/- What the seat's laid variables hold. -/
namespace Go.Proofs.YtepfnakabafhlaaDoorX
open Go Go.SX

theorem len2w {α : Type} {l : List α} (h : l.length = 2) : ∃ a b, l = [a, b] := by
  match l, h with
  | [a, b], _ => exact ⟨a, b, rfl⟩
theorem len6w {α : Type} {l : List α} (h : l.length = 6) : ∃ x0 x1 x2 x3 x4 x5, l = [x0, x1, x2, x3, x4, x5] := by
  match l, h with
  | [x0, x1, x2, x3, x4, x5], _ => exact ⟨x0, x1, x2, x3, x4, x5, rfl⟩
theorem len12w {α : Type} {l : List α} (h : l.length = 12) : ∃ c0 c1 c2 c3 c4 c5 c6 c7 c8 c9 c10 c11, l = [c0, c1, c2, c3, c4, c5, c6, c7, c8, c9, c10, c11] := by
  match l, h with
  | [c0, c1, c2, c3, c4, c5, c6, c7, c8, c9, c10, c11], _ => exact ⟨c0, c1, c2, c3, c4, c5, c6, c7, c8, c9, c10, c11, rfl⟩
theorem laid_at {P : Program} {w : World} : ∀ {laid : List (String × DataW Unit)} {ps : List MemPlace}, DataW.LaidVars P w laid ps → ∀ {n : String} {d : DataW Unit}, (n, d) ∈ laid →
    ∃ g t cs f p, P.globalNamed n = some g ∧ (P.globals[g]?).map (·.type) = some t ∧ w.var? P n = some cs ∧ DataW.trod (fun _ => ()) P w 0 (fun _ => true) false f t cs.toList = some (d, p)
  | [], _, _, _, _, hx => by cases hx
  | (m, e) :: r, _, ⟨g, t, cs, f, p, q, h1, h2, h3, h4, h5, _⟩, n, d, hx => by
    rcases List.mem_cons.1 hx with h | h
    · cases h; exact ⟨g, t, cs, f, p, h1, h2, h3, h4⟩
    · exact laid_at h5 h
theorem var_blk {w : World} {nm : String} {g : Nat} {cs : Array Value} {l : List Value} (hg : Tryd.prog.globalNamed nm = some g) (h : w.var? Tryd.prog nm = some cs) (hl : cs.toList = l) : ∃ t fz, hv w g = some (.cells ⟨l⟩ t fz) := by
  obtain ⟨l2⟩ := cs
  obtain rfl : l2 = l := hl
  simp only [World.var?, hg, Option.bind_some] at h
  split at h
  · rename_i c t fz e
    cases h
    exact ⟨t, fz, e⟩
  · cases h
theorem ints_of {W : World} {t e n : Nat} {k : IntKind} {l : List Int} {cs : List Value} {f : Nat} {p : List MemPlace} (ht : Tryd.prog.underlying t = some (.array n e)) (he : Tryd.prog.underlying e = some (.int k)) (hk : Tryd.prog.cellsOf e = 1) (hc : Tryd.prog.cellsOf t = n)
    (h : DataW.trod (fun _ => ()) Tryd.prog W 0 (fun _ => true) false f t cs = some (.agg (l.map fun i => DataW.lit (.int k i)), p)) : cs = l.map (.int k) := by
  obtain ⟨xs, m, rfl, hx, hl, hn, hf⟩ := DataW.trod_array ht h
  have hx1 : l.map (fun i => (DataW.lit (.int k i) : DataW Unit)) = xs.map (·.1) := DataW.agg.inj (congrArg Prod.fst hx)
  have hlen : l.length = n := by have := congrArg List.length hx1; simp only [List.length_map] at this; omega
  refine List.ext_getElem? fun i => ?_
  by_cases hi : i < n
  · have hh := hf i hi
    rw [hk] at hh
    obtain ⟨y, hy⟩ : ∃ y, xs[i]? = some y := ⟨_, List.getElem?_eq_getElem (by omega)⟩
    obtain ⟨v, hv, hy1, _⟩ := DataW.trod_int he (hh.trans hy)
    have e1 : cs[i]? = some (.int k v) := by
      have := congrArg (fun z : List Value => z[0]?) hv
      simpa using this
    obtain ⟨u, hu⟩ : ∃ u, l[i]? = some u := ⟨_, List.getElem?_eq_getElem (by omega)⟩
    have e2 := congrArg (fun z : List (DataW Unit) => z[i]?) hx1
    simp only [List.getElem?_map, hu, hy, hy1, Option.map_some, Option.some.injEq, DataW.lit.injEq, Lit.int.injEq, true_and] at e2
    rw [e1, List.getElem?_map, hu, e2]; rfl
  · rw [List.getElem?_eq_none (by omega), List.getElem?_eq_none (by rw [List.length_map]; omega)]
theorem wpair_of {W : World} {f : Nat} {cs : List Value} {d : DataW Unit} {p : List MemPlace} {a : List UInt8} {b : Int} (h : DataW.trod (fun _ => ()) Tryd.prog W 0 (fun _ => true) false f 83 cs = some (d, p))
    (hd : d = .agg [.lit (.string a), .lit (.int .i64 b)]) : cs = [.string ⟨⟨a⟩⟩, .int .i64 b] := by
  obtain ⟨y0, y1, n, hx, hl, h0, h1⟩ := Go.ChangeShapes.trod_struct2 Tryd.underlying83 h
  obtain ⟨s, e0, r0, _⟩ := DataW.trod_string Tryd.underlying9 h0
  obtain ⟨n1, e1, r1, _⟩ := DataW.trod_int Tryd.underlying3 h1
  subst hd
  simp only [Prod.mk.injEq, DataW.agg.injEq, List.cons.injEq, and_true] at hx
  rw [r0, r1] at hx
  simp only [DataW.lit.injEq, Lit.int.injEq, Lit.string.injEq, true_and] at hx
  obtain ⟨⟨rfl, rfl⟩, _⟩ := hx
  have hl2 : cs.length = 2 := hl.trans (by kernel_rfl)
  obtain ⟨c0, c1, rfl⟩ := len2w hl2
  have k1 : Tryd.prog.cellsOf 3 = 1 := by kernel_rfl
  have k2 : Tryd.prog.cellsOf 9 = 1 := by kernel_rfl
  simp only [k1, k2] at e0 e1
  simp at e0 e1
  rw [e0, e1]
theorem iface_of {P : Program} {W : World} {f t : Nat} {cs : List Value} {nm : String} {d : DataW Unit} {p : List MemPlace} {ms : Array (String × Nat)} (ht : P.underlying t = some (.interface ms)) (h : DataW.trod (fun _ => ()) P W 0 (fun _ => true) false f t cs = some (.iface nm d, p)) :
    ∃ u v, cs = [.iface u v] := by
  cases f with
  | zero => simp [DataW.trod] at h
  | succ f =>
    unfold DataW.trod at h
    rw [ht] at h
    split at h <;> simp_all
theorem lib_of {W : World} (h : laidMetH Tryd.prog [("math/bits.deBruijn32tab", Go.Proofs.YtepfnakabafhlaaDoor.Rows.laid_math_bits_deBruijn32tab), ("math/bits.deBruijn64tab", Go.Proofs.YtepfnakabafhlaaDoor.Rows.laid_math_bits_deBruijn64tab), ("internal/strconv.uint64pow10", Go.Proofs.YtepfnakabafhlaaDoor.Rows.laid_internal_strconv_uint64pow10), ("strconv.ErrRange", Go.Proofs.YtepfnakabafhlaaDoor.Rows.laid_strconv_ErrRange), ("strconv.ErrSyntax", Go.Proofs.YtepfnakabafhlaaDoor.Rows.laid_strconv_ErrSyntax), ("augur/wire.words", Go.Proofs.YtepfnakabafhlaaDoor.Rows.laid_augur_wire_words)] W) : libK (hv W) := by
  rw [MakeChecks.laidMetH_plain _ _ _ (by kernel_rfl)] at h
  obtain ⟨ps, hL, _, _⟩ := h
  refine ⟨?_, ?_, ?_, ?_⟩
  · obtain ⟨g, t, cs, f, p, h1, h2, h3, h4⟩ := laid_at hL (n := "internal/strconv.uint64pow10") (d := Go.Proofs.YtepfnakabafhlaaDoor.Rows.laid_internal_strconv_uint64pow10) (by simp)
    obtain rfl := Option.some.inj (gPow.symm.trans h1)
    obtain rfl : t = 112 := (Option.some.inj ((show (Tryd.prog.globals[4]?).map (·.type) = some 112 by kernel_rfl).symm.trans h2)).symm
    have e : Go.Proofs.YtepfnakabafhlaaDoor.Rows.laid_internal_strconv_uint64pow10 (H := Unit) = .agg (Lib.pow10Tab.map fun i => DataW.lit (.int .u64 i)) := by with_unfolding_all rfl
    rw [e] at h4
    exact var_blk gPow h3 (ints_of Tryd.underlying112 Tryd.underlying30 (by kernel_rfl) (by kernel_rfl) h4)
  · obtain ⟨g, t, cs, f, p, h1, h2, h3, h4⟩ := laid_at hL (n := "strconv.ErrSyntax") (d := Go.Proofs.YtepfnakabafhlaaDoor.Rows.laid_strconv_ErrSyntax) (by simp)
    obtain rfl := Option.some.inj (gSyn.symm.trans h1)
    obtain rfl : t = 86 := (Option.some.inj ((show (Tryd.prog.globals[2]?).map (·.type) = some 86 by kernel_rfl).symm.trans h2)).symm
    obtain ⟨u, v, e⟩ := iface_of Tryd.underlying86 h4
    obtain ⟨t, fz, hb⟩ := var_blk gSyn h3 e
    exact ⟨u, v, t, fz, hb⟩
  · obtain ⟨g, t, cs, f, p, h1, h2, h3, h4⟩ := laid_at hL (n := "strconv.ErrRange") (d := Go.Proofs.YtepfnakabafhlaaDoor.Rows.laid_strconv_ErrRange) (by simp)
    obtain rfl := Option.some.inj (gRng.symm.trans h1)
    obtain rfl : t = 86 := (Option.some.inj ((show (Tryd.prog.globals[3]?).map (·.type) = some 86 by kernel_rfl).symm.trans h2)).symm
    obtain ⟨u, v, e⟩ := iface_of Tryd.underlying86 h4
    obtain ⟨t, fz, hb⟩ := var_blk gRng h3 e
    exact ⟨u, v, t, fz, hb⟩
  · obtain ⟨g, t, cs, f, p, h1, h2, h3, h4⟩ := laid_at hL (n := "augur/wire.words") (d := Go.Proofs.YtepfnakabafhlaaDoor.Rows.laid_augur_wire_words) (by simp)
    obtain rfl := Option.some.inj (gWords.symm.trans h1)
    obtain rfl : t = 84 := (Option.some.inj ((show (Tryd.prog.globals[0]?).map (·.type) = some 84 by kernel_rfl).symm.trans h2)).symm
    obtain ⟨xs, m, rfl, hx, hl, hn, hf⟩ := DataW.trod_array Tryd.underlying84 h4
    have hl12 : cs.toList.length = 12 := hl.trans (by kernel_rfl)
    have k2 : Tryd.prog.cellsOf 83 = 2 := by kernel_rfl
    simp only [Go.Proofs.YtepfnakabafhlaaDoor.Rows.laid_augur_wire_words, Prod.mk.injEq, DataW.agg.injEq] at hx
    obtain ⟨hx, _⟩ := hx
    obtain ⟨x0, x1, x2, x3, x4, x5, rfl⟩ := len6w hn
    simp only [List.map_cons, List.map_nil, List.cons.injEq, and_true] at hx
    obtain ⟨d0, d1, d2, d3, d4, d5⟩ := hx
    have g0 := wpair_of (f := m) (d := x0.1) (p := x0.2) (hf 0 (by omega)) d0.symm
    have g1 := wpair_of (f := m) (d := x1.1) (p := x1.2) (hf 1 (by omega)) d1.symm
    have g2 := wpair_of (f := m) (d := x2.1) (p := x2.2) (hf 2 (by omega)) d2.symm
    have g3 := wpair_of (f := m) (d := x3.1) (p := x3.2) (hf 3 (by omega)) d3.symm
    have g4 := wpair_of (f := m) (d := x4.1) (p := x4.2) (hf 4 (by omega)) d4.symm
    have g5 := wpair_of (f := m) (d := x5.1) (p := x5.2) (hf 5 (by omega)) d5.symm
    obtain ⟨c0, c1, c2, c3, c4, c5, c6, c7, c8, c9, c10, c11, hcs⟩ := len12w hl12
    rw [hcs] at g0 g1 g2 g3 g4 g5
    simp [k2] at g0 g1 g2 g3 g4 g5
    refine var_blk gWords h3 ?_
    rw [hcs, g0.1, g0.2, g1.1, g1.2, g2.1, g2.2, g3.1, g3.2, g4.1, g4.2, g5.1, g5.2]; rfl
end Go.Proofs.YtepfnakabafhlaaDoorX
/- A literal at the head of a text, read by the program. -/
namespace Go.Proofs.YtepfnakabafhlaaDoorX
open Go Go.SX

theorem hex_fn (c : Int) (hc : 0 ≤ c ∧ c ≤ 255) : FC Tryd.prog 42 [.int .u8 c] [] (fun _ => True) (fun v L => v = .int .i64 (hexV c) ∧ L = []) := by
  refine FC.nil ?_
  refine FC.intro Tryd.func42 rfl (by kernel_rfl) 13 [.tmp 2] rfl rfl rfl ?_
  intro w0 _
  (repeat (first | (with_reducible apply XL.op) | ((with_reducible apply XOp.p1); (case hg | hv => exact rfl)) | (with_reducible apply XL.nilT) | (with_reducible apply XC.seq) | (with_reducible apply XC.region (Γ := Γ)) | (with_reducible apply XC.block)))
  refine XC.loop (fun k ρ L => ∃ i : Nat, i + k = 16 ∧ L = [] ∧ (∀ j : Nat, j < i → dig j ≠ c) ∧ Slots ρ [(0, .int .u8 c), (4, .int .i64 i)])
    16 ⟨0, rfl, rfl, (fun j hj => by omega), rfl, rfl, trivial⟩ ?_
  rintro k ρ L ⟨i, hik, rfl, hno, hs⟩
  refine XC.slots _ hs ?_
  (repeat (first | (with_reducible apply XL.op) | ((with_reducible apply XOp.p1); (case hg | hv => exact rfl)) | (with_reducible apply XL.nilT) | (with_reducible apply XC.seq) | (with_reducible apply XC.region (Γ := Γ))))
  ((with_reducible apply XC.cond); (case hc => exact rfl); all_goals (intro hb_; try simp only [pd_true, pd_false, Bool.not_eq_true', Bool.not_eq_false', Bool.and_eq_true, Bool.and_eq_false_iff, Bool.or_eq_true, Bool.or_eq_false_iff, not_true_eq_false, not_false_eq_true, Int.not_lt, Int.not_le] at hb_))
  · have hr : 0 ≤ ((i : Nat) : Int) ∧ ((i : Nat) : Int) < ((⟨#[48, 49, 50, 51, 52, 53, 54, 55, 56, 57, 97, 98, 99, 100, 101, 102]⟩ : ByteArray).size : Int) := by
      rw [show ((⟨#[48, 49, 50, 51, 52, 53, 54, 55, 56, 57, 97, 98, 99, 100, 101, 102]⟩ : ByteArray).size : Int) = 16 from rfl]; omega
    (repeat (first | (with_reducible apply XL.op) | ((with_reducible apply XOp.p1); (case hg | hv => exact rfl)) | ((with_reducible apply XOp.pr); (case hg => exact rfl); (case hr => ((with_reducible apply PR.sidx); (case ht | hk | hx | hi => exact rfl); (case hr => first | assumption | omega)))) | (with_reducible apply XL.nilT) | (with_reducible apply XC.seq) | (with_reducible apply XC.region (Γ := Γ)) | (with_reducible apply XQ.skip) | (with_reducible apply XQ.nt) | (with_reducible apply XC.block)))
    rw [digAt (n := ((i : Nat) : Int)) (by omega)]
    ((with_reducible apply XC.cond); (case hc => exact rfl); all_goals (intro hb_; try simp only [pd_true, pd_false, Bool.not_eq_true', Bool.not_eq_false', Bool.and_eq_true, Bool.and_eq_false_iff, Bool.or_eq_true, Bool.or_eq_false_iff, not_true_eq_false, not_false_eq_true, Int.not_lt, Int.not_le] at hb_))
    · (repeat (first | (with_reducible apply XL.op) | ((with_reducible apply XOp.p1); (case hg | hv => exact rfl)) | (with_reducible apply XL.nilT) | (with_reducible apply XC.seq) | (with_reducible apply XC.region (Γ := Γ)) | (with_reducible apply XQ.ret) | (with_reducible apply XQ.rt) | (with_reducible apply XQ.rb)))
      ((with_reducible apply XQ.retE); (case hr => exact .t rfl .nil))
      show Value.int _ _ = Value.int _ _
      rw [← hb_, hexV_dig (by omega)]
    · (repeat (first | (with_reducible apply XL.op) | ((with_reducible apply XOp.p1); (case hg | hv => exact rfl)) | (with_reducible apply XL.nilT) | (with_reducible apply XC.region (Γ := Γ)) | (with_reducible apply XQ.skip) | (with_reducible apply XQ.nt) | (with_reducible apply XQ.nb)))
      refine ⟨k - 1, by omega, i + 1, by omega, rfl, fun j hj => ?_, rfl, intS (m := 16) (by omega) (by omega), trivial⟩
      by_cases h : j < i
      · exact hno j h
      · obtain rfl : j = i := by omega
        exact hb_
  · (repeat (first | (with_reducible apply XL.op) | ((with_reducible apply XOp.p1); (case hg | hv => exact rfl)) | (with_reducible apply XL.nilT) | (with_reducible apply XC.seq) | (with_reducible apply XC.region (Γ := Γ)) | (with_reducible apply XQ.ret) | (with_reducible apply XQ.exit) | (with_reducible apply XQ.nt) | (with_reducible apply XQ.et) | ((with_reducible apply XQ.eb); (case hb => exact rfl))))
    ((with_reducible apply XQ.retE); (case hr => exact .t rfl .nil))
    show Value.int _ _ = Value.int _ _
    have h1 : hexV c = -1 := by
      by_cases h : 0 ≤ hexV c
      · obtain ⟨h2, h3⟩ := dig_hexV h
        refine absurd ?_ (hno (hexV c).toNat (by omega))
        rw [show ((hexV c).toNat : Int) = hexV c by omega]; exact h3
      · unfold hexV at h ⊢; split at h
        · omega
        · split at h
          · omega
          · rw [if_neg (by assumption), if_neg (by assumption)]
    rw [h1]
theorem or16 {a b : Int} (ha : 0 ≤ a ∧ a < 16) (hb : 0 ≤ b ∧ b < 16) : IntKind.u8.wrap (bitsV .or .i64 (IntKind.i64.wrap (a * 2 ^ min (Int.toNat 4) IntKind.i64.bits)) b) = 16 * a + b := by
  obtain ⟨m, rfl⟩ := Int.eq_ofNat_of_zero_le ha.1
  obtain ⟨n, rfl⟩ := Int.eq_ofNat_of_zero_le hb.1
  have : ∀ x y : Fin 16, IntKind.u8.wrap (bitsV .or .i64 (IntKind.i64.wrap ((x.1 : Int) * 2 ^ min (Int.toNat 4) IntKind.i64.bits)) (y.1 : Int)) = 16 * (x.1 : Int) + (y.1 : Int) := by decide +kernel
  exact this ⟨m, by omega⟩ ⟨n, by omega⟩
theorem plainR_fn (c : Int) : FC Tryd.prog 41 [.int .u8 c] [] (fun _ => True) (fun v L => v = .bool (pd (isPlain c)) ∧ L = []) := plain_fn c
set_option maxHeartbeats 4000000 in
theorem escape_fn (r : List Int) (hB : isB (92 :: r)) : FC Tryd.prog 26 [.string (strOf (92 :: r))] [] (fun _ => True)
    (fun v L => v = .tuple #[.int .u8 (escV (92 :: r)).1, .int .i64 (((escV (92 :: r)).2 : Nat) : Int)] ∧ L = []) := by
  refine FC.nil ?_
  refine FC.intro Tryd.func26 rfl (by kernel_rfl) 60 [.tmp 2, .tmp 3] rfl rfl rfl ?_
  intro w0 _
  have hok := isB_ok hB
  match r, hB, hok with
  | [], hB, hok =>
    (repeat (first | (with_reducible apply XL.op) | ((with_reducible apply XOp.p1); (case hg | hv => exact rfl)) | (with_reducible apply XL.nilT) | (with_reducible apply XC.seq) | (with_reducible apply XC.region (Γ := Γ))))
    rw [show ((strOf [92]).size : Int) = 1 from rfl]
    (repeat (first | (with_reducible apply XL.op) | ((with_reducible apply XOp.p1); (case hg | hv => exact rfl)) | ((with_reducible apply XOp.p0); (case hg => exact rfl)) | (with_reducible apply XL.nilT) | (with_reducible apply XC.seq) | (with_reducible apply XC.region (Γ := Γ)) | (with_reducible apply XQ.skip) | (with_reducible apply XQ.ret) | (with_reducible apply XQ.nt) | (with_reducible apply XQ.rt) | ((with_reducible apply XC.condT); (case hc => exact rfl)) | ((with_reducible apply XC.condF); (case hc => exact rfl)) | (first | ((with_reducible apply XOp.split); (case hg | hj | hd | hb => exact rfl); (fail_if_success (case hf => exact fun h => Bool.noConfusion h)); (fail_if_success (case ht => exact fun h => Bool.noConfusion h)); (first | (case ht => intro hb_; try simp only [pd_true, pd_false, Bool.not_eq_true', Bool.not_eq_false', Bool.and_eq_true, Bool.and_eq_false_iff, Bool.or_eq_true, Bool.or_eq_false_iff, not_true_eq_false, not_false_eq_true, Int.not_lt, Int.not_le] at hb_; first | done | (exfalso; first | omega | contradiction)) | (case hf => intro hb_; try simp only [pd_true, pd_false, Bool.not_eq_true', Bool.not_eq_false', Bool.and_eq_true, Bool.and_eq_false_iff, Bool.or_eq_true, Bool.or_eq_false_iff, not_true_eq_false, not_false_eq_true, Int.not_lt, Int.not_le] at hb_; first | done | (exfalso; first | omega | contradiction))); intro hb_; try simp only [pd_true, pd_false, Bool.not_eq_true', Bool.not_eq_false', Bool.and_eq_true, Bool.and_eq_false_iff, Bool.or_eq_true, Bool.or_eq_false_iff, not_true_eq_false, not_false_eq_true, Int.not_lt, Int.not_le] at hb_) | ((with_reducible apply XP.split); (case ho | hg | hj | hd | hb => exact rfl); (fail_if_success (case hf => exact fun h => Bool.noConfusion h)); (fail_if_success (case ht => exact fun h => Bool.noConfusion h)); (first | (case ht => intro hb_; try simp only [pd_true, pd_false, Bool.not_eq_true', Bool.not_eq_false', Bool.and_eq_true, Bool.and_eq_false_iff, Bool.or_eq_true, Bool.or_eq_false_iff, not_true_eq_false, not_false_eq_true, Int.not_lt, Int.not_le] at hb_; first | done | (exfalso; first | omega | contradiction)) | (case hf => intro hb_; try simp only [pd_true, pd_false, Bool.not_eq_true', Bool.not_eq_false', Bool.and_eq_true, Bool.and_eq_false_iff, Bool.or_eq_true, Bool.or_eq_false_iff, not_true_eq_false, not_false_eq_true, Int.not_lt, Int.not_le] at hb_; first | done | (exfalso; first | omega | contradiction))); intro hb_; try simp only [pd_true, pd_false, Bool.not_eq_true', Bool.not_eq_false', Bool.and_eq_true, Bool.and_eq_false_iff, Bool.or_eq_true, Bool.or_eq_false_iff, not_true_eq_false, not_false_eq_true, Int.not_lt, Int.not_le] at hb_) | ((with_reducible apply XC.cond); (case hc => exact rfl); (first | (case ht => intro hb_; try simp only [pd_true, pd_false, Bool.not_eq_true', Bool.not_eq_false', Bool.and_eq_true, Bool.and_eq_false_iff, Bool.or_eq_true, Bool.or_eq_false_iff, not_true_eq_false, not_false_eq_true, Int.not_lt, Int.not_le] at hb_; first | done | (exfalso; first | omega | contradiction)) | (case hf => intro hb_; try simp only [pd_true, pd_false, Bool.not_eq_true', Bool.not_eq_false', Bool.and_eq_true, Bool.and_eq_false_iff, Bool.or_eq_true, Bool.or_eq_false_iff, not_true_eq_false, not_false_eq_true, Int.not_lt, Int.not_le] at hb_; first | done | (exfalso; first | omega | contradiction))); intro hb_; try simp only [pd_true, pd_false, Bool.not_eq_true', Bool.not_eq_false', Bool.and_eq_true, Bool.and_eq_false_iff, Bool.or_eq_true, Bool.or_eq_false_iff, not_true_eq_false, not_false_eq_true, Int.not_lt, Int.not_le] at hb_))))
    rw [show ((strOf [92]).size : Int) = 1 from rfl]
    skip
    ((with_reducible apply XQ.retE); (case hr => exact .t rfl (.t rfl .nil)))
    rfl
  | y :: r, hB, hok =>
    have hsz : ((strOf (92 :: y :: r)).size : Int) = (r.length : Int) + 2 := by rw [strOf_size]; simp only [List.length_cons]; omega
    have h1 : (0 : Int) ≤ 1 ∧ (1 : Int) < ((strOf (92 :: y :: r)).size : Int) := by rw [hsz]; omega
    have e1 : byteAt (strOf (92 :: y :: r)) (Int.toNat 1) = y := byteAt_strOf hok rfl
    have hy := hB y (by simp)
    (repeat (first | (with_reducible apply XL.op) | ((with_reducible apply XOp.p1); (case hg | hv => exact rfl)) | (with_reducible apply XL.nilT) | (with_reducible apply XC.seq) | (with_reducible apply XC.region (Γ := Γ))))
    rw [hsz]
    (repeat (first | (with_reducible apply XL.op) | ((with_reducible apply XOp.p1); (case hg | hv => exact rfl)) | ((with_reducible apply XOp.pr); (case hg => exact rfl); (case hr => ((with_reducible apply PR.sidx); (case ht | hk | hx | hi => exact rfl); (case hr => first | assumption | omega)))) | (first | ((with_reducible apply XOp.split); (case hg | hj | hd | hb => exact rfl); (fail_if_success (case hf => exact fun h => Bool.noConfusion h)); (fail_if_success (case ht => exact fun h => Bool.noConfusion h)); (first | (case ht => intro hb_; try simp only [pd_true, pd_false, Bool.not_eq_true', Bool.not_eq_false', Bool.and_eq_true, Bool.and_eq_false_iff, Bool.or_eq_true, Bool.or_eq_false_iff, not_true_eq_false, not_false_eq_true, Int.not_lt, Int.not_le] at hb_; first | done | (exfalso; first | omega | contradiction)) | (case hf => intro hb_; try simp only [pd_true, pd_false, Bool.not_eq_true', Bool.not_eq_false', Bool.and_eq_true, Bool.and_eq_false_iff, Bool.or_eq_true, Bool.or_eq_false_iff, not_true_eq_false, not_false_eq_true, Int.not_lt, Int.not_le] at hb_; first | done | (exfalso; first | omega | contradiction))); intro hb_; try simp only [pd_true, pd_false, Bool.not_eq_true', Bool.not_eq_false', Bool.and_eq_true, Bool.and_eq_false_iff, Bool.or_eq_true, Bool.or_eq_false_iff, not_true_eq_false, not_false_eq_true, Int.not_lt, Int.not_le] at hb_) | ((with_reducible apply XP.split); (case ho | hg | hj | hd | hb => exact rfl); (fail_if_success (case hf => exact fun h => Bool.noConfusion h)); (fail_if_success (case ht => exact fun h => Bool.noConfusion h)); (first | (case ht => intro hb_; try simp only [pd_true, pd_false, Bool.not_eq_true', Bool.not_eq_false', Bool.and_eq_true, Bool.and_eq_false_iff, Bool.or_eq_true, Bool.or_eq_false_iff, not_true_eq_false, not_false_eq_true, Int.not_lt, Int.not_le] at hb_; first | done | (exfalso; first | omega | contradiction)) | (case hf => intro hb_; try simp only [pd_true, pd_false, Bool.not_eq_true', Bool.not_eq_false', Bool.and_eq_true, Bool.and_eq_false_iff, Bool.or_eq_true, Bool.or_eq_false_iff, not_true_eq_false, not_false_eq_true, Int.not_lt, Int.not_le] at hb_; first | done | (exfalso; first | omega | contradiction))); intro hb_; try simp only [pd_true, pd_false, Bool.not_eq_true', Bool.not_eq_false', Bool.and_eq_true, Bool.and_eq_false_iff, Bool.or_eq_true, Bool.or_eq_false_iff, not_true_eq_false, not_false_eq_true, Int.not_lt, Int.not_le] at hb_) | ((with_reducible apply XC.cond); (case hc => exact rfl); (first | (case ht => intro hb_; try simp only [pd_true, pd_false, Bool.not_eq_true', Bool.not_eq_false', Bool.and_eq_true, Bool.and_eq_false_iff, Bool.or_eq_true, Bool.or_eq_false_iff, not_true_eq_false, not_false_eq_true, Int.not_lt, Int.not_le] at hb_; first | done | (exfalso; first | omega | contradiction)) | (case hf => intro hb_; try simp only [pd_true, pd_false, Bool.not_eq_true', Bool.not_eq_false', Bool.and_eq_true, Bool.and_eq_false_iff, Bool.or_eq_true, Bool.or_eq_false_iff, not_true_eq_false, not_false_eq_true, Int.not_lt, Int.not_le] at hb_; first | done | (exfalso; first | omega | contradiction))); intro hb_; try simp only [pd_true, pd_false, Bool.not_eq_true', Bool.not_eq_false', Bool.and_eq_true, Bool.and_eq_false_iff, Bool.or_eq_true, Bool.or_eq_false_iff, not_true_eq_false, not_false_eq_true, Int.not_lt, Int.not_le] at hb_)) | (first | ((with_reducible apply XOp.pr); (case hg => exact rfl); (case hr => (with_reducible apply PR.sidx); (case ht => exact rfl); (case hk => exact rfl); (case hx => exact rfl); (case hi => exact rfl); (case hr => exact h1))) | ((with_reducible apply XP.pr); (case ho => exact rfl); (case hg => exact rfl); (case hr => (with_reducible apply PR.sidx); (case ht => exact rfl); (case hk => exact rfl); (case hx => exact rfl); (case hi => exact rfl); (case hr => exact h1))))))
    rw [e1]
    skip
    by_cases h34 : y = 34
    · have hv : escV (92 :: y :: r) = (y, 2) := by unfold escV; simp only [h34, true_or, if_true]
      rw [hv, pdt h34]
      (repeat (first | (with_reducible apply XL.op) | ((with_reducible apply XOp.p1); (case hg | hv => exact rfl)) | ((with_reducible apply XOp.p0); (case hg => exact rfl)) | ((with_reducible apply XOp.pr); (case hg => exact rfl); (case hr => ((with_reducible apply PR.sidx); (case ht | hk | hx | hi => exact rfl); (case hr => first | assumption | omega)))) | (with_reducible apply XL.nilT) | (with_reducible apply XC.seq) | (with_reducible apply XC.region (Γ := Γ)) | (with_reducible apply XQ.ret) | (with_reducible apply XQ.rt) | ((with_reducible apply XC.condT); (case hc => exact rfl))))
      rw [e1]
      skip
      ((with_reducible apply XQ.retE); (case hr => exact .t rfl (.t rfl .nil)))
      rfl
    rw [pdf h34]
    (repeat (first | (with_reducible apply XL.op) | ((with_reducible apply XOp.p1); (case hg | hv => exact rfl)) | ((with_reducible apply XOp.pr); (case hg => exact rfl); (case hr => ((with_reducible apply PR.sidx); (case ht | hk | hx | hi => exact rfl); (case hr => first | assumption | omega)))) | (with_reducible apply XL.nilT)))
    rw [e1]
    skip
    by_cases h92 : y = 92
    · have hv : escV (92 :: y :: r) = (y, 2) := by unfold escV; simp only [h92, or_true, if_true]
      rw [hv, pdt h92]
      (repeat (first | (with_reducible apply XL.op) | ((with_reducible apply XOp.p1); (case hg | hv => exact rfl)) | ((with_reducible apply XOp.pr); (case hg => exact rfl); (case hr => ((with_reducible apply PR.sidx); (case ht | hk | hx | hi => exact rfl); (case hr => first | assumption | omega)))) | (with_reducible apply XL.nilT) | (with_reducible apply XC.seq) | (with_reducible apply XC.region (Γ := Γ)) | (with_reducible apply XQ.ret) | (with_reducible apply XQ.rt) | ((with_reducible apply XC.condT); (case hc => exact rfl))))
      rw [e1]
      skip
      ((with_reducible apply XQ.retE); (case hr => exact .t rfl (.t rfl .nil)))
      rfl
    rw [pdf h92]
    (repeat (first | (with_reducible apply XL.op) | ((with_reducible apply XOp.p1); (case hg | hv => exact rfl)) | (with_reducible apply XC.seq) | (with_reducible apply XC.region (Γ := Γ)) | (with_reducible apply XQ.skip) | (with_reducible apply XQ.nt) | ((with_reducible apply XC.condF); (case hc => exact rfl))))
    rw [hsz]
    have hno : ¬ (y = 34 ∨ y = 92) := by omega
    match r, hB, hok, hsz, h1, e1 with
    | [], hB, hok, hsz, h1, e1 =>
      have hv : escV (92 :: y :: []) = (0, 0) := by unfold escV; simp only [hno, if_false]
      rw [hv]
      (repeat (first | (with_reducible apply XL.op) | ((with_reducible apply XOp.p1); (case hg | hv => exact rfl)) | ((with_reducible apply XOp.p0); (case hg => exact rfl)) | (with_reducible apply XL.nilT) | (with_reducible apply XC.seq) | (with_reducible apply XC.region (Γ := Γ)) | (with_reducible apply XQ.ret) | (with_reducible apply XQ.rt) | ((with_reducible apply XC.condT); (case hc => exact rfl)) | (first | ((with_reducible apply XOp.split); (case hg | hj | hd | hb => exact rfl); (fail_if_success (case hf => exact fun h => Bool.noConfusion h)); (fail_if_success (case ht => exact fun h => Bool.noConfusion h)); (first | (case ht => intro hb_; try simp only [pd_true, pd_false, Bool.not_eq_true', Bool.not_eq_false', Bool.and_eq_true, Bool.and_eq_false_iff, Bool.or_eq_true, Bool.or_eq_false_iff, not_true_eq_false, not_false_eq_true, Int.not_lt, Int.not_le] at hb_; first | done | (exfalso; first | omega | contradiction)) | (case hf => intro hb_; try simp only [pd_true, pd_false, Bool.not_eq_true', Bool.not_eq_false', Bool.and_eq_true, Bool.and_eq_false_iff, Bool.or_eq_true, Bool.or_eq_false_iff, not_true_eq_false, not_false_eq_true, Int.not_lt, Int.not_le] at hb_; first | done | (exfalso; first | omega | contradiction))); intro hb_; try simp only [pd_true, pd_false, Bool.not_eq_true', Bool.not_eq_false', Bool.and_eq_true, Bool.and_eq_false_iff, Bool.or_eq_true, Bool.or_eq_false_iff, not_true_eq_false, not_false_eq_true, Int.not_lt, Int.not_le] at hb_) | ((with_reducible apply XP.split); (case ho | hg | hj | hd | hb => exact rfl); (fail_if_success (case hf => exact fun h => Bool.noConfusion h)); (fail_if_success (case ht => exact fun h => Bool.noConfusion h)); (first | (case ht => intro hb_; try simp only [pd_true, pd_false, Bool.not_eq_true', Bool.not_eq_false', Bool.and_eq_true, Bool.and_eq_false_iff, Bool.or_eq_true, Bool.or_eq_false_iff, not_true_eq_false, not_false_eq_true, Int.not_lt, Int.not_le] at hb_; first | done | (exfalso; first | omega | contradiction)) | (case hf => intro hb_; try simp only [pd_true, pd_false, Bool.not_eq_true', Bool.not_eq_false', Bool.and_eq_true, Bool.and_eq_false_iff, Bool.or_eq_true, Bool.or_eq_false_iff, not_true_eq_false, not_false_eq_true, Int.not_lt, Int.not_le] at hb_; first | done | (exfalso; first | omega | contradiction))); intro hb_; try simp only [pd_true, pd_false, Bool.not_eq_true', Bool.not_eq_false', Bool.and_eq_true, Bool.and_eq_false_iff, Bool.or_eq_true, Bool.or_eq_false_iff, not_true_eq_false, not_false_eq_true, Int.not_lt, Int.not_le] at hb_) | ((with_reducible apply XC.cond); (case hc => exact rfl); (first | (case ht => intro hb_; try simp only [pd_true, pd_false, Bool.not_eq_true', Bool.not_eq_false', Bool.and_eq_true, Bool.and_eq_false_iff, Bool.or_eq_true, Bool.or_eq_false_iff, not_true_eq_false, not_false_eq_true, Int.not_lt, Int.not_le] at hb_; first | done | (exfalso; first | omega | contradiction)) | (case hf => intro hb_; try simp only [pd_true, pd_false, Bool.not_eq_true', Bool.not_eq_false', Bool.and_eq_true, Bool.and_eq_false_iff, Bool.or_eq_true, Bool.or_eq_false_iff, not_true_eq_false, not_false_eq_true, Int.not_lt, Int.not_le] at hb_; first | done | (exfalso; first | omega | contradiction))); intro hb_; try simp only [pd_true, pd_false, Bool.not_eq_true', Bool.not_eq_false', Bool.and_eq_true, Bool.and_eq_false_iff, Bool.or_eq_true, Bool.or_eq_false_iff, not_true_eq_false, not_false_eq_true, Int.not_lt, Int.not_le] at hb_))))
      ((with_reducible apply XQ.retE); (case hr => exact .t rfl (.t rfl .nil)))
      rfl
    | [z], hB, hok, hsz, h1, e1 =>
      have hv : escV (92 :: y :: [z]) = (0, 0) := by unfold escV; simp only [hno, if_false]
      rw [hv]
      (repeat (first | (with_reducible apply XL.op) | ((with_reducible apply XOp.p1); (case hg | hv => exact rfl)) | ((with_reducible apply XOp.p0); (case hg => exact rfl)) | (with_reducible apply XL.nilT) | (with_reducible apply XC.seq) | (with_reducible apply XC.region (Γ := Γ)) | (with_reducible apply XQ.ret) | (with_reducible apply XQ.rt) | ((with_reducible apply XC.condT); (case hc => exact rfl)) | (first | ((with_reducible apply XOp.split); (case hg | hj | hd | hb => exact rfl); (fail_if_success (case hf => exact fun h => Bool.noConfusion h)); (fail_if_success (case ht => exact fun h => Bool.noConfusion h)); (first | (case ht => intro hb_; try simp only [pd_true, pd_false, Bool.not_eq_true', Bool.not_eq_false', Bool.and_eq_true, Bool.and_eq_false_iff, Bool.or_eq_true, Bool.or_eq_false_iff, not_true_eq_false, not_false_eq_true, Int.not_lt, Int.not_le] at hb_; first | done | (exfalso; first | omega | contradiction)) | (case hf => intro hb_; try simp only [pd_true, pd_false, Bool.not_eq_true', Bool.not_eq_false', Bool.and_eq_true, Bool.and_eq_false_iff, Bool.or_eq_true, Bool.or_eq_false_iff, not_true_eq_false, not_false_eq_true, Int.not_lt, Int.not_le] at hb_; first | done | (exfalso; first | omega | contradiction))); intro hb_; try simp only [pd_true, pd_false, Bool.not_eq_true', Bool.not_eq_false', Bool.and_eq_true, Bool.and_eq_false_iff, Bool.or_eq_true, Bool.or_eq_false_iff, not_true_eq_false, not_false_eq_true, Int.not_lt, Int.not_le] at hb_) | ((with_reducible apply XP.split); (case ho | hg | hj | hd | hb => exact rfl); (fail_if_success (case hf => exact fun h => Bool.noConfusion h)); (fail_if_success (case ht => exact fun h => Bool.noConfusion h)); (first | (case ht => intro hb_; try simp only [pd_true, pd_false, Bool.not_eq_true', Bool.not_eq_false', Bool.and_eq_true, Bool.and_eq_false_iff, Bool.or_eq_true, Bool.or_eq_false_iff, not_true_eq_false, not_false_eq_true, Int.not_lt, Int.not_le] at hb_; first | done | (exfalso; first | omega | contradiction)) | (case hf => intro hb_; try simp only [pd_true, pd_false, Bool.not_eq_true', Bool.not_eq_false', Bool.and_eq_true, Bool.and_eq_false_iff, Bool.or_eq_true, Bool.or_eq_false_iff, not_true_eq_false, not_false_eq_true, Int.not_lt, Int.not_le] at hb_; first | done | (exfalso; first | omega | contradiction))); intro hb_; try simp only [pd_true, pd_false, Bool.not_eq_true', Bool.not_eq_false', Bool.and_eq_true, Bool.and_eq_false_iff, Bool.or_eq_true, Bool.or_eq_false_iff, not_true_eq_false, not_false_eq_true, Int.not_lt, Int.not_le] at hb_) | ((with_reducible apply XC.cond); (case hc => exact rfl); (first | (case ht => intro hb_; try simp only [pd_true, pd_false, Bool.not_eq_true', Bool.not_eq_false', Bool.and_eq_true, Bool.and_eq_false_iff, Bool.or_eq_true, Bool.or_eq_false_iff, not_true_eq_false, not_false_eq_true, Int.not_lt, Int.not_le] at hb_; first | done | (exfalso; first | omega | contradiction)) | (case hf => intro hb_; try simp only [pd_true, pd_false, Bool.not_eq_true', Bool.not_eq_false', Bool.and_eq_true, Bool.and_eq_false_iff, Bool.or_eq_true, Bool.or_eq_false_iff, not_true_eq_false, not_false_eq_true, Int.not_lt, Int.not_le] at hb_; first | done | (exfalso; first | omega | contradiction))); intro hb_; try simp only [pd_true, pd_false, Bool.not_eq_true', Bool.not_eq_false', Bool.and_eq_true, Bool.and_eq_false_iff, Bool.or_eq_true, Bool.or_eq_false_iff, not_true_eq_false, not_false_eq_true, Int.not_lt, Int.not_le] at hb_))))
      ((with_reducible apply XQ.retE); (case hr => exact .t rfl (.t rfl .nil)))
      rfl
    | p :: q :: r, hB, hok, hsz, h1, e1 =>
      have hp := hB p (by simp)
      have hq := hB q (by simp)
      have hsz2 : ((strOf (92 :: y :: p :: q :: r)).size : Int) = (r.length : Int) + 4 := by rw [strOf_size]; simp only [List.length_cons]; omega
      have h2 : (0 : Int) ≤ 2 ∧ (2 : Int) < ((strOf (92 :: y :: p :: q :: r)).size : Int) := by rw [hsz2]; omega
      have h3 : (0 : Int) ≤ 3 ∧ (3 : Int) < ((strOf (92 :: y :: p :: q :: r)).size : Int) := by rw [hsz2]; omega
      have e2 : byteAt (strOf (92 :: y :: p :: q :: r)) (Int.toNat 2) = p := byteAt_strOf hok rfl
      have e3 : byteAt (strOf (92 :: y :: p :: q :: r)) (Int.toNat 3) = q := byteAt_strOf hok rfl
      rw [pdf (show ¬ (((p :: q :: r).length : Nat) : Int) + 2 < 4 by simp only [List.length_cons]; omega)]
      (repeat (first | (with_reducible apply XL.op) | ((with_reducible apply XOp.p1); (case hg | hv => exact rfl)) | ((with_reducible apply XOp.pr); (case hg => exact rfl); (case hr => ((with_reducible apply PR.sidx); (case ht | hk | hx | hi => exact rfl); (case hr => first | assumption | omega)))) | (with_reducible apply XL.nilT)))
      rw [e1]
      by_cases hx : y = 120
      case neg =>
        have hv : escV (92 :: y :: p :: q :: r) = (0, 0) := by unfold escV; simp only [hno, if_false, hx, false_and]
        rw [hv, pdf hx]
        (repeat (first | (with_reducible apply XL.op) | ((with_reducible apply XOp.p1); (case hg | hv => exact rfl)) | (with_reducible apply XL.nilT) | (with_reducible apply XC.seq) | (with_reducible apply XC.region (Γ := Γ)) | (with_reducible apply XQ.ret) | (with_reducible apply XQ.rt) | ((with_reducible apply XC.condT); (case hc => exact rfl))))
        ((with_reducible apply XQ.retE); (case hr => exact .t rfl (.t rfl .nil)))
        rfl
      rw [pdt hx]
      (repeat (first | (with_reducible apply XC.seq) | (with_reducible apply XQ.skip) | (with_reducible apply XQ.nt) | ((with_reducible apply XC.condF); (case hc => exact rfl))))
      ((with_reducible apply XC.regionD (Γ := Γ) mixed (.q 0 (.q 1 (.q 3 (.q 4 (.e 2 (.e 5 (.q 6 (.q 7 (.done))))))))) [] []); (case hc => kernel_rfl))
      (repeat (first | ((with_reducible apply XP.p1); (case ho | hg | hv => exact rfl)) | ((with_reducible apply XP.pr); (case ho => exact rfl); (case hg => exact rfl); (case hr => ((with_reducible apply PR.sidx); (case ht | hk | hx | hi => exact rfl); (case hr => first | assumption | omega)))) | ((with_reducible apply XP.e); (first | ((with_reducible apply XE.d); (case ho => exact rfl); (case hd => exact rfl)) | ((with_reducible apply XE.e); (case ho => exact rfl))))))
      rw [e2]
      ((with_reducible apply XOp.callQ (hF := hex_fn p hp)); (case hg => exact rfl); (case hc => exact rfl); (case ha => exact rfl); try (case hA => exact Known.true))
      rintro _ rfl
      (repeat (first | ((with_reducible apply XP.e); (first | ((with_reducible apply XE.d); (case ho => exact rfl); (case hd => exact rfl)) | ((with_reducible apply XE.e); (case ho => exact rfl)))) | ((with_reducible apply XP.keep); (case hk => first | ((repeat' (first | exact List.forall_mem_nil _ | (with_reducible refine List.forall_mem_cons.2 ⟨?_, ?_⟩) | exact List.mem_cons_self .. | (with_reducible apply List.mem_cons_of_mem) | (with_reducible apply List.mem_append_right))); done) | (intro x hx; first | exact sel_in hx | exact List.mem_cons_of_mem _ (sel_in hx) | exact List.mem_append_right _ (sel_in hx) | exact hx | exact List.mem_cons_of_mem _ hx | exact List.mem_append_right _ hx | ((repeat (first | exact sel_in hx | exact hx | (with_reducible apply List.mem_cons_of_mem) | (with_reducible apply List.mem_append_right))); done) | (rw [List.mem_singleton.1 hx]; (simp; done)) | (rcases List.mem_cons.1 hx with rfl | hx; (simp; done); (rw [List.mem_singleton.1 hx]; (simp; done))) | cases hx)))))
      rw [e3]
      ((with_reducible apply XOp.callQ (hF := hex_fn q hq)); (case hg => exact rfl); (case hc => exact rfl); (case ha => exact rfl); try (case hA => exact Known.true))
      rintro _ rfl
      (repeat (first | (with_reducible apply XL.op) | ((with_reducible apply XOp.p1); (case hg | hv => exact rfl)) | (with_reducible apply XL.nilT) | (with_reducible apply XC.seq) | (with_reducible apply XC.region (Γ := Γ)) | (with_reducible apply XQ.nt) | ((with_reducible apply XP.p1); (case ho | hg | hv => exact rfl)) | (with_reducible apply XP.done) | ((with_reducible apply XP.keep); (case hk => first | ((repeat' (first | exact List.forall_mem_nil _ | (with_reducible refine List.forall_mem_cons.2 ⟨?_, ?_⟩) | exact List.mem_cons_self .. | (with_reducible apply List.mem_cons_of_mem) | (with_reducible apply List.mem_append_right))); done) | (intro x hx; first | exact sel_in hx | exact List.mem_cons_of_mem _ (sel_in hx) | exact List.mem_append_right _ (sel_in hx) | exact hx | exact List.mem_cons_of_mem _ hx | exact List.mem_append_right _ hx | ((repeat (first | exact sel_in hx | exact hx | (with_reducible apply List.mem_cons_of_mem) | (with_reducible apply List.mem_append_right))); done) | (rw [List.mem_singleton.1 hx]; (simp; done)) | (rcases List.mem_cons.1 hx with rfl | hx; (simp; done); (rw [List.mem_singleton.1 hx]; (simp; done))) | cases hx)))))
      have hno2 : ¬ escOk p q → escV (92 :: y :: p :: q :: r) = (0, 0) := fun h => by unfold escV; simp only [hno, if_false, h, and_false]
      by_cases g1 : hexV p < 0
      · rw [hno2 (fun h => by have := h.1; omega), pdt g1]
        (repeat (first | (with_reducible apply XL.op) | ((with_reducible apply XOp.p1); (case hg | hv => exact rfl)) | ((with_reducible apply XOp.p0); (case hg => exact rfl)) | (with_reducible apply XL.nilT) | (with_reducible apply XC.seq) | (with_reducible apply XC.region (Γ := Γ)) | (with_reducible apply XQ.ret) | (with_reducible apply XQ.rt) | ((with_reducible apply XC.condT); (case hc => exact rfl))))
        ((with_reducible apply XQ.retE); (case hr => exact .t rfl (.t rfl .nil)))
        rfl
      rw [pdf g1]
      (repeat (first | (with_reducible apply XL.op) | ((with_reducible apply XOp.p1); (case hg | hv => exact rfl))))
      by_cases g2 : hexV q < 0
      · rw [hno2 (fun h => by have := h.2.1; omega), pdt g2]
        (repeat (first | (with_reducible apply XL.op) | ((with_reducible apply XOp.p1); (case hg | hv => exact rfl)) | ((with_reducible apply XOp.p0); (case hg => exact rfl)) | (with_reducible apply XL.nilT) | (with_reducible apply XC.seq) | (with_reducible apply XC.region (Γ := Γ)) | (with_reducible apply XQ.ret) | (with_reducible apply XQ.rt) | ((with_reducible apply XC.condT); (case hc => exact rfl))))
        ((with_reducible apply XQ.retE); (case hr => exact .t rfl (.t rfl .nil)))
        rfl
      rw [pdf g2]
      obtain ⟨p1, p2⟩ := dig_hexV (c := p) (by omega)
      obtain ⟨q1, q2⟩ := dig_hexV (c := q) (by omega)
      rw [or16 (a := hexV p) (b := hexV q) (by omega) (by omega)]
      (repeat (first | (with_reducible apply XL.op) | ((with_reducible apply XOp.p1); (case hg | hv => exact rfl)) | (((with_reducible apply XOp.callQ (hF := plain_fn (16 * hexV p + hexV q))); (case hg => exact rfl); (case hc => exact rfl); (case ha => exact rfl); try (case hA => exact Known.true)); rintro _ rfl)))
      by_cases g3 : isPlain (16 * hexV p + hexV q)
      · rw [hno2 (fun h => h.2.2.1 g3), pdt g3]
        (repeat (first | (with_reducible apply XL.op) | ((with_reducible apply XOp.p1); (case hg | hv => exact rfl)) | ((with_reducible apply XOp.p0); (case hg => exact rfl)) | (with_reducible apply XL.nilT) | (with_reducible apply XC.seq) | (with_reducible apply XC.region (Γ := Γ)) | (with_reducible apply XQ.ret) | (with_reducible apply XQ.rt) | ((with_reducible apply XC.condT); (case hc => exact rfl))))
        ((with_reducible apply XQ.retE); (case hr => exact .t rfl (.t rfl .nil)))
        rfl
      rw [pdf g3]
      (repeat (first | (with_reducible apply XL.op) | ((with_reducible apply XOp.p1); (case hg | hv => exact rfl))))
      by_cases g4 : 16 * hexV p + hexV q = 34
      · rw [hno2 (fun h => h.2.2.2.1 g4), pdt g4]
        (repeat (first | (with_reducible apply XL.op) | ((with_reducible apply XOp.p1); (case hg | hv => exact rfl)) | ((with_reducible apply XOp.p0); (case hg => exact rfl)) | (with_reducible apply XL.nilT) | (with_reducible apply XC.seq) | (with_reducible apply XC.region (Γ := Γ)) | (with_reducible apply XQ.ret) | (with_reducible apply XQ.rt) | ((with_reducible apply XC.condT); (case hc => exact rfl))))
        ((with_reducible apply XQ.retE); (case hr => exact .t rfl (.t rfl .nil)))
        rfl
      rw [pdf g4]
      (repeat (first | (with_reducible apply XL.op) | ((with_reducible apply XOp.p1); (case hg | hv => exact rfl)) | (with_reducible apply XL.nilT)))
      by_cases g5 : 16 * hexV p + hexV q = 92
      · rw [hno2 (fun h => h.2.2.2.2 g5), pdt g5]
        (repeat (first | (with_reducible apply XL.op) | ((with_reducible apply XOp.p1); (case hg | hv => exact rfl)) | (with_reducible apply XL.nilT) | (with_reducible apply XC.seq) | (with_reducible apply XC.region (Γ := Γ)) | (with_reducible apply XQ.ret) | (with_reducible apply XQ.rt) | ((with_reducible apply XC.condT); (case hc => exact rfl))))
        ((with_reducible apply XQ.retE); (case hr => exact .t rfl (.t rfl .nil)))
        rfl
      rw [pdf g5]
      (repeat (first | (with_reducible apply XL.op) | ((with_reducible apply XOp.p1); (case hg | hv => exact rfl)) | (with_reducible apply XL.nilT) | (with_reducible apply XC.seq) | (with_reducible apply XC.region (Γ := Γ)) | (with_reducible apply XQ.skip) | (with_reducible apply XQ.ret) | (with_reducible apply XQ.nt) | ((with_reducible apply XC.condF); (case hc => exact rfl))))
      ((with_reducible apply XQ.retE); (case hr => exact .t rfl (.t rfl .nil)))
      have hE : escOk p q := ⟨by omega, by omega, g3, g4, g5⟩
      have hv : escV (92 :: y :: p :: q :: r) = (16 * hexV p + hexV q, 4) := by
        rw [hx]; unfold escV; simp only []
        rw [if_neg (by omega), if_pos (by first | exact ⟨rfl, hE⟩ | exact ⟨trivial, hE⟩ | exact hE)]
      rw [hv]; rfl
theorem body_fuel {k k' : Nat} {t : List Int} (h : t.length < k) (h' : t.length < k') : bodyS k t = bodyS k' t := by
  have key : ∀ (k k' : Nat) (b rest : List Int), t.length < k' → bodyS k t = some (b, rest) → bodyS k' t = some (b, rest) := by
    intro k k' b rest hk e
    obtain ⟨h1, h2⟩ := body_sound k t b rest e
    have := body_full b k' rest h1 (by have := @body_len b rest; rw [← h2] at this; omega)
    rw [← h2] at this; exact this
  cases e : bodyS k t with
  | some p => exact (key k k' p.1 p.2 h' e).symm
  | none =>
    cases e2 : bodyS k' t with
    | none => rfl
    | some p => rw [key k' k p.1 p.2 h e2] at e; cases e
/-- What Unquote hands back. -/
def UnqR (t : List Int) (v : Value) (L : HL) : Prop :=
  match unqS t with
  | some p => ∃ u, v = .tuple #[u, .int .i64 ((t.length - p.2.length : Nat) : Int), .int .i64 0] ∧ OwnS 5 1 u p.1.length (p.1.map (.int .u8)) L
  | none => v = .tuple #[.slice none 0 0, .int .i64 0, .int .i64 220] ∧ L = []
/-- Where the walk stands: at i, the next piece at m, the bytes b so far. -/
structure UAt (t : List Int) (i m : Nat) (b : List Int) : Prop where
  le : i ≤ m
  sub : m ≤ t.length ∨ (i = 0 ∧ t = [])
  pr : ∀ j, i ≤ j → j < m → 0 < j → ∃ c, t[j]? = some c ∧ 32 ≤ c ∧ c ≤ 126
  zero : i = 0 → m = 1 ∧ b = []
  hd : 0 < i → t.head? = some 34
  isB : isB b
  len : b.length ≤ i
  eq : t.head? = some 34 → unqS t = (bodyS (t.length + 1) (t.drop m)).map fun p => (b ++ p.1, p.2)
theorem UAt.start (t : List Int) : UAt t 0 1 [] := by
  refine ⟨by omega, ?_, (fun j h1 h2 h3 => by omega), fun _ => ⟨rfl, rfl⟩, fun h => absurd h (by omega), (fun x hx => by cases hx), Nat.zero_le _, fun h => ?_⟩
  · cases t with
    | nil => exact .inr ⟨rfl, rfl⟩
    | cons c t => exact .inl (by simp)
  · cases t with
    | nil => cases h
    | cons c t =>
      simp only [List.head?_cons, Option.some.injEq] at h
      subst h
      show bodyS (t.length + 1) t = _
      rw [body_fuel (k := t.length + 1) (k' := (34 :: t).length + 1) (by omega) (by simp only [List.length_cons]; omega)]
      simp
theorem unq_no {t : List Int} (h : t.head? ≠ some 34) : unqS t = none := by
  unfold unqS; split
  · exact absurd rfl h
  · rfl
/-- A letter that may not be. -/
theorem UAt.bad {t : List Int} {i m : Nat} {b : List Int} (h : UAt t i m b) {c : Int} (hc : t[i]? = some c) (hb : (i = 0 ∧ c ≠ 34) ∨ c < 32 ∨ 126 < c) : unqS t = none := by
  by_cases h0 : i = 0
  · subst h0
    refine unq_no fun e => ?_
    rw [List.head?_eq_getElem?, hc] at e
    have := Option.some.inj e
    omega
  · have hi : m = i := by
      refine Classical.byContradiction fun hne => ?_
      obtain ⟨c', hc', h1, h2⟩ := h.pr i (Nat.le_refl _) (by have := h.le; omega) (by omega)
      rw [hc] at hc'; cases hc'; omega
    subst hi
    rw [h.eq (h.hd (by omega)), (List.drop_eq_getElem_cons (List.getElem?_eq_some_iff.1 hc).1), (List.getElem?_eq_some_iff.1 hc).2]
    simp only [bodyS]
    rw [if_neg (by omega), if_neg (by omega), if_neg (by omega)]; rfl
theorem UAt.ends {t : List Int} {i m : Nat} {b : List Int} (h : UAt t i m b) (hi : t.length ≤ i) : unqS t = none := by
  by_cases h0 : i = 0
  · subst h0
    have : t = [] := List.eq_nil_of_length_eq_zero (by omega)
    subst this; rfl
  · rw [h.eq (h.hd (by omega)), List.drop_of_length_le (by have := h.le; omega)]
    rfl
/-- A letter inside a piece, or the first quote. -/
theorem UAt.skip {t : List Int} {i m : Nat} {b : List Int} (h : UAt t i m b) {c : Int} (hc : t[i]? = some c) (hg : ¬ ((i = 0 ∧ c ≠ 34) ∨ c < 32 ∨ 126 < c)) (hm : i < m) : UAt t (i + 1) m b := by
  have hl := (List.getElem?_eq_some_iff.1 hc).1
  refine ⟨by omega, .inl ?_, fun j h1 h2 h3 => h.pr j (by omega) h2 h3, (fun e => by omega), fun _ => ?_, h.isB, by have := h.len; omega, h.eq⟩
  · rcases h.sub with h1 | ⟨_, h1⟩
    · exact h1
    · rw [h1] at hl; simp at hl
  · by_cases h0 : i = 0
    · subst h0
      rw [List.head?_eq_getElem?, hc]
      have : c = 34 := by refine Classical.byContradiction fun e => hg (.inl ⟨rfl, e⟩)
      rw [this]
    · exact h.hd (by omega)
theorem UAt.done {t : List Int} {i : Nat} {b : List Int} (h : UAt t i i b) (hc : t[i]? = some 34) : unqS t = some (b, t.drop (i + 1)) := by
  have h0 : i ≠ 0 := fun e => by have := (h.zero e).1; omega
  rw [h.eq (h.hd (by omega)), (List.drop_eq_getElem_cons (List.getElem?_eq_some_iff.1 hc).1), (List.getElem?_eq_some_iff.1 hc).2]
  simp only [bodyS, if_true, Option.map_some, List.append_nil]
theorem UAt.plain {t : List Int} {i : Nat} {b : List Int} (h : UAt t i i b) {c : Int} (hc : t[i]? = some c) (hg : 32 ≤ c ∧ c ≤ 126) (h1 : c ≠ 34) (h2 : c ≠ 92) : UAt t (i + 1) (i + 1) (b ++ [c]) := by
  have h0 : i ≠ 0 := fun e => by have := (h.zero e).1; omega
  have hl := (List.getElem?_eq_some_iff.1 hc).1
  refine ⟨Nat.le_refl _, .inl hl, (fun j h1 h2 h3 => by omega), (fun e => by omega), fun _ => h.hd (by omega), fun x hx => ?_, by rw [List.length_append]; have := h.len; simp; omega, fun hh => ?_⟩
  · rcases List.mem_append.1 hx with hx | hx
    · exact h.isB x hx
    · rw [List.mem_singleton.1 hx]; omega
  · rw [h.eq hh, (List.drop_eq_getElem_cons hl), (List.getElem?_eq_some_iff.1 hc).2]
    simp only [bodyS]
    rw [if_neg h1, if_neg h2, if_pos hg, body_fuel (k := t.length) (k' := t.length + 1) (by rw [List.length_drop]; omega) (by rw [List.length_drop]; omega)]
    rw [Option.map_map]
    congr 1; funext p; simp
theorem UAt.esc {t : List Int} {i : Nat} {b : List Int} (h : UAt t i i b) (hc : t[i]? = some 92) :
    ((escV (t.drop i)).2 = 0 → unqS t = none) ∧ ((escV (t.drop i)).2 ≠ 0 → UAt t (i + 1) (i + (escV (t.drop i)).2) (b ++ [(escV (t.drop i)).1])) := by
  have h0 : i ≠ 0 := fun e => by have := (h.zero e).1; omega
  have hl := (List.getElem?_eq_some_iff.1 hc).1
  have hd : t.drop i = 92 :: t.drop (i + 1) := by rw [List.drop_eq_getElem_cons hl, (List.getElem?_eq_some_iff.1 hc).2]
  have hh := h.hd (by omega)
  refine ⟨fun hz => ?_, fun hz => ?_⟩
  · rw [h.eq hh]
    rw [hd] at hz ⊢
    simp only [bodyS]
    rw [if_neg (by omega), if_pos trivial, if_pos hz]; rfl
  · obtain ⟨s1, s2, s3, s4, s5⟩ := escV_sound hz
    have hll := escL_length (escV (t.drop i)).1
    have hA := escL_A s1
    have s4' : (escV (t.drop i)).2 ≤ t.length - i := by rw [List.length_drop] at s4; exact s4
    have hel : (escL (escV (t.drop i)).1).length = (escV (t.drop i)).2 := by
      have := congrArg List.length s3
      simp only [List.length_append, List.length_drop] at this; omega
    refine ⟨by omega, .inl (by omega), fun j h1 h2 h3 => ?_, (fun e => by omega), fun _ => hh, fun x hx => ?_, by rw [List.length_append]; have := h.len; simp; omega, fun _ => ?_⟩
    · have hj : t[j]? = (escL (escV (t.drop i)).1)[j - i]? := by
        have e1 : (t.drop i)[j - i]? = t[j]? := by rw [List.getElem?_drop]; congr 1; omega
        rw [← e1]; conv => lhs; rw [s3]
        rw [List.getElem?_append_left (by omega)]
      rw [hj, List.getElem?_eq_getElem (by omega)]
      exact ⟨_, rfl, hA _ (List.getElem_mem _)⟩
    · rcases List.mem_append.1 hx with hx | hx
      · exact h.isB x hx
      · rw [List.mem_singleton.1 hx]; exact s1
    · rw [h.eq hh]
      have e2 : (t.drop i).drop (escV (t.drop i)).2 = t.drop (i + (escV (t.drop i)).2) := by rw [List.drop_drop]
      rw [← e2]
      obtain ⟨T, hT⟩ : ∃ T, T = t.drop i := ⟨_, rfl⟩
      rw [← hT] at hz hd ⊢
      have hTl : T.length ≤ t.length := by rw [hT, List.length_drop]; omega
      obtain ⟨n, hn⟩ : ∃ n, n = (escV T).2 := ⟨_, rfl⟩
      obtain ⟨y, hy⟩ : ∃ y, y = (escV T).1 := ⟨_, rfl⟩
      rw [← hn] at hz ⊢
      rw [← hy]
      have hbody : bodyS (t.length + 1) T = (bodyS t.length (T.drop n)).map fun p => (y :: p.1, p.2) := by
        rw [hd] at hn hy ⊢
        simp only [bodyS]
        rw [if_neg (by omega), if_pos trivial, ← hn, if_neg hz, ← hy]
      have hlt : (T.drop n).length < t.length := by
        rw [List.length_drop, hT, List.length_drop]; omega
      rw [hbody, body_fuel (k := t.length) (k' := t.length + 1) hlt (by omega), Option.map_map]
      congr 1; funext p; simp
set_option maxHeartbeats 8000000 in
theorem unquote_fn (t : List Int) (hB : isB t) (hl : t.length ≤ 1073741824) : FC Tryd.prog 11 [.string (strOf t)] [] (fun _ => True) (fun v L => UnqR t v L) := by
  refine FC.sub2 ?_
  refine FC.intro Tryd.func11 rfl (by kernel_rfl) 68 [.tmp 2, .tmp 3, .tmp 4] rfl rfl rfl ?_
  intro w0 _
  have hok := isB_ok hB
  (repeat (first | (with_reducible apply XL.op) | ((with_reducible apply XOp.p1); (case hg | hv => exact rfl)) | (with_reducible apply XL.nilT) | (with_reducible apply XC.seq) | (with_reducible apply XC.region (Γ := Γ)) | (with_reducible apply XC.block) | ((with_reducible apply XOp.rangeS); (case hg | ht | hk | hx => exact rfl); intro ib)))
  refine XC.loopP (fun k ρ L => ∃ (i m : Nat) (b : List Int) (v : Value) (F : HL), i + k = t.length ∧ UAt t i m b ∧ OwnS 5 1 v b.length (b.map (.int .u8)) F ∧ L = (ib, .stringIter (strOf t) i) :: F ∧ Slots ρ [(0, .string (strOf t)), (5, v), (6, .int .i64 m), (12, .pointer (some ⟨ib, 0, none⟩))])
    t.length ⟨0, 1, [], _, [], by simp, UAt.start t, OwnS.nil _ _, rfl, rfl, rfl, rfl, rfl, trivial⟩ ?_
  rintro k ρ L ⟨i, m, b, v, F, hik, hU, hown, rfl, hs⟩
  obtain ⟨a', c', rfl⟩ := hown.val
  refine XC.slots _ hs ?_
  (repeat (first | (with_reducible apply XL.op) | (with_reducible apply XC.seq) | (with_reducible apply XC.region (Γ := Γ))))
  by_cases hi : i < t.length
  case neg =>
    have hn := hU.ends (by omega)
    ((with_reducible apply XOp.nextE (i := 0)); (case hg => exact rfl); (case hx => exact rfl); (case hi => exact rfl); (case hp => omega))
    (repeat (first | (with_reducible apply XL.op) | ((with_reducible apply XOp.p1); (case hg | hv => exact rfl)) | (with_reducible apply XL.nilT) | (with_reducible apply XC.seq) | (with_reducible apply XC.region (Γ := Γ)) | (with_reducible apply XQ.ret) | (with_reducible apply XQ.exit) | (with_reducible apply XQ.nt) | (with_reducible apply XQ.et) | ((with_reducible apply XQ.eb); (case hb => exact rfl)) | ((with_reducible apply XC.condF); (case hc => exact rfl))))
    ((with_reducible apply XQ.retE); (case hr => exact .t rfl (.t rfl (.t rfl .nil))))
    refine ⟨[], .of (List.nil_sublist _), ?_⟩
    unfold UnqR; rw [hn]; exact ⟨rfl, rfl⟩
  obtain ⟨c, hc⟩ : ∃ c, t[i]? = some c := ⟨_, List.getElem?_eq_getElem hi⟩
  have hcB := hB c (List.mem_of_getElem? hc)
  ((with_reducible apply XOp.nextS (i := 0) (c := c)); (case hg => exact rfl); (case hx => exact rfl); (case hi => exact rfl); (case hok => exact hok); (case hc => exact hc); (case ha => exact fun q => rfl))
  case h2 =>
    intro q e hc1 he
    have hn := hU.bad hc (by omega)
    by_cases h0 : ((i : Nat) : Int) = 0
    all_goals
      (repeat (first | (with_reducible apply XL.op) | ((with_reducible apply XOp.p1); (case hg | hv => exact rfl)) | ((with_reducible apply XOp.p0); (case hg => exact rfl)) | (with_reducible apply XL.nilT) | (with_reducible apply XC.seq) | (with_reducible apply XC.region (Γ := Γ)) | (with_reducible apply XQ.skip) | (with_reducible apply XQ.ret) | (with_reducible apply XQ.nt) | (with_reducible apply XQ.rt) | (with_reducible apply XQ.rb) | (with_reducible apply XC.block) | ((with_reducible apply XC.condT); (case hc => exact rfl)) | (first | ((with_reducible apply XOp.split); (case hg | hj | hd | hb => exact rfl); (fail_if_success (case hf => exact fun h => Bool.noConfusion h)); (fail_if_success (case ht => exact fun h => Bool.noConfusion h)); (first | (case ht => intro hb_; try simp only [pd_true, pd_false, Bool.not_eq_true', Bool.not_eq_false', Bool.and_eq_true, Bool.and_eq_false_iff, Bool.or_eq_true, Bool.or_eq_false_iff, not_true_eq_false, not_false_eq_true, Int.not_lt, Int.not_le] at hb_; first | done | (exfalso; first | omega | contradiction)) | (case hf => intro hb_; try simp only [pd_true, pd_false, Bool.not_eq_true', Bool.not_eq_false', Bool.and_eq_true, Bool.and_eq_false_iff, Bool.or_eq_true, Bool.or_eq_false_iff, not_true_eq_false, not_false_eq_true, Int.not_lt, Int.not_le] at hb_; first | done | (exfalso; first | omega | contradiction))); intro hb_; try simp only [pd_true, pd_false, Bool.not_eq_true', Bool.not_eq_false', Bool.and_eq_true, Bool.and_eq_false_iff, Bool.or_eq_true, Bool.or_eq_false_iff, not_true_eq_false, not_false_eq_true, Int.not_lt, Int.not_le] at hb_) | ((with_reducible apply XP.split); (case ho | hg | hj | hd | hb => exact rfl); (fail_if_success (case hf => exact fun h => Bool.noConfusion h)); (fail_if_success (case ht => exact fun h => Bool.noConfusion h)); (first | (case ht => intro hb_; try simp only [pd_true, pd_false, Bool.not_eq_true', Bool.not_eq_false', Bool.and_eq_true, Bool.and_eq_false_iff, Bool.or_eq_true, Bool.or_eq_false_iff, not_true_eq_false, not_false_eq_true, Int.not_lt, Int.not_le] at hb_; first | done | (exfalso; first | omega | contradiction)) | (case hf => intro hb_; try simp only [pd_true, pd_false, Bool.not_eq_true', Bool.not_eq_false', Bool.and_eq_true, Bool.and_eq_false_iff, Bool.or_eq_true, Bool.or_eq_false_iff, not_true_eq_false, not_false_eq_true, Int.not_lt, Int.not_le] at hb_; first | done | (exfalso; first | omega | contradiction))); intro hb_; try simp only [pd_true, pd_false, Bool.not_eq_true', Bool.not_eq_false', Bool.and_eq_true, Bool.and_eq_false_iff, Bool.or_eq_true, Bool.or_eq_false_iff, not_true_eq_false, not_false_eq_true, Int.not_lt, Int.not_le] at hb_) | ((with_reducible apply XC.cond); (case hc => exact rfl); (first | (case ht => intro hb_; try simp only [pd_true, pd_false, Bool.not_eq_true', Bool.not_eq_false', Bool.and_eq_true, Bool.and_eq_false_iff, Bool.or_eq_true, Bool.or_eq_false_iff, not_true_eq_false, not_false_eq_true, Int.not_lt, Int.not_le] at hb_; first | done | (exfalso; first | omega | contradiction)) | (case hf => intro hb_; try simp only [pd_true, pd_false, Bool.not_eq_true', Bool.not_eq_false', Bool.and_eq_true, Bool.and_eq_false_iff, Bool.or_eq_true, Bool.or_eq_false_iff, not_true_eq_false, not_false_eq_true, Int.not_lt, Int.not_le] at hb_; first | done | (exfalso; first | omega | contradiction))); intro hb_; try simp only [pd_true, pd_false, Bool.not_eq_true', Bool.not_eq_false', Bool.and_eq_true, Bool.and_eq_false_iff, Bool.or_eq_true, Bool.or_eq_false_iff, not_true_eq_false, not_false_eq_true, Int.not_lt, Int.not_le] at hb_))))
      ((with_reducible apply XQ.retE); (case hr => exact .t rfl (.t rfl (.t rfl .nil))))
      refine ⟨[], .of (List.nil_sublist _), ?_⟩
      unfold UnqR; rw [hn]; exact ⟨rfl, rfl⟩
  case h1 =>
    intro hc1
    by_cases hg : (i = 0 ∧ c ≠ 34) ∨ c < 32 ∨ 126 < c
    · have hn := hU.bad hc hg
      by_cases h0 : ((i : Nat) : Int) = 0 <;> by_cases h34 : c = 34 <;> by_cases h32 : c < 32
      all_goals first | (exfalso; omega) | skip
      all_goals
        (repeat (first | (with_reducible apply XL.op) | ((with_reducible apply XOp.p1); (case hg | hv => exact rfl)) | ((with_reducible apply XOp.p0); (case hg => exact rfl)) | (with_reducible apply XL.nilT) | (with_reducible apply XC.seq) | (with_reducible apply XC.region (Γ := Γ)) | (with_reducible apply XQ.skip) | (with_reducible apply XQ.ret) | (with_reducible apply XQ.nt) | (with_reducible apply XQ.rt) | (with_reducible apply XQ.rb) | (with_reducible apply XC.block) | ((with_reducible apply XC.condT); (case hc => exact rfl)) | (first | ((with_reducible apply XOp.split); (case hg | hj | hd | hb => exact rfl); (fail_if_success (case hf => exact fun h => Bool.noConfusion h)); (fail_if_success (case ht => exact fun h => Bool.noConfusion h)); (first | (case ht => intro hb_; try simp only [pd_true, pd_false, Bool.not_eq_true', Bool.not_eq_false', Bool.and_eq_true, Bool.and_eq_false_iff, Bool.or_eq_true, Bool.or_eq_false_iff, not_true_eq_false, not_false_eq_true, Int.not_lt, Int.not_le] at hb_; first | done | (exfalso; first | omega | contradiction)) | (case hf => intro hb_; try simp only [pd_true, pd_false, Bool.not_eq_true', Bool.not_eq_false', Bool.and_eq_true, Bool.and_eq_false_iff, Bool.or_eq_true, Bool.or_eq_false_iff, not_true_eq_false, not_false_eq_true, Int.not_lt, Int.not_le] at hb_; first | done | (exfalso; first | omega | contradiction))); intro hb_; try simp only [pd_true, pd_false, Bool.not_eq_true', Bool.not_eq_false', Bool.and_eq_true, Bool.and_eq_false_iff, Bool.or_eq_true, Bool.or_eq_false_iff, not_true_eq_false, not_false_eq_true, Int.not_lt, Int.not_le] at hb_) | ((with_reducible apply XP.split); (case ho | hg | hj | hd | hb => exact rfl); (fail_if_success (case hf => exact fun h => Bool.noConfusion h)); (fail_if_success (case ht => exact fun h => Bool.noConfusion h)); (first | (case ht => intro hb_; try simp only [pd_true, pd_false, Bool.not_eq_true', Bool.not_eq_false', Bool.and_eq_true, Bool.and_eq_false_iff, Bool.or_eq_true, Bool.or_eq_false_iff, not_true_eq_false, not_false_eq_true, Int.not_lt, Int.not_le] at hb_; first | done | (exfalso; first | omega | contradiction)) | (case hf => intro hb_; try simp only [pd_true, pd_false, Bool.not_eq_true', Bool.not_eq_false', Bool.and_eq_true, Bool.and_eq_false_iff, Bool.or_eq_true, Bool.or_eq_false_iff, not_true_eq_false, not_false_eq_true, Int.not_lt, Int.not_le] at hb_; first | done | (exfalso; first | omega | contradiction))); intro hb_; try simp only [pd_true, pd_false, Bool.not_eq_true', Bool.not_eq_false', Bool.and_eq_true, Bool.and_eq_false_iff, Bool.or_eq_true, Bool.or_eq_false_iff, not_true_eq_false, not_false_eq_true, Int.not_lt, Int.not_le] at hb_) | ((with_reducible apply XC.cond); (case hc => exact rfl); (first | (case ht => intro hb_; try simp only [pd_true, pd_false, Bool.not_eq_true', Bool.not_eq_false', Bool.and_eq_true, Bool.and_eq_false_iff, Bool.or_eq_true, Bool.or_eq_false_iff, not_true_eq_false, not_false_eq_true, Int.not_lt, Int.not_le] at hb_; first | done | (exfalso; first | omega | contradiction)) | (case hf => intro hb_; try simp only [pd_true, pd_false, Bool.not_eq_true', Bool.not_eq_false', Bool.and_eq_true, Bool.and_eq_false_iff, Bool.or_eq_true, Bool.or_eq_false_iff, not_true_eq_false, not_false_eq_true, Int.not_lt, Int.not_le] at hb_; first | done | (exfalso; first | omega | contradiction))); intro hb_; try simp only [pd_true, pd_false, Bool.not_eq_true', Bool.not_eq_false', Bool.and_eq_true, Bool.and_eq_false_iff, Bool.or_eq_true, Bool.or_eq_false_iff, not_true_eq_false, not_false_eq_true, Int.not_lt, Int.not_le] at hb_))))
        ((with_reducible apply XQ.retE); (case hr => exact .t rfl (.t rfl (.t rfl .nil))))
        refine ⟨[], .of (List.nil_sublist _), ?_⟩
        unfold UnqR; rw [hn]; exact ⟨rfl, rfl⟩
    have hgg : 32 ≤ c ∧ c ≤ 126 := by omega
    have hbl := hU.len
    by_cases him : i < m
    · have hsk := hU.skip hc hg him
      by_cases h0 : ((i : Nat) : Int) = 0
      all_goals
        (repeat (first | (with_reducible apply XL.op) | ((with_reducible apply XOp.p1); (case hg | hv => exact rfl)) | ((with_reducible apply XOp.p0); (case hg => exact rfl)) | (with_reducible apply XL.nilT) | (with_reducible apply XC.seq) | (with_reducible apply XC.region (Γ := Γ)) | (with_reducible apply XQ.skip) | (with_reducible apply XQ.nt) | (with_reducible apply XQ.nb) | (with_reducible apply XC.block) | ((with_reducible apply XC.condT); (case hc => exact rfl)) | (first | ((with_reducible apply XOp.split); (case hg | hj | hd | hb => exact rfl); (fail_if_success (case hf => exact fun h => Bool.noConfusion h)); (fail_if_success (case ht => exact fun h => Bool.noConfusion h)); (first | (case ht => intro hb_; try simp only [pd_true, pd_false, Bool.not_eq_true', Bool.not_eq_false', Bool.and_eq_true, Bool.and_eq_false_iff, Bool.or_eq_true, Bool.or_eq_false_iff, not_true_eq_false, not_false_eq_true, Int.not_lt, Int.not_le] at hb_; first | done | (exfalso; first | omega | contradiction)) | (case hf => intro hb_; try simp only [pd_true, pd_false, Bool.not_eq_true', Bool.not_eq_false', Bool.and_eq_true, Bool.and_eq_false_iff, Bool.or_eq_true, Bool.or_eq_false_iff, not_true_eq_false, not_false_eq_true, Int.not_lt, Int.not_le] at hb_; first | done | (exfalso; first | omega | contradiction))); intro hb_; try simp only [pd_true, pd_false, Bool.not_eq_true', Bool.not_eq_false', Bool.and_eq_true, Bool.and_eq_false_iff, Bool.or_eq_true, Bool.or_eq_false_iff, not_true_eq_false, not_false_eq_true, Int.not_lt, Int.not_le] at hb_) | ((with_reducible apply XP.split); (case ho | hg | hj | hd | hb => exact rfl); (fail_if_success (case hf => exact fun h => Bool.noConfusion h)); (fail_if_success (case ht => exact fun h => Bool.noConfusion h)); (first | (case ht => intro hb_; try simp only [pd_true, pd_false, Bool.not_eq_true', Bool.not_eq_false', Bool.and_eq_true, Bool.and_eq_false_iff, Bool.or_eq_true, Bool.or_eq_false_iff, not_true_eq_false, not_false_eq_true, Int.not_lt, Int.not_le] at hb_; first | done | (exfalso; first | omega | contradiction)) | (case hf => intro hb_; try simp only [pd_true, pd_false, Bool.not_eq_true', Bool.not_eq_false', Bool.and_eq_true, Bool.and_eq_false_iff, Bool.or_eq_true, Bool.or_eq_false_iff, not_true_eq_false, not_false_eq_true, Int.not_lt, Int.not_le] at hb_; first | done | (exfalso; first | omega | contradiction))); intro hb_; try simp only [pd_true, pd_false, Bool.not_eq_true', Bool.not_eq_false', Bool.and_eq_true, Bool.and_eq_false_iff, Bool.or_eq_true, Bool.or_eq_false_iff, not_true_eq_false, not_false_eq_true, Int.not_lt, Int.not_le] at hb_) | ((with_reducible apply XC.cond); (case hc => exact rfl); (first | (case ht => intro hb_; try simp only [pd_true, pd_false, Bool.not_eq_true', Bool.not_eq_false', Bool.and_eq_true, Bool.and_eq_false_iff, Bool.or_eq_true, Bool.or_eq_false_iff, not_true_eq_false, not_false_eq_true, Int.not_lt, Int.not_le] at hb_; first | done | (exfalso; first | omega | contradiction)) | (case hf => intro hb_; try simp only [pd_true, pd_false, Bool.not_eq_true', Bool.not_eq_false', Bool.and_eq_true, Bool.and_eq_false_iff, Bool.or_eq_true, Bool.or_eq_false_iff, not_true_eq_false, not_false_eq_true, Int.not_lt, Int.not_le] at hb_; first | done | (exfalso; first | omega | contradiction))); intro hb_; try simp only [pd_true, pd_false, Bool.not_eq_true', Bool.not_eq_false', Bool.and_eq_true, Bool.and_eq_false_iff, Bool.or_eq_true, Bool.or_eq_false_iff, not_true_eq_false, not_false_eq_true, Int.not_lt, Int.not_le] at hb_))))
        exact ⟨k - 1, by omega, _, .of (List.Sublist.refl _), i + 1, m, b, _, F, by omega, hsk, hown, rfl, rfl, rfl, rfl, rfl, trivial⟩
    have h0 : ¬ ((i : Nat) : Int) = 0 := fun e => by have := (hU.zero (by omega)).1; omega
    obtain rfl : m = i := by have := hU.le; omega
    (repeat (first | (with_reducible apply XL.op) | ((with_reducible apply XOp.p1); (case hg | hv => exact rfl)) | ((with_reducible apply XOp.p0); (case hg => exact rfl)) | (with_reducible apply XL.nilT) | (with_reducible apply XC.seq) | (with_reducible apply XC.region (Γ := Γ)) | (with_reducible apply XQ.skip) | (with_reducible apply XQ.nt) | (with_reducible apply XC.block) | ((with_reducible apply XC.condT); (case hc => exact rfl)) | (first | ((with_reducible apply XOp.split); (case hg | hj | hd | hb => exact rfl); (fail_if_success (case hf => exact fun h => Bool.noConfusion h)); (fail_if_success (case ht => exact fun h => Bool.noConfusion h)); (first | (case ht => intro hb_; try simp only [pd_true, pd_false, Bool.not_eq_true', Bool.not_eq_false', Bool.and_eq_true, Bool.and_eq_false_iff, Bool.or_eq_true, Bool.or_eq_false_iff, not_true_eq_false, not_false_eq_true, Int.not_lt, Int.not_le] at hb_; first | done | (exfalso; first | omega | contradiction)) | (case hf => intro hb_; try simp only [pd_true, pd_false, Bool.not_eq_true', Bool.not_eq_false', Bool.and_eq_true, Bool.and_eq_false_iff, Bool.or_eq_true, Bool.or_eq_false_iff, not_true_eq_false, not_false_eq_true, Int.not_lt, Int.not_le] at hb_; first | done | (exfalso; first | omega | contradiction))); intro hb_; try simp only [pd_true, pd_false, Bool.not_eq_true', Bool.not_eq_false', Bool.and_eq_true, Bool.and_eq_false_iff, Bool.or_eq_true, Bool.or_eq_false_iff, not_true_eq_false, not_false_eq_true, Int.not_lt, Int.not_le] at hb_) | ((with_reducible apply XP.split); (case ho | hg | hj | hd | hb => exact rfl); (fail_if_success (case hf => exact fun h => Bool.noConfusion h)); (fail_if_success (case ht => exact fun h => Bool.noConfusion h)); (first | (case ht => intro hb_; try simp only [pd_true, pd_false, Bool.not_eq_true', Bool.not_eq_false', Bool.and_eq_true, Bool.and_eq_false_iff, Bool.or_eq_true, Bool.or_eq_false_iff, not_true_eq_false, not_false_eq_true, Int.not_lt, Int.not_le] at hb_; first | done | (exfalso; first | omega | contradiction)) | (case hf => intro hb_; try simp only [pd_true, pd_false, Bool.not_eq_true', Bool.not_eq_false', Bool.and_eq_true, Bool.and_eq_false_iff, Bool.or_eq_true, Bool.or_eq_false_iff, not_true_eq_false, not_false_eq_true, Int.not_lt, Int.not_le] at hb_; first | done | (exfalso; first | omega | contradiction))); intro hb_; try simp only [pd_true, pd_false, Bool.not_eq_true', Bool.not_eq_false', Bool.and_eq_true, Bool.and_eq_false_iff, Bool.or_eq_true, Bool.or_eq_false_iff, not_true_eq_false, not_false_eq_true, Int.not_lt, Int.not_le] at hb_) | ((with_reducible apply XC.cond); (case hc => exact rfl); (first | (case ht => intro hb_; try simp only [pd_true, pd_false, Bool.not_eq_true', Bool.not_eq_false', Bool.and_eq_true, Bool.and_eq_false_iff, Bool.or_eq_true, Bool.or_eq_false_iff, not_true_eq_false, not_false_eq_true, Int.not_lt, Int.not_le] at hb_; first | done | (exfalso; first | omega | contradiction)) | (case hf => intro hb_; try simp only [pd_true, pd_false, Bool.not_eq_true', Bool.not_eq_false', Bool.and_eq_true, Bool.and_eq_false_iff, Bool.or_eq_true, Bool.or_eq_false_iff, not_true_eq_false, not_false_eq_true, Int.not_lt, Int.not_le] at hb_; first | done | (exfalso; first | omega | contradiction))); intro hb_; try simp only [pd_true, pd_false, Bool.not_eq_true', Bool.not_eq_false', Bool.and_eq_true, Bool.and_eq_false_iff, Bool.or_eq_true, Bool.or_eq_false_iff, not_true_eq_false, not_false_eq_true, Int.not_lt, Int.not_le] at hb_))))
    by_cases h34 : c = 34
    · subst h34
      have hd := hU.done hc
      (repeat (first | (with_reducible apply XL.op) | ((with_reducible apply XOp.p1); (case hg | hv => exact rfl)) | (with_reducible apply XL.nilT) | (with_reducible apply XC.seq) | (with_reducible apply XC.region (Γ := Γ)) | (with_reducible apply XQ.ret) | (with_reducible apply XQ.rt) | (with_reducible apply XQ.rb) | (first | ((with_reducible apply XOp.split); (case hg | hj | hd | hb => exact rfl); (fail_if_success (case hf => exact fun h => Bool.noConfusion h)); (fail_if_success (case ht => exact fun h => Bool.noConfusion h)); (first | (case ht => intro hb_; try simp only [pd_true, pd_false, Bool.not_eq_true', Bool.not_eq_false', Bool.and_eq_true, Bool.and_eq_false_iff, Bool.or_eq_true, Bool.or_eq_false_iff, not_true_eq_false, not_false_eq_true, Int.not_lt, Int.not_le] at hb_; first | done | (exfalso; first | omega | contradiction)) | (case hf => intro hb_; try simp only [pd_true, pd_false, Bool.not_eq_true', Bool.not_eq_false', Bool.and_eq_true, Bool.and_eq_false_iff, Bool.or_eq_true, Bool.or_eq_false_iff, not_true_eq_false, not_false_eq_true, Int.not_lt, Int.not_le] at hb_; first | done | (exfalso; first | omega | contradiction))); intro hb_; try simp only [pd_true, pd_false, Bool.not_eq_true', Bool.not_eq_false', Bool.and_eq_true, Bool.and_eq_false_iff, Bool.or_eq_true, Bool.or_eq_false_iff, not_true_eq_false, not_false_eq_true, Int.not_lt, Int.not_le] at hb_) | ((with_reducible apply XP.split); (case ho | hg | hj | hd | hb => exact rfl); (fail_if_success (case hf => exact fun h => Bool.noConfusion h)); (fail_if_success (case ht => exact fun h => Bool.noConfusion h)); (first | (case ht => intro hb_; try simp only [pd_true, pd_false, Bool.not_eq_true', Bool.not_eq_false', Bool.and_eq_true, Bool.and_eq_false_iff, Bool.or_eq_true, Bool.or_eq_false_iff, not_true_eq_false, not_false_eq_true, Int.not_lt, Int.not_le] at hb_; first | done | (exfalso; first | omega | contradiction)) | (case hf => intro hb_; try simp only [pd_true, pd_false, Bool.not_eq_true', Bool.not_eq_false', Bool.and_eq_true, Bool.and_eq_false_iff, Bool.or_eq_true, Bool.or_eq_false_iff, not_true_eq_false, not_false_eq_true, Int.not_lt, Int.not_le] at hb_; first | done | (exfalso; first | omega | contradiction))); intro hb_; try simp only [pd_true, pd_false, Bool.not_eq_true', Bool.not_eq_false', Bool.and_eq_true, Bool.and_eq_false_iff, Bool.or_eq_true, Bool.or_eq_false_iff, not_true_eq_false, not_false_eq_true, Int.not_lt, Int.not_le] at hb_) | ((with_reducible apply XC.cond); (case hc => exact rfl); (first | (case ht => intro hb_; try simp only [pd_true, pd_false, Bool.not_eq_true', Bool.not_eq_false', Bool.and_eq_true, Bool.and_eq_false_iff, Bool.or_eq_true, Bool.or_eq_false_iff, not_true_eq_false, not_false_eq_true, Int.not_lt, Int.not_le] at hb_; first | done | (exfalso; first | omega | contradiction)) | (case hf => intro hb_; try simp only [pd_true, pd_false, Bool.not_eq_true', Bool.not_eq_false', Bool.and_eq_true, Bool.and_eq_false_iff, Bool.or_eq_true, Bool.or_eq_false_iff, not_true_eq_false, not_false_eq_true, Int.not_lt, Int.not_le] at hb_; first | done | (exfalso; first | omega | contradiction))); intro hb_; try simp only [pd_true, pd_false, Bool.not_eq_true', Bool.not_eq_false', Bool.and_eq_true, Bool.and_eq_false_iff, Bool.or_eq_true, Bool.or_eq_false_iff, not_true_eq_false, not_false_eq_true, Int.not_lt, Int.not_le] at hb_))))
      ((with_reducible apply XQ.retE); (case hr => exact .t rfl (.t rfl (.t rfl .nil))))
      refine ⟨F, .of (List.sublist_cons_self _ _), ?_⟩
      unfold UnqR; rw [hd]
      refine ⟨_, ?_, hown⟩
      show Value.tuple #[_, _, _] = Value.tuple #[_, _, _]
      rw [intS (i := m) (m := 1073741824) (by omega) (by omega)]
      simp only [List.length_drop]
      rw [show t.length - (t.length - (m + 1)) = m + 1 by omega]
    by_cases h92 : c = 92
    case neg =>
      have hp := hU.plain hc hgg h34 h92
      (repeat (first | (with_reducible apply XL.op) | ((with_reducible apply XOp.p1); (case hg | hv => exact rfl)) | (with_reducible apply XL.nilT) | (with_reducible apply XC.seq) | (with_reducible apply XC.region (Γ := Γ)) | (first | ((with_reducible apply XOp.split); (case hg | hj | hd | hb => exact rfl); (fail_if_success (case hf => exact fun h => Bool.noConfusion h)); (fail_if_success (case ht => exact fun h => Bool.noConfusion h)); (first | (case ht => intro hb_; try simp only [pd_true, pd_false, Bool.not_eq_true', Bool.not_eq_false', Bool.and_eq_true, Bool.and_eq_false_iff, Bool.or_eq_true, Bool.or_eq_false_iff, not_true_eq_false, not_false_eq_true, Int.not_lt, Int.not_le] at hb_; first | done | (exfalso; first | omega | contradiction)) | (case hf => intro hb_; try simp only [pd_true, pd_false, Bool.not_eq_true', Bool.not_eq_false', Bool.and_eq_true, Bool.and_eq_false_iff, Bool.or_eq_true, Bool.or_eq_false_iff, not_true_eq_false, not_false_eq_true, Int.not_lt, Int.not_le] at hb_; first | done | (exfalso; first | omega | contradiction))); intro hb_; try simp only [pd_true, pd_false, Bool.not_eq_true', Bool.not_eq_false', Bool.and_eq_true, Bool.and_eq_false_iff, Bool.or_eq_true, Bool.or_eq_false_iff, not_true_eq_false, not_false_eq_true, Int.not_lt, Int.not_le] at hb_) | ((with_reducible apply XP.split); (case ho | hg | hj | hd | hb => exact rfl); (fail_if_success (case hf => exact fun h => Bool.noConfusion h)); (fail_if_success (case ht => exact fun h => Bool.noConfusion h)); (first | (case ht => intro hb_; try simp only [pd_true, pd_false, Bool.not_eq_true', Bool.not_eq_false', Bool.and_eq_true, Bool.and_eq_false_iff, Bool.or_eq_true, Bool.or_eq_false_iff, not_true_eq_false, not_false_eq_true, Int.not_lt, Int.not_le] at hb_; first | done | (exfalso; first | omega | contradiction)) | (case hf => intro hb_; try simp only [pd_true, pd_false, Bool.not_eq_true', Bool.not_eq_false', Bool.and_eq_true, Bool.and_eq_false_iff, Bool.or_eq_true, Bool.or_eq_false_iff, not_true_eq_false, not_false_eq_true, Int.not_lt, Int.not_le] at hb_; first | done | (exfalso; first | omega | contradiction))); intro hb_; try simp only [pd_true, pd_false, Bool.not_eq_true', Bool.not_eq_false', Bool.and_eq_true, Bool.and_eq_false_iff, Bool.or_eq_true, Bool.or_eq_false_iff, not_true_eq_false, not_false_eq_true, Int.not_lt, Int.not_le] at hb_) | ((with_reducible apply XC.cond); (case hc => exact rfl); (first | (case ht => intro hb_; try simp only [pd_true, pd_false, Bool.not_eq_true', Bool.not_eq_false', Bool.and_eq_true, Bool.and_eq_false_iff, Bool.or_eq_true, Bool.or_eq_false_iff, not_true_eq_false, not_false_eq_true, Int.not_lt, Int.not_le] at hb_; first | done | (exfalso; first | omega | contradiction)) | (case hf => intro hb_; try simp only [pd_true, pd_false, Bool.not_eq_true', Bool.not_eq_false', Bool.and_eq_true, Bool.and_eq_false_iff, Bool.or_eq_true, Bool.or_eq_false_iff, not_true_eq_false, not_false_eq_true, Int.not_lt, Int.not_le] at hb_; first | done | (exfalso; first | omega | contradiction))); intro hb_; try simp only [pd_true, pd_false, Bool.not_eq_true', Bool.not_eq_false', Bool.and_eq_true, Bool.and_eq_false_iff, Bool.or_eq_true, Bool.or_eq_false_iff, not_true_eq_false, not_false_eq_true, Int.not_lt, Int.not_le] at hb_))))
      ((with_reducible apply XOp.buildSlice); (case hg | ht | hk | he | hz | hzl | hf => exact rfl); intro bb)
      (repeat ((with_reducible apply XL.op)))
      ((with_reducible apply XOp.append1R (R := [(ib, .stringIter (strOf t) (m + 1))])); (case hg => exact rfl); (case ht => exact rfl); (case hk => exact rfl); (case he => exact rfl); (case hown => exact hown); (case hs => exact rfl); (case hx => exact rfl); (case hL => exact rfl); (case hl => exact rfl); (case h1 => exact rfl); (case hz => exact rfl); (case hsz => exact Nat.zero_lt_succ _); (case hk0 => exact Nat.zero_lt_succ _); (case h63 => simp only [maxLen]; omega); (case hb => simp only []; omega); intro v_ F_ hown_; obtain ⟨a_, c_, rfl⟩ := hown_.val)
      (repeat (first | (with_reducible apply XL.op) | ((with_reducible apply XOp.p1); (case hg | hv => exact rfl)) | (with_reducible apply XL.nilT) | (with_reducible apply XC.region (Γ := Γ)) | (with_reducible apply XL.nilQ) | (with_reducible apply XQ.nt) | (with_reducible apply XQ.nb)))
      refine ⟨k - 1, by omega, _, .of (List.Sublist.refl _), m + 1, m + 1, b ++ [c], _, F_, by omega, hp, hown_.conv (by simp) ?_, rfl, rfl, rfl, intS (m := 1073741824) (by omega) (by omega), rfl, trivial⟩
      rw [show IntKind.u8.wrap c = c from wrap_of (inK_u8.2 hcB)]; simp [zerosL]
    subst h92
    obtain ⟨hE1, hE2⟩ := hU.esc hc
    have hdr : t.drop (((m : Nat) : Int)).toNat = 92 :: t.drop (m + 1) := by
      rw [Int.toNat_natCast, List.drop_eq_getElem_cons hi, (List.getElem?_eq_some_iff.1 hc).2]
    rw [show t.drop m = 92 :: t.drop (m + 1) from hdr] at hE1 hE2
    have hBd : isB (92 :: t.drop (m + 1)) := fun x hx => by rw [← hdr] at hx; exact hB x (List.drop_subset _ _ hx)
    (repeat (first | (with_reducible apply XL.op) | ((with_reducible apply XOp.p1); (case hg | hv => exact rfl)) | (with_reducible apply XL.nilT) | (with_reducible apply XC.seq) | (with_reducible apply XC.region (Γ := Γ)) | (first | ((with_reducible apply XOp.split); (case hg | hj | hd | hb => exact rfl); (fail_if_success (case hf => exact fun h => Bool.noConfusion h)); (fail_if_success (case ht => exact fun h => Bool.noConfusion h)); (first | (case ht => intro hb_; try simp only [pd_true, pd_false, Bool.not_eq_true', Bool.not_eq_false', Bool.and_eq_true, Bool.and_eq_false_iff, Bool.or_eq_true, Bool.or_eq_false_iff, not_true_eq_false, not_false_eq_true, Int.not_lt, Int.not_le] at hb_; first | done | (exfalso; first | omega | contradiction)) | (case hf => intro hb_; try simp only [pd_true, pd_false, Bool.not_eq_true', Bool.not_eq_false', Bool.and_eq_true, Bool.and_eq_false_iff, Bool.or_eq_true, Bool.or_eq_false_iff, not_true_eq_false, not_false_eq_true, Int.not_lt, Int.not_le] at hb_; first | done | (exfalso; first | omega | contradiction))); intro hb_; try simp only [pd_true, pd_false, Bool.not_eq_true', Bool.not_eq_false', Bool.and_eq_true, Bool.and_eq_false_iff, Bool.or_eq_true, Bool.or_eq_false_iff, not_true_eq_false, not_false_eq_true, Int.not_lt, Int.not_le] at hb_) | ((with_reducible apply XP.split); (case ho | hg | hj | hd | hb => exact rfl); (fail_if_success (case hf => exact fun h => Bool.noConfusion h)); (fail_if_success (case ht => exact fun h => Bool.noConfusion h)); (first | (case ht => intro hb_; try simp only [pd_true, pd_false, Bool.not_eq_true', Bool.not_eq_false', Bool.and_eq_true, Bool.and_eq_false_iff, Bool.or_eq_true, Bool.or_eq_false_iff, not_true_eq_false, not_false_eq_true, Int.not_lt, Int.not_le] at hb_; first | done | (exfalso; first | omega | contradiction)) | (case hf => intro hb_; try simp only [pd_true, pd_false, Bool.not_eq_true', Bool.not_eq_false', Bool.and_eq_true, Bool.and_eq_false_iff, Bool.or_eq_true, Bool.or_eq_false_iff, not_true_eq_false, not_false_eq_true, Int.not_lt, Int.not_le] at hb_; first | done | (exfalso; first | omega | contradiction))); intro hb_; try simp only [pd_true, pd_false, Bool.not_eq_true', Bool.not_eq_false', Bool.and_eq_true, Bool.and_eq_false_iff, Bool.or_eq_true, Bool.or_eq_false_iff, not_true_eq_false, not_false_eq_true, Int.not_lt, Int.not_le] at hb_) | ((with_reducible apply XC.cond); (case hc => exact rfl); (first | (case ht => intro hb_; try simp only [pd_true, pd_false, Bool.not_eq_true', Bool.not_eq_false', Bool.and_eq_true, Bool.and_eq_false_iff, Bool.or_eq_true, Bool.or_eq_false_iff, not_true_eq_false, not_false_eq_true, Int.not_lt, Int.not_le] at hb_; first | done | (exfalso; first | omega | contradiction)) | (case hf => intro hb_; try simp only [pd_true, pd_false, Bool.not_eq_true', Bool.not_eq_false', Bool.and_eq_true, Bool.and_eq_false_iff, Bool.or_eq_true, Bool.or_eq_false_iff, not_true_eq_false, not_false_eq_true, Int.not_lt, Int.not_le] at hb_; first | done | (exfalso; first | omega | contradiction))); intro hb_; try simp only [pd_true, pd_false, Bool.not_eq_true', Bool.not_eq_false', Bool.and_eq_true, Bool.and_eq_false_iff, Bool.or_eq_true, Bool.or_eq_false_iff, not_true_eq_false, not_false_eq_true, Int.not_lt, Int.not_le] at hb_)) | (first | ((with_reducible apply XOp.pr); (case hg => exact rfl); (case hr => (with_reducible apply PR.strFrom); (case ht => exact rfl); (case hk => exact rfl); (case hx => exact rfl); (case hy => exact rfl); (case hb => exact ⟨by omega, by omega⟩))) | ((with_reducible apply XP.pr); (case ho => exact rfl); (case hg => exact rfl); (case hr => (with_reducible apply PR.strFrom); (case ht => exact rfl); (case hk => exact rfl); (case hx => exact rfl); (case hy => exact rfl); (case hb => exact ⟨by omega, by omega⟩))))))
    rw [hdr]
    ((with_reducible apply XOp.callQ (hF := escape_fn (t.drop (m + 1)) hBd)); (case hg => exact rfl); (case hc => exact rfl); (case ha => exact rfl); try (case hA => exact Known.true))
    rintro _ rfl
    generalize hev : escV (92 :: t.drop (m + 1)) = ev_ at *
    (repeat (first | (with_reducible apply XL.op) | ((with_reducible apply XOp.p1); (case hg | hv => exact rfl)) | (with_reducible apply XL.nilT) | (with_reducible apply XC.seq) | (with_reducible apply XC.region (Γ := Γ))))
    by_cases hz : ((ev_.2 : Nat) : Int) = 0
    · have hn := hE1 (by omega)
      (repeat (first | (with_reducible apply XL.op) | ((with_reducible apply XOp.p1); (case hg | hv => exact rfl)) | (with_reducible apply XL.nilT) | (with_reducible apply XC.seq) | (with_reducible apply XC.region (Γ := Γ)) | (with_reducible apply XQ.ret) | (with_reducible apply XQ.rt) | (with_reducible apply XQ.rb) | (first | ((with_reducible apply XOp.split); (case hg | hj | hd | hb => exact rfl); (fail_if_success (case hf => exact fun h => Bool.noConfusion h)); (fail_if_success (case ht => exact fun h => Bool.noConfusion h)); (first | (case ht => intro hb_; try simp only [pd_true, pd_false, Bool.not_eq_true', Bool.not_eq_false', Bool.and_eq_true, Bool.and_eq_false_iff, Bool.or_eq_true, Bool.or_eq_false_iff, not_true_eq_false, not_false_eq_true, Int.not_lt, Int.not_le] at hb_; first | done | (exfalso; first | omega | contradiction)) | (case hf => intro hb_; try simp only [pd_true, pd_false, Bool.not_eq_true', Bool.not_eq_false', Bool.and_eq_true, Bool.and_eq_false_iff, Bool.or_eq_true, Bool.or_eq_false_iff, not_true_eq_false, not_false_eq_true, Int.not_lt, Int.not_le] at hb_; first | done | (exfalso; first | omega | contradiction))); intro hb_; try simp only [pd_true, pd_false, Bool.not_eq_true', Bool.not_eq_false', Bool.and_eq_true, Bool.and_eq_false_iff, Bool.or_eq_true, Bool.or_eq_false_iff, not_true_eq_false, not_false_eq_true, Int.not_lt, Int.not_le] at hb_) | ((with_reducible apply XP.split); (case ho | hg | hj | hd | hb => exact rfl); (fail_if_success (case hf => exact fun h => Bool.noConfusion h)); (fail_if_success (case ht => exact fun h => Bool.noConfusion h)); (first | (case ht => intro hb_; try simp only [pd_true, pd_false, Bool.not_eq_true', Bool.not_eq_false', Bool.and_eq_true, Bool.and_eq_false_iff, Bool.or_eq_true, Bool.or_eq_false_iff, not_true_eq_false, not_false_eq_true, Int.not_lt, Int.not_le] at hb_; first | done | (exfalso; first | omega | contradiction)) | (case hf => intro hb_; try simp only [pd_true, pd_false, Bool.not_eq_true', Bool.not_eq_false', Bool.and_eq_true, Bool.and_eq_false_iff, Bool.or_eq_true, Bool.or_eq_false_iff, not_true_eq_false, not_false_eq_true, Int.not_lt, Int.not_le] at hb_; first | done | (exfalso; first | omega | contradiction))); intro hb_; try simp only [pd_true, pd_false, Bool.not_eq_true', Bool.not_eq_false', Bool.and_eq_true, Bool.and_eq_false_iff, Bool.or_eq_true, Bool.or_eq_false_iff, not_true_eq_false, not_false_eq_true, Int.not_lt, Int.not_le] at hb_) | ((with_reducible apply XC.cond); (case hc => exact rfl); (first | (case ht => intro hb_; try simp only [pd_true, pd_false, Bool.not_eq_true', Bool.not_eq_false', Bool.and_eq_true, Bool.and_eq_false_iff, Bool.or_eq_true, Bool.or_eq_false_iff, not_true_eq_false, not_false_eq_true, Int.not_lt, Int.not_le] at hb_; first | done | (exfalso; first | omega | contradiction)) | (case hf => intro hb_; try simp only [pd_true, pd_false, Bool.not_eq_true', Bool.not_eq_false', Bool.and_eq_true, Bool.and_eq_false_iff, Bool.or_eq_true, Bool.or_eq_false_iff, not_true_eq_false, not_false_eq_true, Int.not_lt, Int.not_le] at hb_; first | done | (exfalso; first | omega | contradiction))); intro hb_; try simp only [pd_true, pd_false, Bool.not_eq_true', Bool.not_eq_false', Bool.and_eq_true, Bool.and_eq_false_iff, Bool.or_eq_true, Bool.or_eq_false_iff, not_true_eq_false, not_false_eq_true, Int.not_lt, Int.not_le] at hb_))))
      ((with_reducible apply XQ.retE); (case hr => exact .t rfl (.t rfl (.t rfl .nil))))
      refine ⟨[], .of (List.nil_sublist _), ?_⟩
      unfold UnqR; rw [hn]; exact ⟨rfl, rfl⟩
    · have hp := hE2 (by omega)
      (repeat (first | (with_reducible apply XL.op) | ((with_reducible apply XOp.p1); (case hg | hv => exact rfl)) | (with_reducible apply XC.seq) | (with_reducible apply XC.region (Γ := Γ)) | (with_reducible apply XQ.skip) | (with_reducible apply XQ.nt) | (first | ((with_reducible apply XOp.split); (case hg | hj | hd | hb => exact rfl); (fail_if_success (case hf => exact fun h => Bool.noConfusion h)); (fail_if_success (case ht => exact fun h => Bool.noConfusion h)); (first | (case ht => intro hb_; try simp only [pd_true, pd_false, Bool.not_eq_true', Bool.not_eq_false', Bool.and_eq_true, Bool.and_eq_false_iff, Bool.or_eq_true, Bool.or_eq_false_iff, not_true_eq_false, not_false_eq_true, Int.not_lt, Int.not_le] at hb_; first | done | (exfalso; first | omega | contradiction)) | (case hf => intro hb_; try simp only [pd_true, pd_false, Bool.not_eq_true', Bool.not_eq_false', Bool.and_eq_true, Bool.and_eq_false_iff, Bool.or_eq_true, Bool.or_eq_false_iff, not_true_eq_false, not_false_eq_true, Int.not_lt, Int.not_le] at hb_; first | done | (exfalso; first | omega | contradiction))); intro hb_; try simp only [pd_true, pd_false, Bool.not_eq_true', Bool.not_eq_false', Bool.and_eq_true, Bool.and_eq_false_iff, Bool.or_eq_true, Bool.or_eq_false_iff, not_true_eq_false, not_false_eq_true, Int.not_lt, Int.not_le] at hb_) | ((with_reducible apply XP.split); (case ho | hg | hj | hd | hb => exact rfl); (fail_if_success (case hf => exact fun h => Bool.noConfusion h)); (fail_if_success (case ht => exact fun h => Bool.noConfusion h)); (first | (case ht => intro hb_; try simp only [pd_true, pd_false, Bool.not_eq_true', Bool.not_eq_false', Bool.and_eq_true, Bool.and_eq_false_iff, Bool.or_eq_true, Bool.or_eq_false_iff, not_true_eq_false, not_false_eq_true, Int.not_lt, Int.not_le] at hb_; first | done | (exfalso; first | omega | contradiction)) | (case hf => intro hb_; try simp only [pd_true, pd_false, Bool.not_eq_true', Bool.not_eq_false', Bool.and_eq_true, Bool.and_eq_false_iff, Bool.or_eq_true, Bool.or_eq_false_iff, not_true_eq_false, not_false_eq_true, Int.not_lt, Int.not_le] at hb_; first | done | (exfalso; first | omega | contradiction))); intro hb_; try simp only [pd_true, pd_false, Bool.not_eq_true', Bool.not_eq_false', Bool.and_eq_true, Bool.and_eq_false_iff, Bool.or_eq_true, Bool.or_eq_false_iff, not_true_eq_false, not_false_eq_true, Int.not_lt, Int.not_le] at hb_) | ((with_reducible apply XC.cond); (case hc => exact rfl); (first | (case ht => intro hb_; try simp only [pd_true, pd_false, Bool.not_eq_true', Bool.not_eq_false', Bool.and_eq_true, Bool.and_eq_false_iff, Bool.or_eq_true, Bool.or_eq_false_iff, not_true_eq_false, not_false_eq_true, Int.not_lt, Int.not_le] at hb_; first | done | (exfalso; first | omega | contradiction)) | (case hf => intro hb_; try simp only [pd_true, pd_false, Bool.not_eq_true', Bool.not_eq_false', Bool.and_eq_true, Bool.and_eq_false_iff, Bool.or_eq_true, Bool.or_eq_false_iff, not_true_eq_false, not_false_eq_true, Int.not_lt, Int.not_le] at hb_; first | done | (exfalso; first | omega | contradiction))); intro hb_; try simp only [pd_true, pd_false, Bool.not_eq_true', Bool.not_eq_false', Bool.and_eq_true, Bool.and_eq_false_iff, Bool.or_eq_true, Bool.or_eq_false_iff, not_true_eq_false, not_false_eq_true, Int.not_lt, Int.not_le] at hb_))))
      ((with_reducible apply XOp.buildSlice); (case hg | ht | hk | he | hz | hzl | hf => exact rfl); intro bb)
      (repeat ((with_reducible apply XL.op)))
      ((with_reducible apply XOp.append1R (R := [(ib, .stringIter (strOf t) (m + 1))])); (case hg => exact rfl); (case ht => exact rfl); (case hk => exact rfl); (case he => exact rfl); (case hown => exact hown); (case hs => exact rfl); (case hx => exact rfl); (case hL => exact rfl); (case hl => exact rfl); (case h1 => exact rfl); (case hz => exact rfl); (case hsz => exact Nat.zero_lt_succ _); (case hk0 => exact Nat.zero_lt_succ _); (case h63 => simp only [maxLen]; omega); (case hb => simp only []; omega); intro v_ F_ hown_; obtain ⟨a_, c_, rfl⟩ := hown_.val)
      (repeat (first | (with_reducible apply XL.op) | ((with_reducible apply XOp.p1); (case hg | hv => exact rfl)) | (with_reducible apply XL.nilT) | (with_reducible apply XC.region (Γ := Γ)) | (with_reducible apply XL.nilQ) | (with_reducible apply XQ.nt) | (with_reducible apply XQ.nb)))
      refine ⟨k - 1, by omega, _, .of (List.Sublist.refl _), m + 1, m + ev_.2, b ++ [ev_.1], _, F_, by omega, hp, hown_.conv (by simp) (by simp [zerosL]), rfl, rfl, rfl, ?_, rfl, trivial⟩
      show Value.int _ _ = Value.int _ _
      have := hp.sub
      rw [wrap64_of (by omega) (by omega)]; rfl
end Go.Proofs.YtepfnakabafhlaaDoorX
/- A literal at the head of a text, read by the document. -/
namespace Go.Proofs.YtepfnakabafhlaaDoorX
open Go Go.SX

theorem u8w (x : Int) : IntKind.u8.wrap x = x % 256 := by simp [IntKind.wrap, IntKind.bits, IntKind.signed]
theorem value_fn (c : Int) (hc : 0 ≤ c ∧ c ≤ 255) : FC Tryd.prog 27 [.int .u8 c] [] (fun _ => True) (fun v L => v = .int .u8 (valW c) ∧ L = []) := by
  refine FC.nil ?_
  refine FC.intro Tryd.func27 rfl (by kernel_rfl) 10 [.tmp 2] rfl rfl rfl ?_
  intro w0 _
  by_cases h : 97 ≤ c
  · (repeat (first | (with_reducible apply XL.op) | ((with_reducible apply XOp.p1); (case hg | hv => exact rfl)) | (with_reducible apply XL.nilT) | (with_reducible apply XC.seq) | (with_reducible apply XC.region (Γ := Γ)) | (with_reducible apply XQ.ret) | (with_reducible apply XQ.rt) | (first | ((with_reducible apply XOp.split); (case hg | hj | hd | hb => exact rfl); (fail_if_success (case hf => exact fun h => Bool.noConfusion h)); (fail_if_success (case ht => exact fun h => Bool.noConfusion h)); (first | (case ht => intro hb_; try simp only [pd_true, pd_false, Bool.not_eq_true', Bool.not_eq_false', Bool.and_eq_true, Bool.and_eq_false_iff, Bool.or_eq_true, Bool.or_eq_false_iff, not_true_eq_false, not_false_eq_true, Int.not_lt, Int.not_le] at hb_; first | done | (exfalso; first | omega | contradiction)) | (case hf => intro hb_; try simp only [pd_true, pd_false, Bool.not_eq_true', Bool.not_eq_false', Bool.and_eq_true, Bool.and_eq_false_iff, Bool.or_eq_true, Bool.or_eq_false_iff, not_true_eq_false, not_false_eq_true, Int.not_lt, Int.not_le] at hb_; first | done | (exfalso; first | omega | contradiction))); intro hb_; try simp only [pd_true, pd_false, Bool.not_eq_true', Bool.not_eq_false', Bool.and_eq_true, Bool.and_eq_false_iff, Bool.or_eq_true, Bool.or_eq_false_iff, not_true_eq_false, not_false_eq_true, Int.not_lt, Int.not_le] at hb_) | ((with_reducible apply XP.split); (case ho | hg | hj | hd | hb => exact rfl); (fail_if_success (case hf => exact fun h => Bool.noConfusion h)); (fail_if_success (case ht => exact fun h => Bool.noConfusion h)); (first | (case ht => intro hb_; try simp only [pd_true, pd_false, Bool.not_eq_true', Bool.not_eq_false', Bool.and_eq_true, Bool.and_eq_false_iff, Bool.or_eq_true, Bool.or_eq_false_iff, not_true_eq_false, not_false_eq_true, Int.not_lt, Int.not_le] at hb_; first | done | (exfalso; first | omega | contradiction)) | (case hf => intro hb_; try simp only [pd_true, pd_false, Bool.not_eq_true', Bool.not_eq_false', Bool.and_eq_true, Bool.and_eq_false_iff, Bool.or_eq_true, Bool.or_eq_false_iff, not_true_eq_false, not_false_eq_true, Int.not_lt, Int.not_le] at hb_; first | done | (exfalso; first | omega | contradiction))); intro hb_; try simp only [pd_true, pd_false, Bool.not_eq_true', Bool.not_eq_false', Bool.and_eq_true, Bool.and_eq_false_iff, Bool.or_eq_true, Bool.or_eq_false_iff, not_true_eq_false, not_false_eq_true, Int.not_lt, Int.not_le] at hb_) | ((with_reducible apply XC.cond); (case hc => exact rfl); (first | (case ht => intro hb_; try simp only [pd_true, pd_false, Bool.not_eq_true', Bool.not_eq_false', Bool.and_eq_true, Bool.and_eq_false_iff, Bool.or_eq_true, Bool.or_eq_false_iff, not_true_eq_false, not_false_eq_true, Int.not_lt, Int.not_le] at hb_; first | done | (exfalso; first | omega | contradiction)) | (case hf => intro hb_; try simp only [pd_true, pd_false, Bool.not_eq_true', Bool.not_eq_false', Bool.and_eq_true, Bool.and_eq_false_iff, Bool.or_eq_true, Bool.or_eq_false_iff, not_true_eq_false, not_false_eq_true, Int.not_lt, Int.not_le] at hb_; first | done | (exfalso; first | omega | contradiction))); intro hb_; try simp only [pd_true, pd_false, Bool.not_eq_true', Bool.not_eq_false', Bool.and_eq_true, Bool.and_eq_false_iff, Bool.or_eq_true, Bool.or_eq_false_iff, not_true_eq_false, not_false_eq_true, Int.not_lt, Int.not_le] at hb_))))
    ((with_reducible apply XQ.retE); (case hr => exact .t rfl .nil))
    show Value.int _ _ = Value.int _ _
    rw [u8w, u8w]; unfold valW; rw [if_pos h]; congr 1; omega
  · (repeat (first | (with_reducible apply XL.op) | ((with_reducible apply XOp.p1); (case hg | hv => exact rfl)) | (with_reducible apply XL.nilT) | (with_reducible apply XC.seq) | (with_reducible apply XC.region (Γ := Γ)) | (with_reducible apply XQ.skip) | (with_reducible apply XQ.ret) | (with_reducible apply XQ.nt) | (first | ((with_reducible apply XOp.split); (case hg | hj | hd | hb => exact rfl); (fail_if_success (case hf => exact fun h => Bool.noConfusion h)); (fail_if_success (case ht => exact fun h => Bool.noConfusion h)); (first | (case ht => intro hb_; try simp only [pd_true, pd_false, Bool.not_eq_true', Bool.not_eq_false', Bool.and_eq_true, Bool.and_eq_false_iff, Bool.or_eq_true, Bool.or_eq_false_iff, not_true_eq_false, not_false_eq_true, Int.not_lt, Int.not_le] at hb_; first | done | (exfalso; first | omega | contradiction)) | (case hf => intro hb_; try simp only [pd_true, pd_false, Bool.not_eq_true', Bool.not_eq_false', Bool.and_eq_true, Bool.and_eq_false_iff, Bool.or_eq_true, Bool.or_eq_false_iff, not_true_eq_false, not_false_eq_true, Int.not_lt, Int.not_le] at hb_; first | done | (exfalso; first | omega | contradiction))); intro hb_; try simp only [pd_true, pd_false, Bool.not_eq_true', Bool.not_eq_false', Bool.and_eq_true, Bool.and_eq_false_iff, Bool.or_eq_true, Bool.or_eq_false_iff, not_true_eq_false, not_false_eq_true, Int.not_lt, Int.not_le] at hb_) | ((with_reducible apply XP.split); (case ho | hg | hj | hd | hb => exact rfl); (fail_if_success (case hf => exact fun h => Bool.noConfusion h)); (fail_if_success (case ht => exact fun h => Bool.noConfusion h)); (first | (case ht => intro hb_; try simp only [pd_true, pd_false, Bool.not_eq_true', Bool.not_eq_false', Bool.and_eq_true, Bool.and_eq_false_iff, Bool.or_eq_true, Bool.or_eq_false_iff, not_true_eq_false, not_false_eq_true, Int.not_lt, Int.not_le] at hb_; first | done | (exfalso; first | omega | contradiction)) | (case hf => intro hb_; try simp only [pd_true, pd_false, Bool.not_eq_true', Bool.not_eq_false', Bool.and_eq_true, Bool.and_eq_false_iff, Bool.or_eq_true, Bool.or_eq_false_iff, not_true_eq_false, not_false_eq_true, Int.not_lt, Int.not_le] at hb_; first | done | (exfalso; first | omega | contradiction))); intro hb_; try simp only [pd_true, pd_false, Bool.not_eq_true', Bool.not_eq_false', Bool.and_eq_true, Bool.and_eq_false_iff, Bool.or_eq_true, Bool.or_eq_false_iff, not_true_eq_false, not_false_eq_true, Int.not_lt, Int.not_le] at hb_) | ((with_reducible apply XC.cond); (case hc => exact rfl); (first | (case ht => intro hb_; try simp only [pd_true, pd_false, Bool.not_eq_true', Bool.not_eq_false', Bool.and_eq_true, Bool.and_eq_false_iff, Bool.or_eq_true, Bool.or_eq_false_iff, not_true_eq_false, not_false_eq_true, Int.not_lt, Int.not_le] at hb_; first | done | (exfalso; first | omega | contradiction)) | (case hf => intro hb_; try simp only [pd_true, pd_false, Bool.not_eq_true', Bool.not_eq_false', Bool.and_eq_true, Bool.and_eq_false_iff, Bool.or_eq_true, Bool.or_eq_false_iff, not_true_eq_false, not_false_eq_true, Int.not_lt, Int.not_le] at hb_; first | done | (exfalso; first | omega | contradiction))); intro hb_; try simp only [pd_true, pd_false, Bool.not_eq_true', Bool.not_eq_false', Bool.and_eq_true, Bool.and_eq_false_iff, Bool.or_eq_true, Bool.or_eq_false_iff, not_true_eq_false, not_false_eq_true, Int.not_lt, Int.not_le] at hb_))))
    ((with_reducible apply XQ.retE); (case hr => exact .t rfl .nil))
    show Value.int _ _ = Value.int _ _
    rw [u8w]; unfold valW; rw [if_neg h]
theorem valW_rng (c : Int) : 0 ≤ valW c ∧ valW c ≤ 255 := by unfold valW; split <;> omega
/-- Where the lenient walk stands: at i, the bytes b so far. -/
structure LAt (t : List Int) (i : Nat) (b : List Int) : Prop where
  pos : 1 ≤ i
  le : i ≤ t.length ∨ (i = 1 ∧ t = [])
  len : b.length < i
  eq : ∃ k, t.length ≤ k + i ∧ refB t = b ++ lenL k (t.drop i)
theorem LAt.start (t : List Int) : LAt t 1 [] := by
  refine ⟨Nat.le_refl _, ?_, by simp, t.length, by omega, rfl⟩
  cases t with
  | nil => exact .inr ⟨rfl, rfl⟩
  | cons c t => exact .inl (by simp)
theorem LAt.ends {t : List Int} {i : Nat} {b : List Int} (h : LAt t i b) (hi : t.length ≤ i) : refB t = b := by
  obtain ⟨k, _, e⟩ := h.eq
  rw [e, List.drop_of_length_le hi]
  cases k <;> simp [lenL]
theorem LAt.quote {t : List Int} {i : Nat} {b : List Int} (h : LAt t i b) (hc : t[i]? = some 34) : refB t = b := by
  obtain ⟨k, _, e⟩ := h.eq
  rw [e, List.drop_eq_getElem_cons (List.getElem?_eq_some_iff.1 hc).1, (List.getElem?_eq_some_iff.1 hc).2]
  cases k with
  | zero => simp [lenL]
  | succ k => simp [lenL]
theorem LAt.step {t : List Int} {i : Nat} {b : List Int} (h : LAt t i b) (hi : i < t.length) : ∃ k, t.length ≤ k + 1 + i ∧ refB t = b ++ lenL (k + 1) (t[i] :: t.drop (i + 1)) := by
  obtain ⟨k, hk, e⟩ := h.eq
  obtain ⟨k, rfl⟩ : ∃ m, k = m + 1 := ⟨k - 1, by omega⟩
  exact ⟨k, hk, by rw [e, List.drop_eq_getElem_cons hi]⟩
theorem LAt.one {t : List Int} {i : Nat} {b : List Int} (h : LAt t i b) {c : Int} (hc : t[i]? = some c) (h1 : c ≠ 34) (h2 : c ≠ 92) : LAt t (i + 1) (b ++ [c]) := by
  obtain ⟨hl, hv⟩ := List.getElem?_eq_some_iff.1 hc
  obtain ⟨k, hk, e⟩ := h.step hl
  refine ⟨by omega, .inl hl, by rw [List.length_append]; have := h.len; simp; omega, k, by omega, ?_⟩
  rw [e, hv]; simp only [lenL]; rw [if_neg h1, if_neg h2]; simp
theorem LAt.hex {t : List Int} {i : Nat} {b : List Int} (h : LAt t i b) (hc : t[i]? = some 92) (h1 : t[i + 1]? = some 120) {x y : Int} (hx : t[i + 2]? = some x) (hy : t[i + 3]? = some y) :
    LAt t (i + 4) (b ++ [((valW x % 16 * 16) % 256 + valW y % 16) % 256]) := by
  obtain ⟨hl, hv⟩ := List.getElem?_eq_some_iff.1 hc
  obtain ⟨hl1, hv1⟩ := List.getElem?_eq_some_iff.1 h1
  obtain ⟨hl2, hv2⟩ := List.getElem?_eq_some_iff.1 hx
  obtain ⟨hl3, hv3⟩ := List.getElem?_eq_some_iff.1 hy
  obtain ⟨k, hk, e⟩ := h.step hl
  refine ⟨by omega, .inl (by omega), by rw [List.length_append]; have := h.len; simp; omega, k, by omega, ?_⟩
  rw [e, hv, List.drop_eq_getElem_cons hl1, hv1, List.drop_eq_getElem_cons hl2, hv2, List.drop_eq_getElem_cons hl3, hv3]
  simp [lenL]
theorem LAt.two {t : List Int} {i : Nat} {b : List Int} (h : LAt t i b) (hc : t[i]? = some 92) {y : Int} (h1 : t[i + 1]? = some y) (hn : ¬ (i + 3 < t.length ∧ y = 120)) : LAt t (i + 2) (b ++ [y]) := by
  obtain ⟨hl, hv⟩ := List.getElem?_eq_some_iff.1 hc
  obtain ⟨hl1, hv1⟩ := List.getElem?_eq_some_iff.1 h1
  obtain ⟨k, hk, e⟩ := h.step hl
  refine ⟨by omega, .inl (by omega), by rw [List.length_append]; have := h.len; simp; omega, k, by omega, ?_⟩
  rw [e, hv, List.drop_eq_getElem_cons hl1, hv1]
  have hlen : (t.drop (i + 1 + 1)).length = t.length - (i + 2) := by rw [List.length_drop]
  show b ++ lenL (k + 1) (92 :: y :: t.drop (i + 2)) = _
  rw [show i + 1 + 1 = i + 2 from rfl] at hlen
  generalize t.drop (i + 2) = r at *
  match r, hlen with
  | [], _ => simp [lenL]
  | [p], _ => simp [lenL]
  | p :: q :: r, hlen =>
    have : y ≠ 120 := fun e => hn ⟨by simp only [List.length_cons] at hlen; omega, e⟩
    simp [lenL, this]
theorem LAt.last {t : List Int} {i : Nat} {b : List Int} (h : LAt t i b) (hc : t[i]? = some 92) (hn : ¬ i + 1 < t.length) : LAt t (i + 1) b := by
  obtain ⟨hl, hv⟩ := List.getElem?_eq_some_iff.1 hc
  obtain ⟨k, hk, e⟩ := h.step hl
  refine ⟨by omega, .inl hl, by have := h.len; omega, k, by omega, ?_⟩
  rw [e, hv, List.drop_of_length_le (by omega)]
  cases k <;> simp [lenL]
set_option maxHeartbeats 8000000 in
theorem refUnquote_fn (t : List Int) (hB : isB t) (hl : t.length ≤ 1000000000) : FC Tryd.prog 12 [.string (strOf t)] [] (fun _ => True) (fun v L => UnqR t v L) := by
  refine FC.sub2 ?_
  refine FC.intro Tryd.func12 rfl (by kernel_rfl) 95 [.tmp 2, .tmp 3, .tmp 4] rfl rfl rfl ?_
  intro w0 _
  have hok := isB_ok hB
  have hsz : ((strOf t).size : Int) = (t.length : Int) := by rw [strOf_size]
  have hidx : ∀ j : Nat, j < t.length → 0 ≤ ((j : Nat) : Int) ∧ ((j : Nat) : Int) < ((strOf t).size : Int) := fun j hj => by rw [hsz]; omega
  (repeat (first | (with_reducible apply XL.op) | ((with_reducible apply XOp.p1); (case hg | hv => exact rfl)) | (with_reducible apply XL.nilT) | (with_reducible apply XC.seq) | (with_reducible apply XC.region (Γ := Γ)) | (with_reducible apply XC.block)))
  refine XC.cutB (fun ρ L => ∃ (v : Value) (F : HL), OwnS 5 1 v (refB t).length ((refB t).map (.int .u8)) F ∧ (refB t).length ≤ t.length + 1 ∧ L = F ∧ Slots ρ [(0, .string (strOf t)), (5, v)]) ?_ ?_
  · refine XC.loopP (fun k ρ L => ∃ (i : Nat) (b : List Int) (v : Value) (F : HL), i + k = t.length + 1 ∧ LAt t i b ∧ OwnS 5 1 v b.length (b.map (.int .u8)) F ∧ L = F ++ [] ∧ Slots ρ [(0, .string (strOf t)), (5, v), (6, .int .i64 i)])
      t.length ⟨1, [], _, [], by omega, LAt.start t, OwnS.nil _ _, rfl, rfl, rfl, rfl, trivial⟩ ?_
    rintro k ρ L ⟨i, b, v, F, hik, hU, hown, rfl, hs⟩
    obtain ⟨a', c', rfl⟩ := hown.val
    have hbl := hU.len
    refine XC.slots _ hs ?_
    (repeat (first | (with_reducible apply XL.op) | ((with_reducible apply XOp.p1); (case hg | hv => exact rfl)) | (with_reducible apply XC.seq) | (with_reducible apply XC.region (Γ := Γ))))
    rw [hsz]
    by_cases hi : i < t.length
    case neg =>
      have he := hU.ends (by omega)
      (repeat (first | (with_reducible apply XL.op) | ((with_reducible apply XOp.p1); (case hg | hv => exact rfl)) | ((with_reducible apply XOp.p0); (case hg => exact rfl)) | (with_reducible apply XL.nilT) | (with_reducible apply XQ.exit) | (with_reducible apply XQ.nt) | (with_reducible apply XQ.et) | ((with_reducible apply XQ.eb); (case hb => exact rfl)) | ((with_reducible apply XC.condF); (case hc => exact rfl)) | (first | ((with_reducible apply XOp.split); (case hg | hj | hd | hb => exact rfl); (fail_if_success (case hf => exact fun h => Bool.noConfusion h)); (fail_if_success (case ht => exact fun h => Bool.noConfusion h)); (first | (case ht => intro hb_; try simp only [pd_true, pd_false, Bool.not_eq_true', Bool.not_eq_false', Bool.and_eq_true, Bool.and_eq_false_iff, Bool.or_eq_true, Bool.or_eq_false_iff, not_true_eq_false, not_false_eq_true, Int.not_lt, Int.not_le] at hb_; first | done | (exfalso; first | omega | contradiction)) | (case hf => intro hb_; try simp only [pd_true, pd_false, Bool.not_eq_true', Bool.not_eq_false', Bool.and_eq_true, Bool.and_eq_false_iff, Bool.or_eq_true, Bool.or_eq_false_iff, not_true_eq_false, not_false_eq_true, Int.not_lt, Int.not_le] at hb_; first | done | (exfalso; first | omega | contradiction))); intro hb_; try simp only [pd_true, pd_false, Bool.not_eq_true', Bool.not_eq_false', Bool.and_eq_true, Bool.and_eq_false_iff, Bool.or_eq_true, Bool.or_eq_false_iff, not_true_eq_false, not_false_eq_true, Int.not_lt, Int.not_le] at hb_) | ((with_reducible apply XP.split); (case ho | hg | hj | hd | hb => exact rfl); (fail_if_success (case hf => exact fun h => Bool.noConfusion h)); (fail_if_success (case ht => exact fun h => Bool.noConfusion h)); (first | (case ht => intro hb_; try simp only [pd_true, pd_false, Bool.not_eq_true', Bool.not_eq_false', Bool.and_eq_true, Bool.and_eq_false_iff, Bool.or_eq_true, Bool.or_eq_false_iff, not_true_eq_false, not_false_eq_true, Int.not_lt, Int.not_le] at hb_; first | done | (exfalso; first | omega | contradiction)) | (case hf => intro hb_; try simp only [pd_true, pd_false, Bool.not_eq_true', Bool.not_eq_false', Bool.and_eq_true, Bool.and_eq_false_iff, Bool.or_eq_true, Bool.or_eq_false_iff, not_true_eq_false, not_false_eq_true, Int.not_lt, Int.not_le] at hb_; first | done | (exfalso; first | omega | contradiction))); intro hb_; try simp only [pd_true, pd_false, Bool.not_eq_true', Bool.not_eq_false', Bool.and_eq_true, Bool.and_eq_false_iff, Bool.or_eq_true, Bool.or_eq_false_iff, not_true_eq_false, not_false_eq_true, Int.not_lt, Int.not_le] at hb_) | ((with_reducible apply XC.cond); (case hc => exact rfl); (first | (case ht => intro hb_; try simp only [pd_true, pd_false, Bool.not_eq_true', Bool.not_eq_false', Bool.and_eq_true, Bool.and_eq_false_iff, Bool.or_eq_true, Bool.or_eq_false_iff, not_true_eq_false, not_false_eq_true, Int.not_lt, Int.not_le] at hb_; first | done | (exfalso; first | omega | contradiction)) | (case hf => intro hb_; try simp only [pd_true, pd_false, Bool.not_eq_true', Bool.not_eq_false', Bool.and_eq_true, Bool.and_eq_false_iff, Bool.or_eq_true, Bool.or_eq_false_iff, not_true_eq_false, not_false_eq_true, Int.not_lt, Int.not_le] at hb_; first | done | (exfalso; first | omega | contradiction))); intro hb_; try simp only [pd_true, pd_false, Bool.not_eq_true', Bool.not_eq_false', Bool.and_eq_true, Bool.and_eq_false_iff, Bool.or_eq_true, Bool.or_eq_false_iff, not_true_eq_false, not_false_eq_true, Int.not_lt, Int.not_le] at hb_))))
      exact ⟨_, F, by rw [he]; exact hown, by rw [he]; omega, by simp, rfl, rfl, trivial⟩
    obtain ⟨c, hc⟩ : ∃ c, t[i]? = some c := ⟨_, List.getElem?_eq_getElem hi⟩
    have ec : byteAt (strOf t) (((i : Nat) : Int)).toNat = c := by rw [Int.toNat_natCast]; exact byteAt_strOf hok hc
    have hcB := hB c (List.mem_of_getElem? hc)
    (repeat (first | (with_reducible apply XL.op) | ((with_reducible apply XOp.p1); (case hg | hv => exact rfl)) | ((with_reducible apply XOp.pr); (case hg => exact rfl); (case hr => ((with_reducible apply PR.sidx); (case ht | hk | hx | hi => exact rfl); (case hr => first | assumption | omega)))) | (with_reducible apply XL.nilT) | (first | ((with_reducible apply XOp.split); (case hg | hj | hd | hb => exact rfl); (fail_if_success (case hf => exact fun h => Bool.noConfusion h)); (fail_if_success (case ht => exact fun h => Bool.noConfusion h)); (first | (case ht => intro hb_; try simp only [pd_true, pd_false, Bool.not_eq_true', Bool.not_eq_false', Bool.and_eq_true, Bool.and_eq_false_iff, Bool.or_eq_true, Bool.or_eq_false_iff, not_true_eq_false, not_false_eq_true, Int.not_lt, Int.not_le] at hb_; first | done | (exfalso; first | omega | contradiction)) | (case hf => intro hb_; try simp only [pd_true, pd_false, Bool.not_eq_true', Bool.not_eq_false', Bool.and_eq_true, Bool.and_eq_false_iff, Bool.or_eq_true, Bool.or_eq_false_iff, not_true_eq_false, not_false_eq_true, Int.not_lt, Int.not_le] at hb_; first | done | (exfalso; first | omega | contradiction))); intro hb_; try simp only [pd_true, pd_false, Bool.not_eq_true', Bool.not_eq_false', Bool.and_eq_true, Bool.and_eq_false_iff, Bool.or_eq_true, Bool.or_eq_false_iff, not_true_eq_false, not_false_eq_true, Int.not_lt, Int.not_le] at hb_) | ((with_reducible apply XP.split); (case ho | hg | hj | hd | hb => exact rfl); (fail_if_success (case hf => exact fun h => Bool.noConfusion h)); (fail_if_success (case ht => exact fun h => Bool.noConfusion h)); (first | (case ht => intro hb_; try simp only [pd_true, pd_false, Bool.not_eq_true', Bool.not_eq_false', Bool.and_eq_true, Bool.and_eq_false_iff, Bool.or_eq_true, Bool.or_eq_false_iff, not_true_eq_false, not_false_eq_true, Int.not_lt, Int.not_le] at hb_; first | done | (exfalso; first | omega | contradiction)) | (case hf => intro hb_; try simp only [pd_true, pd_false, Bool.not_eq_true', Bool.not_eq_false', Bool.and_eq_true, Bool.and_eq_false_iff, Bool.or_eq_true, Bool.or_eq_false_iff, not_true_eq_false, not_false_eq_true, Int.not_lt, Int.not_le] at hb_; first | done | (exfalso; first | omega | contradiction))); intro hb_; try simp only [pd_true, pd_false, Bool.not_eq_true', Bool.not_eq_false', Bool.and_eq_true, Bool.and_eq_false_iff, Bool.or_eq_true, Bool.or_eq_false_iff, not_true_eq_false, not_false_eq_true, Int.not_lt, Int.not_le] at hb_) | ((with_reducible apply XC.cond); (case hc => exact rfl); (first | (case ht => intro hb_; try simp only [pd_true, pd_false, Bool.not_eq_true', Bool.not_eq_false', Bool.and_eq_true, Bool.and_eq_false_iff, Bool.or_eq_true, Bool.or_eq_false_iff, not_true_eq_false, not_false_eq_true, Int.not_lt, Int.not_le] at hb_; first | done | (exfalso; first | omega | contradiction)) | (case hf => intro hb_; try simp only [pd_true, pd_false, Bool.not_eq_true', Bool.not_eq_false', Bool.and_eq_true, Bool.and_eq_false_iff, Bool.or_eq_true, Bool.or_eq_false_iff, not_true_eq_false, not_false_eq_true, Int.not_lt, Int.not_le] at hb_; first | done | (exfalso; first | omega | contradiction))); intro hb_; try simp only [pd_true, pd_false, Bool.not_eq_true', Bool.not_eq_false', Bool.and_eq_true, Bool.and_eq_false_iff, Bool.or_eq_true, Bool.or_eq_false_iff, not_true_eq_false, not_false_eq_true, Int.not_lt, Int.not_le] at hb_)) | (first | ((with_reducible apply XOp.pr); (case hg => exact rfl); (case hr => (with_reducible apply PR.sidx); (case ht => exact rfl); (case hk => exact rfl); (case hx => exact rfl); (case hi => exact rfl); (case hr => exact hidx i hi))) | ((with_reducible apply XP.pr); (case ho => exact rfl); (case hg => exact rfl); (case hr => (with_reducible apply PR.sidx); (case ht => exact rfl); (case hk => exact rfl); (case hx => exact rfl); (case hi => exact rfl); (case hr => exact hidx i hi))))))
    rw [ec]
    by_cases h34 : c = 34
    · subst h34
      have he := hU.quote hc
      (repeat (first | (with_reducible apply XQ.exit) | (with_reducible apply XQ.nt) | (with_reducible apply XQ.et) | ((with_reducible apply XQ.eb); (case hb => exact rfl)) | (first | ((with_reducible apply XOp.split); (case hg | hj | hd | hb => exact rfl); (fail_if_success (case hf => exact fun h => Bool.noConfusion h)); (fail_if_success (case ht => exact fun h => Bool.noConfusion h)); (first | (case ht => intro hb_; try simp only [pd_true, pd_false, Bool.not_eq_true', Bool.not_eq_false', Bool.and_eq_true, Bool.and_eq_false_iff, Bool.or_eq_true, Bool.or_eq_false_iff, not_true_eq_false, not_false_eq_true, Int.not_lt, Int.not_le] at hb_; first | done | (exfalso; first | omega | contradiction)) | (case hf => intro hb_; try simp only [pd_true, pd_false, Bool.not_eq_true', Bool.not_eq_false', Bool.and_eq_true, Bool.and_eq_false_iff, Bool.or_eq_true, Bool.or_eq_false_iff, not_true_eq_false, not_false_eq_true, Int.not_lt, Int.not_le] at hb_; first | done | (exfalso; first | omega | contradiction))); intro hb_; try simp only [pd_true, pd_false, Bool.not_eq_true', Bool.not_eq_false', Bool.and_eq_true, Bool.and_eq_false_iff, Bool.or_eq_true, Bool.or_eq_false_iff, not_true_eq_false, not_false_eq_true, Int.not_lt, Int.not_le] at hb_) | ((with_reducible apply XP.split); (case ho | hg | hj | hd | hb => exact rfl); (fail_if_success (case hf => exact fun h => Bool.noConfusion h)); (fail_if_success (case ht => exact fun h => Bool.noConfusion h)); (first | (case ht => intro hb_; try simp only [pd_true, pd_false, Bool.not_eq_true', Bool.not_eq_false', Bool.and_eq_true, Bool.and_eq_false_iff, Bool.or_eq_true, Bool.or_eq_false_iff, not_true_eq_false, not_false_eq_true, Int.not_lt, Int.not_le] at hb_; first | done | (exfalso; first | omega | contradiction)) | (case hf => intro hb_; try simp only [pd_true, pd_false, Bool.not_eq_true', Bool.not_eq_false', Bool.and_eq_true, Bool.and_eq_false_iff, Bool.or_eq_true, Bool.or_eq_false_iff, not_true_eq_false, not_false_eq_true, Int.not_lt, Int.not_le] at hb_; first | done | (exfalso; first | omega | contradiction))); intro hb_; try simp only [pd_true, pd_false, Bool.not_eq_true', Bool.not_eq_false', Bool.and_eq_true, Bool.and_eq_false_iff, Bool.or_eq_true, Bool.or_eq_false_iff, not_true_eq_false, not_false_eq_true, Int.not_lt, Int.not_le] at hb_) | ((with_reducible apply XC.cond); (case hc => exact rfl); (first | (case ht => intro hb_; try simp only [pd_true, pd_false, Bool.not_eq_true', Bool.not_eq_false', Bool.and_eq_true, Bool.and_eq_false_iff, Bool.or_eq_true, Bool.or_eq_false_iff, not_true_eq_false, not_false_eq_true, Int.not_lt, Int.not_le] at hb_; first | done | (exfalso; first | omega | contradiction)) | (case hf => intro hb_; try simp only [pd_true, pd_false, Bool.not_eq_true', Bool.not_eq_false', Bool.and_eq_true, Bool.and_eq_false_iff, Bool.or_eq_true, Bool.or_eq_false_iff, not_true_eq_false, not_false_eq_true, Int.not_lt, Int.not_le] at hb_; first | done | (exfalso; first | omega | contradiction))); intro hb_; try simp only [pd_true, pd_false, Bool.not_eq_true', Bool.not_eq_false', Bool.and_eq_true, Bool.and_eq_false_iff, Bool.or_eq_true, Bool.or_eq_false_iff, not_true_eq_false, not_false_eq_true, Int.not_lt, Int.not_le] at hb_))))
      exact ⟨_, F, by rw [he]; exact hown, by rw [he]; omega, by simp, rfl, rfl, trivial⟩
    (repeat (first | (with_reducible apply XL.op) | ((with_reducible apply XOp.p1); (case hg | hv => exact rfl)) | ((with_reducible apply XOp.pr); (case hg => exact rfl); (case hr => ((with_reducible apply PR.sidx); (case ht | hk | hx | hi => exact rfl); (case hr => first | assumption | omega)))) | (with_reducible apply XL.nilT) | (with_reducible apply XC.seq) | (with_reducible apply XC.region (Γ := Γ)) | (with_reducible apply XQ.skip) | (with_reducible apply XQ.nt) | (with_reducible apply XC.block) | (first | ((with_reducible apply XOp.split); (case hg | hj | hd | hb => exact rfl); (fail_if_success (case hf => exact fun h => Bool.noConfusion h)); (fail_if_success (case ht => exact fun h => Bool.noConfusion h)); (first | (case ht => intro hb_; try simp only [pd_true, pd_false, Bool.not_eq_true', Bool.not_eq_false', Bool.and_eq_true, Bool.and_eq_false_iff, Bool.or_eq_true, Bool.or_eq_false_iff, not_true_eq_false, not_false_eq_true, Int.not_lt, Int.not_le] at hb_; first | done | (exfalso; first | omega | contradiction)) | (case hf => intro hb_; try simp only [pd_true, pd_false, Bool.not_eq_true', Bool.not_eq_false', Bool.and_eq_true, Bool.and_eq_false_iff, Bool.or_eq_true, Bool.or_eq_false_iff, not_true_eq_false, not_false_eq_true, Int.not_lt, Int.not_le] at hb_; first | done | (exfalso; first | omega | contradiction))); intro hb_; try simp only [pd_true, pd_false, Bool.not_eq_true', Bool.not_eq_false', Bool.and_eq_true, Bool.and_eq_false_iff, Bool.or_eq_true, Bool.or_eq_false_iff, not_true_eq_false, not_false_eq_true, Int.not_lt, Int.not_le] at hb_) | ((with_reducible apply XP.split); (case ho | hg | hj | hd | hb => exact rfl); (fail_if_success (case hf => exact fun h => Bool.noConfusion h)); (fail_if_success (case ht => exact fun h => Bool.noConfusion h)); (first | (case ht => intro hb_; try simp only [pd_true, pd_false, Bool.not_eq_true', Bool.not_eq_false', Bool.and_eq_true, Bool.and_eq_false_iff, Bool.or_eq_true, Bool.or_eq_false_iff, not_true_eq_false, not_false_eq_true, Int.not_lt, Int.not_le] at hb_; first | done | (exfalso; first | omega | contradiction)) | (case hf => intro hb_; try simp only [pd_true, pd_false, Bool.not_eq_true', Bool.not_eq_false', Bool.and_eq_true, Bool.and_eq_false_iff, Bool.or_eq_true, Bool.or_eq_false_iff, not_true_eq_false, not_false_eq_true, Int.not_lt, Int.not_le] at hb_; first | done | (exfalso; first | omega | contradiction))); intro hb_; try simp only [pd_true, pd_false, Bool.not_eq_true', Bool.not_eq_false', Bool.and_eq_true, Bool.and_eq_false_iff, Bool.or_eq_true, Bool.or_eq_false_iff, not_true_eq_false, not_false_eq_true, Int.not_lt, Int.not_le] at hb_) | ((with_reducible apply XC.cond); (case hc => exact rfl); (first | (case ht => intro hb_; try simp only [pd_true, pd_false, Bool.not_eq_true', Bool.not_eq_false', Bool.and_eq_true, Bool.and_eq_false_iff, Bool.or_eq_true, Bool.or_eq_false_iff, not_true_eq_false, not_false_eq_true, Int.not_lt, Int.not_le] at hb_; first | done | (exfalso; first | omega | contradiction)) | (case hf => intro hb_; try simp only [pd_true, pd_false, Bool.not_eq_true', Bool.not_eq_false', Bool.and_eq_true, Bool.and_eq_false_iff, Bool.or_eq_true, Bool.or_eq_false_iff, not_true_eq_false, not_false_eq_true, Int.not_lt, Int.not_le] at hb_; first | done | (exfalso; first | omega | contradiction))); intro hb_; try simp only [pd_true, pd_false, Bool.not_eq_true', Bool.not_eq_false', Bool.and_eq_true, Bool.and_eq_false_iff, Bool.or_eq_true, Bool.or_eq_false_iff, not_true_eq_false, not_false_eq_true, Int.not_lt, Int.not_le] at hb_)) | (first | ((with_reducible apply XOp.pr); (case hg => exact rfl); (case hr => (with_reducible apply PR.sidx); (case ht => exact rfl); (case hk => exact rfl); (case hx => exact rfl); (case hi => exact rfl); (case hr => exact hidx i hi))) | ((with_reducible apply XP.pr); (case ho => exact rfl); (case hg => exact rfl); (case hr => (with_reducible apply PR.sidx); (case ht => exact rfl); (case hk => exact rfl); (case hx => exact rfl); (case hi => exact rfl); (case hr => exact hidx i hi))))))
    rw [ec]
    by_cases h92 : c = 92
    case neg =>
      have hp := hU.one hc h34 h92
      (repeat (first | (with_reducible apply XL.op) | ((with_reducible apply XOp.p1); (case hg | hv => exact rfl)) | ((with_reducible apply XOp.pr); (case hg => exact rfl); (case hr => ((with_reducible apply PR.sidx); (case ht | hk | hx | hi => exact rfl); (case hr => first | assumption | omega)))) | (with_reducible apply XC.seq) | (with_reducible apply XC.region (Γ := Γ)) | (first | ((with_reducible apply XOp.split); (case hg | hj | hd | hb => exact rfl); (fail_if_success (case hf => exact fun h => Bool.noConfusion h)); (fail_if_success (case ht => exact fun h => Bool.noConfusion h)); (first | (case ht => intro hb_; try simp only [pd_true, pd_false, Bool.not_eq_true', Bool.not_eq_false', Bool.and_eq_true, Bool.and_eq_false_iff, Bool.or_eq_true, Bool.or_eq_false_iff, not_true_eq_false, not_false_eq_true, Int.not_lt, Int.not_le] at hb_; first | done | (exfalso; first | omega | contradiction)) | (case hf => intro hb_; try simp only [pd_true, pd_false, Bool.not_eq_true', Bool.not_eq_false', Bool.and_eq_true, Bool.and_eq_false_iff, Bool.or_eq_true, Bool.or_eq_false_iff, not_true_eq_false, not_false_eq_true, Int.not_lt, Int.not_le] at hb_; first | done | (exfalso; first | omega | contradiction))); intro hb_; try simp only [pd_true, pd_false, Bool.not_eq_true', Bool.not_eq_false', Bool.and_eq_true, Bool.and_eq_false_iff, Bool.or_eq_true, Bool.or_eq_false_iff, not_true_eq_false, not_false_eq_true, Int.not_lt, Int.not_le] at hb_) | ((with_reducible apply XP.split); (case ho | hg | hj | hd | hb => exact rfl); (fail_if_success (case hf => exact fun h => Bool.noConfusion h)); (fail_if_success (case ht => exact fun h => Bool.noConfusion h)); (first | (case ht => intro hb_; try simp only [pd_true, pd_false, Bool.not_eq_true', Bool.not_eq_false', Bool.and_eq_true, Bool.and_eq_false_iff, Bool.or_eq_true, Bool.or_eq_false_iff, not_true_eq_false, not_false_eq_true, Int.not_lt, Int.not_le] at hb_; first | done | (exfalso; first | omega | contradiction)) | (case hf => intro hb_; try simp only [pd_true, pd_false, Bool.not_eq_true', Bool.not_eq_false', Bool.and_eq_true, Bool.and_eq_false_iff, Bool.or_eq_true, Bool.or_eq_false_iff, not_true_eq_false, not_false_eq_true, Int.not_lt, Int.not_le] at hb_; first | done | (exfalso; first | omega | contradiction))); intro hb_; try simp only [pd_true, pd_false, Bool.not_eq_true', Bool.not_eq_false', Bool.and_eq_true, Bool.and_eq_false_iff, Bool.or_eq_true, Bool.or_eq_false_iff, not_true_eq_false, not_false_eq_true, Int.not_lt, Int.not_le] at hb_) | ((with_reducible apply XC.cond); (case hc => exact rfl); (first | (case ht => intro hb_; try simp only [pd_true, pd_false, Bool.not_eq_true', Bool.not_eq_false', Bool.and_eq_true, Bool.and_eq_false_iff, Bool.or_eq_true, Bool.or_eq_false_iff, not_true_eq_false, not_false_eq_true, Int.not_lt, Int.not_le] at hb_; first | done | (exfalso; first | omega | contradiction)) | (case hf => intro hb_; try simp only [pd_true, pd_false, Bool.not_eq_true', Bool.not_eq_false', Bool.and_eq_true, Bool.and_eq_false_iff, Bool.or_eq_true, Bool.or_eq_false_iff, not_true_eq_false, not_false_eq_true, Int.not_lt, Int.not_le] at hb_; first | done | (exfalso; first | omega | contradiction))); intro hb_; try simp only [pd_true, pd_false, Bool.not_eq_true', Bool.not_eq_false', Bool.and_eq_true, Bool.and_eq_false_iff, Bool.or_eq_true, Bool.or_eq_false_iff, not_true_eq_false, not_false_eq_true, Int.not_lt, Int.not_le] at hb_)) | (first | ((with_reducible apply XOp.pr); (case hg => exact rfl); (case hr => (with_reducible apply PR.sidx); (case ht => exact rfl); (case hk => exact rfl); (case hx => exact rfl); (case hi => exact rfl); (case hr => exact hidx i hi))) | ((with_reducible apply XP.pr); (case ho => exact rfl); (case hg => exact rfl); (case hr => (with_reducible apply PR.sidx); (case ht => exact rfl); (case hk => exact rfl); (case hx => exact rfl); (case hi => exact rfl); (case hr => exact hidx i hi))))))
      rw [ec]
      ((with_reducible apply XOp.buildSlice); (case hg | ht | hk | he | hz | hzl | hf => exact rfl); intro bb)
      (repeat ((with_reducible apply XL.op)))
      ((with_reducible apply XOp.append1); (case hg => exact rfl); (case ht => exact rfl); (case hk => exact rfl); (case he => exact rfl); (case hown => exact hown); (case hs => exact rfl); (case hx => exact rfl); (case hL => exact rfl); (case hl => exact rfl); (case h1 => exact rfl); (case hz => exact rfl); (case hsz => exact Nat.zero_lt_succ _); (case hk0 => exact Nat.zero_lt_succ _); (case h63 => simp only [maxLen]; omega); (case hb => simp only []; omega); intro v_ F_ hown_; obtain ⟨a_, c_, rfl⟩ := hown_.val)
      (repeat (first | (with_reducible apply XL.op) | ((with_reducible apply XOp.p1); (case hg | hv => exact rfl)) | (with_reducible apply XL.nilT) | (with_reducible apply XC.region (Γ := Γ)) | (with_reducible apply XL.nilQ) | (with_reducible apply XQ.nt) | (with_reducible apply XQ.nb)))
      exact ⟨k - 1, by omega, _, .of (List.Sublist.refl _), i + 1, b ++ [c], _, F_, by omega, hp, hown_.conv (by simp) (by simp [zerosL]), rfl, rfl, rfl, intS (m := 1073741824) (by omega) (by omega), trivial⟩
    subst h92
    have e3 : IntKind.i64.wrap ((i : Int) + 3) = ((i + 3 : Nat) : Int) := by rw [wrap64_of (by omega) (by omega)]; omega
    have e2 : IntKind.i64.wrap ((i : Int) + 2) = ((i + 2 : Nat) : Int) := by rw [wrap64_of (by omega) (by omega)]; omega
    have e1 : IntKind.i64.wrap ((i : Int) + 1) = ((i + 1 : Nat) : Int) := by rw [wrap64_of (by omega) (by omega)]; omega
    have e4 : IntKind.i64.wrap ((i : Int) + 4) = ((i + 4 : Nat) : Int) := by rw [wrap64_of (by omega) (by omega)]; omega
    (repeat (first | (with_reducible apply XL.op) | ((with_reducible apply XOp.p1); (case hg | hv => exact rfl)) | (with_reducible apply XC.seq) | (with_reducible apply XC.region (Γ := Γ)) | (first | ((with_reducible apply XOp.split); (case hg | hj | hd | hb => exact rfl); (fail_if_success (case hf => exact fun h => Bool.noConfusion h)); (fail_if_success (case ht => exact fun h => Bool.noConfusion h)); (first | (case ht => intro hb_; try simp only [pd_true, pd_false, Bool.not_eq_true', Bool.not_eq_false', Bool.and_eq_true, Bool.and_eq_false_iff, Bool.or_eq_true, Bool.or_eq_false_iff, not_true_eq_false, not_false_eq_true, Int.not_lt, Int.not_le] at hb_; first | done | (exfalso; first | omega | contradiction)) | (case hf => intro hb_; try simp only [pd_true, pd_false, Bool.not_eq_true', Bool.not_eq_false', Bool.and_eq_true, Bool.and_eq_false_iff, Bool.or_eq_true, Bool.or_eq_false_iff, not_true_eq_false, not_false_eq_true, Int.not_lt, Int.not_le] at hb_; first | done | (exfalso; first | omega | contradiction))); intro hb_; try simp only [pd_true, pd_false, Bool.not_eq_true', Bool.not_eq_false', Bool.and_eq_true, Bool.and_eq_false_iff, Bool.or_eq_true, Bool.or_eq_false_iff, not_true_eq_false, not_false_eq_true, Int.not_lt, Int.not_le] at hb_) | ((with_reducible apply XP.split); (case ho | hg | hj | hd | hb => exact rfl); (fail_if_success (case hf => exact fun h => Bool.noConfusion h)); (fail_if_success (case ht => exact fun h => Bool.noConfusion h)); (first | (case ht => intro hb_; try simp only [pd_true, pd_false, Bool.not_eq_true', Bool.not_eq_false', Bool.and_eq_true, Bool.and_eq_false_iff, Bool.or_eq_true, Bool.or_eq_false_iff, not_true_eq_false, not_false_eq_true, Int.not_lt, Int.not_le] at hb_; first | done | (exfalso; first | omega | contradiction)) | (case hf => intro hb_; try simp only [pd_true, pd_false, Bool.not_eq_true', Bool.not_eq_false', Bool.and_eq_true, Bool.and_eq_false_iff, Bool.or_eq_true, Bool.or_eq_false_iff, not_true_eq_false, not_false_eq_true, Int.not_lt, Int.not_le] at hb_; first | done | (exfalso; first | omega | contradiction))); intro hb_; try simp only [pd_true, pd_false, Bool.not_eq_true', Bool.not_eq_false', Bool.and_eq_true, Bool.and_eq_false_iff, Bool.or_eq_true, Bool.or_eq_false_iff, not_true_eq_false, not_false_eq_true, Int.not_lt, Int.not_le] at hb_) | ((with_reducible apply XC.cond); (case hc => exact rfl); (first | (case ht => intro hb_; try simp only [pd_true, pd_false, Bool.not_eq_true', Bool.not_eq_false', Bool.and_eq_true, Bool.and_eq_false_iff, Bool.or_eq_true, Bool.or_eq_false_iff, not_true_eq_false, not_false_eq_true, Int.not_lt, Int.not_le] at hb_; first | done | (exfalso; first | omega | contradiction)) | (case hf => intro hb_; try simp only [pd_true, pd_false, Bool.not_eq_true', Bool.not_eq_false', Bool.and_eq_true, Bool.and_eq_false_iff, Bool.or_eq_true, Bool.or_eq_false_iff, not_true_eq_false, not_false_eq_true, Int.not_lt, Int.not_le] at hb_; first | done | (exfalso; first | omega | contradiction))); intro hb_; try simp only [pd_true, pd_false, Bool.not_eq_true', Bool.not_eq_false', Bool.and_eq_true, Bool.and_eq_false_iff, Bool.or_eq_true, Bool.or_eq_false_iff, not_true_eq_false, not_false_eq_true, Int.not_lt, Int.not_le] at hb_))))
    rw [e3, hsz]
    by_cases h1 : i + 1 < t.length
    case neg =>
      have hp := hU.last hc h1
      (repeat (first | (with_reducible apply XL.op) | ((with_reducible apply XOp.p1); (case hg | hv => exact rfl)) | ((with_reducible apply XOp.p0); (case hg => exact rfl)) | (with_reducible apply XL.nilT) | (with_reducible apply XC.seq) | (with_reducible apply XC.region (Γ := Γ)) | (with_reducible apply XL.nilQ) | (with_reducible apply XQ.nt) | (with_reducible apply XQ.nb) | ((with_reducible apply XC.condF); (case hc => exact rfl)) | (first | ((with_reducible apply XOp.split); (case hg | hj | hd | hb => exact rfl); (fail_if_success (case hf => exact fun h => Bool.noConfusion h)); (fail_if_success (case ht => exact fun h => Bool.noConfusion h)); (first | (case ht => intro hb_; try simp only [pd_true, pd_false, Bool.not_eq_true', Bool.not_eq_false', Bool.and_eq_true, Bool.and_eq_false_iff, Bool.or_eq_true, Bool.or_eq_false_iff, not_true_eq_false, not_false_eq_true, Int.not_lt, Int.not_le] at hb_; first | done | (exfalso; first | omega | contradiction)) | (case hf => intro hb_; try simp only [pd_true, pd_false, Bool.not_eq_true', Bool.not_eq_false', Bool.and_eq_true, Bool.and_eq_false_iff, Bool.or_eq_true, Bool.or_eq_false_iff, not_true_eq_false, not_false_eq_true, Int.not_lt, Int.not_le] at hb_; first | done | (exfalso; first | omega | contradiction))); intro hb_; try simp only [pd_true, pd_false, Bool.not_eq_true', Bool.not_eq_false', Bool.and_eq_true, Bool.and_eq_false_iff, Bool.or_eq_true, Bool.or_eq_false_iff, not_true_eq_false, not_false_eq_true, Int.not_lt, Int.not_le] at hb_) | ((with_reducible apply XP.split); (case ho | hg | hj | hd | hb => exact rfl); (fail_if_success (case hf => exact fun h => Bool.noConfusion h)); (fail_if_success (case ht => exact fun h => Bool.noConfusion h)); (first | (case ht => intro hb_; try simp only [pd_true, pd_false, Bool.not_eq_true', Bool.not_eq_false', Bool.and_eq_true, Bool.and_eq_false_iff, Bool.or_eq_true, Bool.or_eq_false_iff, not_true_eq_false, not_false_eq_true, Int.not_lt, Int.not_le] at hb_; first | done | (exfalso; first | omega | contradiction)) | (case hf => intro hb_; try simp only [pd_true, pd_false, Bool.not_eq_true', Bool.not_eq_false', Bool.and_eq_true, Bool.and_eq_false_iff, Bool.or_eq_true, Bool.or_eq_false_iff, not_true_eq_false, not_false_eq_true, Int.not_lt, Int.not_le] at hb_; first | done | (exfalso; first | omega | contradiction))); intro hb_; try simp only [pd_true, pd_false, Bool.not_eq_true', Bool.not_eq_false', Bool.and_eq_true, Bool.and_eq_false_iff, Bool.or_eq_true, Bool.or_eq_false_iff, not_true_eq_false, not_false_eq_true, Int.not_lt, Int.not_le] at hb_) | ((with_reducible apply XC.cond); (case hc => exact rfl); (first | (case ht => intro hb_; try simp only [pd_true, pd_false, Bool.not_eq_true', Bool.not_eq_false', Bool.and_eq_true, Bool.and_eq_false_iff, Bool.or_eq_true, Bool.or_eq_false_iff, not_true_eq_false, not_false_eq_true, Int.not_lt, Int.not_le] at hb_; first | done | (exfalso; first | omega | contradiction)) | (case hf => intro hb_; try simp only [pd_true, pd_false, Bool.not_eq_true', Bool.not_eq_false', Bool.and_eq_true, Bool.and_eq_false_iff, Bool.or_eq_true, Bool.or_eq_false_iff, not_true_eq_false, not_false_eq_true, Int.not_lt, Int.not_le] at hb_; first | done | (exfalso; first | omega | contradiction))); intro hb_; try simp only [pd_true, pd_false, Bool.not_eq_true', Bool.not_eq_false', Bool.and_eq_true, Bool.and_eq_false_iff, Bool.or_eq_true, Bool.or_eq_false_iff, not_true_eq_false, not_false_eq_true, Int.not_lt, Int.not_le] at hb_))))
      rw [e1, hsz]
      skip
      exact ⟨k - 1, by omega, _, .of (List.Sublist.refl _), i + 1, b, _, F, by omega, hp, hown, rfl, rfl, rfl, (by first | rfl | exact intS (i := i) (m := 2147483648) (by omega) (by omega)), trivial⟩
    obtain ⟨y, hy⟩ : ∃ y, t[i + 1]? = some y := ⟨_, List.getElem?_eq_getElem h1⟩
    have ey : byteAt (strOf t) (((i + 1 : Nat) : Int)).toNat = y := by rw [Int.toNat_natCast]; exact byteAt_strOf hok hy
    by_cases h3 : i + 3 < t.length
    case neg =>
      have hp := hU.two hc hy (fun h => h3 h.1)
      (repeat (first | (with_reducible apply XL.op) | ((with_reducible apply XOp.p1); (case hg | hv => exact rfl)) | ((with_reducible apply XOp.p0); (case hg => exact rfl)) | ((with_reducible apply XOp.pr); (case hg => exact rfl); (case hr => ((with_reducible apply PR.sidx); (case ht | hk | hx | hi => exact rfl); (case hr => first | assumption | omega)))) | (with_reducible apply XL.nilT) | (with_reducible apply XC.seq) | (with_reducible apply XC.region (Γ := Γ)) | ((with_reducible apply XC.condF); (case hc => exact rfl)) | (first | ((with_reducible apply XOp.split); (case hg | hj | hd | hb => exact rfl); (fail_if_success (case hf => exact fun h => Bool.noConfusion h)); (fail_if_success (case ht => exact fun h => Bool.noConfusion h)); (first | (case ht => intro hb_; try simp only [pd_true, pd_false, Bool.not_eq_true', Bool.not_eq_false', Bool.and_eq_true, Bool.and_eq_false_iff, Bool.or_eq_true, Bool.or_eq_false_iff, not_true_eq_false, not_false_eq_true, Int.not_lt, Int.not_le] at hb_; first | done | (exfalso; first | omega | contradiction)) | (case hf => intro hb_; try simp only [pd_true, pd_false, Bool.not_eq_true', Bool.not_eq_false', Bool.and_eq_true, Bool.and_eq_false_iff, Bool.or_eq_true, Bool.or_eq_false_iff, not_true_eq_false, not_false_eq_true, Int.not_lt, Int.not_le] at hb_; first | done | (exfalso; first | omega | contradiction))); intro hb_; try simp only [pd_true, pd_false, Bool.not_eq_true', Bool.not_eq_false', Bool.and_eq_true, Bool.and_eq_false_iff, Bool.or_eq_true, Bool.or_eq_false_iff, not_true_eq_false, not_false_eq_true, Int.not_lt, Int.not_le] at hb_) | ((with_reducible apply XP.split); (case ho | hg | hj | hd | hb => exact rfl); (fail_if_success (case hf => exact fun h => Bool.noConfusion h)); (fail_if_success (case ht => exact fun h => Bool.noConfusion h)); (first | (case ht => intro hb_; try simp only [pd_true, pd_false, Bool.not_eq_true', Bool.not_eq_false', Bool.and_eq_true, Bool.and_eq_false_iff, Bool.or_eq_true, Bool.or_eq_false_iff, not_true_eq_false, not_false_eq_true, Int.not_lt, Int.not_le] at hb_; first | done | (exfalso; first | omega | contradiction)) | (case hf => intro hb_; try simp only [pd_true, pd_false, Bool.not_eq_true', Bool.not_eq_false', Bool.and_eq_true, Bool.and_eq_false_iff, Bool.or_eq_true, Bool.or_eq_false_iff, not_true_eq_false, not_false_eq_true, Int.not_lt, Int.not_le] at hb_; first | done | (exfalso; first | omega | contradiction))); intro hb_; try simp only [pd_true, pd_false, Bool.not_eq_true', Bool.not_eq_false', Bool.and_eq_true, Bool.and_eq_false_iff, Bool.or_eq_true, Bool.or_eq_false_iff, not_true_eq_false, not_false_eq_true, Int.not_lt, Int.not_le] at hb_) | ((with_reducible apply XC.cond); (case hc => exact rfl); (first | (case ht => intro hb_; try simp only [pd_true, pd_false, Bool.not_eq_true', Bool.not_eq_false', Bool.and_eq_true, Bool.and_eq_false_iff, Bool.or_eq_true, Bool.or_eq_false_iff, not_true_eq_false, not_false_eq_true, Int.not_lt, Int.not_le] at hb_; first | done | (exfalso; first | omega | contradiction)) | (case hf => intro hb_; try simp only [pd_true, pd_false, Bool.not_eq_true', Bool.not_eq_false', Bool.and_eq_true, Bool.and_eq_false_iff, Bool.or_eq_true, Bool.or_eq_false_iff, not_true_eq_false, not_false_eq_true, Int.not_lt, Int.not_le] at hb_; first | done | (exfalso; first | omega | contradiction))); intro hb_; try simp only [pd_true, pd_false, Bool.not_eq_true', Bool.not_eq_false', Bool.and_eq_true, Bool.and_eq_false_iff, Bool.or_eq_true, Bool.or_eq_false_iff, not_true_eq_false, not_false_eq_true, Int.not_lt, Int.not_le] at hb_))))
      skip
      rw [e1, hsz]
      skip
      try rw [e1]
      skip
      try rw [e1]
      rw [ey]
      ((with_reducible apply XOp.buildSlice); (case hg | ht | hk | he | hz | hzl | hf => exact rfl); intro bb)
      (repeat ((with_reducible apply XL.op)))
      ((with_reducible apply XOp.append1); (case hg => exact rfl); (case ht => exact rfl); (case hk => exact rfl); (case he => exact rfl); (case hown => exact hown); (case hs => exact rfl); (case hx => exact rfl); (case hL => exact rfl); (case hl => exact rfl); (case h1 => exact rfl); (case hz => exact rfl); (case hsz => exact Nat.zero_lt_succ _); (case hk0 => exact Nat.zero_lt_succ _); (case h63 => simp only [maxLen]; omega); (case hb => simp only []; omega); intro v_ F_ hown_; obtain ⟨a_, c_, rfl⟩ := hown_.val)
      (repeat (first | (with_reducible apply XL.op) | ((with_reducible apply XOp.p1); (case hg | hv => exact rfl)) | (with_reducible apply XL.nilT) | (with_reducible apply XC.region (Γ := Γ)) | (with_reducible apply XL.nilQ) | (with_reducible apply XQ.nt) | (with_reducible apply XQ.nb)))
      try rw [e2]
      exact ⟨k - 2, by omega, _, .of (List.Sublist.refl _), i + 2, b ++ [y], _, F_, by omega, hp, hown_.conv (by simp) (by simp [zerosL]), rfl, rfl, rfl, rfl, trivial⟩
    (repeat (first | (with_reducible apply XL.op) | ((with_reducible apply XOp.p1); (case hg | hv => exact rfl)) | ((with_reducible apply XOp.pr); (case hg => exact rfl); (case hr => ((with_reducible apply PR.sidx); (case ht | hk | hx | hi => exact rfl); (case hr => first | assumption | omega)))) | (with_reducible apply XL.nilT) | (first | ((with_reducible apply XOp.split); (case hg | hj | hd | hb => exact rfl); (fail_if_success (case hf => exact fun h => Bool.noConfusion h)); (fail_if_success (case ht => exact fun h => Bool.noConfusion h)); (first | (case ht => intro hb_; try simp only [pd_true, pd_false, Bool.not_eq_true', Bool.not_eq_false', Bool.and_eq_true, Bool.and_eq_false_iff, Bool.or_eq_true, Bool.or_eq_false_iff, not_true_eq_false, not_false_eq_true, Int.not_lt, Int.not_le] at hb_; first | done | (exfalso; first | omega | contradiction)) | (case hf => intro hb_; try simp only [pd_true, pd_false, Bool.not_eq_true', Bool.not_eq_false', Bool.and_eq_true, Bool.and_eq_false_iff, Bool.or_eq_true, Bool.or_eq_false_iff, not_true_eq_false, not_false_eq_true, Int.not_lt, Int.not_le] at hb_; first | done | (exfalso; first | omega | contradiction))); intro hb_; try simp only [pd_true, pd_false, Bool.not_eq_true', Bool.not_eq_false', Bool.and_eq_true, Bool.and_eq_false_iff, Bool.or_eq_true, Bool.or_eq_false_iff, not_true_eq_false, not_false_eq_true, Int.not_lt, Int.not_le] at hb_) | ((with_reducible apply XP.split); (case ho | hg | hj | hd | hb => exact rfl); (fail_if_success (case hf => exact fun h => Bool.noConfusion h)); (fail_if_success (case ht => exact fun h => Bool.noConfusion h)); (first | (case ht => intro hb_; try simp only [pd_true, pd_false, Bool.not_eq_true', Bool.not_eq_false', Bool.and_eq_true, Bool.and_eq_false_iff, Bool.or_eq_true, Bool.or_eq_false_iff, not_true_eq_false, not_false_eq_true, Int.not_lt, Int.not_le] at hb_; first | done | (exfalso; first | omega | contradiction)) | (case hf => intro hb_; try simp only [pd_true, pd_false, Bool.not_eq_true', Bool.not_eq_false', Bool.and_eq_true, Bool.and_eq_false_iff, Bool.or_eq_true, Bool.or_eq_false_iff, not_true_eq_false, not_false_eq_true, Int.not_lt, Int.not_le] at hb_; first | done | (exfalso; first | omega | contradiction))); intro hb_; try simp only [pd_true, pd_false, Bool.not_eq_true', Bool.not_eq_false', Bool.and_eq_true, Bool.and_eq_false_iff, Bool.or_eq_true, Bool.or_eq_false_iff, not_true_eq_false, not_false_eq_true, Int.not_lt, Int.not_le] at hb_) | ((with_reducible apply XC.cond); (case hc => exact rfl); (first | (case ht => intro hb_; try simp only [pd_true, pd_false, Bool.not_eq_true', Bool.not_eq_false', Bool.and_eq_true, Bool.and_eq_false_iff, Bool.or_eq_true, Bool.or_eq_false_iff, not_true_eq_false, not_false_eq_true, Int.not_lt, Int.not_le] at hb_; first | done | (exfalso; first | omega | contradiction)) | (case hf => intro hb_; try simp only [pd_true, pd_false, Bool.not_eq_true', Bool.not_eq_false', Bool.and_eq_true, Bool.and_eq_false_iff, Bool.or_eq_true, Bool.or_eq_false_iff, not_true_eq_false, not_false_eq_true, Int.not_lt, Int.not_le] at hb_; first | done | (exfalso; first | omega | contradiction))); intro hb_; try simp only [pd_true, pd_false, Bool.not_eq_true', Bool.not_eq_false', Bool.and_eq_true, Bool.and_eq_false_iff, Bool.or_eq_true, Bool.or_eq_false_iff, not_true_eq_false, not_false_eq_true, Int.not_lt, Int.not_le] at hb_))))
    rw [e1]
    skip
    rw [ey]
    by_cases hy120 : y = 120
    case neg =>
      have hp := hU.two hc hy (fun h => hy120 h.2)
      (repeat (first | (with_reducible apply XL.op) | ((with_reducible apply XOp.p1); (case hg | hv => exact rfl)) | ((with_reducible apply XOp.pr); (case hg => exact rfl); (case hr => ((with_reducible apply PR.sidx); (case ht | hk | hx | hi => exact rfl); (case hr => first | assumption | omega)))) | (with_reducible apply XL.nilT) | (with_reducible apply XC.seq) | (with_reducible apply XC.region (Γ := Γ)) | (first | ((with_reducible apply XOp.split); (case hg | hj | hd | hb => exact rfl); (fail_if_success (case hf => exact fun h => Bool.noConfusion h)); (fail_if_success (case ht => exact fun h => Bool.noConfusion h)); (first | (case ht => intro hb_; try simp only [pd_true, pd_false, Bool.not_eq_true', Bool.not_eq_false', Bool.and_eq_true, Bool.and_eq_false_iff, Bool.or_eq_true, Bool.or_eq_false_iff, not_true_eq_false, not_false_eq_true, Int.not_lt, Int.not_le] at hb_; first | done | (exfalso; first | omega | contradiction)) | (case hf => intro hb_; try simp only [pd_true, pd_false, Bool.not_eq_true', Bool.not_eq_false', Bool.and_eq_true, Bool.and_eq_false_iff, Bool.or_eq_true, Bool.or_eq_false_iff, not_true_eq_false, not_false_eq_true, Int.not_lt, Int.not_le] at hb_; first | done | (exfalso; first | omega | contradiction))); intro hb_; try simp only [pd_true, pd_false, Bool.not_eq_true', Bool.not_eq_false', Bool.and_eq_true, Bool.and_eq_false_iff, Bool.or_eq_true, Bool.or_eq_false_iff, not_true_eq_false, not_false_eq_true, Int.not_lt, Int.not_le] at hb_) | ((with_reducible apply XP.split); (case ho | hg | hj | hd | hb => exact rfl); (fail_if_success (case hf => exact fun h => Bool.noConfusion h)); (fail_if_success (case ht => exact fun h => Bool.noConfusion h)); (first | (case ht => intro hb_; try simp only [pd_true, pd_false, Bool.not_eq_true', Bool.not_eq_false', Bool.and_eq_true, Bool.and_eq_false_iff, Bool.or_eq_true, Bool.or_eq_false_iff, not_true_eq_false, not_false_eq_true, Int.not_lt, Int.not_le] at hb_; first | done | (exfalso; first | omega | contradiction)) | (case hf => intro hb_; try simp only [pd_true, pd_false, Bool.not_eq_true', Bool.not_eq_false', Bool.and_eq_true, Bool.and_eq_false_iff, Bool.or_eq_true, Bool.or_eq_false_iff, not_true_eq_false, not_false_eq_true, Int.not_lt, Int.not_le] at hb_; first | done | (exfalso; first | omega | contradiction))); intro hb_; try simp only [pd_true, pd_false, Bool.not_eq_true', Bool.not_eq_false', Bool.and_eq_true, Bool.and_eq_false_iff, Bool.or_eq_true, Bool.or_eq_false_iff, not_true_eq_false, not_false_eq_true, Int.not_lt, Int.not_le] at hb_) | ((with_reducible apply XC.cond); (case hc => exact rfl); (first | (case ht => intro hb_; try simp only [pd_true, pd_false, Bool.not_eq_true', Bool.not_eq_false', Bool.and_eq_true, Bool.and_eq_false_iff, Bool.or_eq_true, Bool.or_eq_false_iff, not_true_eq_false, not_false_eq_true, Int.not_lt, Int.not_le] at hb_; first | done | (exfalso; first | omega | contradiction)) | (case hf => intro hb_; try simp only [pd_true, pd_false, Bool.not_eq_true', Bool.not_eq_false', Bool.and_eq_true, Bool.and_eq_false_iff, Bool.or_eq_true, Bool.or_eq_false_iff, not_true_eq_false, not_false_eq_true, Int.not_lt, Int.not_le] at hb_; first | done | (exfalso; first | omega | contradiction))); intro hb_; try simp only [pd_true, pd_false, Bool.not_eq_true', Bool.not_eq_false', Bool.and_eq_true, Bool.and_eq_false_iff, Bool.or_eq_true, Bool.or_eq_false_iff, not_true_eq_false, not_false_eq_true, Int.not_lt, Int.not_le] at hb_))))
      skip
      rw [e1, hsz]
      skip
      try rw [e1]
      skip
      try rw [e1]
      rw [ey]
      ((with_reducible apply XOp.buildSlice); (case hg | ht | hk | he | hz | hzl | hf => exact rfl); intro bb)
      (repeat ((with_reducible apply XL.op)))
      ((with_reducible apply XOp.append1); (case hg => exact rfl); (case ht => exact rfl); (case hk => exact rfl); (case he => exact rfl); (case hown => exact hown); (case hs => exact rfl); (case hx => exact rfl); (case hL => exact rfl); (case hl => exact rfl); (case h1 => exact rfl); (case hz => exact rfl); (case hsz => exact Nat.zero_lt_succ _); (case hk0 => exact Nat.zero_lt_succ _); (case h63 => simp only [maxLen]; omega); (case hb => simp only []; omega); intro v_ F_ hown_; obtain ⟨a_, c_, rfl⟩ := hown_.val)
      (repeat (first | (with_reducible apply XL.op) | ((with_reducible apply XOp.p1); (case hg | hv => exact rfl)) | (with_reducible apply XL.nilT) | (with_reducible apply XC.region (Γ := Γ)) | (with_reducible apply XL.nilQ) | (with_reducible apply XQ.nt) | (with_reducible apply XQ.nb)))
      try rw [e2]
      exact ⟨k - 2, by omega, _, .of (List.Sublist.refl _), i + 2, b ++ [y], _, F_, by omega, hp, hown_.conv (by simp) (by simp [zerosL]), rfl, rfl, rfl, rfl, trivial⟩
    subst hy120
    obtain ⟨p, hp2⟩ : ∃ p, t[i + 2]? = some p := ⟨_, List.getElem?_eq_getElem (by omega)⟩
    obtain ⟨q, hq3⟩ : ∃ q, t[i + 3]? = some q := ⟨_, List.getElem?_eq_getElem h3⟩
    have ep : byteAt (strOf t) (((i + 2 : Nat) : Int)).toNat = p := by rw [Int.toNat_natCast]; exact byteAt_strOf hok hp2
    have eq : byteAt (strOf t) (((i + 3 : Nat) : Int)).toNat = q := by rw [Int.toNat_natCast]; exact byteAt_strOf hok hq3
    have hpB := hB p (List.mem_of_getElem? hp2)
    have hqB := hB q (List.mem_of_getElem? hq3)
    have hp := hU.hex hc hy hp2 hq3
    have vp := valW_rng p
    have vq := valW_rng q
    have ev : IntKind.u8.wrap (IntKind.u8.wrap ((valW p).tmod 16 * 16) + (valW q).tmod 16) = ((valW p % 16 * 16) % 256 + valW q % 16) % 256 := by
      rw [Int.tmod_eq_emod_of_nonneg (by omega), Int.tmod_eq_emod_of_nonneg (by omega), u8w, u8w]
    (repeat (first | (with_reducible apply XC.seq) | (first | ((with_reducible apply XOp.split); (case hg | hj | hd | hb => exact rfl); (fail_if_success (case hf => exact fun h => Bool.noConfusion h)); (fail_if_success (case ht => exact fun h => Bool.noConfusion h)); (first | (case ht => intro hb_; try simp only [pd_true, pd_false, Bool.not_eq_true', Bool.not_eq_false', Bool.and_eq_true, Bool.and_eq_false_iff, Bool.or_eq_true, Bool.or_eq_false_iff, not_true_eq_false, not_false_eq_true, Int.not_lt, Int.not_le] at hb_; first | done | (exfalso; first | omega | contradiction)) | (case hf => intro hb_; try simp only [pd_true, pd_false, Bool.not_eq_true', Bool.not_eq_false', Bool.and_eq_true, Bool.and_eq_false_iff, Bool.or_eq_true, Bool.or_eq_false_iff, not_true_eq_false, not_false_eq_true, Int.not_lt, Int.not_le] at hb_; first | done | (exfalso; first | omega | contradiction))); intro hb_; try simp only [pd_true, pd_false, Bool.not_eq_true', Bool.not_eq_false', Bool.and_eq_true, Bool.and_eq_false_iff, Bool.or_eq_true, Bool.or_eq_false_iff, not_true_eq_false, not_false_eq_true, Int.not_lt, Int.not_le] at hb_) | ((with_reducible apply XP.split); (case ho | hg | hj | hd | hb => exact rfl); (fail_if_success (case hf => exact fun h => Bool.noConfusion h)); (fail_if_success (case ht => exact fun h => Bool.noConfusion h)); (first | (case ht => intro hb_; try simp only [pd_true, pd_false, Bool.not_eq_true', Bool.not_eq_false', Bool.and_eq_true, Bool.and_eq_false_iff, Bool.or_eq_true, Bool.or_eq_false_iff, not_true_eq_false, not_false_eq_true, Int.not_lt, Int.not_le] at hb_; first | done | (exfalso; first | omega | contradiction)) | (case hf => intro hb_; try simp only [pd_true, pd_false, Bool.not_eq_true', Bool.not_eq_false', Bool.and_eq_true, Bool.and_eq_false_iff, Bool.or_eq_true, Bool.or_eq_false_iff, not_true_eq_false, not_false_eq_true, Int.not_lt, Int.not_le] at hb_; first | done | (exfalso; first | omega | contradiction))); intro hb_; try simp only [pd_true, pd_false, Bool.not_eq_true', Bool.not_eq_false', Bool.and_eq_true, Bool.and_eq_false_iff, Bool.or_eq_true, Bool.or_eq_false_iff, not_true_eq_false, not_false_eq_true, Int.not_lt, Int.not_le] at hb_) | ((with_reducible apply XC.cond); (case hc => exact rfl); (first | (case ht => intro hb_; try simp only [pd_true, pd_false, Bool.not_eq_true', Bool.not_eq_false', Bool.and_eq_true, Bool.and_eq_false_iff, Bool.or_eq_true, Bool.or_eq_false_iff, not_true_eq_false, not_false_eq_true, Int.not_lt, Int.not_le] at hb_; first | done | (exfalso; first | omega | contradiction)) | (case hf => intro hb_; try simp only [pd_true, pd_false, Bool.not_eq_true', Bool.not_eq_false', Bool.and_eq_true, Bool.and_eq_false_iff, Bool.or_eq_true, Bool.or_eq_false_iff, not_true_eq_false, not_false_eq_true, Int.not_lt, Int.not_le] at hb_; first | done | (exfalso; first | omega | contradiction))); intro hb_; try simp only [pd_true, pd_false, Bool.not_eq_true', Bool.not_eq_false', Bool.and_eq_true, Bool.and_eq_false_iff, Bool.or_eq_true, Bool.or_eq_false_iff, not_true_eq_false, not_false_eq_true, Int.not_lt, Int.not_le] at hb_))))
    ((with_reducible apply XC.regionL (Γ := Γ) mixed (.q 0 (.q 1 (.q 2 (.q 3 (.q 4 (.q 8 (.q 9 (.q 10 (.q 11 (.e 5 (.q 6 (.q 7 (.e 12 (.q 13 (.q 14 (.e 15 (.e 16 (.e 17 (.done))))))))))))))))))) [16] ([])); (case hc => kernel_rfl); (case hs => first | exact List.nil_sublist _ | exact List.Sublist.refl _ | exact List.sublist_append_right _ _ | (refine List.Sublist.cons_cons _ (List.nil_sublist _)) | (refine List.Sublist.cons_cons _ (List.Sublist.cons_cons _ (List.nil_sublist _))) | (refine List.Sublist.cons_cons _ (List.Sublist.cons_cons _ (List.Sublist.cons_cons _ (List.nil_sublist _)))) | (refine List.Sublist.cons_cons _ (List.Sublist.cons_cons _ (List.Sublist.cons_cons _ (List.Sublist.cons_cons _ (List.nil_sublist _))))) | ((try simp only [List.append_eq, List.cons_append, List.nil_append, List.append_assoc]); (repeat (first | exact List.Sublist.refl _ | exact List.nil_sublist _ | (with_reducible apply List.Sublist.cons_cons) | (with_reducible apply List.Sublist.cons))); done)))
    (repeat (first | ((with_reducible apply XP.p1); (case ho | hg | hv => exact rfl)) | ((with_reducible apply XP.pr); (case ho => exact rfl); (case hg => exact rfl); (case hr => ((with_reducible apply PR.sidx); (case ht | hk | hx | hi => exact rfl); (case hr => first | assumption | omega)))) | ((with_reducible apply XP.e); (first | ((with_reducible apply XE.d); (case ho => exact rfl); (case hd => exact rfl)) | ((with_reducible apply XE.e); (case ho => exact rfl))))))
    rw [e2]
    skip
    rw [ep]
    (repeat (first | ((with_reducible apply XP.p1); (case ho | hg | hv => exact rfl)) | ((with_reducible apply XP.e); (first | ((with_reducible apply XE.d); (case ho => exact rfl); (case hd => exact rfl)) | ((with_reducible apply XE.e); (case ho => exact rfl)))) | ((with_reducible apply XP.keep); (case hk => first | ((repeat' (first | exact List.forall_mem_nil _ | (with_reducible refine List.forall_mem_cons.2 ⟨?_, ?_⟩) | exact List.mem_cons_self .. | (with_reducible apply List.mem_cons_of_mem) | (with_reducible apply List.mem_append_right))); done) | (intro x hx; first | exact sel_in hx | exact List.mem_cons_of_mem _ (sel_in hx) | exact List.mem_append_right _ (sel_in hx) | exact hx | exact List.mem_cons_of_mem _ hx | exact List.mem_append_right _ hx | ((repeat (first | exact sel_in hx | exact hx | (with_reducible apply List.mem_cons_of_mem) | (with_reducible apply List.mem_append_right))); done) | (rw [List.mem_singleton.1 hx]; (simp; done)) | (rcases List.mem_cons.1 hx with rfl | hx; (simp; done); (rw [List.mem_singleton.1 hx]; (simp; done))) | cases hx))) | (((with_reducible apply XOp.callQ (hF := value_fn p hpB)); (case hg => exact rfl); (case hc => exact rfl); (case ha => exact rfl); try (case hA => exact Known.true)); rintro _ rfl)))
    rw [e3]
    skip
    rw [eq]
    (repeat (first | ((with_reducible apply XP.p1); (case ho | hg | hv => exact rfl)) | ((with_reducible apply XP.e); (first | ((with_reducible apply XE.d); (case ho => exact rfl); (case hd => exact rfl)) | ((with_reducible apply XE.e); (case ho => exact rfl)))) | ((with_reducible apply XP.keep); (case hk => first | ((repeat' (first | exact List.forall_mem_nil _ | (with_reducible refine List.forall_mem_cons.2 ⟨?_, ?_⟩) | exact List.mem_cons_self .. | (with_reducible apply List.mem_cons_of_mem) | (with_reducible apply List.mem_append_right))); done) | (intro x hx; first | exact sel_in hx | exact List.mem_cons_of_mem _ (sel_in hx) | exact List.mem_append_right _ (sel_in hx) | exact hx | exact List.mem_cons_of_mem _ hx | exact List.mem_append_right _ hx | ((repeat (first | exact sel_in hx | exact hx | (with_reducible apply List.mem_cons_of_mem) | (with_reducible apply List.mem_append_right))); done) | (rw [List.mem_singleton.1 hx]; (simp; done)) | (rcases List.mem_cons.1 hx with rfl | hx; (simp; done); (rw [List.mem_singleton.1 hx]; (simp; done))) | cases hx))) | (((with_reducible apply XOp.callQ (hF := value_fn q hqB)); (case hg => exact rfl); (case hc => exact rfl); (case ha => exact rfl); try (case hA => exact Known.true)); rintro _ rfl)))
    rw [ev]
    ((with_reducible apply XOp.buildSlice); (case hg | ht | hk | he | hz | hzl | hf => exact rfl); intro bb)
    (repeat (first | ((with_reducible apply XP.e); (first | ((with_reducible apply XE.d); (case ho => exact rfl); (case hd => exact rfl)) | ((with_reducible apply XE.e); (case ho => exact rfl)))) | ((with_reducible apply XP.keep); (case hk => first | ((repeat' (first | exact List.forall_mem_nil _ | (with_reducible refine List.forall_mem_cons.2 ⟨?_, ?_⟩) | exact List.mem_cons_self .. | (with_reducible apply List.mem_cons_of_mem) | (with_reducible apply List.mem_append_right))); done) | (intro x hx; first | exact sel_in hx | exact List.mem_cons_of_mem _ (sel_in hx) | exact List.mem_append_right _ (sel_in hx) | exact hx | exact List.mem_cons_of_mem _ hx | exact List.mem_append_right _ hx | ((repeat (first | exact sel_in hx | exact hx | (with_reducible apply List.mem_cons_of_mem) | (with_reducible apply List.mem_append_right))); done) | (rw [List.mem_singleton.1 hx]; (simp; done)) | (rcases List.mem_cons.1 hx with rfl | hx; (simp; done); (rw [List.mem_singleton.1 hx]; (simp; done))) | cases hx)))))
    ((with_reducible apply XOp.append1); (case hg => exact rfl); (case ht => exact rfl); (case hk => exact rfl); (case he => exact rfl); (case hown => exact hown); (case hs => exact rfl); (case hx => exact rfl); (case hL => exact rfl); (case hl => exact rfl); (case h1 => exact rfl); (case hz => exact rfl); (case hsz => exact Nat.zero_lt_succ _); (case hk0 => exact Nat.zero_lt_succ _); (case h63 => simp only [maxLen]; omega); (case hb => simp only []; omega); intro v_ F_ hown_; obtain ⟨a_, c_, rfl⟩ := hown_.val)
    (repeat (first | (with_reducible apply XL.op) | ((with_reducible apply XOp.p1); (case hg | hv => exact rfl)) | (with_reducible apply XC.region (Γ := Γ)) | (with_reducible apply XL.nilQ) | (with_reducible apply XQ.nt) | (with_reducible apply XQ.nb) | (with_reducible apply XP.done) | ((with_reducible apply XP.e); (first | ((with_reducible apply XE.d); (case ho => exact rfl); (case hd => exact rfl)) | ((with_reducible apply XE.e); (case ho => exact rfl)))) | ((with_reducible apply XP.keep); (case hk => first | ((repeat' (first | exact List.forall_mem_nil _ | (with_reducible refine List.forall_mem_cons.2 ⟨?_, ?_⟩) | exact List.mem_cons_self .. | (with_reducible apply List.mem_cons_of_mem) | (with_reducible apply List.mem_append_right))); done) | (intro x hx; first | exact sel_in hx | exact List.mem_cons_of_mem _ (sel_in hx) | exact List.mem_append_right _ (sel_in hx) | exact hx | exact List.mem_cons_of_mem _ hx | exact List.mem_append_right _ hx | ((repeat (first | exact sel_in hx | exact hx | (with_reducible apply List.mem_cons_of_mem) | (with_reducible apply List.mem_append_right))); done) | (rw [List.mem_singleton.1 hx]; (simp; done)) | (rcases List.mem_cons.1 hx with rfl | hx; (simp; done); (rw [List.mem_singleton.1 hx]; (simp; done))) | cases hx)))))
    rw [e4]
    exact ⟨k - 4, by omega, _, .of (List.Sublist.refl _), i + 4, _, _, F_, by omega, hp, hown_.conv (by simp) (by simp [zerosL]), rfl, rfl, rfl, rfl, trivial⟩
  rintro ρ L ⟨v, F, hown, hrl, rfl, hs⟩
  refine XQ.nt ?_
  refine XC.slots _ hs ?_
  obtain ⟨a', c', rfl⟩ := hown.val
  have hrB := refB_isB hB
  obtain ⟨hr1, hr2⟩ := ref_iff hB
  obtain ⟨a3, c3, e3, _, s3⟩ := own_by hown hrB (by omega)
  obtain ⟨rfl, _, rfl⟩ := Value.slice.inj e3
  (repeat (first | (with_reducible apply XL.op) | ((with_reducible apply XOp.p1); (case hg | hv => exact rfl)) | (with_reducible apply XC.seq) | (with_reducible apply XC.region (Γ := Γ))))
  ((with_reducible apply XOp.callQ (hF := FC.nil (refQuote_fn (refB t) a' c' (by omega)))); (case hg => exact rfl); (case hc => exact rfl); (case ha => exact rfl); try (case hA => exact Known.true))
  case hA => exact s3.known fun y hy => hy
  rintro _ rfl
  have hqA := quoteL_A hrB
  have hqs : ((strOf (quoteL (refB t))).size : Int) = ((quoteL (refB t)).length : Int) := by rw [strOf_size]
  have hql := quoteL_length (refB t)
  generalize quoteL (refB t) = q at *
  (repeat (first | (with_reducible apply XL.op) | ((with_reducible apply XOp.p1); (case hg | hv => exact rfl)) | (with_reducible apply XL.nilT) | (with_reducible apply XC.seq) | (with_reducible apply XC.region (Γ := Γ))))
  rw [hqs, hsz]
  by_cases hlong : t.length < q.length
  · have hn := hr2 (fun h => by have := congrArg List.length h; rw [List.length_take] at this; omega)
    (repeat (first | (with_reducible apply XL.op) | ((with_reducible apply XOp.p1); (case hg | hv => exact rfl)) | ((with_reducible apply XOp.p0); (case hg => exact rfl)) | (with_reducible apply XL.nilT) | (with_reducible apply XC.seq) | (with_reducible apply XC.region (Γ := Γ)) | (with_reducible apply XQ.ret) | (with_reducible apply XQ.rt) | ((with_reducible apply XC.condT); (case hc => exact rfl)) | (first | ((with_reducible apply XOp.split); (case hg | hj | hd | hb => exact rfl); (fail_if_success (case hf => exact fun h => Bool.noConfusion h)); (fail_if_success (case ht => exact fun h => Bool.noConfusion h)); (first | (case ht => intro hb_; try simp only [pd_true, pd_false, Bool.not_eq_true', Bool.not_eq_false', Bool.and_eq_true, Bool.and_eq_false_iff, Bool.or_eq_true, Bool.or_eq_false_iff, not_true_eq_false, not_false_eq_true, Int.not_lt, Int.not_le] at hb_; first | done | (exfalso; first | omega | contradiction)) | (case hf => intro hb_; try simp only [pd_true, pd_false, Bool.not_eq_true', Bool.not_eq_false', Bool.and_eq_true, Bool.and_eq_false_iff, Bool.or_eq_true, Bool.or_eq_false_iff, not_true_eq_false, not_false_eq_true, Int.not_lt, Int.not_le] at hb_; first | done | (exfalso; first | omega | contradiction))); intro hb_; try simp only [pd_true, pd_false, Bool.not_eq_true', Bool.not_eq_false', Bool.and_eq_true, Bool.and_eq_false_iff, Bool.or_eq_true, Bool.or_eq_false_iff, not_true_eq_false, not_false_eq_true, Int.not_lt, Int.not_le] at hb_) | ((with_reducible apply XP.split); (case ho | hg | hj | hd | hb => exact rfl); (fail_if_success (case hf => exact fun h => Bool.noConfusion h)); (fail_if_success (case ht => exact fun h => Bool.noConfusion h)); (first | (case ht => intro hb_; try simp only [pd_true, pd_false, Bool.not_eq_true', Bool.not_eq_false', Bool.and_eq_true, Bool.and_eq_false_iff, Bool.or_eq_true, Bool.or_eq_false_iff, not_true_eq_false, not_false_eq_true, Int.not_lt, Int.not_le] at hb_; first | done | (exfalso; first | omega | contradiction)) | (case hf => intro hb_; try simp only [pd_true, pd_false, Bool.not_eq_true', Bool.not_eq_false', Bool.and_eq_true, Bool.and_eq_false_iff, Bool.or_eq_true, Bool.or_eq_false_iff, not_true_eq_false, not_false_eq_true, Int.not_lt, Int.not_le] at hb_; first | done | (exfalso; first | omega | contradiction))); intro hb_; try simp only [pd_true, pd_false, Bool.not_eq_true', Bool.not_eq_false', Bool.and_eq_true, Bool.and_eq_false_iff, Bool.or_eq_true, Bool.or_eq_false_iff, not_true_eq_false, not_false_eq_true, Int.not_lt, Int.not_le] at hb_) | ((with_reducible apply XC.cond); (case hc => exact rfl); (first | (case ht => intro hb_; try simp only [pd_true, pd_false, Bool.not_eq_true', Bool.not_eq_false', Bool.and_eq_true, Bool.and_eq_false_iff, Bool.or_eq_true, Bool.or_eq_false_iff, not_true_eq_false, not_false_eq_true, Int.not_lt, Int.not_le] at hb_; first | done | (exfalso; first | omega | contradiction)) | (case hf => intro hb_; try simp only [pd_true, pd_false, Bool.not_eq_true', Bool.not_eq_false', Bool.and_eq_true, Bool.and_eq_false_iff, Bool.or_eq_true, Bool.or_eq_false_iff, not_true_eq_false, not_false_eq_true, Int.not_lt, Int.not_le] at hb_; first | done | (exfalso; first | omega | contradiction))); intro hb_; try simp only [pd_true, pd_false, Bool.not_eq_true', Bool.not_eq_false', Bool.and_eq_true, Bool.and_eq_false_iff, Bool.or_eq_true, Bool.or_eq_false_iff, not_true_eq_false, not_false_eq_true, Int.not_lt, Int.not_le] at hb_))))
    ((with_reducible apply XQ.retE); (case hr => exact .t rfl (.t rfl (.t rfl .nil))))
    refine ⟨[], .of (List.nil_sublist _), ?_⟩
    unfold UnqR; rw [hn]; exact ⟨rfl, rfl⟩
  (repeat (first | (with_reducible apply XL.op) | ((with_reducible apply XOp.p1); (case hg | hv => exact rfl)) | (with_reducible apply XL.nilT) | (first | ((with_reducible apply XOp.split); (case hg | hj | hd | hb => exact rfl); (fail_if_success (case hf => exact fun h => Bool.noConfusion h)); (fail_if_success (case ht => exact fun h => Bool.noConfusion h)); (first | (case ht => intro hb_; try simp only [pd_true, pd_false, Bool.not_eq_true', Bool.not_eq_false', Bool.and_eq_true, Bool.and_eq_false_iff, Bool.or_eq_true, Bool.or_eq_false_iff, not_true_eq_false, not_false_eq_true, Int.not_lt, Int.not_le] at hb_; first | done | (exfalso; first | omega | contradiction)) | (case hf => intro hb_; try simp only [pd_true, pd_false, Bool.not_eq_true', Bool.not_eq_false', Bool.and_eq_true, Bool.and_eq_false_iff, Bool.or_eq_true, Bool.or_eq_false_iff, not_true_eq_false, not_false_eq_true, Int.not_lt, Int.not_le] at hb_; first | done | (exfalso; first | omega | contradiction))); intro hb_; try simp only [pd_true, pd_false, Bool.not_eq_true', Bool.not_eq_false', Bool.and_eq_true, Bool.and_eq_false_iff, Bool.or_eq_true, Bool.or_eq_false_iff, not_true_eq_false, not_false_eq_true, Int.not_lt, Int.not_le] at hb_) | ((with_reducible apply XP.split); (case ho | hg | hj | hd | hb => exact rfl); (fail_if_success (case hf => exact fun h => Bool.noConfusion h)); (fail_if_success (case ht => exact fun h => Bool.noConfusion h)); (first | (case ht => intro hb_; try simp only [pd_true, pd_false, Bool.not_eq_true', Bool.not_eq_false', Bool.and_eq_true, Bool.and_eq_false_iff, Bool.or_eq_true, Bool.or_eq_false_iff, not_true_eq_false, not_false_eq_true, Int.not_lt, Int.not_le] at hb_; first | done | (exfalso; first | omega | contradiction)) | (case hf => intro hb_; try simp only [pd_true, pd_false, Bool.not_eq_true', Bool.not_eq_false', Bool.and_eq_true, Bool.and_eq_false_iff, Bool.or_eq_true, Bool.or_eq_false_iff, not_true_eq_false, not_false_eq_true, Int.not_lt, Int.not_le] at hb_; first | done | (exfalso; first | omega | contradiction))); intro hb_; try simp only [pd_true, pd_false, Bool.not_eq_true', Bool.not_eq_false', Bool.and_eq_true, Bool.and_eq_false_iff, Bool.or_eq_true, Bool.or_eq_false_iff, not_true_eq_false, not_false_eq_true, Int.not_lt, Int.not_le] at hb_) | ((with_reducible apply XC.cond); (case hc => exact rfl); (first | (case ht => intro hb_; try simp only [pd_true, pd_false, Bool.not_eq_true', Bool.not_eq_false', Bool.and_eq_true, Bool.and_eq_false_iff, Bool.or_eq_true, Bool.or_eq_false_iff, not_true_eq_false, not_false_eq_true, Int.not_lt, Int.not_le] at hb_; first | done | (exfalso; first | omega | contradiction)) | (case hf => intro hb_; try simp only [pd_true, pd_false, Bool.not_eq_true', Bool.not_eq_false', Bool.and_eq_true, Bool.and_eq_false_iff, Bool.or_eq_true, Bool.or_eq_false_iff, not_true_eq_false, not_false_eq_true, Int.not_lt, Int.not_le] at hb_; first | done | (exfalso; first | omega | contradiction))); intro hb_; try simp only [pd_true, pd_false, Bool.not_eq_true', Bool.not_eq_false', Bool.and_eq_true, Bool.and_eq_false_iff, Bool.or_eq_true, Bool.or_eq_false_iff, not_true_eq_false, not_false_eq_true, Int.not_lt, Int.not_le] at hb_)) | (first | ((with_reducible apply XOp.pr); (case hg => exact rfl); (case hr => (with_reducible apply PR.strTo); (case ht => exact rfl); (case hk => exact rfl); (case hx => exact rfl); (case hy => exact rfl); (case hb => exact ⟨by omega, by omega⟩))) | ((with_reducible apply XP.pr); (case ho => exact rfl); (case hg => exact rfl); (case hr => (with_reducible apply PR.strTo); (case ht => exact rfl); (case hk => exact rfl); (case hx => exact rfl); (case hy => exact rfl); (case hb => exact ⟨by omega, by omega⟩))))))
  rw [Int.toNat_natCast, strOf_size]
  rw [strOf_eq (isB_ok (isA_B hqA)) (fun x hx => hok x (List.mem_of_mem_take hx))]
  by_cases he : q = t.take q.length
  · have hv := hr1 he.symm
    rw [pdt he]
    (repeat (first | (with_reducible apply XL.op) | ((with_reducible apply XOp.p1); (case hg | hv => exact rfl)) | (with_reducible apply XL.nilT) | (with_reducible apply XC.seq) | (with_reducible apply XC.region (Γ := Γ)) | (with_reducible apply XQ.skip) | (with_reducible apply XQ.ret) | (with_reducible apply XQ.nt) | ((with_reducible apply XC.condF); (case hc => exact rfl))))
    rw [hqs]
    ((with_reducible apply XQ.retE); (case hr => exact .t rfl (.t rfl (.t rfl .nil))))
    refine ⟨L, .of (List.Sublist.refl _), ?_⟩
    unfold UnqR; rw [hv]
    refine ⟨_, ?_, hown⟩
    show Value.tuple #[_, _, _] = Value.tuple #[_, _, _]
    simp only [List.length_drop]
    rw [show t.length - (t.length - q.length) = q.length by omega]
  · have hn := hr2 (fun h => he h.symm)
    rw [pdf he]
    (repeat (first | (with_reducible apply XL.op) | ((with_reducible apply XOp.p1); (case hg | hv => exact rfl)) | (with_reducible apply XL.nilT) | (with_reducible apply XC.seq) | (with_reducible apply XC.region (Γ := Γ)) | (with_reducible apply XQ.ret) | (with_reducible apply XQ.rt) | ((with_reducible apply XC.condT); (case hc => exact rfl))))
    ((with_reducible apply XQ.retE); (case hr => exact .t rfl (.t rfl (.t rfl .nil))))
    refine ⟨[], .of (List.nil_sublist _), ?_⟩
    unfold UnqR; rw [hn]; exact ⟨rfl, rfl⟩
end Go.Proofs.YtepfnakabafhlaaDoorX
/- The program's reader of a line: blanks, words, numbers, literals. -/
namespace Go.Proofs.YtepfnakabafhlaaDoorX
open Go Go.SX

/-- The reader's block. -/
abbrev RdB (rb : Nat) (r : RT) : Nat × Obj := (rb, .cells ⟨[.string (strOf r.rest), .bool r.ok]⟩ 59 (0, 0))
theorem blank_rest {r : RT} : (blankS r).rest = if r.rest.head? = some 32 then r.rest.drop 1 else r.rest := by unfold blankS; split <;> rfl
theorem blank_ok {r : RT} : (blankS r).ok = (r.ok && pd (r.rest.head? = some 32)) := by
  unfold blankS; split
  · rename_i h; rw [pdt h]; simp
  · rename_i h; rw [pdf h]; simp
theorem blank_sub {r : RT} (hB : isB r.rest) : isB (blankS r).rest := by
  rw [blank_rest]; split
  · exact fun x hx => hB x (List.drop_subset _ _ hx)
  · exact hB
theorem blank_len (r : RT) : (blankS r).rest.length ≤ r.rest.length := by rw [blank_rest]; split <;> (try rw [List.length_drop]) <;> omega
theorem blank_fn (rb : Nat) (r : RT) (hB : isB r.rest) : FC Tryd.prog 44 [.pointer (some ⟨rb, 0, none⟩)] [RdB rb r] (fun _ => True) (fun _ L => L = [RdB rb (blankS r)]) := by
  refine FC.intro Tryd.func44 rfl (by kernel_rfl) 26 [] rfl rfl rfl ?_
  intro w0 _
  (repeat (first | (with_reducible apply XL.op) | ((with_reducible apply XOp.p1); (case hg | hv => exact rfl)) | ((with_reducible apply XOp.load); (case hg | ht | hk | hx => exact rfl); (case hc => exact own_cell (i := 0) rfl rfl)) | (with_reducible apply XL.nilT) | (with_reducible apply XC.seq) | (with_reducible apply XC.region (Γ := Γ)) | (((with_reducible apply XOp.callQ (hF := cut_fn r.rest hB)); (case hg => exact rfl); (case hc => exact rfl); (case ha => exact rfl); try (case hA => exact Known.true)); rintro _ rfl)))
  have e : RdB rb (blankS r) = (rb, .cells ⟨[.string (strOf (if r.rest.head? = some 32 then r.rest.drop 1 else r.rest)), .bool (r.ok && pd (r.rest.head? = some 32))]⟩ 59 (0, 0)) := by unfold RdB; rw [blank_rest, blank_ok]
  rw [e]
  cases hok : r.ok with
  | true =>
    (repeat (first | (with_reducible apply XL.op) | ((with_reducible apply XOp.p1); (case hg | hv => exact rfl)) | ((with_reducible apply XOp.store (i := 0)); (case hg | ht | hk | hx | hv | h1 | hi | hs | ha => exact rfl)) | (with_reducible apply XL.nilQ)))
    ((with_reducible apply XQ.norE); (case hr => exact .nil))
    rfl
  | false =>
    (repeat (first | (with_reducible apply XL.op) | ((with_reducible apply XOp.p1); (case hg | hv => exact rfl)) | ((with_reducible apply XOp.p0); (case hg => exact rfl)) | ((with_reducible apply XOp.store (i := 0)); (case hg | ht | hk | hx | hv | h1 | hi | hs | ha => exact rfl)) | (with_reducible apply XL.nilQ)))
    ((with_reducible apply XQ.norE); (case hr => exact .nil))
    rfl
theorem word_fn (rb : Nat) (r : RT) (hB : isB r.rest) (hl : r.rest.length ≤ 1000000000) : FC Tryd.prog 29 [.pointer (some ⟨rb, 0, none⟩)] [RdB rb r] (fun _ => True)
    (fun v L => v = .string (strOf (wordS r).1) ∧ L = [RdB rb (wordS r).2]) := by
  refine FC.intro Tryd.func29 rfl (by kernel_rfl) 29 [.tmp 2] rfl rfl rfl ?_
  intro w0 _
  (repeat (first | (with_reducible apply XL.op) | ((with_reducible apply XOp.p1); (case hg | hv => exact rfl)) | (with_reducible apply XL.nilT) | (with_reducible apply XC.seq) | (with_reducible apply XC.region (Γ := Γ))))
  ((with_reducible apply XOp.call (hF := blank_fn rb r hB)); (case hg => exact rfl); (case hc => exact rfl); (case ha => exact rfl); (case hL => exact rfl))
  case hA => exact Known.true
  rintro _ _ rfl
  have hB2 := blank_sub hB
  have hl2 := blank_len r
  have hw : wordS r = (headW (blankS r).rest, ⟨(blankS r).rest.drop (headW (blankS r).rest).length, (blankS r).ok⟩) := rfl
  rw [hw]
  generalize blankS r = b at *
  have happ := headW_app b.rest
  have hle : (headW b.rest).length ≤ b.rest.length := by have := congrArg List.length happ; rw [List.length_append] at this; omega
  (repeat (first | (with_reducible apply XL.op) | ((with_reducible apply XOp.p1); (case hg | hv => exact rfl)) | ((with_reducible apply XOp.load); (case hg | ht | hk | hx => exact rfl); (case hc => exact own_cell (i := 0) rfl rfl)) | (with_reducible apply XL.nilT) | (with_reducible apply XC.seq) | (with_reducible apply XC.region (Γ := Γ)) | (((with_reducible apply XOp.callQ (hF := index_fn b.rest hB2)); (case hg => exact rfl); (case hc => exact rfl); (case ha => exact rfl); try (case hA => exact Known.true)); rintro _ rfl)))
  by_cases h : (headW b.rest).length < b.rest.length
  · rw [if_pos h]
    have htk : b.rest.take (headW b.rest).length = headW b.rest := by
      have := List.take_left (l₁ := headW b.rest) (l₂ := b.rest.drop (headW b.rest).length)
      rw [← happ] at this; exact this
    (repeat (first | (with_reducible apply XL.op) | ((with_reducible apply XOp.p1); (case hg | hv => exact rfl)) | ((with_reducible apply XOp.load); (case hg | ht | hk | hx => exact rfl); (case hc => exact own_cell (i := 0) rfl rfl)) | (with_reducible apply XL.nilT) | (with_reducible apply XC.seq) | (with_reducible apply XC.region (Γ := Γ)) | (first | ((with_reducible apply XOp.split); (case hg | hj | hd | hb => exact rfl); (fail_if_success (case hf => exact fun h => Bool.noConfusion h)); (fail_if_success (case ht => exact fun h => Bool.noConfusion h)); (first | (case ht => intro hb_; try simp only [pd_true, pd_false, Bool.not_eq_true', Bool.not_eq_false', Bool.and_eq_true, Bool.and_eq_false_iff, Bool.or_eq_true, Bool.or_eq_false_iff, not_true_eq_false, not_false_eq_true, Int.not_lt, Int.not_le] at hb_; first | done | (exfalso; first | omega | contradiction)) | (case hf => intro hb_; try simp only [pd_true, pd_false, Bool.not_eq_true', Bool.not_eq_false', Bool.and_eq_true, Bool.and_eq_false_iff, Bool.or_eq_true, Bool.or_eq_false_iff, not_true_eq_false, not_false_eq_true, Int.not_lt, Int.not_le] at hb_; first | done | (exfalso; first | omega | contradiction))); intro hb_; try simp only [pd_true, pd_false, Bool.not_eq_true', Bool.not_eq_false', Bool.and_eq_true, Bool.and_eq_false_iff, Bool.or_eq_true, Bool.or_eq_false_iff, not_true_eq_false, not_false_eq_true, Int.not_lt, Int.not_le] at hb_) | ((with_reducible apply XP.split); (case ho | hg | hj | hd | hb => exact rfl); (fail_if_success (case hf => exact fun h => Bool.noConfusion h)); (fail_if_success (case ht => exact fun h => Bool.noConfusion h)); (first | (case ht => intro hb_; try simp only [pd_true, pd_false, Bool.not_eq_true', Bool.not_eq_false', Bool.and_eq_true, Bool.and_eq_false_iff, Bool.or_eq_true, Bool.or_eq_false_iff, not_true_eq_false, not_false_eq_true, Int.not_lt, Int.not_le] at hb_; first | done | (exfalso; first | omega | contradiction)) | (case hf => intro hb_; try simp only [pd_true, pd_false, Bool.not_eq_true', Bool.not_eq_false', Bool.and_eq_true, Bool.and_eq_false_iff, Bool.or_eq_true, Bool.or_eq_false_iff, not_true_eq_false, not_false_eq_true, Int.not_lt, Int.not_le] at hb_; first | done | (exfalso; first | omega | contradiction))); intro hb_; try simp only [pd_true, pd_false, Bool.not_eq_true', Bool.not_eq_false', Bool.and_eq_true, Bool.and_eq_false_iff, Bool.or_eq_true, Bool.or_eq_false_iff, not_true_eq_false, not_false_eq_true, Int.not_lt, Int.not_le] at hb_) | ((with_reducible apply XC.cond); (case hc => exact rfl); (first | (case ht => intro hb_; try simp only [pd_true, pd_false, Bool.not_eq_true', Bool.not_eq_false', Bool.and_eq_true, Bool.and_eq_false_iff, Bool.or_eq_true, Bool.or_eq_false_iff, not_true_eq_false, not_false_eq_true, Int.not_lt, Int.not_le] at hb_; first | done | (exfalso; first | omega | contradiction)) | (case hf => intro hb_; try simp only [pd_true, pd_false, Bool.not_eq_true', Bool.not_eq_false', Bool.and_eq_true, Bool.and_eq_false_iff, Bool.or_eq_true, Bool.or_eq_false_iff, not_true_eq_false, not_false_eq_true, Int.not_lt, Int.not_le] at hb_; first | done | (exfalso; first | omega | contradiction))); intro hb_; try simp only [pd_true, pd_false, Bool.not_eq_true', Bool.not_eq_false', Bool.and_eq_true, Bool.and_eq_false_iff, Bool.or_eq_true, Bool.or_eq_false_iff, not_true_eq_false, not_false_eq_true, Int.not_lt, Int.not_le] at hb_)) | (first | ((with_reducible apply XOp.pr); (case hg => exact rfl); (case hr => (with_reducible apply PR.strTo); (case ht => exact rfl); (case hk => exact rfl); (case hx => exact rfl); (case hy => exact rfl); (case hb => exact ⟨by omega, by omega⟩))) | ((with_reducible apply XP.pr); (case ho => exact rfl); (case hg => exact rfl); (case hr => (with_reducible apply PR.strTo); (case ht => exact rfl); (case hk => exact rfl); (case hx => exact rfl); (case hy => exact rfl); (case hb => exact ⟨by omega, by omega⟩))))))
    rw [Int.toNat_natCast, htk, strOf_size]
    (repeat (first | (with_reducible apply XL.op) | ((with_reducible apply XOp.p1); (case hg | hv => exact rfl)) | ((with_reducible apply XOp.store (i := 0)); (case hg | ht | hk | hx | hv | h1 | hi | hs | ha => exact rfl)) | (with_reducible apply XL.nilT) | (with_reducible apply XC.seq) | (with_reducible apply XC.region (Γ := Γ)) | (with_reducible apply XQ.ret) | (first | ((with_reducible apply XOp.pr); (case hg => exact rfl); (case hr => (with_reducible apply PR.strFrom); (case ht => exact rfl); (case hk => exact rfl); (case hx => exact rfl); (case hy => exact rfl); (case hb => exact ⟨by omega, by omega⟩))) | ((with_reducible apply XP.pr); (case ho => exact rfl); (case hg => exact rfl); (case hr => (with_reducible apply PR.strFrom); (case ht => exact rfl); (case hk => exact rfl); (case hx => exact rfl); (case hy => exact rfl); (case hb => exact ⟨by omega, by omega⟩))))))
    rw [Int.toNat_natCast]
    ((with_reducible apply XQ.retE); (case hr => exact .t rfl .nil))
    exact ⟨rfl, rfl⟩
  · rw [if_neg h]
    have heq : headW b.rest = b.rest := by
      have h2 : (headW b.rest).length = b.rest.length := by omega
      rw [h2, List.drop_length, List.append_nil] at happ; exact happ.symm
    (repeat (first | (with_reducible apply XL.op) | ((with_reducible apply XOp.p1); (case hg | hv => exact rfl)) | ((with_reducible apply XOp.load); (case hg | ht | hk | hx => exact rfl); (case hc => exact own_cell (i := 0) rfl rfl)) | (with_reducible apply XC.seq) | (with_reducible apply XC.region (Γ := Γ)) | (with_reducible apply XQ.skip) | (with_reducible apply XQ.nt) | (first | ((with_reducible apply XOp.split); (case hg | hj | hd | hb => exact rfl); (fail_if_success (case hf => exact fun h => Bool.noConfusion h)); (fail_if_success (case ht => exact fun h => Bool.noConfusion h)); (first | (case ht => intro hb_; try simp only [pd_true, pd_false, Bool.not_eq_true', Bool.not_eq_false', Bool.and_eq_true, Bool.and_eq_false_iff, Bool.or_eq_true, Bool.or_eq_false_iff, not_true_eq_false, not_false_eq_true, Int.not_lt, Int.not_le] at hb_; first | done | (exfalso; first | omega | contradiction)) | (case hf => intro hb_; try simp only [pd_true, pd_false, Bool.not_eq_true', Bool.not_eq_false', Bool.and_eq_true, Bool.and_eq_false_iff, Bool.or_eq_true, Bool.or_eq_false_iff, not_true_eq_false, not_false_eq_true, Int.not_lt, Int.not_le] at hb_; first | done | (exfalso; first | omega | contradiction))); intro hb_; try simp only [pd_true, pd_false, Bool.not_eq_true', Bool.not_eq_false', Bool.and_eq_true, Bool.and_eq_false_iff, Bool.or_eq_true, Bool.or_eq_false_iff, not_true_eq_false, not_false_eq_true, Int.not_lt, Int.not_le] at hb_) | ((with_reducible apply XP.split); (case ho | hg | hj | hd | hb => exact rfl); (fail_if_success (case hf => exact fun h => Bool.noConfusion h)); (fail_if_success (case ht => exact fun h => Bool.noConfusion h)); (first | (case ht => intro hb_; try simp only [pd_true, pd_false, Bool.not_eq_true', Bool.not_eq_false', Bool.and_eq_true, Bool.and_eq_false_iff, Bool.or_eq_true, Bool.or_eq_false_iff, not_true_eq_false, not_false_eq_true, Int.not_lt, Int.not_le] at hb_; first | done | (exfalso; first | omega | contradiction)) | (case hf => intro hb_; try simp only [pd_true, pd_false, Bool.not_eq_true', Bool.not_eq_false', Bool.and_eq_true, Bool.and_eq_false_iff, Bool.or_eq_true, Bool.or_eq_false_iff, not_true_eq_false, not_false_eq_true, Int.not_lt, Int.not_le] at hb_; first | done | (exfalso; first | omega | contradiction))); intro hb_; try simp only [pd_true, pd_false, Bool.not_eq_true', Bool.not_eq_false', Bool.and_eq_true, Bool.and_eq_false_iff, Bool.or_eq_true, Bool.or_eq_false_iff, not_true_eq_false, not_false_eq_true, Int.not_lt, Int.not_le] at hb_) | ((with_reducible apply XC.cond); (case hc => exact rfl); (first | (case ht => intro hb_; try simp only [pd_true, pd_false, Bool.not_eq_true', Bool.not_eq_false', Bool.and_eq_true, Bool.and_eq_false_iff, Bool.or_eq_true, Bool.or_eq_false_iff, not_true_eq_false, not_false_eq_true, Int.not_lt, Int.not_le] at hb_; first | done | (exfalso; first | omega | contradiction)) | (case hf => intro hb_; try simp only [pd_true, pd_false, Bool.not_eq_true', Bool.not_eq_false', Bool.and_eq_true, Bool.and_eq_false_iff, Bool.or_eq_true, Bool.or_eq_false_iff, not_true_eq_false, not_false_eq_true, Int.not_lt, Int.not_le] at hb_; first | done | (exfalso; first | omega | contradiction))); intro hb_; try simp only [pd_true, pd_false, Bool.not_eq_true', Bool.not_eq_false', Bool.and_eq_true, Bool.and_eq_false_iff, Bool.or_eq_true, Bool.or_eq_false_iff, not_true_eq_false, not_false_eq_true, Int.not_lt, Int.not_le] at hb_))))
    rw [strOf_size]
    (repeat (first | (with_reducible apply XL.op) | ((with_reducible apply XOp.p1); (case hg | hv => exact rfl)) | ((with_reducible apply XOp.store (i := 0)); (case hg | ht | hk | hx | hv | h1 | hi | hs | ha => exact rfl)) | (with_reducible apply XL.nilT) | (with_reducible apply XC.seq) | (with_reducible apply XC.region (Γ := Γ)) | (with_reducible apply XQ.ret) | (first | ((with_reducible apply XOp.pr); (case hg => exact rfl); (case hr => (with_reducible apply PR.strFrom); (case ht => exact rfl); (case hk => exact rfl); (case hx => exact rfl); (case hy => exact rfl); (case hb => exact ⟨by omega, by omega⟩))) | ((with_reducible apply XP.pr); (case ho => exact rfl); (case hg => exact rfl); (case hr => (with_reducible apply PR.strFrom); (case ht => exact rfl); (case hk => exact rfl); (case hx => exact rfl); (case hy => exact rfl); (case hb => exact ⟨by omega, by omega⟩))))))
    rw [Int.toNat_natCast]
    ((with_reducible apply XQ.retE); (case hr => exact .t rfl .nil))
    rw [heq]; exact ⟨rfl, rfl⟩
theorem word_sub {r : RT} (hB : isB r.rest) : isB (wordS r).1 ∧ isB (wordS r).2.rest := by
  have := blank_sub hB
  exact ⟨fun x hx => this x (headW_sub _ x hx), fun x hx => this x (List.drop_subset _ _ hx)⟩
theorem word_len (r : RT) : (wordS r).1.length + (wordS r).2.rest.length ≤ r.rest.length := by
  have h1 := blank_len r
  have h2 := congrArg List.length (headW_app (blankS r).rest)
  rw [List.length_append] at h2
  show (headW _).length + (List.drop _ _).length ≤ _
  omega
theorem number_fn (rb : Nat) (r : RT) (hB : isB r.rest) (hl : r.rest.length ≤ 1000000000) : FC Tryd.prog 31 [.pointer (some ⟨rb, 0, none⟩)] [RdB rb r] libK
    (fun v L => v = .int .i64 (numS r).1 ∧ L = [RdB rb (numS r).2]) := by
  refine FC.intro Tryd.func31 rfl (by kernel_rfl) 31 [.tmp 2] rfl rfl rfl ?_
  intro w0 hK
  (repeat (first | (with_reducible apply XL.op) | ((with_reducible apply XOp.p1); (case hg | hv => exact rfl)) | (with_reducible apply XL.nilT) | (with_reducible apply XC.seq) | (with_reducible apply XC.region (Γ := Γ))))
  ((with_reducible apply XOp.call (hF := word_fn rb r hB hl)); (case hg => exact rfl); (case hc => exact rfl); (case ha => exact rfl); (case hL => exact rfl))
  case hA => exact Known.true
  rintro _ _ ⟨rfl, rfl⟩
  obtain ⟨hw1, hw2⟩ := word_sub hB
  have hwl := word_len r
  have hn : numS r = ((pInt (wordS r).1).1, ⟨(wordS r).2.rest, (wordS r).2.ok && (pInt (wordS r).1).2 && decide (intL (pInt (wordS r).1).1 = (wordS r).1)⟩) := rfl
  rw [hn]
  generalize wordS r = w at *
  have hpr := pInt_rng w.1
  (repeat (first | (with_reducible apply XL.op) | ((with_reducible apply XOp.p1); (case hg | hv => exact rfl)) | (with_reducible apply XL.nilT) | (with_reducible apply XC.seq) | (with_reducible apply XC.region (Γ := Γ))))
  ((with_reducible apply XOp.callQ (hF := parseInt_fn w.1 (by omega))); (case hg => exact rfl); (case hc => exact rfl); (case ha => exact rfl); try (case hA => exact Known.true))
  case hA => exact Known.of_old hK lib_mono
  rintro _ ⟨e, rfl, he⟩
  rw [← pd_eq (intL (pInt w.1).1 = w.1), ← strOf_eq (isB_ok (intL_isB _)) (isB_ok hw1)]
  generalize pInt w.1 = p at *
  obtain ⟨p1, p2⟩ := p
  obtain ⟨w1, wr, wk⟩ := w
  simp only [] at *
  cases wk with
  | false =>
    cases p2 with
    | true =>
      obtain rfl : e = .nilIface := he
      (repeat (first | (with_reducible apply XL.op) | ((with_reducible apply XOp.p1); (case hg | hv => exact rfl)) | ((with_reducible apply XOp.p0); (case hg => exact rfl)) | ((with_reducible apply XOp.load); (case hg | ht | hk | hx => exact rfl); (case hc => exact own_cell (i := 0) rfl rfl)) | ((with_reducible apply XOp.store (i := 0)); (case hg | ht | hk | hx | hv | h1 | hi | hs | ha => exact rfl)) | (with_reducible apply XL.nilT) | (with_reducible apply XC.seq) | (with_reducible apply XC.region (Γ := Γ)) | (with_reducible apply XQ.ret)))
      ((with_reducible apply XQ.retE); (case hr => exact .t rfl .nil))
      exact ⟨rfl, rfl⟩
    | false =>
      obtain ⟨te, pe, rfl⟩ := he
      (repeat (first | (with_reducible apply XL.op) | ((with_reducible apply XOp.p1); (case hg | hv => exact rfl)) | ((with_reducible apply XOp.p0); (case hg => exact rfl)) | ((with_reducible apply XOp.load); (case hg | ht | hk | hx => exact rfl); (case hc => exact own_cell (i := 0) rfl rfl)) | ((with_reducible apply XOp.store (i := 0)); (case hg | ht | hk | hx | hv | h1 | hi | hs | ha => exact rfl)) | (with_reducible apply XL.nilT) | (with_reducible apply XC.seq) | (with_reducible apply XC.region (Γ := Γ)) | (with_reducible apply XQ.ret)))
      ((with_reducible apply XQ.retE); (case hr => exact .t rfl .nil))
      exact ⟨rfl, rfl⟩
  | true =>
    cases p2 with
    | true =>
      obtain rfl : e = .nilIface := he
      (repeat (first | (with_reducible apply XL.op) | ((with_reducible apply XOp.p1); (case hg | hv => exact rfl)) | ((with_reducible apply XOp.load); (case hg | ht | hk | hx => exact rfl); (case hc => exact own_cell (i := 0) rfl rfl)) | ((with_reducible apply XOp.store (i := 0)); (case hg | ht | hk | hx | hv | h1 | hi | hs | ha => exact rfl)) | (with_reducible apply XL.nilT) | (with_reducible apply XC.seq) | (with_reducible apply XC.region (Γ := Γ)) | (with_reducible apply XQ.ret) | (first | (first | ((with_reducible apply XOp.pr); (case hg => exact rfl); (case hr => (with_reducible apply PR.eqNilI); (case ht => exact rfl); (case hk => exact rfl); (case hx => exact rfl))) | ((with_reducible apply XP.pr); (case ho => exact rfl); (case hg => exact rfl); (case hr => (with_reducible apply PR.eqNilI); (case ht => exact rfl); (case hk => exact rfl); (case hx => exact rfl)))) | (first | ((with_reducible apply XOp.pr); (case hg => exact rfl); (case hr => (with_reducible apply PR.eqSomeI); (case ht => exact rfl); (case hk => exact rfl); (case hx => exact rfl))) | ((with_reducible apply XP.pr); (case ho => exact rfl); (case hg => exact rfl); (case hr => (with_reducible apply PR.eqSomeI); (case ht => exact rfl); (case hk => exact rfl); (case hx => exact rfl))))) | (((with_reducible apply XOp.callQ (hF := fmtInt_fn p1 (inK_i64.2 hpr))); (case hg => exact rfl); (case hc => exact rfl); (case ha => exact rfl); try (case hA => exact Known.true)); (case hA => exact Known.of_old hK lib_mono); rintro _ rfl)))
      ((with_reducible apply XQ.retE); (case hr => exact .t rfl .nil))
      exact ⟨rfl, rfl⟩
    | false =>
      obtain ⟨te, pe, rfl⟩ := he
      (repeat (first | (with_reducible apply XL.op) | ((with_reducible apply XOp.p1); (case hg | hv => exact rfl)) | ((with_reducible apply XOp.p0); (case hg => exact rfl)) | ((with_reducible apply XOp.load); (case hg | ht | hk | hx => exact rfl); (case hc => exact own_cell (i := 0) rfl rfl)) | ((with_reducible apply XOp.store (i := 0)); (case hg | ht | hk | hx | hv | h1 | hi | hs | ha => exact rfl)) | (with_reducible apply XL.nilT) | (with_reducible apply XC.seq) | (with_reducible apply XC.region (Γ := Γ)) | (with_reducible apply XQ.ret) | (first | (first | ((with_reducible apply XOp.pr); (case hg => exact rfl); (case hr => (with_reducible apply PR.eqNilI); (case ht => exact rfl); (case hk => exact rfl); (case hx => exact rfl))) | ((with_reducible apply XP.pr); (case ho => exact rfl); (case hg => exact rfl); (case hr => (with_reducible apply PR.eqNilI); (case ht => exact rfl); (case hk => exact rfl); (case hx => exact rfl)))) | (first | ((with_reducible apply XOp.pr); (case hg => exact rfl); (case hr => (with_reducible apply PR.eqSomeI); (case ht => exact rfl); (case hk => exact rfl); (case hx => exact rfl))) | ((with_reducible apply XP.pr); (case ho => exact rfl); (case hg => exact rfl); (case hr => (with_reducible apply PR.eqSomeI); (case ht => exact rfl); (case hk => exact rfl); (case hx => exact rfl)))))))
      ((with_reducible apply XQ.retE); (case hr => exact .t rfl .nil))
      exact ⟨rfl, rfl⟩
theorem literal_fn (rb : Nat) (r : RT) (hB : isB r.rest) (hl : r.rest.length ≤ 1000000000) : FC Tryd.prog 58 [.pointer (some ⟨rb, 0, none⟩)] [RdB rb r] (fun _ => True)
    (fun v L => ∃ F, L = RdB rb (litS r).2 :: F ∧ OwnS 5 1 v (litS r).1.length ((litS r).1.map (.int .u8)) F) := by
  refine FC.intro Tryd.func58 rfl (by kernel_rfl) 38 [.tmp 2] rfl rfl rfl ?_
  intro w0 _
  (repeat (first | (with_reducible apply XL.op) | ((with_reducible apply XOp.p1); (case hg | hv => exact rfl)) | (with_reducible apply XL.nilT) | (with_reducible apply XC.seq) | (with_reducible apply XC.region (Γ := Γ))))
  ((with_reducible apply XOp.call (hF := blank_fn rb r hB)); (case hg => exact rfl); (case hc => exact rfl); (case ha => exact rfl); (case hL => exact rfl))
  case hA => exact Known.true
  rintro _ _ rfl
  have hB2 := blank_sub hB
  have hl2 := blank_len r
  have hw : litS r = (match unqS (blankS r).rest with | some p => (p.1, ⟨p.2, (blankS r).ok⟩) | none => ([], ⟨(blankS r).rest, false⟩)) := rfl
  rw [hw]
  generalize blankS r = b at *
  obtain ⟨br, bk⟩ := b
  simp only [] at hB2 hl2 ⊢
  (repeat (first | (with_reducible apply XL.op) | ((with_reducible apply XOp.p1); (case hg | hv => exact rfl)) | ((with_reducible apply XOp.load); (case hg | ht | hk | hx => exact rfl); (case hc => exact own_cell (i := 0) rfl rfl)) | (with_reducible apply XL.nilT) | (with_reducible apply XC.seq) | (with_reducible apply XC.region (Γ := Γ))))
  ((with_reducible apply XOp.callN (hF := unquote_fn br hB2 (by omega))); (case hg => exact rfl); (case hc => exact rfl); (case ha => exact rfl); try (case hA => exact Known.true))
  rintro v F hU
  unfold UnqR at hU
  cases hu : unqS br with
  | none =>
    rw [hu] at hU
    obtain ⟨rfl, rfl⟩ := hU
    simp only []
    cases bk with
    | false =>
      (repeat (first | (with_reducible apply XL.op) | ((with_reducible apply XOp.p1); (case hg | hv => exact rfl)) | ((with_reducible apply XOp.p0); (case hg => exact rfl)) | ((with_reducible apply XOp.load); (case hg | ht | hk | hx => exact rfl); (case hc => exact own_cell (i := 0) rfl rfl)) | ((with_reducible apply XOp.store (i := 0)); (case hg | ht | hk | hx | hv | h1 | hi | hs | ha => exact rfl)) | (with_reducible apply XL.nilT) | (with_reducible apply XC.seq) | (with_reducible apply XC.region (Γ := Γ)) | (with_reducible apply XQ.ret) | (first | ((with_reducible apply XOp.split); (case hg | hj | hd | hb => exact rfl); (fail_if_success (case hf => exact fun h => Bool.noConfusion h)); (fail_if_success (case ht => exact fun h => Bool.noConfusion h)); (first | (case ht => intro hb_; try simp only [pd_true, pd_false, Bool.not_eq_true', Bool.not_eq_false', Bool.and_eq_true, Bool.and_eq_false_iff, Bool.or_eq_true, Bool.or_eq_false_iff, not_true_eq_false, not_false_eq_true, Int.not_lt, Int.not_le] at hb_; first | done | (exfalso; first | omega | contradiction)) | (case hf => intro hb_; try simp only [pd_true, pd_false, Bool.not_eq_true', Bool.not_eq_false', Bool.and_eq_true, Bool.and_eq_false_iff, Bool.or_eq_true, Bool.or_eq_false_iff, not_true_eq_false, not_false_eq_true, Int.not_lt, Int.not_le] at hb_; first | done | (exfalso; first | omega | contradiction))); intro hb_; try simp only [pd_true, pd_false, Bool.not_eq_true', Bool.not_eq_false', Bool.and_eq_true, Bool.and_eq_false_iff, Bool.or_eq_true, Bool.or_eq_false_iff, not_true_eq_false, not_false_eq_true, Int.not_lt, Int.not_le] at hb_) | ((with_reducible apply XP.split); (case ho | hg | hj | hd | hb => exact rfl); (fail_if_success (case hf => exact fun h => Bool.noConfusion h)); (fail_if_success (case ht => exact fun h => Bool.noConfusion h)); (first | (case ht => intro hb_; try simp only [pd_true, pd_false, Bool.not_eq_true', Bool.not_eq_false', Bool.and_eq_true, Bool.and_eq_false_iff, Bool.or_eq_true, Bool.or_eq_false_iff, not_true_eq_false, not_false_eq_true, Int.not_lt, Int.not_le] at hb_; first | done | (exfalso; first | omega | contradiction)) | (case hf => intro hb_; try simp only [pd_true, pd_false, Bool.not_eq_true', Bool.not_eq_false', Bool.and_eq_true, Bool.and_eq_false_iff, Bool.or_eq_true, Bool.or_eq_false_iff, not_true_eq_false, not_false_eq_true, Int.not_lt, Int.not_le] at hb_; first | done | (exfalso; first | omega | contradiction))); intro hb_; try simp only [pd_true, pd_false, Bool.not_eq_true', Bool.not_eq_false', Bool.and_eq_true, Bool.and_eq_false_iff, Bool.or_eq_true, Bool.or_eq_false_iff, not_true_eq_false, not_false_eq_true, Int.not_lt, Int.not_le] at hb_) | ((with_reducible apply XC.cond); (case hc => exact rfl); (first | (case ht => intro hb_; try simp only [pd_true, pd_false, Bool.not_eq_true', Bool.not_eq_false', Bool.and_eq_true, Bool.and_eq_false_iff, Bool.or_eq_true, Bool.or_eq_false_iff, not_true_eq_false, not_false_eq_true, Int.not_lt, Int.not_le] at hb_; first | done | (exfalso; first | omega | contradiction)) | (case hf => intro hb_; try simp only [pd_true, pd_false, Bool.not_eq_true', Bool.not_eq_false', Bool.and_eq_true, Bool.and_eq_false_iff, Bool.or_eq_true, Bool.or_eq_false_iff, not_true_eq_false, not_false_eq_true, Int.not_lt, Int.not_le] at hb_; first | done | (exfalso; first | omega | contradiction))); intro hb_; try simp only [pd_true, pd_false, Bool.not_eq_true', Bool.not_eq_false', Bool.and_eq_true, Bool.and_eq_false_iff, Bool.or_eq_true, Bool.or_eq_false_iff, not_true_eq_false, not_false_eq_true, Int.not_lt, Int.not_le] at hb_)) | (first | ((with_reducible apply XOp.pr); (case hg => exact rfl); (case hr => (with_reducible apply PR.strFrom); (case ht => exact rfl); (case hk => exact rfl); (case hx => exact rfl); (case hy => exact rfl); (case hb => exact ⟨by omega, by omega⟩))) | ((with_reducible apply XP.pr); (case ho => exact rfl); (case hg => exact rfl); (case hr => (with_reducible apply PR.strFrom); (case ht => exact rfl); (case hk => exact rfl); (case hx => exact rfl); (case hy => exact rfl); (case hb => exact ⟨by omega, by omega⟩))))))
      ((with_reducible apply XQ.retE); (case hr => exact .t rfl .nil))
      exact ⟨[], rfl, OwnS.nil _ _⟩
    | true =>
      (repeat (first | (with_reducible apply XL.op) | ((with_reducible apply XOp.p1); (case hg | hv => exact rfl)) | ((with_reducible apply XOp.load); (case hg | ht | hk | hx => exact rfl); (case hc => exact own_cell (i := 0) rfl rfl)) | ((with_reducible apply XOp.store (i := 0)); (case hg | ht | hk | hx | hv | h1 | hi | hs | ha => exact rfl)) | (with_reducible apply XL.nilT) | (with_reducible apply XC.seq) | (with_reducible apply XC.region (Γ := Γ)) | (with_reducible apply XQ.ret) | (first | ((with_reducible apply XOp.split); (case hg | hj | hd | hb => exact rfl); (fail_if_success (case hf => exact fun h => Bool.noConfusion h)); (fail_if_success (case ht => exact fun h => Bool.noConfusion h)); (first | (case ht => intro hb_; try simp only [pd_true, pd_false, Bool.not_eq_true', Bool.not_eq_false', Bool.and_eq_true, Bool.and_eq_false_iff, Bool.or_eq_true, Bool.or_eq_false_iff, not_true_eq_false, not_false_eq_true, Int.not_lt, Int.not_le] at hb_; first | done | (exfalso; first | omega | contradiction)) | (case hf => intro hb_; try simp only [pd_true, pd_false, Bool.not_eq_true', Bool.not_eq_false', Bool.and_eq_true, Bool.and_eq_false_iff, Bool.or_eq_true, Bool.or_eq_false_iff, not_true_eq_false, not_false_eq_true, Int.not_lt, Int.not_le] at hb_; first | done | (exfalso; first | omega | contradiction))); intro hb_; try simp only [pd_true, pd_false, Bool.not_eq_true', Bool.not_eq_false', Bool.and_eq_true, Bool.and_eq_false_iff, Bool.or_eq_true, Bool.or_eq_false_iff, not_true_eq_false, not_false_eq_true, Int.not_lt, Int.not_le] at hb_) | ((with_reducible apply XP.split); (case ho | hg | hj | hd | hb => exact rfl); (fail_if_success (case hf => exact fun h => Bool.noConfusion h)); (fail_if_success (case ht => exact fun h => Bool.noConfusion h)); (first | (case ht => intro hb_; try simp only [pd_true, pd_false, Bool.not_eq_true', Bool.not_eq_false', Bool.and_eq_true, Bool.and_eq_false_iff, Bool.or_eq_true, Bool.or_eq_false_iff, not_true_eq_false, not_false_eq_true, Int.not_lt, Int.not_le] at hb_; first | done | (exfalso; first | omega | contradiction)) | (case hf => intro hb_; try simp only [pd_true, pd_false, Bool.not_eq_true', Bool.not_eq_false', Bool.and_eq_true, Bool.and_eq_false_iff, Bool.or_eq_true, Bool.or_eq_false_iff, not_true_eq_false, not_false_eq_true, Int.not_lt, Int.not_le] at hb_; first | done | (exfalso; first | omega | contradiction))); intro hb_; try simp only [pd_true, pd_false, Bool.not_eq_true', Bool.not_eq_false', Bool.and_eq_true, Bool.and_eq_false_iff, Bool.or_eq_true, Bool.or_eq_false_iff, not_true_eq_false, not_false_eq_true, Int.not_lt, Int.not_le] at hb_) | ((with_reducible apply XC.cond); (case hc => exact rfl); (first | (case ht => intro hb_; try simp only [pd_true, pd_false, Bool.not_eq_true', Bool.not_eq_false', Bool.and_eq_true, Bool.and_eq_false_iff, Bool.or_eq_true, Bool.or_eq_false_iff, not_true_eq_false, not_false_eq_true, Int.not_lt, Int.not_le] at hb_; first | done | (exfalso; first | omega | contradiction)) | (case hf => intro hb_; try simp only [pd_true, pd_false, Bool.not_eq_true', Bool.not_eq_false', Bool.and_eq_true, Bool.and_eq_false_iff, Bool.or_eq_true, Bool.or_eq_false_iff, not_true_eq_false, not_false_eq_true, Int.not_lt, Int.not_le] at hb_; first | done | (exfalso; first | omega | contradiction))); intro hb_; try simp only [pd_true, pd_false, Bool.not_eq_true', Bool.not_eq_false', Bool.and_eq_true, Bool.and_eq_false_iff, Bool.or_eq_true, Bool.or_eq_false_iff, not_true_eq_false, not_false_eq_true, Int.not_lt, Int.not_le] at hb_)) | (first | ((with_reducible apply XOp.pr); (case hg => exact rfl); (case hr => (with_reducible apply PR.strFrom); (case ht => exact rfl); (case hk => exact rfl); (case hx => exact rfl); (case hy => exact rfl); (case hb => exact ⟨by omega, by omega⟩))) | ((with_reducible apply XP.pr); (case ho => exact rfl); (case hg => exact rfl); (case hr => (with_reducible apply PR.strFrom); (case ht => exact rfl); (case hk => exact rfl); (case hx => exact rfl); (case hy => exact rfl); (case hb => exact ⟨by omega, by omega⟩))))))
      rw [pdf (show ¬ (220 : Int) = 0 by decide)]
      ((with_reducible apply XQ.retE); (case hr => exact .t rfl .nil))
      exact ⟨[], rfl, OwnS.nil _ _⟩
  | some p =>
    rw [hu] at hU
    obtain ⟨u, rfl, hown⟩ := hU
    obtain ⟨a', c', rfl⟩ := hown.val
    obtain ⟨x, rest⟩ := p
    obtain ⟨_, hq⟩ := unq_iff.1 hu
    simp only [] at *
    have hdr : br.drop (br.length - rest.length) = rest := by
      have h2 : br.length - rest.length = (quoteL x).length := by rw [hq, List.length_append]; omega
      rw [h2, hq, List.drop_left]
    cases bk with
    | false =>
      (repeat (first | (with_reducible apply XL.op) | ((with_reducible apply XOp.p1); (case hg | hv => exact rfl)) | ((with_reducible apply XOp.p0); (case hg => exact rfl)) | ((with_reducible apply XOp.load); (case hg | ht | hk | hx => exact rfl); (case hc => exact own_cell (i := 0) rfl rfl)) | ((with_reducible apply XOp.store (i := 0)); (case hg | ht | hk | hx | hv | h1 | hi | hs | ha => exact rfl)) | (with_reducible apply XL.nilT) | (with_reducible apply XC.seq) | (with_reducible apply XC.region (Γ := Γ)) | (with_reducible apply XQ.ret) | (first | ((with_reducible apply XOp.pr); (case hg => exact rfl); (case hr => (with_reducible apply PR.strFrom); (case ht => exact rfl); (case hk => exact rfl); (case hx => exact rfl); (case hy => exact rfl); (case hb => exact (show 0 ≤ ((br.length - rest.length : Nat) : Int) ∧ ((br.length - rest.length : Nat) : Int) ≤ (br.length : Int) by omega)))) | ((with_reducible apply XP.pr); (case ho => exact rfl); (case hg => exact rfl); (case hr => (with_reducible apply PR.strFrom); (case ht => exact rfl); (case hk => exact rfl); (case hx => exact rfl); (case hy => exact rfl); (case hb => exact (show 0 ≤ ((br.length - rest.length : Nat) : Int) ∧ ((br.length - rest.length : Nat) : Int) ≤ (br.length : Int) by omega)))))))
      rw [Int.toNat_natCast, hdr]
      ((with_reducible apply XQ.retE); (case hr => exact .t rfl .nil))
      exact ⟨F, rfl, hown⟩
    | true =>
      (repeat (first | (with_reducible apply XL.op) | ((with_reducible apply XOp.p1); (case hg | hv => exact rfl)) | ((with_reducible apply XOp.load); (case hg | ht | hk | hx => exact rfl); (case hc => exact own_cell (i := 0) rfl rfl)) | ((with_reducible apply XOp.store (i := 0)); (case hg | ht | hk | hx | hv | h1 | hi | hs | ha => exact rfl)) | (with_reducible apply XL.nilT) | (with_reducible apply XC.seq) | (with_reducible apply XC.region (Γ := Γ)) | (with_reducible apply XQ.ret) | (first | ((with_reducible apply XOp.pr); (case hg => exact rfl); (case hr => (with_reducible apply PR.strFrom); (case ht => exact rfl); (case hk => exact rfl); (case hx => exact rfl); (case hy => exact rfl); (case hb => exact (show 0 ≤ ((br.length - rest.length : Nat) : Int) ∧ ((br.length - rest.length : Nat) : Int) ≤ (br.length : Int) by omega)))) | ((with_reducible apply XP.pr); (case ho => exact rfl); (case hg => exact rfl); (case hr => (with_reducible apply PR.strFrom); (case ht => exact rfl); (case hk => exact rfl); (case hx => exact rfl); (case hy => exact rfl); (case hb => exact (show 0 ≤ ((br.length - rest.length : Nat) : Int) ∧ ((br.length - rest.length : Nat) : Int) ≤ (br.length : Int) by omega)))))))
      rw [Int.toNat_natCast, hdr, pdt (show (0 : Int) = 0 from rfl)]
      ((with_reducible apply XQ.retE); (case hr => exact .t rfl .nil))
      exact ⟨F, rfl, hown⟩
end Go.Proofs.YtepfnakabafhlaaDoorX
