/- The types of this seat's program that the proofs meet, as a table; written by genenv.py. -/
import Derived.Test.YtppggaiahkecoaaDoorProg
import Derived.Test.YtppggaiahkecoaaDoorXPML1
set_option linter.unusedSimpArgs false
set_option linter.unusedVariables false
namespace Go.Proofs.YtppggaiahkecoaaDoorX
open Go Go.SX
def tab : List (Nat × TR) := [
  (0, ⟨.tuple, 1, 0, .tuple #[]⟩),
  (1, ⟨.func, 1, 8, .nilFunc⟩),
  (2, ⟨.int .i64, 1, 8, .int .i64 0⟩),
  (3, ⟨.int .i64, 1, 8, .int .i64 0⟩),
  (4, ⟨.bool, 1, 1, .bool false⟩),
  (5, ⟨.int .u8, 1, 1, .int .u8 0⟩),
  (7, ⟨.struct [(0, 1, 1), (1, 1, 1), (2, 1, 1), (3, 1, 1)], 4, 24, .agg #[.int .i64 0, .int .i64 0, .bool false, .int .u8 0]⟩),
  (9, ⟨.string, 1, 16, .string ⟨#[]⟩⟩),
  (12, ⟨.int .u64, 1, 8, .int .u64 0⟩),
  (13, ⟨.struct [(0, 1, 1), (1, 1, 1)], 2, 24, .agg #[.string ⟨#[]⟩, .int .u64 0]⟩),
  (20, ⟨.iface, 1, 16, .nilIface⟩),
  (21, ⟨.int .i32, 1, 4, .int .i32 0⟩),
  (22, ⟨.struct [(0, 1, 1), (1, 1, 1), (2, 1, 1), (3, 1, 1), (4, 1, 1), (5, 1, 1), (6, 1, 1), (7, 1, 1)], 8, 64, .agg #[.int .i64 0, .int .i64 0, .int .i64 0, .int .i64 0, .int .i64 0, .int .i64 0, .int .i64 0, .int .i64 0]⟩),
  (23, ⟨.struct [(0, 1, 1), (1, 1, 1), (2, 1, 1), (3, 1, 1), (4, 1, 1), (5, 1, 1), (6, 1, 1), (7, 1, 1)], 8, 64, .agg #[.int .i64 0, .int .i64 0, .int .i64 0, .int .i64 0, .int .i64 0, .int .i64 0, .int .i64 0, .int .i64 0]⟩),
  (24, ⟨.slice 39, 1, 24, .slice none 0 0⟩),
  (25, ⟨.struct [(0, 1, 1), (1, 1, 1), (2, 1, 1)], 3, 40, .agg #[.int .i64 0, .int .i64 0, .slice none 0 0]⟩),
  (26, ⟨.struct [(0, 1, 1), (1, 1, 1), (2, 1, 1)], 3, 40, .agg #[.int .i64 0, .int .i64 0, .slice none 0 0]⟩),
  (27, ⟨.slice 70, 1, 24, .slice none 0 0⟩),
  (28, ⟨.slice 67, 1, 24, .slice none 0 0⟩),
  (29, ⟨.slice 26, 1, 24, .slice none 0 0⟩),
  (30, ⟨.struct [(0, 8, 2), (8, 3, 2), (11, 1, 1), (12, 1, 1), (13, 1, 1), (14, 3, 2), (17, 1, 1)], 18, 240, .agg #[.int .i64 0, .int .i64 0, .int .i64 0, .int .i64 0, .int .i64 0, .int .i64 0, .int .i64 0, .int .i64 0, .int .i64 0, .int .i64 0, .slice none 0 0, .slice none 0 0, .slice none 0 0, .slice none 0 0, .int .i64 0, .int .i64 0, .slice none 0 0, .slice none 0 0]⟩),
  (31, ⟨.struct [(0, 8, 2), (8, 3, 2), (11, 1, 1), (12, 1, 1), (13, 1, 1), (14, 3, 2), (17, 1, 1)], 18, 240, .agg #[.int .i64 0, .int .i64 0, .int .i64 0, .int .i64 0, .int .i64 0, .int .i64 0, .int .i64 0, .int .i64 0, .int .i64 0, .int .i64 0, .slice none 0 0, .slice none 0 0, .slice none 0 0, .slice none 0 0, .int .i64 0, .int .i64 0, .slice none 0 0, .slice none 0 0]⟩),
  (32, ⟨.func, 1, 8, .nilFunc⟩),
  (33, ⟨.slice 5, 1, 24, .slice none 0 0⟩),
  (34, ⟨.int .i64, 1, 8, .int .i64 0⟩),
  (35, ⟨.tuple, 1, 0, .tuple #[.slice none 0 0, .int .i64 0]⟩),
  (36, ⟨.func, 1, 8, .nilFunc⟩),
  (37, ⟨.func, 1, 8, .nilFunc⟩),
  (38, ⟨.func, 1, 8, .nilFunc⟩),
  (39, ⟨.int .i8, 1, 1, .int .i8 0⟩),
  (40, ⟨.func, 1, 8, .nilFunc⟩),
  (41, ⟨.func, 1, 8, .nilFunc⟩),
  (42, ⟨.func, 1, 8, .nilFunc⟩),
  (43, ⟨.ptr 95, 1, 8, .pointer none⟩),
  (44, ⟨.tuple, 1, 0, .tuple #[.pointer none, .int .i64 0]⟩),
  (45, ⟨.func, 1, 8, .nilFunc⟩),
  (46, ⟨.ptr 52, 1, 8, .pointer none⟩),
  (47, ⟨.slice 24, 1, 24, .slice none 0 0⟩),
  (48, ⟨.slice 27, 1, 24, .slice none 0 0⟩),
  (49, ⟨.slice 28, 1, 24, .slice none 0 0⟩),
  (50, ⟨.slice 29, 1, 24, .slice none 0 0⟩),
  (51, ⟨.struct [(0, 1, 1), (1, 1, 1), (2, 1, 1), (3, 1, 1)], 4, 96, .agg #[.slice none 0 0, .slice none 0 0, .slice none 0 0, .slice none 0 0]⟩),
  (52, ⟨.struct [(0, 1, 1), (1, 1, 1), (2, 1, 1), (3, 1, 1)], 4, 96, .agg #[.slice none 0 0, .slice none 0 0, .slice none 0 0, .slice none 0 0]⟩),
  (53, ⟨.func, 1, 8, .nilFunc⟩),
  (54, ⟨.func, 1, 8, .nilFunc⟩),
  (55, ⟨.tuple, 1, 0, .tuple #[.agg #[.int .i64 0, .int .i64 0, .int .i64 0, .int .i64 0, .int .i64 0, .int .i64 0, .int .i64 0, .int .i64 0, .int .i64 0, .int .i64 0, .slice none 0 0, .slice none 0 0, .slice none 0 0, .slice none 0 0, .int .i64 0, .int .i64 0, .slice none 0 0, .slice none 0 0], .int .i64 0]⟩),
  (56, ⟨.func, 1, 8, .nilFunc⟩),
  (57, ⟨.func, 1, 8, .nilFunc⟩),
  (58, ⟨.func, 1, 8, .nilFunc⟩),
  (59, ⟨.func, 1, 8, .nilFunc⟩),
  (60, ⟨.func, 1, 8, .nilFunc⟩),
  (61, ⟨.func, 1, 8, .nilFunc⟩),
  (62, ⟨.func, 1, 8, .nilFunc⟩),
  (63, ⟨.func, 1, 8, .nilFunc⟩),
  (64, ⟨.array 7 3, 7, 56, .agg #[.int .i64 0, .int .i64 0, .int .i64 0, .int .i64 0, .int .i64 0, .int .i64 0, .int .i64 0]⟩),
  (65, ⟨.array 7 3, 7, 56, .agg #[.int .i64 0, .int .i64 0, .int .i64 0, .int .i64 0, .int .i64 0, .int .i64 0, .int .i64 0]⟩),
  (66, ⟨.struct [(0, 1, 1), (1, 1, 1), (2, 3, 2), (5, 3, 2), (8, 3, 2), (11, 3, 2), (14, 3, 2), (17, 3, 2), (20, 3, 2), (23, 7, 2)], 30, 384, .agg #[.slice none 0 0, .slice none 0 0, .int .i64 0, .int .i64 0, .slice none 0 0, .int .i64 0, .int .i64 0, .slice none 0 0, .int .i64 0, .int .i64 0, .slice none 0 0, .int .i64 0, .int .i64 0, .slice none 0 0, .int .i64 0, .int .i64 0, .slice none 0 0, .int .i64 0, .int .i64 0, .slice none 0 0, .int .i64 0, .int .i64 0, .slice none 0 0, .int .i64 0, .int .i64 0, .int .i64 0, .int .i64 0, .int .i64 0, .int .i64 0, .int .i64 0]⟩),
  (67, ⟨.struct [(0, 1, 1), (1, 1, 1), (2, 3, 2), (5, 3, 2), (8, 3, 2), (11, 3, 2), (14, 3, 2), (17, 3, 2), (20, 3, 2), (23, 7, 2)], 30, 384, .agg #[.slice none 0 0, .slice none 0 0, .int .i64 0, .int .i64 0, .slice none 0 0, .int .i64 0, .int .i64 0, .slice none 0 0, .int .i64 0, .int .i64 0, .slice none 0 0, .int .i64 0, .int .i64 0, .slice none 0 0, .int .i64 0, .int .i64 0, .slice none 0 0, .int .i64 0, .int .i64 0, .slice none 0 0, .int .i64 0, .int .i64 0, .slice none 0 0, .int .i64 0, .int .i64 0, .int .i64 0, .int .i64 0, .int .i64 0, .int .i64 0, .int .i64 0]⟩),
  (68, ⟨.func, 1, 8, .nilFunc⟩),
  (69, ⟨.struct [(0, 1, 1), (1, 1, 1)], 2, 16, .agg #[.int .i64 0, .int .i64 0]⟩),
  (70, ⟨.struct [(0, 1, 1), (1, 1, 1)], 2, 16, .agg #[.int .i64 0, .int .i64 0]⟩),
  (71, ⟨.func, 1, 8, .nilFunc⟩),
  (72, ⟨.func, 1, 8, .nilFunc⟩),
  (73, ⟨.func, 1, 8, .nilFunc⟩),
  (74, ⟨.int .u64, 1, 8, .int .u64 0⟩),
  (75, ⟨.ptr 67, 1, 8, .pointer none⟩),
  (76, ⟨.slice 80, 1, 24, .slice none 0 0⟩),
  (77, ⟨.func, 1, 8, .nilFunc⟩),
  (78, ⟨.func, 1, 8, .nilFunc⟩),
  (79, ⟨.struct [(0, 1, 1), (1, 1, 1), (2, 1, 1)], 3, 24, .agg #[.nilFunc, .int .i64 0, .int .i64 0]⟩),
  (80, ⟨.struct [(0, 1, 1), (1, 1, 1), (2, 1, 1)], 3, 24, .agg #[.nilFunc, .int .i64 0, .int .i64 0]⟩),
  (81, ⟨.ptr 26, 1, 8, .pointer none⟩),
  (82, ⟨.func, 1, 8, .nilFunc⟩),
  (83, ⟨.func, 1, 8, .nilFunc⟩),
  (84, ⟨.func, 1, 8, .nilFunc⟩),
  (85, ⟨.func, 1, 8, .nilFunc⟩),
  (86, ⟨.func, 1, 8, .nilFunc⟩),
  (87, ⟨.func, 1, 8, .nilFunc⟩),
  (88, ⟨.func, 1, 8, .nilFunc⟩),
  (89, ⟨.func, 1, 8, .nilFunc⟩),
  (90, ⟨.func, 1, 8, .nilFunc⟩),
  (91, ⟨.func, 1, 8, .nilFunc⟩),
  (92, ⟨.func, 1, 8, .nilFunc⟩),
  (93, ⟨.func, 1, 8, .nilFunc⟩),
  (94, ⟨.struct [(0, 18, 2)], 18, 240, .agg #[.int .i64 0, .int .i64 0, .int .i64 0, .int .i64 0, .int .i64 0, .int .i64 0, .int .i64 0, .int .i64 0, .int .i64 0, .int .i64 0, .slice none 0 0, .slice none 0 0, .slice none 0 0, .slice none 0 0, .int .i64 0, .int .i64 0, .slice none 0 0, .slice none 0 0]⟩),
  (95, ⟨.struct [(0, 18, 2)], 18, 240, .agg #[.int .i64 0, .int .i64 0, .int .i64 0, .int .i64 0, .int .i64 0, .int .i64 0, .int .i64 0, .int .i64 0, .int .i64 0, .int .i64 0, .slice none 0 0, .slice none 0 0, .slice none 0 0, .slice none 0 0, .int .i64 0, .int .i64 0, .slice none 0 0, .slice none 0 0]⟩),
  (96, ⟨.ptr 98, 1, 8, .pointer none⟩),
  (97, ⟨.struct [(0, 1, 1), (1, 1, 1)], 2, 32, .agg #[.slice none 0 0, .bool false]⟩),
  (98, ⟨.struct [(0, 1, 1), (1, 1, 1)], 2, 32, .agg #[.slice none 0 0, .bool false]⟩),
  (99, ⟨.func, 1, 8, .nilFunc⟩),
  (100, ⟨.func, 1, 8, .nilFunc⟩),
  (101, ⟨.func, 1, 8, .nilFunc⟩),
  (102, ⟨.func, 1, 8, .nilFunc⟩),
  (103, ⟨.func, 1, 8, .nilFunc⟩),
  (104, ⟨.func, 1, 8, .nilFunc⟩),
  (105, ⟨.func, 1, 8, .nilFunc⟩),
  (106, ⟨.ptr 108, 1, 8, .pointer none⟩),
  (107, ⟨.struct [(0, 1, 1), (1, 1, 1)], 2, 32, .agg #[.slice none 0 0, .int .i64 0]⟩),
  (108, ⟨.struct [(0, 1, 1), (1, 1, 1)], 2, 32, .agg #[.slice none 0 0, .int .i64 0]⟩),
  (109, ⟨.func, 1, 8, .nilFunc⟩),
  (110, ⟨.func, 1, 8, .nilFunc⟩),
  (111, ⟨.func, 1, 8, .nilFunc⟩),
  (112, ⟨.func, 1, 8, .nilFunc⟩),
  (113, ⟨.func, 1, 8, .nilFunc⟩),
  (114, ⟨.int .u64, 1, 8, .int .u64 0⟩),
  (115, ⟨.func, 1, 8, .nilFunc⟩),
  (116, ⟨.struct [(0, 1, 1), (1, 1, 1)], 2, 16, .agg #[.int .i64 0, .int .i64 0]⟩),
  (117, ⟨.array 7 116, 14, 112, .agg #[.int .i64 0, .int .i64 0, .int .i64 0, .int .i64 0, .int .i64 0, .int .i64 0, .int .i64 0, .int .i64 0, .int .i64 0, .int .i64 0, .int .i64 0, .int .i64 0, .int .i64 0, .int .i64 0]⟩),
  (118, ⟨.func, 1, 8, .nilFunc⟩),
  (119, ⟨.func, 1, 8, .nilFunc⟩),
  (120, ⟨.func, 1, 8, .nilFunc⟩),
  (121, ⟨.func, 1, 8, .nilFunc⟩),
  (122, ⟨.func, 1, 8, .nilFunc⟩),
  (123, ⟨.func, 1, 8, .nilFunc⟩),
  (124, ⟨.int .i16, 1, 2, .int .i16 0⟩),
  (125, ⟨.func, 1, 8, .nilFunc⟩),
  (126, ⟨.func, 1, 8, .nilFunc⟩),
  (132, ⟨.func, 1, 8, .nilFunc⟩),
  (133, ⟨.int .u32, 1, 4, .int .u32 0⟩),
  (136, ⟨.func, 1, 8, .nilFunc⟩),
  (137, ⟨.ptr 5, 1, 8, .pointer none⟩),
  (142, ⟨.other, 1, 8, .pointer none⟩)]
theorem tab_ok : tab.map (fun x => SX.look Tryd.prog x.1) = tab.map (fun x => some x.2) := by kernel_rfl
noncomputable def Γ : Env Tryd.prog := ⟨tab, tab_ok⟩
theorem mixed : Tryd.prog.follows .mixedOrders = true := by kernel_rfl
end Go.Proofs.YtppggaiahkecoaaDoorX
/- Which measures may be (door seat): both functions come to the same number. -/
namespace Go.Proofs.YtppggaiahkecoaaDoorX
open Go Go.SX

def _root_.Go.SX.Cfg.cells (c : Cfg) : List Value := [.int .i64 c.Vocab, .int .i64 c.Width, .int .i64 c.Heads, .int .i64 c.KV, .int .i64 c.Layers, .int .i64 c.Hidden, .int .i64 c.Len, .int .i64 c.Medusa]
def _root_.Go.SX.Cfg.ok (c : Cfg) : Prop := inK .i64 c.Vocab ∧ inK .i64 c.Width ∧ inK .i64 c.Heads ∧ inK .i64 c.KV ∧ inK .i64 c.Layers ∧ inK .i64 c.Hidden ∧ inK .i64 c.Len ∧ inK .i64 c.Medusa
def cfgK : Kd Cfg := ⟨8, fun _ c cs => cs = c.cells ∧ c.ok, fun h => by rw [h.1]; rfl, fun _ h => h⟩
theorem len8 {α : Type} {l : List α} (h : l.length = 8) : ∃ a b c d e f g i, l = [a, b, c, d, e, f, g, i] := by
  match l, h with
  | [a, b, c, d, e, f, g, i], _ => exact ⟨a, b, c, d, e, f, g, i, rfl⟩
theorem rdrCfg {H : Type} (enc : TypeId × Value → H) (W : World) : Rdr enc Tryd.prog W 23 cfgK := fun fuel cs x h hw => by
  have hl := rdr_struct_len Tryd.underlying23 h
  have hc : Tryd.prog.cellsOf 23 = 8 := by kernel_rfl
  have h1 : Tryd.prog.cellsOf 3 = 1 := by kernel_rfl
  obtain ⟨a0, e0⟩ := rdr_field Tryd.underlying23 h hw (i := 0) rfl (rdr_int Tryd.underlying3) rfl h1
  obtain ⟨a1, e1⟩ := rdr_field Tryd.underlying23 h hw (i := 1) rfl (rdr_int Tryd.underlying3) rfl h1
  obtain ⟨a2, e2⟩ := rdr_field Tryd.underlying23 h hw (i := 2) rfl (rdr_int Tryd.underlying3) rfl h1
  obtain ⟨a3, e3⟩ := rdr_field Tryd.underlying23 h hw (i := 3) rfl (rdr_int Tryd.underlying3) rfl h1
  obtain ⟨a4, e4⟩ := rdr_field Tryd.underlying23 h hw (i := 4) rfl (rdr_int Tryd.underlying3) rfl h1
  obtain ⟨a5, e5⟩ := rdr_field Tryd.underlying23 h hw (i := 5) rfl (rdr_int Tryd.underlying3) rfl h1
  obtain ⟨a6, e6⟩ := rdr_field Tryd.underlying23 h hw (i := 6) rfl (rdr_int Tryd.underlying3) rfl h1
  obtain ⟨a7, e7⟩ := rdr_field Tryd.underlying23 h hw (i := 7) rfl (rdr_int Tryd.underlying3) rfl h1
  obtain ⟨c0, c1, c2, c3, c4, c5, c6, c7, rfl⟩ := len8 (hl.trans hc)
  simp [Kd.int] at e0 e1 e2 e3 e4 e5 e6 e7
  exact ⟨⟨a0, a1, a2, a3, a4, a5, a6, a7⟩, by simp [Cfg.cells, e0.1, e1.1, e2.1, e3.1, e4.1, e5.1, e6.1, e7.1], e0.2, e1.2, e2.2, e3.2, e4.2, e5.2, e6.2, e7.2⟩

theorem within_fn (a lo hi : Int) : FC Tryd.prog 89 [.int .i64 a, .int .i64 lo, .int .i64 hi] [] (fun _ => True)
    (fun v L => v = .bool (pd (lo ≤ a) && pd (a ≤ hi)) ∧ L = []) := by
  refine FC.intro Tryd.func89 rfl (by kernel_rfl) 15 [.tmp 6] rfl rfl rfl ?_
  intro w0 _
  (repeat' (first | (with_reducible apply XL.op) | ((with_reducible apply XOp.p1); (case hg | hv => exact rfl)) | ((with_reducible apply XOp.p0); (case hg => exact rfl)) | (with_reducible apply XL.nilT) | (with_reducible apply XC.seq) | (with_reducible apply XC.region (Γ := Γ)) | (with_reducible apply XQ.ret) | ((with_reducible apply XOp.split); (case hg | hj | hd | hb => exact rfl); (fail_if_success (case hf => exact fun h => Bool.noConfusion h)); (fail_if_success (case ht => exact fun h => Bool.noConfusion h)); all_goals (intro hb_; try simp only [pd_true, pd_false, Bool.not_eq_true', Bool.not_eq_false', Bool.and_eq_true, Bool.and_eq_false_iff, Bool.or_eq_true, Bool.or_eq_false_iff, not_true_eq_false, not_false_eq_true, Int.not_lt, Int.not_le] at hb_))))
  all_goals ((with_reducible apply XQ.retE); (case hr => exact .t rfl .nil))
  · simp [resV, pdt hb_]
  · simp [resV, pdf (show ¬ lo ≤ a by omega)]

noncomputable def _root_.Go.SX.Cfg.err (c : Cfg) : Int := if @decide c.may (Classical.propDecidable _) then 0 else 40
theorem err_ok {c : Cfg} (h : c.may) : Value.int .i64 0 = .int .i64 c.err := by unfold Go.SX.Cfg.err; simp [h]
theorem err_no {c : Cfg} (h : ¬ c.may) : Value.int .i64 40 = .int .i64 c.err := by unfold Go.SX.Cfg.err; simp [h]

theorem dims {w h : Int} (hw : 2 ≤ w ∧ w ≤ 32) (hh : 1 ≤ h ∧ h ≤ 4) : (w.tmod h = 0 ∧ (IntKind.i64.wrap (w.tdiv h)).tmod 2 = 0) ↔ w % (2 * h) = 0 := by
  have hd : 0 ≤ w.tdiv h ∧ w.tdiv h ≤ 32 := by
    rw [Int.tdiv_eq_ediv_of_nonneg (by omega)]
    rcases (by omega : h = 1 ∨ h = 2 ∨ h = 3 ∨ h = 4) with rfl | rfl | rfl | rfl <;> omega
  rw [wrap64_of (by omega) (by omega), Int.tmod_eq_emod_of_nonneg hd.1, Int.tmod_eq_emod_of_nonneg (by omega), Int.tdiv_eq_ediv_of_nonneg (by omega)]
  rcases (by omega : h = 1 ∨ h = 2 ∨ h = 3 ∨ h = 4) with rfl | rfl | rfl | rfl <;> omega

theorem check_fn (c : Cfg) : FC Tryd.prog 53 [.agg ⟨c.cells⟩] [] (fun _ => True)
    (fun v _ => v = .int .i64 c.err) := by
  refine FC.intro Tryd.func53 rfl (by kernel_rfl) 72 [.tmp 2] rfl rfl rfl ?_
  intro w0 _
  (repeat' (first | (with_reducible apply XL.op) | ((with_reducible apply XOp.p1); (case hg | hv => exact rfl)) | ((with_reducible apply XOp.p0); (case hg => exact rfl)) | ((with_reducible apply XOp.load); (case hg | ht | hk | hx => exact rfl); (case hc => exact own_cell (i := 0) rfl rfl)) | ((with_reducible apply XOp.pr); (case hg => exact rfl); (case hr => ((with_reducible apply PR.quo); (case hx | hy => exact rfl); (case hr => first | assumption | omega | (rw [wrap64_of (by omega) (by omega)]; omega))))) | ((with_reducible apply XOp.pr); (case hg => exact rfl); (case hr => ((with_reducible apply PR.rem); (case hx | hy => exact rfl); (case hr => first | assumption | omega | (rw [wrap64_of (by omega) (by omega)]; omega))))) | ((with_reducible apply XOp.box); (case hg | hx' => exact rfl); intro bx_) | (with_reducible apply XL.nilT) | (with_reducible apply XC.seq) | (with_reducible apply XC.region (Γ := Γ)) | (with_reducible apply XQ.skip) | (with_reducible apply XQ.ret) | (with_reducible apply XQ.nt) | (with_reducible apply XQ.rt) | ((with_reducible apply XC.condT); (case hc => exact rfl)) | (((with_reducible apply XOp.call (hF := within_fn _ _ _)); (case hg => exact rfl); (case hc => exact rfl); (case ha => exact rfl); (case hL => exact (List.nil_append _).symm); try (case hA => exact Known.true)); rintro _ _ ⟨rfl, rfl⟩) | ((with_reducible apply XOp.split); (case hg | hj | hd | hb => exact rfl); (fail_if_success (case hf => exact fun h => Bool.noConfusion h)); (fail_if_success (case ht => exact fun h => Bool.noConfusion h)); all_goals (intro hb_; try simp only [pd_true, pd_false, Bool.not_eq_true', Bool.not_eq_false', Bool.and_eq_true, Bool.and_eq_false_iff, Bool.or_eq_true, Bool.or_eq_false_iff, not_true_eq_false, not_false_eq_true, Int.not_lt, Int.not_le] at hb_)) | ((with_reducible apply XC.cond); (case hc => exact rfl); all_goals (intro hb_; try simp only [pd_true, pd_false, Bool.not_eq_true', Bool.not_eq_false', Bool.and_eq_true, Bool.and_eq_false_iff, Bool.or_eq_true, Bool.or_eq_false_iff, not_true_eq_false, not_false_eq_true, Int.not_lt, Int.not_le] at hb_))))
  all_goals ((with_reducible apply XQ.retE); (case hr => exact .t rfl .nil))
  all_goals first
    | (refine err_no fun h => ?_
       obtain ⟨h1, h2, h3, h4, h5, h6, h7, h8, h9, h10⟩ := h
       first
       | omega
       | exact absurd ((dims h2 h3).2 h8).1 (by assumption)
       | exact absurd ((dims h2 h3).2 h8).2 (by assumption)
       | (rw [Int.tmod_eq_emod_of_nonneg (by omega)] at *; omega))
    | exact err_ok ⟨by assumption, by assumption, by assumption, by assumption, by assumption, by assumption, by assumption, (dims (by assumption) (by assumption)).1 ⟨by assumption, by assumption⟩, by assumption, by
        rename_i h _; rw [← Int.tmod_eq_emod_of_nonneg (by omega)]; assumption⟩

set_option maxRecDepth 10000 in
set_option maxHeartbeats 2000000 in
theorem refCheck_fn (c : Cfg) : FC Tryd.prog 44 [.agg ⟨c.cells⟩] [] (fun _ => True)
    (fun v _ => v = .int .i64 c.err) := by
  refine FC.intro Tryd.func44 rfl (by kernel_rfl) 92 [.tmp 2] rfl rfl rfl ?_
  intro w0 _
  (repeat' (first | (with_reducible apply XL.op) | ((with_reducible apply XOp.p1); (case hg | hv => exact rfl)) | ((with_reducible apply XOp.p0); (case hg => exact rfl)) | ((with_reducible apply XOp.load); (case hg | ht | hk | hx => exact rfl); (case hc => exact own_cell (i := 0) rfl rfl)) | ((with_reducible apply XOp.pr); (case hg => exact rfl); (case hr => ((with_reducible apply PR.rem); (case hx | hy => exact rfl); (case hr => first | assumption | omega | (rw [wrap64_of (by omega) (by omega)]; omega))))) | ((with_reducible apply XOp.box); (case hg | hx' => exact rfl); intro bx_) | (with_reducible apply XL.nilT) | (with_reducible apply XC.seq) | (with_reducible apply XC.region (Γ := Γ)) | (with_reducible apply XQ.skip) | (with_reducible apply XQ.ret) | (with_reducible apply XQ.nt) | (with_reducible apply XQ.rt) | ((with_reducible apply XC.condT); (case hc => exact rfl)) | ((with_reducible apply XOp.split); (case hg | hj | hd | hb => exact rfl); (fail_if_success (case hf => exact fun h => Bool.noConfusion h)); (fail_if_success (case ht => exact fun h => Bool.noConfusion h)); all_goals (intro hb_; try simp only [pd_true, pd_false, Bool.not_eq_true', Bool.not_eq_false', Bool.and_eq_true, Bool.and_eq_false_iff, Bool.or_eq_true, Bool.or_eq_false_iff, not_true_eq_false, not_false_eq_true, Int.not_lt, Int.not_le] at hb_)) | ((with_reducible apply XC.cond); (case hc => exact rfl); all_goals (intro hb_; try simp only [pd_true, pd_false, Bool.not_eq_true', Bool.not_eq_false', Bool.and_eq_true, Bool.and_eq_false_iff, Bool.or_eq_true, Bool.or_eq_false_iff, not_true_eq_false, not_false_eq_true, Int.not_lt, Int.not_le] at hb_))))
  all_goals ((with_reducible apply XQ.retE); (case hr => exact .t rfl .nil))
  all_goals first
    | (refine err_no fun h => ?_
       obtain ⟨h1, h2, h3, h4, h5, h6, h7, h8, h9, h10⟩ := h
       first
       | omega
       | (rw [wrap64_of (by omega) (by omega), Int.tmod_eq_emod_of_nonneg (by omega)] at *; omega)
       | (rw [Int.tmod_eq_emod_of_nonneg (by omega)] at *; omega))
    | (refine err_ok ⟨by omega, by omega, by omega, by omega, by omega, by omega, by omega, ?_, by omega, ?_⟩
       · have h : c.Width.tmod (IntKind.i64.wrap (2 * c.Heads)) = 0 := by assumption
         rwa [wrap64_of (by omega) (by omega), Int.tmod_eq_emod_of_nonneg (by omega)] at h
       · rw [← Int.tmod_eq_emod_of_nonneg (by omega)]; assumption)

end Go.Proofs.YtppggaiahkecoaaDoorX
/- Gains and matrices: do they fit? -/
namespace Go.Proofs.YtppggaiahkecoaaDoorX
open Go Go.SX

def gainsP (l : List Int) (n : Int) : Prop := (l.length : Int) = n ∧ ∀ x ∈ l, x ≠ -128
theorem take_snocD {α : Type} {l : List α} {i : Nat} {x : α} (h : l[i]? = some x) : l.take (i + 1) = l.take i ++ [x] := by
  obtain ⟨hl, rfl⟩ := List.getElem?_eq_some_iff.1 h
  rw [List.take_add_one, List.getElem?_eq_getElem hl]; rfl
theorem all_snoc {l : List Int} {i : Nat} {x : Int} (h : l[i]? = some x) (ha : ∀ y ∈ l.take i, y ≠ -128) (hx : x ≠ -128) : ∀ y ∈ l.take (i + 1), y ≠ -128 := fun y hy => by
  rw [take_snocD h] at hy
  rcases List.mem_append.1 hy with h2 | h2
  · exact ha y h2
  · rw [List.mem_singleton.1 h2]; exact hx
theorem gains_fn (l : List Int) (a : Option Addr) (cap : Nat) (n : Int) : FC Tryd.prog 68 [.slice a l.length cap, .int .i64 n] [] (fun h => SlA (Kd.int .i8) 1 h l a cap)
    (fun v L => v = .bool (pd (gainsP l n)) ∧ L = []) := by
  refine FC.nil ?_
  refine FC.intro Tryd.func68 rfl (by kernel_rfl) 20 [.tmp 4] rfl rfl rfl ?_
  intro w0 hA
  have hsm := hA.bytes
  (repeat (first | (with_reducible apply XL.op) | ((with_reducible apply XOp.p1); (case hg | hv => exact rfl)) | (with_reducible apply XL.nilT) | (with_reducible apply XC.seq) | (with_reducible apply XC.region (Γ := Γ)) | (with_reducible apply XC.block)))
  refine XC.loop (fun k ρ L => ∃ i : Nat, i + k = l.length ∧ L = [] ∧ (∀ y ∈ l.take i, y ≠ -128) ∧ Slots ρ [(0, .slice a l.length cap), (1, .int .i64 n), (7, .slice a l.length cap), (8, .int .i64 l.length), (9, .int .i64 i)])
    l.length ⟨0, by simp, rfl, by simp, rfl, rfl, rfl, rfl, rfl, trivial⟩ ?_
  rintro k ρ L ⟨i, hik, rfl, hq, hs⟩
  refine XC.slots _ hs ?_
  (repeat (first | (with_reducible apply XL.op) | ((with_reducible apply XOp.p1); (case hg | hv => exact rfl)) | (with_reducible apply XL.nilT) | (with_reducible apply XC.seq) | (with_reducible apply XC.region (Γ := Γ))))
  ((with_reducible apply XC.cond); (case hc => exact rfl); all_goals (intro hb_; try simp only [pd_true, pd_false, Bool.not_eq_true', Bool.not_eq_false', Bool.and_eq_true, Bool.and_eq_false_iff, Bool.or_eq_true, Bool.or_eq_false_iff, not_true_eq_false, not_false_eq_true, Int.not_lt, Int.not_le] at hb_))
  · obtain ⟨x, hi⟩ : ∃ x, l[i]? = some x := ⟨_, List.getElem?_eq_getElem (by omega)⟩
    have hc := (hA.int i (by omega)).1
    rw [hi] at hc
    (repeat (first | (with_reducible apply XL.op) | ((with_reducible apply XOp.p1); (case hg | hv => exact rfl)) | ((with_reducible apply XOp.pr); (case hg => exact rfl); (case hr => ((with_reducible apply PR.idxA); (case ht | hk | he | hx | hi => exact rfl); (case hr => first | assumption | omega); (case ha => first | assumption | exact SlA.at_ (by assumption))))) | (with_reducible apply XL.nilT) | (with_reducible apply XC.seq) | (with_reducible apply XC.region (Γ := Γ)) | (with_reducible apply XQ.skip) | (with_reducible apply XQ.nt) | (with_reducible apply XC.block) | (first | ((with_reducible apply XOp.load); (case hg | ht | hk | hx => exact rfl); (case hc => exact Known.of_old hc (Mono.cell _ _))) | ((with_reducible apply XP.load); (case ho | hg | ht | hk | hx => exact rfl); (case hc => exact Known.of_old hc (Mono.cell _ _))))))
    ((with_reducible apply XC.cond); (case hc => exact rfl); all_goals (intro hb_; try simp only [pd_true, pd_false, Bool.not_eq_true', Bool.not_eq_false', Bool.and_eq_true, Bool.and_eq_false_iff, Bool.or_eq_true, Bool.or_eq_false_iff, not_true_eq_false, not_false_eq_true, Int.not_lt, Int.not_le] at hb_))
    · (repeat (first | (with_reducible apply XL.op) | ((with_reducible apply XOp.p1); (case hg | hv => exact rfl)) | (with_reducible apply XL.nilT) | (with_reducible apply XC.seq) | (with_reducible apply XC.region (Γ := Γ)) | (with_reducible apply XQ.ret) | (with_reducible apply XQ.rt) | (with_reducible apply XQ.rb)))
      ((with_reducible apply XQ.retE); (case hr => exact .t rfl .nil))
      exact congrArg Value.bool (pdf (fun h => h.2 x (List.mem_of_getElem? hi) (by assumption))).symm
    · (repeat (first | (with_reducible apply XL.op) | ((with_reducible apply XOp.p1); (case hg | hv => exact rfl)) | (with_reducible apply XL.nilT) | (with_reducible apply XC.region (Γ := Γ)) | (with_reducible apply XQ.skip) | (with_reducible apply XQ.nt) | (with_reducible apply XQ.nb)))
      exact ⟨k - 1, by omega, i + 1, by omega, rfl, all_snoc hi hq (by assumption), rfl, rfl, rfl, rfl, intS (m := l.length) (by omega) (by omega), trivial⟩
  · obtain rfl : i = l.length := by omega
    rw [List.take_length] at hq
    (repeat (first | (with_reducible apply XL.op) | ((with_reducible apply XOp.p1); (case hg | hv => exact rfl)) | (with_reducible apply XL.nilT) | (with_reducible apply XC.seq) | (with_reducible apply XC.region (Γ := Γ)) | (with_reducible apply XQ.ret) | (with_reducible apply XQ.exit) | (with_reducible apply XQ.nt) | (with_reducible apply XQ.et) | ((with_reducible apply XQ.eb); (case hb => exact rfl))))
    ((with_reducible apply XQ.retE); (case hr => exact .t rfl .nil))
    by_cases h : (l.length : Int) = n
    · exact congrArg Value.bool ((pdt h).trans (pdt (show gainsP l n from ⟨h, hq⟩)).symm)
    · exact congrArg Value.bool ((pdf h).trans (pdf (show ¬ gainsP l n from fun h2 => h h2.1)).symm)
theorem refGains_fn (l : List Int) (a : Option Addr) (cap : Nat) (n : Int) : FC Tryd.prog 46 [.slice a l.length cap, .int .i64 n] [] (fun h => SlA (Kd.int .i8) 1 h l a cap)
    (fun v L => v = .bool (pd (gainsP l n)) ∧ L = []) := by
  refine FC.nil ?_
  refine FC.intro Tryd.func46 rfl (by kernel_rfl) 20 [.tmp 4] rfl rfl rfl ?_
  intro w0 hA
  have hsm := hA.bytes
  (repeat (first | (with_reducible apply XL.op) | ((with_reducible apply XOp.p1); (case hg | hv => exact rfl)) | (with_reducible apply XL.nilT) | (with_reducible apply XC.seq) | (with_reducible apply XC.region (Γ := Γ))))
  ((with_reducible apply XC.cond); (case hc => exact rfl); all_goals (intro hb_; try simp only [pd_true, pd_false, Bool.not_eq_true', Bool.not_eq_false', Bool.and_eq_true, Bool.and_eq_false_iff, Bool.or_eq_true, Bool.or_eq_false_iff, not_true_eq_false, not_false_eq_true, Int.not_lt, Int.not_le] at hb_))
  · (repeat (first | (with_reducible apply XL.op) | ((with_reducible apply XOp.p1); (case hg | hv => exact rfl)) | (with_reducible apply XL.nilT) | (with_reducible apply XC.seq) | (with_reducible apply XC.region (Γ := Γ)) | (with_reducible apply XQ.ret) | (with_reducible apply XQ.rt)))
    ((with_reducible apply XQ.retE); (case hr => exact .t rfl .nil))
    exact congrArg Value.bool (pdf (show ¬ gainsP l n from fun h2 => hb_ h2.1)).symm
  (repeat (first | (with_reducible apply XL.op) | ((with_reducible apply XOp.p1); (case hg | hv => exact rfl)) | (with_reducible apply XL.nilT) | (with_reducible apply XC.seq) | (with_reducible apply XC.region (Γ := Γ)) | (with_reducible apply XQ.skip) | (with_reducible apply XQ.nt) | (with_reducible apply XC.block)))
  refine XC.loop (fun k ρ L => ∃ i : Nat, i + k = l.length ∧ L = [] ∧ (∀ y ∈ l.take i, y ≠ -128) ∧ Slots ρ [(0, .slice a l.length cap), (1, .int .i64 n), (5, .int .i64 i)])
    l.length ⟨0, by simp, rfl, by simp, rfl, rfl, rfl, trivial⟩ ?_
  rintro k ρ L ⟨i, hik, rfl, hq, hs⟩
  have hn : (l.length : Int) = n := by first | assumption | omega
  refine XC.slots _ hs ?_
  (repeat (first | (with_reducible apply XL.op) | ((with_reducible apply XOp.p1); (case hg | hv => exact rfl)) | (with_reducible apply XL.nilT) | (with_reducible apply XC.seq) | (with_reducible apply XC.region (Γ := Γ))))
  ((with_reducible apply XC.cond); (case hc => exact rfl); all_goals (intro hb_; try simp only [pd_true, pd_false, Bool.not_eq_true', Bool.not_eq_false', Bool.and_eq_true, Bool.and_eq_false_iff, Bool.or_eq_true, Bool.or_eq_false_iff, not_true_eq_false, not_false_eq_true, Int.not_lt, Int.not_le] at hb_))
  · obtain ⟨x, hi⟩ : ∃ x, l[i]? = some x := ⟨_, List.getElem?_eq_getElem (by omega)⟩
    have hc := (hA.int i (by omega)).1
    rw [hi] at hc
    (repeat (first | (with_reducible apply XL.op) | ((with_reducible apply XOp.p1); (case hg | hv => exact rfl)) | ((with_reducible apply XOp.pr); (case hg => exact rfl); (case hr => ((with_reducible apply PR.idxA); (case ht | hk | he | hx | hi => exact rfl); (case hr => first | assumption | omega); (case ha => first | assumption | exact SlA.at_ (by assumption))))) | (with_reducible apply XL.nilT) | (with_reducible apply XC.seq) | (with_reducible apply XC.region (Γ := Γ)) | (with_reducible apply XQ.skip) | (with_reducible apply XQ.nt) | (with_reducible apply XC.block) | (first | ((with_reducible apply XOp.load); (case hg | ht | hk | hx => exact rfl); (case hc => exact Known.of_old hc (Mono.cell _ _))) | ((with_reducible apply XP.load); (case ho | hg | ht | hk | hx => exact rfl); (case hc => exact Known.of_old hc (Mono.cell _ _))))))
    ((with_reducible apply XC.cond); (case hc => exact rfl); all_goals (intro hb_; try simp only [pd_true, pd_false, Bool.not_eq_true', Bool.not_eq_false', Bool.and_eq_true, Bool.and_eq_false_iff, Bool.or_eq_true, Bool.or_eq_false_iff, not_true_eq_false, not_false_eq_true, Int.not_lt, Int.not_le] at hb_))
    · (repeat (first | (with_reducible apply XL.op) | ((with_reducible apply XOp.p1); (case hg | hv => exact rfl)) | (with_reducible apply XL.nilT) | (with_reducible apply XC.seq) | (with_reducible apply XC.region (Γ := Γ)) | (with_reducible apply XQ.ret) | (with_reducible apply XQ.rt) | (with_reducible apply XQ.rb)))
      ((with_reducible apply XQ.retE); (case hr => exact .t rfl .nil))
      exact congrArg Value.bool (pdf (fun h => h.2 x (List.mem_of_getElem? hi) (by assumption))).symm
    · (repeat (first | (with_reducible apply XL.op) | ((with_reducible apply XOp.p1); (case hg | hv => exact rfl)) | (with_reducible apply XL.nilT) | (with_reducible apply XC.region (Γ := Γ)) | (with_reducible apply XQ.skip) | (with_reducible apply XQ.nt) | (with_reducible apply XQ.nb)))
      exact ⟨k - 1, by omega, i + 1, by omega, rfl, all_snoc hi hq (by assumption), rfl, rfl, intS (m := l.length) (by omega) (by omega), trivial⟩
  · obtain rfl : i = l.length := by omega
    rw [List.take_length] at hq
    (repeat (first | (with_reducible apply XL.op) | ((with_reducible apply XOp.p1); (case hg | hv => exact rfl)) | (with_reducible apply XL.nilT) | (with_reducible apply XC.seq) | (with_reducible apply XC.region (Γ := Γ)) | (with_reducible apply XQ.ret) | (with_reducible apply XQ.exit) | (with_reducible apply XQ.nt) | (with_reducible apply XQ.et) | ((with_reducible apply XQ.eb); (case hb => exact rfl))))
    ((with_reducible apply XQ.retE); (case hr => exact .t rfl .nil))
    exact congrArg Value.bool (pdt (show gainsP l n from ⟨hn, hq⟩)).symm
end Go.Proofs.YtppggaiahkecoaaDoorX
/- Matrices: are they well made? -/
namespace Go.Proofs.YtppggaiahkecoaaDoorX
open Go Go.SX

def matOk (m : Mat) : Prop := 1 ≤ m.Rows ∧ 1 ≤ m.Cols ∧ (m.Data.length : Int) = m.Rows * m.Cols ∧ ∀ x ∈ m.Data, x ≠ -128
noncomputable def errMat (m : Mat) : Int := if pd (matOk m) then 0 else 30
theorem errMat_ok {m : Mat} (h : matOk m) : errMat m = 0 := by unfold errMat; rw [pdt h]; rfl
theorem errMat_no {m : Mat} (h : ¬ matOk m) : errMat m = 30 := by unfold errMat; rw [pdf h]; rfl
theorem shape_iff {r c : Int} {n : Nat} (hc : 1 ≤ c) (hn : n ≤ 140737488355328) : ((n : Int).tmod c = 0 ∧ IntKind.i64.wrap ((n : Int).tdiv c) = r) ↔ (n : Int) = r * c := by
  have h0 : (0 : Int) ≤ n := Int.natCast_nonneg n
  have h1 := Int.mul_tdiv_add_tmod (n : Int) c
  have h2 : 0 ≤ (n : Int).tdiv c := Int.tdiv_nonneg h0 (by omega)
  have h3 : (n : Int).tdiv c ≤ n := by
    rw [Int.tdiv_eq_ediv_of_nonneg h0]; exact Int.ediv_le_self _ h0
  rw [wrap64_of (by omega) (by omega)]
  constructor
  · rintro ⟨h, rfl⟩
    rw [h, Int.add_zero] at h1; rw [Int.mul_comm] at h1; exact h1.symm
  · intro h
    rw [h]
    exact ⟨Int.mul_tmod_left _ _, Int.mul_tdiv_cancel _ (by omega)⟩
set_option maxHeartbeats 4000000 in
theorem matCheck_fn (m : Mat) (a : Option Addr) (cap : Nat) : FC Tryd.prog 94 [.agg ⟨[.int .i64 m.Rows, .int .i64 m.Cols, .slice a m.Data.length cap]⟩] [] (fun h => SlA (Kd.int .i8) 1 h m.Data a cap)
    (fun v L => v = .int .i64 (errMat m) ∧ L = []) := by
  refine FC.nil ?_
  refine FC.intro Tryd.func94 rfl (by kernel_rfl) 43 [.tmp 2] rfl rfl rfl ?_
  intro w0 hA
  have hsm := hA.bytes
  have hI8 := hA.okAll
  (repeat (first | (with_reducible apply XL.op) | (with_reducible apply XC.seq) | (with_reducible apply XC.region (Γ := Γ))))
  ((with_reducible apply XOp.box); (case hg | hx' => exact rfl); intro mb)
  (repeat (first | (with_reducible apply XL.op) | ((with_reducible apply XOp.p1); (case hg | hv => exact rfl)) | (with_reducible apply XL.nilT) | (with_reducible apply XC.seq)))
  ((with_reducible apply XC.regionD (Γ := Γ) mixed (.q 0 (.q 1 (.q 2 (.q 3 (.q 4 (.q 5 (.q 6 (.q 7 (.q 8 (.q 9 (.q 10 (.q 11 (.q 12 (.q 13 (.q 14 (.q 15 (.q 16 (.q 17 (.q 18 (.q 19 (.q 20 (.q 21 (.q 22 (.q 23 (.q 24 (.q 25 (.q 26 (.q 27 (.done))))))))))))))))))))))))))))) [] []); (case hc => kernel_rfl))
  (repeat' (first | (with_reducible apply XL.op) | ((with_reducible apply XOp.p1); (case hg | hv => exact rfl)) | ((with_reducible apply XOp.load); (case hg | ht | hk | hx => exact rfl); (case hc => exact own_cell (i := 0) rfl rfl)) | (with_reducible apply XL.nilT) | (with_reducible apply XC.seq) | (with_reducible apply XC.region (Γ := Γ)) | (with_reducible apply XQ.skip) | (with_reducible apply XQ.ret) | (with_reducible apply XQ.nt) | (with_reducible apply XQ.rt) | (with_reducible apply XC.block) | ((with_reducible apply XP.p1); (case ho | hg | hv => exact rfl)) | ((with_reducible apply XP.p0); (case ho | hg => exact rfl)) | ((with_reducible apply XP.load); (case ho | hg | ht | hk | hx => exact rfl); (case hc => exact own_cell (i := 0) rfl rfl)) | ((with_reducible apply XP.pr); (case ho => exact rfl); (case hg => exact rfl); (case hr => ((with_reducible apply PR.quo); (case hx | hy => exact rfl); (case hr => first | assumption | omega | (rw [wrap64_of (by omega) (by omega)]; omega))))) | ((with_reducible apply XP.pr); (case ho => exact rfl); (case hg => exact rfl); (case hr => ((with_reducible apply PR.rem); (case hx | hy => exact rfl); (case hr => first | assumption | omega | (rw [wrap64_of (by omega) (by omega)]; omega))))) | (with_reducible apply XP.done) | ((with_reducible apply XC.condT); (case hc => exact rfl)) | ((with_reducible apply XP.split); (case ho | hg | hj | hd | hb => exact rfl); (fail_if_success (case hf => exact fun h => Bool.noConfusion h)); (fail_if_success (case ht => exact fun h => Bool.noConfusion h)); all_goals (intro hb_; try simp only [pd_true, pd_false, Bool.not_eq_true', Bool.not_eq_false', Bool.and_eq_true, Bool.and_eq_false_iff, Bool.or_eq_true, Bool.or_eq_false_iff, not_true_eq_false, not_false_eq_true, Int.not_lt, Int.not_le] at hb_)) | ((with_reducible apply XC.cond); (case hc => exact rfl); all_goals (intro hb_; try simp only [pd_true, pd_false, Bool.not_eq_true', Bool.not_eq_false', Bool.and_eq_true, Bool.and_eq_false_iff, Bool.or_eq_true, Bool.or_eq_false_iff, not_true_eq_false, not_false_eq_true, Int.not_lt, Int.not_le] at hb_))))
  iterate 4
    (((with_reducible apply XQ.retE); (case hr => exact .t rfl .nil))
     refine congrArg (Value.int .i64) (errMat_no (fun h => ?_)).symm
     have hsh := (shape_iff (r := m.Rows) (c := m.Cols) h.2.1 (n := m.Data.length) (by omega)).2 h.2.2.1
     have h1 := h.1
     have h2 := h.2.1
     first | omega | exact hb_ hsh.1 | exact hb_ hsh.2)
  have hok : 1 ≤ m.Rows ∧ 1 ≤ m.Cols ∧ (m.Data.length : Int) = m.Rows * m.Cols := by
    have hc : 1 ≤ m.Cols := by omega
    exact ⟨by omega, hc, (shape_iff hc (by omega)).1 ⟨by assumption, by assumption⟩⟩
  refine XC.loop (fun k ρ L => ∃ i : Nat, i + k = m.Data.length ∧ L = [(mb, .cells ⟨[.int .i64 m.Rows, .int .i64 m.Cols, .slice a m.Data.length cap]⟩ 26 (0, 0))] ∧ (∀ y ∈ m.Data.take i, y ≠ -128) ∧ Slots ρ [(1, .pointer (some ⟨mb, 0, none⟩)), (34, .slice a m.Data.length cap), (35, .int .i64 m.Data.length), (36, .int .i64 i)])
    m.Data.length ⟨0, by simp, rfl, by simp, rfl, rfl, rfl, rfl, trivial⟩ ?_
  rintro k ρ L ⟨i, hik, rfl, hq, hs⟩
  refine XC.slots _ hs ?_
  (repeat (first | (with_reducible apply XL.op) | ((with_reducible apply XOp.p1); (case hg | hv => exact rfl)) | (with_reducible apply XL.nilT) | (with_reducible apply XC.seq) | (with_reducible apply XC.region (Γ := Γ))))
  ((with_reducible apply XC.cond); (case hc => exact rfl); all_goals (intro hb_; try simp only [pd_true, pd_false, Bool.not_eq_true', Bool.not_eq_false', Bool.and_eq_true, Bool.and_eq_false_iff, Bool.or_eq_true, Bool.or_eq_false_iff, not_true_eq_false, not_false_eq_true, Int.not_lt, Int.not_le] at hb_))
  · obtain ⟨x, hi⟩ : ∃ x, m.Data[i]? = some x := ⟨_, List.getElem?_eq_getElem (by omega)⟩
    have hc := (hA.int i (by omega)).1
    rw [hi] at hc
    change cellv _ _ = some (.int .i8 x) at hc
    (repeat (first | (with_reducible apply XL.op) | ((with_reducible apply XOp.p1); (case hg | hv => exact rfl)) | ((with_reducible apply XOp.pr); (case hg => exact rfl); (case hr => ((with_reducible apply PR.idxA); (case ht | hk | he | hx | hi => exact rfl); (case hr => first | assumption | omega); (case ha => first | assumption | exact SlA.at_ (by assumption))))) | (with_reducible apply XL.nilT) | (with_reducible apply XC.seq) | (with_reducible apply XC.region (Γ := Γ)) | (with_reducible apply XQ.skip) | (with_reducible apply XQ.nt) | (with_reducible apply XC.block) | (first | ((with_reducible apply XOp.load); (case hg | ht | hk | hx => exact rfl); (case hc => exact Known.of_old hc (Mono.cell _ _))) | ((with_reducible apply XP.load); (case ho | hg | ht | hk | hx => exact rfl); (case hc => exact Known.of_old hc (Mono.cell _ _))))))
    ((with_reducible apply XC.cond); (case hc => exact rfl); all_goals (intro hb_; try simp only [pd_true, pd_false, Bool.not_eq_true', Bool.not_eq_false', Bool.and_eq_true, Bool.and_eq_false_iff, Bool.or_eq_true, Bool.or_eq_false_iff, not_true_eq_false, not_false_eq_true, Int.not_lt, Int.not_le] at hb_))
    · (repeat (first | (with_reducible apply XL.op) | ((with_reducible apply XOp.p1); (case hg | hv => exact rfl)) | (with_reducible apply XL.nilT) | (with_reducible apply XC.seq) | (with_reducible apply XC.region (Γ := Γ)) | (with_reducible apply XQ.ret) | (with_reducible apply XQ.rt) | (with_reducible apply XQ.rb)))
      ((with_reducible apply XQ.retE); (case hr => exact .t rfl .nil))
      exact congrArg (Value.int .i64) (errMat_no (fun h => h.2.2.2 x (List.mem_of_getElem? hi) (by have := inK_i8.1 (hI8 x (List.mem_of_getElem? hi)); omega))).symm
    · (repeat (first | (with_reducible apply XL.op) | ((with_reducible apply XOp.p1); (case hg | hv => exact rfl)) | (with_reducible apply XL.nilT) | (with_reducible apply XC.region (Γ := Γ)) | (with_reducible apply XQ.skip) | (with_reducible apply XQ.nt) | (with_reducible apply XQ.nb)))
      exact ⟨k - 1, by omega, i + 1, by omega, rfl, all_snoc hi hq (by first | assumption | (have := inK_i8.1 (hI8 x (List.mem_of_getElem? hi)); omega)), rfl, rfl, rfl, intS (m := m.Data.length) (by omega) (by omega), trivial⟩
  · obtain rfl : i = m.Data.length := by omega
    rw [List.take_length] at hq
    (repeat (first | (with_reducible apply XL.op) | ((with_reducible apply XOp.p1); (case hg | hv => exact rfl)) | (with_reducible apply XL.nilT) | (with_reducible apply XC.seq) | (with_reducible apply XC.region (Γ := Γ)) | (with_reducible apply XQ.ret) | (with_reducible apply XQ.exit) | (with_reducible apply XQ.nt) | (with_reducible apply XQ.et) | ((with_reducible apply XQ.eb); (case hb => exact rfl))))
    ((with_reducible apply XQ.retE); (case hr => exact .t rfl .nil))
    exact congrArg (Value.int .i64) (errMat_ok ⟨hok.1, hok.2.1, hok.2.2, hq⟩).symm
set_option maxHeartbeats 4000000 in
theorem refMat_fn (m : Mat) (a : Option Addr) (cap : Nat) : FC Tryd.prog 86 [.agg ⟨[.int .i64 m.Rows, .int .i64 m.Cols, .slice a m.Data.length cap]⟩] [] (fun h => SlA (Kd.int .i8) 1 h m.Data a cap)
    (fun v L => v = .int .i64 (errMat m) ∧ L = []) := by
  refine FC.nil ?_
  refine FC.intro Tryd.func86 rfl (by kernel_rfl) 45 [.tmp 2] rfl rfl rfl ?_
  intro w0 hA
  have hsm := hA.bytes
  have hI8 := hA.okAll
  (repeat (first | (with_reducible apply XL.op) | (with_reducible apply XC.seq) | (with_reducible apply XC.region (Γ := Γ))))
  ((with_reducible apply XOp.box); (case hg | hx' => exact rfl); intro mb)
  (repeat (first | (with_reducible apply XL.op) | ((with_reducible apply XOp.p1); (case hg | hv => exact rfl)) | (with_reducible apply XL.nilT) | (with_reducible apply XC.seq)))
  ((with_reducible apply XC.regionD (Γ := Γ) mixed (.q 0 (.q 1 (.q 2 (.q 3 (.q 4 (.q 5 (.q 6 (.q 7 (.q 8 (.q 9 (.q 10 (.q 11 (.q 12 (.q 13 (.q 14 (.q 15 (.q 16 (.q 17 (.q 18 (.q 19 (.q 20 (.q 21 (.q 22 (.q 23 (.q 24 (.q 25 (.q 26 (.q 27 (.done))))))))))))))))))))))))))))) [] []); (case hc => kernel_rfl))
  (repeat' (first | (with_reducible apply XL.op) | ((with_reducible apply XOp.p1); (case hg | hv => exact rfl)) | (with_reducible apply XL.nilT) | (with_reducible apply XC.seq) | (with_reducible apply XC.region (Γ := Γ)) | (with_reducible apply XQ.skip) | (with_reducible apply XQ.ret) | (with_reducible apply XQ.nt) | (with_reducible apply XQ.rt) | (with_reducible apply XC.block) | ((with_reducible apply XP.p1); (case ho | hg | hv => exact rfl)) | ((with_reducible apply XP.p0); (case ho | hg => exact rfl)) | ((with_reducible apply XP.load); (case ho | hg | ht | hk | hx => exact rfl); (case hc => exact own_cell (i := 0) rfl rfl)) | ((with_reducible apply XP.pr); (case ho => exact rfl); (case hg => exact rfl); (case hr => ((with_reducible apply PR.quo); (case hx | hy => exact rfl); (case hr => first | assumption | omega | (rw [wrap64_of (by omega) (by omega)]; omega))))) | ((with_reducible apply XP.pr); (case ho => exact rfl); (case hg => exact rfl); (case hr => ((with_reducible apply PR.rem); (case hx | hy => exact rfl); (case hr => first | assumption | omega | (rw [wrap64_of (by omega) (by omega)]; omega))))) | (with_reducible apply XP.done) | ((with_reducible apply XC.condT); (case hc => exact rfl)) | ((with_reducible apply XP.split); (case ho | hg | hj | hd | hb => exact rfl); (fail_if_success (case hf => exact fun h => Bool.noConfusion h)); (fail_if_success (case ht => exact fun h => Bool.noConfusion h)); all_goals (intro hb_; try simp only [pd_true, pd_false, Bool.not_eq_true', Bool.not_eq_false', Bool.and_eq_true, Bool.and_eq_false_iff, Bool.or_eq_true, Bool.or_eq_false_iff, not_true_eq_false, not_false_eq_true, Int.not_lt, Int.not_le] at hb_)) | ((with_reducible apply XC.cond); (case hc => exact rfl); all_goals (intro hb_; try simp only [pd_true, pd_false, Bool.not_eq_true', Bool.not_eq_false', Bool.and_eq_true, Bool.and_eq_false_iff, Bool.or_eq_true, Bool.or_eq_false_iff, not_true_eq_false, not_false_eq_true, Int.not_lt, Int.not_le] at hb_))))
  iterate 4
    (((with_reducible apply XQ.retE); (case hr => exact .t rfl .nil))
     refine congrArg (Value.int .i64) (errMat_no (fun h => ?_)).symm
     have hsh := (shape_iff (r := m.Rows) (c := m.Cols) h.2.1 (n := m.Data.length) (by omega)).2 h.2.2.1
     have h1 := h.1
     have h2 := h.2.1
     first | omega | exact hb_ hsh.1 | exact hb_ hsh.2)
  have hok : 1 ≤ m.Rows ∧ 1 ≤ m.Cols ∧ (m.Data.length : Int) = m.Rows * m.Cols := by
    have hc : 1 ≤ m.Cols := by omega
    exact ⟨by omega, hc, (shape_iff hc (by omega)).1 ⟨by assumption, by assumption⟩⟩
  refine XC.loop (fun k ρ L => ∃ i : Nat, i + k = m.Data.length ∧ L = [(mb, .cells ⟨[.int .i64 m.Rows, .int .i64 m.Cols, .slice a m.Data.length cap]⟩ 26 (0, 0))] ∧ (∀ y ∈ m.Data.take i, y ≠ -128) ∧ Slots ρ [(1, .pointer (some ⟨mb, 0, none⟩)), (3, .int .i64 i)])
    m.Data.length ⟨0, by simp, rfl, by simp, rfl, rfl, trivial⟩ ?_
  rintro k ρ L ⟨i, hik, rfl, hq, hs⟩
  refine XC.slots _ hs ?_
  (repeat (first | (with_reducible apply XL.op) | ((with_reducible apply XOp.p1); (case hg | hv => exact rfl)) | ((with_reducible apply XOp.load); (case hg | ht | hk | hx => exact rfl); (case hc => exact own_cell (i := 0) rfl rfl)) | (with_reducible apply XL.nilT) | (with_reducible apply XC.seq) | (with_reducible apply XC.region (Γ := Γ))))
  ((with_reducible apply XC.cond); (case hc => exact rfl); all_goals (intro hb_; try simp only [pd_true, pd_false, Bool.not_eq_true', Bool.not_eq_false', Bool.and_eq_true, Bool.and_eq_false_iff, Bool.or_eq_true, Bool.or_eq_false_iff, not_true_eq_false, not_false_eq_true, Int.not_lt, Int.not_le] at hb_))
  · obtain ⟨x, hi⟩ : ∃ x, m.Data[i]? = some x := ⟨_, List.getElem?_eq_getElem (by omega)⟩
    have hc := (hA.int i (by omega)).1
    rw [hi] at hc
    change cellv _ _ = some (.int .i8 x) at hc
    (repeat (first | (with_reducible apply XL.op) | ((with_reducible apply XOp.p1); (case hg | hv => exact rfl)) | ((with_reducible apply XOp.load); (case hg | ht | hk | hx => exact rfl); (case hc => exact own_cell (i := 0) rfl rfl)) | ((with_reducible apply XOp.pr); (case hg => exact rfl); (case hr => ((with_reducible apply PR.idxA); (case ht | hk | he | hx | hi => exact rfl); (case hr => first | assumption | omega); (case ha => first | assumption | exact SlA.at_ (by assumption))))) | (with_reducible apply XL.nilT) | (with_reducible apply XC.seq) | (with_reducible apply XC.region (Γ := Γ)) | (with_reducible apply XQ.skip) | (with_reducible apply XQ.nt) | (with_reducible apply XC.block) | (first | ((with_reducible apply XOp.load); (case hg | ht | hk | hx => exact rfl); (case hc => exact Known.of_old hc (Mono.cell _ _))) | ((with_reducible apply XP.load); (case ho | hg | ht | hk | hx => exact rfl); (case hc => exact Known.of_old hc (Mono.cell _ _))))))
    ((with_reducible apply XC.cond); (case hc => exact rfl); all_goals (intro hb_; try simp only [pd_true, pd_false, Bool.not_eq_true', Bool.not_eq_false', Bool.and_eq_true, Bool.and_eq_false_iff, Bool.or_eq_true, Bool.or_eq_false_iff, not_true_eq_false, not_false_eq_true, Int.not_lt, Int.not_le] at hb_))
    · (repeat (first | (with_reducible apply XL.op) | ((with_reducible apply XOp.p1); (case hg | hv => exact rfl)) | (with_reducible apply XL.nilT) | (with_reducible apply XC.seq) | (with_reducible apply XC.region (Γ := Γ)) | (with_reducible apply XQ.ret) | (with_reducible apply XQ.rt) | (with_reducible apply XQ.rb)))
      ((with_reducible apply XQ.retE); (case hr => exact .t rfl .nil))
      exact congrArg (Value.int .i64) (errMat_no (fun h => h.2.2.2 x (List.mem_of_getElem? hi) (by assumption))).symm
    · (repeat (first | (with_reducible apply XL.op) | ((with_reducible apply XOp.p1); (case hg | hv => exact rfl)) | (with_reducible apply XL.nilT) | (with_reducible apply XC.region (Γ := Γ)) | (with_reducible apply XQ.skip) | (with_reducible apply XQ.nt) | (with_reducible apply XQ.nb)))
      exact ⟨k - 1, by omega, i + 1, by omega, rfl, all_snoc hi hq (by first | assumption | (have := inK_i8.1 (hI8 x (List.mem_of_getElem? hi)); omega)), rfl, intS (m := m.Data.length) (by omega) (by omega), trivial⟩
  · obtain rfl : i = m.Data.length := by omega
    rw [List.take_length] at hq
    (repeat (first | (with_reducible apply XL.op) | ((with_reducible apply XOp.p1); (case hg | hv => exact rfl)) | (with_reducible apply XL.nilT) | (with_reducible apply XC.seq) | (with_reducible apply XC.region (Γ := Γ)) | (with_reducible apply XQ.ret) | (with_reducible apply XQ.exit) | (with_reducible apply XQ.nt) | (with_reducible apply XQ.et) | ((with_reducible apply XQ.eb); (case hb => exact rfl))))
    ((with_reducible apply XQ.retE); (case hr => exact .t rfl .nil))
    exact congrArg (Value.int .i64) (errMat_ok ⟨hok.1, hok.2.1, hok.2.2, hq⟩).symm
end Go.Proofs.YtppggaiahkecoaaDoorX
/- Numbers as bytes; the digest. -/
namespace Go.Proofs.YtppggaiahkecoaaDoorX
open Go Go.SX

def digStep (h b : Int) : Int := IntKind.u64.wrap (bitsV .xor .u64 h (IntKind.u64.wrap b) * 1099511628211)
def digS (l : List Int) : Int := l.foldl digStep 14695981039346656037
theorem digS_u64 (l : List Int) : inK .u64 (digS l) := by
  unfold digS
  have : ∀ (l : List Int) (h : Int), inK .u64 h → inK .u64 (l.foldl digStep h) := fun l => by
    induction l with
    | nil => intro h hh; exact hh
    | cons b l ih => intro h _; exact ih _ (inK_wrap _ _)
  exact this l _ (by unfold inK; decide)
theorem digest_fn (l : List Int) (a : Option Addr) (cap : Nat) : FC Tryd.prog 35 [.slice a l.length cap] [] (fun h => SlA (Kd.int .u8) 1 h l a cap)
    (fun v L => v = .int .u64 (digS l) ∧ L = []) := by
  refine FC.nil ?_
  refine FC.intro Tryd.func35 rfl (by kernel_rfl) 19 [.tmp 2] rfl rfl rfl ?_
  intro w0 hA
  have hsm := hA.bytes
  (repeat (first | (with_reducible apply XL.op) | ((with_reducible apply XOp.p1); (case hg | hv => exact rfl)) | (with_reducible apply XL.nilT) | (with_reducible apply XC.seq) | (with_reducible apply XC.region (Γ := Γ)) | (with_reducible apply XC.block)))
  refine XC.loop (fun k ρ L => ∃ i : Nat, i + k = l.length ∧ L = [] ∧ Slots ρ [(3, .int .u64 (digS (l.take i))), (6, .slice a l.length cap), (7, .int .i64 l.length), (8, .int .i64 i)])
    l.length ⟨0, by simp, rfl, rfl, rfl, rfl, rfl, trivial⟩ ?_
  rintro k ρ L ⟨i, hik, rfl, hs⟩
  refine XC.slots _ hs ?_
  (repeat (first | (with_reducible apply XL.op) | ((with_reducible apply XOp.p1); (case hg | hv => exact rfl)) | (with_reducible apply XL.nilT) | (with_reducible apply XC.seq) | (with_reducible apply XC.region (Γ := Γ))))
  ((with_reducible apply XC.cond); (case hc => exact rfl); all_goals (intro hb_; try simp only [pd_true, pd_false, Bool.not_eq_true', Bool.not_eq_false', Bool.and_eq_true, Bool.and_eq_false_iff, Bool.or_eq_true, Bool.or_eq_false_iff, not_true_eq_false, not_false_eq_true, Int.not_lt, Int.not_le] at hb_))
  · obtain ⟨x, hi⟩ : ∃ x, l[i]? = some x := ⟨_, List.getElem?_eq_getElem (by omega)⟩
    have hc := (hA.int i (by omega)).1
    rw [hi] at hc
    change cellv _ _ = some (.int .u8 x) at hc
    have e : digS (l.take (i + 1)) = digStep (digS (l.take i)) x := by rw [take_snocD hi]; unfold digS; rw [List.foldl_append]; rfl
    (repeat (first | (with_reducible apply XL.op) | ((with_reducible apply XOp.p1); (case hg | hv => exact rfl)) | ((with_reducible apply XOp.pr); (case hg => exact rfl); (case hr => ((with_reducible apply PR.idxA); (case ht | hk | he | hx | hi => exact rfl); (case hr => first | assumption | omega); (case ha => first | assumption | exact SlA.at_ (by assumption))))) | (with_reducible apply XL.nilT) | (with_reducible apply XC.seq) | (with_reducible apply XC.region (Γ := Γ)) | (with_reducible apply XL.nilQ) | (with_reducible apply XQ.skip) | (with_reducible apply XQ.nt) | (with_reducible apply XQ.nb) | (with_reducible apply XC.block) | (first | ((with_reducible apply XOp.load); (case hg | ht | hk | hx => exact rfl); (case hc => exact Known.of_old hc (Mono.cell _ _))) | ((with_reducible apply XP.load); (case ho | hg | ht | hk | hx => exact rfl); (case hc => exact Known.of_old hc (Mono.cell _ _))))))
    exact ⟨k - 1, by omega, i + 1, by omega, rfl, by rw [e]; rfl, rfl, rfl, intS (m := l.length) (by omega) (by omega), trivial⟩
  · obtain rfl : i = l.length := by omega
    rw [List.take_length]
    (repeat (first | (with_reducible apply XL.op) | ((with_reducible apply XOp.p1); (case hg | hv => exact rfl)) | (with_reducible apply XL.nilT) | (with_reducible apply XC.seq) | (with_reducible apply XC.region (Γ := Γ)) | (with_reducible apply XQ.ret) | (with_reducible apply XQ.exit) | (with_reducible apply XQ.nt) | (with_reducible apply XQ.et) | ((with_reducible apply XQ.eb); (case hb => exact rfl))))
    ((with_reducible apply XQ.retE); (case hr => exact .t rfl .nil))
    rfl
theorem refDigest_fn (l : List Int) (a : Option Addr) (cap : Nat) : FC Tryd.prog 84 [.slice a l.length cap] [] (fun h => SlA (Kd.int .u8) 1 h l a cap)
    (fun v L => v = .int .u64 (digS l) ∧ L = []) := by
  refine FC.nil ?_
  refine FC.intro Tryd.func84 rfl (by kernel_rfl) 20 [.tmp 2] rfl rfl rfl ?_
  intro w0 hA
  have hsm := hA.bytes
  (repeat (first | (with_reducible apply XL.op) | ((with_reducible apply XOp.p1); (case hg | hv => exact rfl)) | (with_reducible apply XL.nilT) | (with_reducible apply XC.seq) | (with_reducible apply XC.region (Γ := Γ)) | (with_reducible apply XC.block)))
  refine XC.loop (fun k ρ L => ∃ i : Nat, i + k = l.length ∧ L = [] ∧ Slots ρ [(0, .slice a l.length cap), (3, .int .u64 (digS (l.take i))), (4, .int .i64 i)])
    l.length ⟨0, by simp, rfl, rfl, rfl, rfl, trivial⟩ ?_
  rintro k ρ L ⟨i, hik, rfl, hs⟩
  refine XC.slots _ hs ?_
  (repeat (first | (with_reducible apply XL.op) | ((with_reducible apply XOp.p1); (case hg | hv => exact rfl)) | (with_reducible apply XL.nilT) | (with_reducible apply XC.seq) | (with_reducible apply XC.region (Γ := Γ))))
  ((with_reducible apply XC.cond); (case hc => exact rfl); all_goals (intro hb_; try simp only [pd_true, pd_false, Bool.not_eq_true', Bool.not_eq_false', Bool.and_eq_true, Bool.and_eq_false_iff, Bool.or_eq_true, Bool.or_eq_false_iff, not_true_eq_false, not_false_eq_true, Int.not_lt, Int.not_le] at hb_))
  · obtain ⟨x, hi⟩ : ∃ x, l[i]? = some x := ⟨_, List.getElem?_eq_getElem (by omega)⟩
    have hc := (hA.int i (by omega)).1
    rw [hi] at hc
    change cellv _ _ = some (.int .u8 x) at hc
    have e : digS (l.take (i + 1)) = digStep (digS (l.take i)) x := by rw [take_snocD hi]; unfold digS; rw [List.foldl_append]; rfl
    (repeat (first | (with_reducible apply XL.op) | ((with_reducible apply XOp.p1); (case hg | hv => exact rfl)) | ((with_reducible apply XOp.pr); (case hg => exact rfl); (case hr => ((with_reducible apply PR.idxA); (case ht | hk | he | hx | hi => exact rfl); (case hr => first | assumption | omega); (case ha => first | assumption | exact SlA.at_ (by assumption))))) | (with_reducible apply XL.nilT) | (with_reducible apply XC.seq) | (with_reducible apply XC.region (Γ := Γ)) | (with_reducible apply XL.nilQ) | (with_reducible apply XQ.skip) | (with_reducible apply XQ.nt) | (with_reducible apply XQ.nb) | (with_reducible apply XC.block) | (first | ((with_reducible apply XOp.load); (case hg | ht | hk | hx => exact rfl); (case hc => exact Known.of_old hc (Mono.cell _ _))) | ((with_reducible apply XP.load); (case ho | hg | ht | hk | hx => exact rfl); (case hc => exact Known.of_old hc (Mono.cell _ _))))))
    exact ⟨k - 1, by omega, i + 1, by omega, rfl, rfl, by rw [e]; rfl, intS (m := l.length) (by omega) (by omega), trivial⟩
  · obtain rfl : i = l.length := by omega
    rw [List.take_length]
    (repeat (first | (with_reducible apply XL.op) | ((with_reducible apply XOp.p1); (case hg | hv => exact rfl)) | (with_reducible apply XL.nilT) | (with_reducible apply XC.seq) | (with_reducible apply XC.region (Γ := Γ)) | (with_reducible apply XQ.ret) | (with_reducible apply XQ.exit) | (with_reducible apply XQ.nt) | (with_reducible apply XQ.et) | ((with_reducible apply XQ.eb); (case hb => exact rfl))))
    ((with_reducible apply XQ.retE); (case hr => exact .t rfl .nil))
    rfl
theorem addNumber_fn (v : Value) (m : Nat) (xs : List Int) (F : HL) (hown : OwnS 5 1 v m (xs.map (.int .u8)) F) (x : Int) (hx : inK .u64 x) (n : Nat) (hm : m + n ≤ 1099511627776) :
    FC Tryd.prog 85 [v, .int .u64 x, .int .i64 n] F (fun _ => True) (fun v L => OwnS 5 1 v (m + n) ((xs ++ numB x n).map (.int .u8)) L) := by
  obtain ⟨a0, c0, rfl⟩ := hown.val
  refine FC.intro Tryd.func85 rfl (by kernel_rfl) 22 [.tmp 6] rfl rfl rfl ?_
  intro w0 _
  (repeat (first | (with_reducible apply XL.op) | ((with_reducible apply XOp.p1); (case hg | hv => exact rfl)) | (with_reducible apply XL.nilT) | (with_reducible apply XC.seq) | (with_reducible apply XC.region (Γ := Γ)) | (with_reducible apply XC.block)))
  refine XC.loop (fun k ρ L => ∃ (i : Nat) (ys : List Int) (z : Int) (v : Value) (F : HL), i + k = n ∧ ys ++ numB z k = xs ++ numB x n ∧ inK .u64 z ∧ OwnS 5 1 v (m + i) (ys.map (.int .u8)) F ∧ L = F ++ [] ∧ Slots ρ [(0, v), (1, .int .u64 z), (2, .int .i64 n), (7, .int .i64 i)])
    n ⟨0, xs, x, _, F, by simp, rfl, hx, hown, (List.append_nil _).symm, rfl, rfl, rfl, rfl, trivial⟩ ?_
  clear hown
  rintro k ρ L ⟨i, ys, z, v, F, hik, hys, hz, hown, rfl, hs⟩
  obtain ⟨a', c', rfl⟩ := hown.val
  have hz' := inK_u64.1 hz
  refine XC.slots _ hs ?_
  (repeat (first | (with_reducible apply XL.op) | ((with_reducible apply XOp.p1); (case hg | hv => exact rfl)) | (with_reducible apply XL.nilT) | (with_reducible apply XC.seq) | (with_reducible apply XC.region (Γ := Γ))))
  ((with_reducible apply XC.cond); (case hc => exact rfl); all_goals (intro hb_; try simp only [pd_true, pd_false, Bool.not_eq_true', Bool.not_eq_false', Bool.and_eq_true, Bool.and_eq_false_iff, Bool.or_eq_true, Bool.or_eq_false_iff, not_true_eq_false, not_false_eq_true, Int.not_lt, Int.not_le] at hb_))
  · obtain ⟨k, rfl⟩ : ∃ q, k = q + 1 := ⟨k - 1, by omega⟩
    have e1 : IntKind.u8.wrap (z.tmod 256) = z % 256 := by rw [Int.tmod_eq_emod_of_nonneg hz'.1, wrap_of (inK_u8.2 (by omega))]
    have e2 : IntKind.u64.wrap (z.tdiv 256) = z / 256 := by rw [Int.tdiv_eq_ediv_of_nonneg hz'.1, wrap_of (inK_u64.2 (by omega))]
    (repeat (first | (with_reducible apply XL.op) | ((with_reducible apply XOp.p1); (case hg | hv => exact rfl)) | (with_reducible apply XC.seq) | (with_reducible apply XC.region (Γ := Γ)) | (with_reducible apply XQ.skip) | (with_reducible apply XQ.nt) | (with_reducible apply XC.block)))
    ((with_reducible apply XOp.buildSlice); (case hg | ht | hk | he | hz | hzl | hf => exact rfl); intro bb)
    (repeat ((with_reducible apply XL.op)))
    ((with_reducible apply XOp.append1); (case hg => exact rfl); (case ht => exact rfl); (case hk => exact rfl); (case he => exact rfl); (case hown => exact hown); (case hs => exact rfl); (case hx => exact rfl); (case hL => exact rfl); (case hl => exact rfl); (case h1 => exact rfl); (case hz => exact rfl); (case hsz => exact Nat.zero_lt_succ _); (case hk0 => exact Nat.zero_lt_succ _); (case h63 => simp only [maxLen]; omega); (case hb => simp only []; omega); intro v_ F_ hown_; obtain ⟨a_, c_, rfl⟩ := hown_.val)
    (repeat (first | (with_reducible apply XL.op) | ((with_reducible apply XOp.p1); (case hg | hv => exact rfl)) | (with_reducible apply XL.nilT) | (with_reducible apply XC.region (Γ := Γ)) | (with_reducible apply XL.nilQ) | (with_reducible apply XQ.nt) | (with_reducible apply XQ.nb)))
    refine ⟨k, by omega, i + 1, ys ++ [z % 256], z / 256, _, F_, by omega, by rw [← hys, numB]; simp, inK_u64.2 (by omega), hown_.conv rfl (by rw [List.map_append, e1]; rfl), rfl, rfl, (by show Value.int _ _ = Value.int _ _; rw [← e2]), rfl, intS (m := n) (by omega) (by omega), trivial⟩
  · obtain rfl : k = 0 := by omega
    obtain rfl : i = n := by omega
    (repeat (first | (with_reducible apply XL.op) | ((with_reducible apply XOp.p1); (case hg | hv => exact rfl)) | (with_reducible apply XL.nilT) | (with_reducible apply XC.seq) | (with_reducible apply XC.region (Γ := Γ)) | (with_reducible apply XQ.ret) | (with_reducible apply XQ.exit) | (with_reducible apply XQ.nt) | (with_reducible apply XQ.et) | ((with_reducible apply XQ.eb); (case hb => exact rfl))))
    ((with_reducible apply XQ.retE); (case hr => exact .t rfl .nil))
    have e : xs ++ numB x i = ys := by rw [← hys]; simp [numB]
    rw [e, List.append_nil]
    exact hown
end Go.Proofs.YtppggaiahkecoaaDoorX
/- Numbers as bytes: the program's. -/
namespace Go.Proofs.YtppggaiahkecoaaDoorX
open Go Go.SX

theorem u8_mod (z : Int) : IntKind.u8.wrap z = z % 256 := by
  have h : 0 ≤ z % 256 ∧ z % 256 ≤ 255 := by omega
  first | rfl | (simp [IntKind.wrap]; done) | (unfold IntKind.wrap; simp [IntKind.bits, IntKind.signed]; done)
theorem number_fn (v : Value) (m : Nat) (xs : List Int) (F : HL) (hown : OwnS 5 1 v m (xs.map (.int .u8)) F) (x : Int) (hx : inK .u64 x) (n : Nat) (hm : m + n ≤ 1099511627776) :
    FC Tryd.prog 33 [v, .int .u64 x, .int .i64 n] F (fun _ => True) (fun v L => OwnS 5 1 v (m + n) ((xs ++ numB x n).map (.int .u8)) L) := by
  obtain ⟨a0, c0, rfl⟩ := hown.val
  refine FC.intro Tryd.func33 rfl (by kernel_rfl) 19 [.tmp 6] rfl rfl rfl ?_
  intro w0 _
  (repeat (first | (with_reducible apply XL.op) | ((with_reducible apply XOp.p1); (case hg | hv => exact rfl)) | (with_reducible apply XL.nilT) | (with_reducible apply XC.seq) | (with_reducible apply XC.region (Γ := Γ)) | (with_reducible apply XC.block)))
  refine XC.loop (fun k ρ L => ∃ (i : Nat) (ys : List Int) (z : Int) (v : Value) (F : HL), i + k = n ∧ ys ++ numB z k = xs ++ numB x n ∧ inK .u64 z ∧ OwnS 5 1 v (m + i) (ys.map (.int .u8)) F ∧ L = F ++ [] ∧ Slots ρ [(0, v), (1, .int .u64 z), (7, .int .i64 n), (8, .int .i64 i)])
    n ⟨0, xs, x, _, F, by simp, rfl, hx, hown, (List.append_nil _).symm, rfl, rfl, rfl, rfl, trivial⟩ ?_
  clear hown
  rintro k ρ L ⟨i, ys, z, v, F, hik, hys, hz, hown, rfl, hs⟩
  obtain ⟨a', c', rfl⟩ := hown.val
  have hz' := inK_u64.1 hz
  refine XC.slots _ hs ?_
  (repeat (first | (with_reducible apply XL.op) | ((with_reducible apply XOp.p1); (case hg | hv => exact rfl)) | (with_reducible apply XL.nilT) | (with_reducible apply XC.seq) | (with_reducible apply XC.region (Γ := Γ))))
  ((with_reducible apply XC.cond); (case hc => exact rfl); all_goals (intro hb_; try simp only [pd_true, pd_false, Bool.not_eq_true', Bool.not_eq_false', Bool.and_eq_true, Bool.and_eq_false_iff, Bool.or_eq_true, Bool.or_eq_false_iff, not_true_eq_false, not_false_eq_true, Int.not_lt, Int.not_le] at hb_))
  · obtain ⟨k, rfl⟩ : ∃ q, k = q + 1 := ⟨k - 1, by omega⟩
    (repeat (first | (with_reducible apply XL.op) | ((with_reducible apply XOp.p1); (case hg | hv => exact rfl)) | (with_reducible apply XC.seq) | (with_reducible apply XC.region (Γ := Γ)) | (with_reducible apply XQ.skip) | (with_reducible apply XQ.nt) | (with_reducible apply XC.block)))
    ((with_reducible apply XOp.buildSlice); (case hg | ht | hk | he | hz | hzl | hf => exact rfl); intro bb)
    (repeat ((with_reducible apply XL.op)))
    ((with_reducible apply XOp.append1); (case hg => exact rfl); (case ht => exact rfl); (case hk => exact rfl); (case he => exact rfl); (case hown => exact hown); (case hs => exact rfl); (case hx => exact rfl); (case hL => exact rfl); (case hl => exact rfl); (case h1 => exact rfl); (case hz => exact rfl); (case hsz => exact Nat.zero_lt_succ _); (case hk0 => exact Nat.zero_lt_succ _); (case h63 => simp only [maxLen]; omega); (case hb => simp only []; omega); intro v_ F_ hown_; obtain ⟨a_, c_, rfl⟩ := hown_.val)
    (repeat (first | (with_reducible apply XL.op) | ((with_reducible apply XOp.p1); (case hg | hv => exact rfl)) | (with_reducible apply XL.nilT) | (with_reducible apply XC.region (Γ := Γ)) | (with_reducible apply XL.nilQ) | (with_reducible apply XQ.nt) | (with_reducible apply XQ.nb)))
    have e2 : z.fdiv (2 ^ min (Int.toNat 8) IntKind.u64.bits) = z / 256 := by
      rw [show ((2 : Int) ^ min (Int.toNat 8) IntKind.u64.bits) = 256 from rfl]; exact Int.fdiv_eq_ediv_of_nonneg _ (by omega)
    exact ⟨k, by omega, i + 1, ys ++ [z % 256], z / 256, _, F_, by omega, by rw [← hys, numB]; simp, inK_u64.2 (by omega), hown_.conv rfl (by rw [List.map_append, u8_mod]; rfl), rfl, rfl, (by show Value.int _ _ = Value.int _ _; rw [← e2]), rfl, intS (m := n) (by omega) (by omega), trivial⟩
  · obtain rfl : k = 0 := by omega
    obtain rfl : i = n := by omega
    (repeat (first | (with_reducible apply XL.op) | ((with_reducible apply XOp.p1); (case hg | hv => exact rfl)) | (with_reducible apply XL.nilT) | (with_reducible apply XC.seq) | (with_reducible apply XC.region (Γ := Γ)) | (with_reducible apply XQ.ret) | (with_reducible apply XQ.exit) | (with_reducible apply XQ.nt) | (with_reducible apply XQ.et) | ((with_reducible apply XQ.eb); (case hb => exact rfl))))
    ((with_reducible apply XQ.retE); (case hr => exact .t rfl .nil))
    have e : xs ++ numB x i = ys := by rw [← hys]; simp [numB]
    rw [e, List.append_nil]
    exact hown
end Go.Proofs.YtppggaiahkecoaaDoorX
/- Sections and lists of small numbers behind some bytes: the reference's. -/
namespace Go.Proofs.YtppggaiahkecoaaDoorX
open Go Go.SX

theorem i8_byte (x : Int) : IntKind.u8.wrap x = toB x := u8_mod x
theorem addNarrow_fn (v : Value) (m : Nat) (xs : List Int) (F : HL) (hown : OwnS 5 1 v m (xs.map (.int .u8)) F) (l : List Int) (a : Option Addr) (cap : Nat) (hm : m + l.length ≤ 1099511627776) :
    FC Tryd.prog 81 [v, .slice a l.length cap] F (fun h => SlA (Kd.int .i8) 1 h l a cap) (fun v L => OwnS 5 1 v (m + l.length) ((xs ++ l.map toB).map (.int .u8)) L) := by
  obtain ⟨a0, c0, rfl⟩ := hown.val
  refine FC.intro Tryd.func81 rfl (by kernel_rfl) 21 [.tmp 4] rfl rfl rfl ?_
  intro w0 hA
  have hsm := hA.bytes
  (repeat (first | (with_reducible apply XL.op) | ((with_reducible apply XOp.p1); (case hg | hv => exact rfl)) | (with_reducible apply XL.nilT) | (with_reducible apply XC.seq) | (with_reducible apply XC.region (Γ := Γ)) | (with_reducible apply XC.block)))
  refine XC.loop (fun k ρ L => ∃ (i : Nat) (v : Value) (F : HL), i + k = l.length ∧ OwnS 5 1 v (m + i) ((xs ++ (l.take i).map toB).map (.int .u8)) F ∧ L = F ++ [] ∧ Slots ρ [(0, v), (1, .slice a l.length cap), (5, .int .i64 i)])
    l.length ⟨0, _, F, by simp, hown.conv rfl (by simp), (List.append_nil _).symm, rfl, rfl, rfl, trivial⟩ ?_
  clear hown
  rintro k ρ L ⟨i, v, F, hik, hown, rfl, hs⟩
  obtain ⟨a', c', rfl⟩ := hown.val
  refine XC.slots _ hs ?_
  (repeat (first | (with_reducible apply XL.op) | ((with_reducible apply XOp.p1); (case hg | hv => exact rfl)) | (with_reducible apply XL.nilT) | (with_reducible apply XC.seq) | (with_reducible apply XC.region (Γ := Γ))))
  ((with_reducible apply XC.cond); (case hc => exact rfl); all_goals (intro hb_; try simp only [pd_true, pd_false, Bool.not_eq_true', Bool.not_eq_false', Bool.and_eq_true, Bool.and_eq_false_iff, Bool.or_eq_true, Bool.or_eq_false_iff, not_true_eq_false, not_false_eq_true, Int.not_lt, Int.not_le] at hb_))
  · obtain ⟨x, hi⟩ : ∃ x, l[i]? = some x := ⟨_, List.getElem?_eq_getElem (by omega)⟩
    have hc := (hA.int i (by omega)).1
    rw [hi] at hc
    change cellv _ _ = some (.int .i8 x) at hc
    (repeat (first | (with_reducible apply XL.op) | ((with_reducible apply XOp.p1); (case hg | hv => exact rfl)) | ((with_reducible apply XOp.pr); (case hg => exact rfl); (case hr => ((with_reducible apply PR.idxA); (case ht | hk | he | hx | hi => exact rfl); (case hr => first | assumption | omega); (case ha => first | assumption | exact SlA.at_ (by assumption))))) | (with_reducible apply XC.seq) | (with_reducible apply XC.region (Γ := Γ)) | (with_reducible apply XQ.skip) | (with_reducible apply XQ.nt) | (with_reducible apply XC.block) | (first | ((with_reducible apply XOp.load); (case hg | ht | hk | hx => exact rfl); (case hc => exact Known.of_old hc (Mono.cell _ _))) | ((with_reducible apply XP.load); (case ho | hg | ht | hk | hx => exact rfl); (case hc => exact Known.of_old hc (Mono.cell _ _))))))
    ((with_reducible apply XOp.buildSlice); (case hg | ht | hk | he | hz | hzl | hf => exact rfl); intro bb)
    (repeat ((with_reducible apply XL.op)))
    ((with_reducible apply XOp.append1); (case hg => exact rfl); (case ht => exact rfl); (case hk => exact rfl); (case he => exact rfl); (case hown => exact hown); (case hs => exact rfl); (case hx => exact rfl); (case hL => exact rfl); (case hl => exact rfl); (case h1 => exact rfl); (case hz => exact rfl); (case hsz => exact Nat.zero_lt_succ _); (case hk0 => exact Nat.zero_lt_succ _); (case h63 => simp only [maxLen]; omega); (case hb => simp only []; omega); intro v_ F_ hown_; obtain ⟨a_, c_, rfl⟩ := hown_.val)
    (repeat (first | (with_reducible apply XL.op) | ((with_reducible apply XOp.p1); (case hg | hv => exact rfl)) | (with_reducible apply XL.nilT) | (with_reducible apply XC.region (Γ := Γ)) | (with_reducible apply XL.nilQ) | (with_reducible apply XQ.nt) | (with_reducible apply XQ.nb)))
    exact ⟨k - 1, by omega, i + 1, _, F_, by omega, hown_.conv rfl (by rw [take_snocD hi, i8_byte]; simp [zerosL]), rfl, rfl, rfl, intS (m := l.length) (by omega) (by omega), trivial⟩
  · obtain rfl : i = l.length := by omega
    rw [List.take_length] at hown
    (repeat (first | (with_reducible apply XL.op) | ((with_reducible apply XOp.p1); (case hg | hv => exact rfl)) | (with_reducible apply XL.nilT) | (with_reducible apply XC.seq) | (with_reducible apply XC.region (Γ := Γ)) | (with_reducible apply XQ.ret) | (with_reducible apply XQ.exit) | (with_reducible apply XQ.nt) | (with_reducible apply XQ.et) | ((with_reducible apply XQ.eb); (case hb => exact rfl))))
    ((with_reducible apply XQ.retE); (case hr => exact .t rfl .nil))
    rw [List.append_nil]
    exact hown
theorem refSection_fn (v : Value) (m : Nat) (xs : List Int) (F : HL) (hown : OwnS 5 1 v m (xs.map (.int .u8)) F) (letter : Int) (body : List Int) (a : Option Addr) (cap : Nat) (hm : m + 5 + body.length ≤ 1099511627776) :
    FC Tryd.prog 79 [v, .int .u8 letter, .slice a body.length cap] F (fun h => SlA (Kd.int .u8) 1 h body a cap) (fun v L => OwnS 5 1 v (m + 5 + body.length) ((xs ++ secB letter body).map (.int .u8)) L) := by
  obtain ⟨a0, c0, rfl⟩ := hown.val
  refine FC.intro Tryd.func79 rfl (by kernel_rfl) 31 [.tmp 6] rfl rfl rfl ?_
  intro w0 hA
  have hsm := hA.bytes
  (repeat (first | (with_reducible apply XL.op) | ((with_reducible apply XOp.p1); (case hg | hv => exact rfl)) | (with_reducible apply XL.nilT) | (with_reducible apply XC.seq) | (with_reducible apply XC.region (Γ := Γ))))
  ((with_reducible apply XOp.buildSlice); (case hg | ht | hk | he | hz | hzl | hf => exact rfl); intro bb)
  (repeat ((with_reducible apply XL.op)))
  (refine (show XOp _ _ _ _ _ _ _ _ ((bb, Obj.cells ⟨[.int .u8 letter]⟩ 5 (0, 0)) :: F) from XOp.perm (L' :=  (bb, Obj.cells ⟨[.int .u8 letter]⟩ 5 (0, 0)) :: (F ++ [])) rfl ?_ (by (first | (with_reducible exact List.Perm.refl _) | refine perm_of_cnt fun p_ => ?_; simp only [List.countP_append, List.countP_cons, List.countP_nil]; omega))))
  ((with_reducible apply XOp.append1); (case hg => exact rfl); (case ht => exact rfl); (case hk => exact rfl); (case he => exact rfl); (case hown => exact hown); (case hs => exact rfl); (case hx => exact rfl); (case hL => exact rfl); (case hl => exact rfl); (case h1 => exact rfl); (case hz => exact rfl); (case hsz => exact Nat.zero_lt_succ _); (case hk0 => exact Nat.zero_lt_succ _); (case h63 => simp only [maxLen]; omega); (case hb => simp only []; omega); intro v_ F_ hown_; obtain ⟨a_, c_, rfl⟩ := hown_.val)
  (repeat (first | (with_reducible apply XL.op) | ((with_reducible apply XOp.p1); (case hg | hv => exact rfl)) | (with_reducible apply XL.nilT) | (with_reducible apply XC.seq) | (with_reducible apply XC.region (Γ := Γ))))
  have ew : IntKind.u64.wrap ((body.length : Nat) : Int) = ((body.length : Nat) : Int) := wrap_of (inK_u64.2 (by omega))
  rw [ew]
  ((with_reducible apply XOp.call (L0 := F_) (hF :=  addNumber_fn (.slice a_ (m + 1) c_) (m + 1) (xs ++ [letter]) F_ (hown_.conv rfl (by simp [zerosL])) body.length (inK_u64.2 (by omega)) 4 (by omega))); (case hg => exact rfl); (case hc => exact rfl); (case ha => exact rfl); (case hL => exact rfl))
  · exact Known.true
  intro v1 F1 hown1
  obtain ⟨a1, c1, rfl⟩ := hown1.val
  (repeat (first | (with_reducible apply XL.op) | ((with_reducible apply XOp.p1); (case hg | hv => exact rfl)) | (with_reducible apply XL.nilT) | (with_reducible apply XC.seq) | (with_reducible apply XC.region (Γ := Γ)) | (with_reducible apply XC.block)))
  refine XC.loop (fun k ρ L => ∃ (i : Nat) (v : Value) (F : HL), i + k = body.length ∧ OwnS 5 1 v (m + 5 + i) ((xs ++ (letter :: (numB body.length 4 ++ body.take i))).map (.int .u8)) F ∧ L = F ++ [] ∧ Slots ρ [(0, v), (2, .slice a body.length cap), (7, .int .i64 i)])
    body.length ⟨0, _, F1, by simp, hown1.conv (by omega) (by simp), rfl, rfl, rfl, rfl, trivial⟩ ?_
  clear hown hown_ hown1
  rintro k ρ L ⟨i, v, F, hik, hown, rfl, hs⟩
  obtain ⟨a', c', rfl⟩ := hown.val
  refine XC.slots _ hs ?_
  (repeat (first | (with_reducible apply XL.op) | ((with_reducible apply XOp.p1); (case hg | hv => exact rfl)) | (with_reducible apply XL.nilT) | (with_reducible apply XC.seq) | (with_reducible apply XC.region (Γ := Γ))))
  ((with_reducible apply XC.cond); (case hc => exact rfl); all_goals (intro hb_; try simp only [pd_true, pd_false, Bool.not_eq_true', Bool.not_eq_false', Bool.and_eq_true, Bool.and_eq_false_iff, Bool.or_eq_true, Bool.or_eq_false_iff, not_true_eq_false, not_false_eq_true, Int.not_lt, Int.not_le] at hb_))
  · obtain ⟨x, hi⟩ : ∃ x, body[i]? = some x := ⟨_, List.getElem?_eq_getElem (by omega)⟩
    have hc := (hA.int i (by omega)).1
    rw [hi] at hc
    change cellv _ _ = some (.int .u8 x) at hc
    (repeat (first | (with_reducible apply XL.op) | ((with_reducible apply XOp.p1); (case hg | hv => exact rfl)) | ((with_reducible apply XOp.pr); (case hg => exact rfl); (case hr => ((with_reducible apply PR.idxA); (case ht | hk | he | hx | hi => exact rfl); (case hr => first | assumption | omega); (case ha => first | assumption | exact SlA.at_ (by assumption))))) | (with_reducible apply XC.seq) | (with_reducible apply XC.region (Γ := Γ)) | (with_reducible apply XQ.skip) | (with_reducible apply XQ.nt) | (with_reducible apply XC.block) | (first | ((with_reducible apply XOp.load); (case hg | ht | hk | hx => exact rfl); (case hc => exact Known.of_old hc (Mono.cell _ _))) | ((with_reducible apply XP.load); (case ho | hg | ht | hk | hx => exact rfl); (case hc => exact Known.of_old hc (Mono.cell _ _))))))
    ((with_reducible apply XOp.buildSlice); (case hg | ht | hk | he | hz | hzl | hf => exact rfl); intro b2)
    (repeat ((with_reducible apply XL.op)))
    ((with_reducible apply XOp.append1); (case hg => exact rfl); (case ht => exact rfl); (case hk => exact rfl); (case he => exact rfl); (case hown => exact hown); (case hs => exact rfl); (case hx => exact rfl); (case hL => exact rfl); (case hl => exact rfl); (case h1 => exact rfl); (case hz => exact rfl); (case hsz => exact Nat.zero_lt_succ _); (case hk0 => exact Nat.zero_lt_succ _); (case h63 => simp only [maxLen]; omega); (case hb => simp only []; omega); intro v_ F_ hown_; obtain ⟨a_, c_, rfl⟩ := hown_.val)
    (repeat (first | (with_reducible apply XL.op) | ((with_reducible apply XOp.p1); (case hg | hv => exact rfl)) | (with_reducible apply XL.nilT) | (with_reducible apply XC.region (Γ := Γ)) | (with_reducible apply XL.nilQ) | (with_reducible apply XQ.nt) | (with_reducible apply XQ.nb)))
    exact ⟨k - 1, by omega, i + 1, _, F_, by omega, hown_.conv (by omega) (by rw [take_snocD hi]; simp [zerosL]), rfl, rfl, rfl, intS (m := body.length) (by omega) (by omega), trivial⟩
  · obtain rfl : i = body.length := by omega
    rw [List.take_length] at hown
    (repeat (first | (with_reducible apply XL.op) | ((with_reducible apply XOp.p1); (case hg | hv => exact rfl)) | (with_reducible apply XL.nilT) | (with_reducible apply XC.seq) | (with_reducible apply XC.region (Γ := Γ)) | (with_reducible apply XQ.ret) | (with_reducible apply XQ.exit) | (with_reducible apply XQ.nt) | (with_reducible apply XQ.et) | ((with_reducible apply XQ.eb); (case hb => exact rfl))))
    ((with_reducible apply XQ.retE); (case hr => exact .t rfl .nil))
    rw [List.append_nil]
    exact hown
end Go.Proofs.YtppggaiahkecoaaDoorX
/- Sections behind some bytes: the program's. -/
namespace Go.Proofs.YtppggaiahkecoaaDoorX
open Go Go.SX

theorem rowInts {h : HV} {l : List Int} {k : IntKind} {by_ : Nat} {a : Option Addr} {cap : Nat} (s : SlA (Kd.int k) by_ h l a cap) : rowv h (ablk a) (aoff a) (l.map (.int k)) := fun i v hv => by
  obtain ⟨hl, he⟩ := List.getElem?_eq_some_iff.1 hv
  rw [List.length_map] at hl
  have := (s.int i hl).1
  rw [List.getElem?_eq_getElem hl] at this
  rw [List.getElem_map] at he
  rw [← he]
  simpa using this
theorem section_fn (v : Value) (m : Nat) (xs : List Int) (F : HL) (hown : OwnS 5 1 v m (xs.map (.int .u8)) F) (letter : Int) (body : List Int) (a : Option Addr) (cap : Nat) (hm : m + 5 + body.length ≤ 1099511627776) :
    FC Tryd.prog 31 [v, .int .u8 letter, .slice a body.length cap] F (fun h => SlA (Kd.int .u8) 1 h body a cap) (fun v L => OwnS 5 1 v (m + 5 + body.length) ((xs ++ secB letter body).map (.int .u8)) L) := by
  obtain ⟨a0, c0, rfl⟩ := hown.val
  refine FC.intro Tryd.func31 rfl (by kernel_rfl) 18 [.tmp 6] rfl rfl rfl ?_
  intro w0 hA
  have hsm := hA.bytes
  (repeat (first | (with_reducible apply XL.op) | ((with_reducible apply XOp.p1); (case hg | hv => exact rfl)) | (with_reducible apply XL.nilT) | (with_reducible apply XC.seq) | (with_reducible apply XC.region (Γ := Γ))))
  ((with_reducible apply XOp.buildSlice); (case hg | ht | hk | he | hz | hzl | hf => exact rfl); intro bb)
  (repeat ((with_reducible apply XL.op)))
  (refine (show XOp _ _ _ _ _ _ _ _ ((bb, Obj.cells ⟨[.int .u8 letter]⟩ 5 (0, 0)) :: F) from XOp.perm (L' :=  (bb, Obj.cells ⟨[.int .u8 letter]⟩ 5 (0, 0)) :: (F ++ [])) rfl ?_ (by (first | (with_reducible exact List.Perm.refl _) | refine perm_of_cnt fun p_ => ?_; simp only [List.countP_append, List.countP_cons, List.countP_nil]; omega))))
  ((with_reducible apply XOp.append1); (case hg => exact rfl); (case ht => exact rfl); (case hk => exact rfl); (case he => exact rfl); (case hown => exact hown); (case hs => exact rfl); (case hx => exact rfl); (case hL => exact rfl); (case hl => exact rfl); (case h1 => exact rfl); (case hz => exact rfl); (case hsz => exact Nat.zero_lt_succ _); (case hk0 => exact Nat.zero_lt_succ _); (case h63 => simp only [maxLen]; omega); (case hb => simp only []; omega); intro v_ F_ hown_; obtain ⟨a_, c_, rfl⟩ := hown_.val)
  (repeat (first | (with_reducible apply XL.op) | ((with_reducible apply XOp.p1); (case hg | hv => exact rfl))))
  have ew : IntKind.u64.wrap ((body.length : Nat) : Int) = ((body.length : Nat) : Int) := wrap_of (inK_u64.2 (by omega))
  rw [ew]
  ((with_reducible apply XOp.call (L0 := F_) (hF :=  number_fn (.slice a_ (m + 1) c_) (m + 1) (xs ++ [letter]) F_ (hown_.conv rfl (by simp [zerosL])) body.length (inK_u64.2 (by omega)) 4 (by omega))); (case hg => exact rfl); (case hc => exact rfl); (case ha => exact rfl); (case hL => exact rfl))
  · exact Known.true
  intro v1 F1 hown1
  obtain ⟨a1, c1, rfl⟩ := hown1.val
  (repeat (first | (with_reducible apply XL.op) | ((with_reducible apply XOp.p1); (case hg | hv => exact rfl)) | (with_reducible apply XL.nilT) | (with_reducible apply XC.seq) | (with_reducible apply XC.region (Γ := Γ))))
  ((with_reducible apply XOp.appendG); (case hg => exact rfl); (case ht => exact rfl); (case hk => exact rfl); (case he => exact rfl); (case hs => exact rfl); (case hx => exact rfl); (case hown => exact hown1); (case hL => rfl); (case ha => exact hA.at_); (case hc => exact fun _ => Known.of_old (rowInts hA) (Mono.row _ _ _)); (case hl => exact by simp); (case h1 => exact List.all_eq_true.2 fun v hv => by obtain ⟨x, _, rfl⟩ := List.mem_map.1 hv; rfl); (case hz => exact rfl); (case hsz => exact Nat.zero_lt_succ _); (case h63 => simp only [maxLen]; omega); (case hb => simp only []; omega))
  intro v2 F2 hown2
  obtain ⟨a2, c2, rfl⟩ := hown2.val
  (repeat (first | (with_reducible apply XL.op) | ((with_reducible apply XOp.p1); (case hg | hv => exact rfl)) | (with_reducible apply XL.nilT) | (with_reducible apply XQ.ret)))
  ((with_reducible apply XQ.retE); (case hr => exact .t rfl .nil))
  rw [List.append_nil]
  exact hown2.conv (by omega) (by simp [secB])
end Go.Proofs.YtppggaiahkecoaaDoorX
/- Lists of small numbers behind some bytes: the program's. -/
namespace Go.Proofs.YtppggaiahkecoaaDoorX
open Go Go.SX

/-- A list and where it lies. -/
abbrev LV := List Int × Option Addr × Nat
def lvx (x : LV) : List Value := [.slice x.2.1 x.1.length x.2.2]
def lvB (x : LV) : List Int := x.1.map toB
def sumL (ls : List LV) : Nat := (ls.flatMap lvB).length
theorem sumL_take {ls : List LV} {i : Nat} {x : LV} (h : ls[i]? = some x) : sumL (ls.take (i + 1)) = sumL (ls.take i) + x.1.length := by
  unfold sumL; rw [take_snocD h, List.flatMap_append, List.length_append]; simp [lvB]
theorem sumL_le (ls : List LV) (i : Nat) : sumL (ls.take i) ≤ sumL ls := by
  unfold sumL
  conv => rhs; rw [← List.take_append_drop i ls, List.flatMap_append, List.length_append]
  omega
set_option maxHeartbeats 4000000 in
theorem bytes_fn (v : Value) (m : Nat) (xs : List Int) (F : HL) (hown : OwnS 5 1 v m (xs.map (.int .u8)) F) (ls : List LV) (a : Option Addr) (cap : Nat) (hm : m + sumL ls ≤ 1099511627776) :
    FC Tryd.prog 32 [v, .slice a ls.length cap] F (fun h => SlA (Kd.raw lvx 1 (fun _ => rfl)) 24 h ls a cap ∧ ∀ x ∈ ls, SlA (Kd.int .i8) 1 h x.1 x.2.1 x.2.2)
    (fun v L => OwnS 5 1 v (m + sumL ls) ((xs ++ ls.flatMap lvB).map (.int .u8)) L) := by
  obtain ⟨a0, c0, rfl⟩ := hown.val
  refine FC.intro Tryd.func32 rfl (by kernel_rfl) 29 [.tmp 4] rfl rfl rfl ?_
  rintro w0 ⟨hA, hx⟩
  have hsm := hA.bytes
  (repeat (first | (with_reducible apply XL.op) | ((with_reducible apply XOp.p1); (case hg | hv => exact rfl)) | (with_reducible apply XL.nilT) | (with_reducible apply XC.seq) | (with_reducible apply XC.region (Γ := Γ)) | (with_reducible apply XC.block)))
  refine XC.loop (fun k ρ L => ∃ (i : Nat) (v : Value) (F : HL), i + k = ls.length ∧ OwnS 5 1 v (m + sumL (ls.take i)) ((xs ++ (ls.take i).flatMap lvB).map (.int .u8)) F ∧ L = F ++ [] ∧ Slots ρ [(0, v), (9, .slice a ls.length cap), (10, .int .i64 ls.length), (11, .int .i64 i)])
    ls.length ⟨0, _, F, by simp, hown.conv (by simp [sumL]) (by simp), (List.append_nil _).symm, rfl, rfl, rfl, rfl, trivial⟩ ?_
  clear hown
  rintro k ρ L ⟨i, v, F, hik, hown, rfl, hs⟩
  obtain ⟨a', c', rfl⟩ := hown.val
  refine XC.slots _ hs ?_
  (repeat (first | (with_reducible apply XL.op) | ((with_reducible apply XOp.p1); (case hg | hv => exact rfl)) | (with_reducible apply XL.nilT) | (with_reducible apply XC.seq) | (with_reducible apply XC.region (Γ := Γ))))
  ((with_reducible apply XC.cond); (case hc => exact rfl); all_goals (intro hb_; try simp only [pd_true, pd_false, Bool.not_eq_true', Bool.not_eq_false', Bool.and_eq_true, Bool.and_eq_false_iff, Bool.or_eq_true, Bool.or_eq_false_iff, not_true_eq_false, not_false_eq_true, Int.not_lt, Int.not_le] at hb_))
  · obtain ⟨x, hi⟩ : ∃ x, ls[i]? = some x := ⟨_, List.getElem?_eq_getElem (by omega)⟩
    have hc : cellv (oldv w0 _) ⟨ablk a, aoff a + i * 1, none⟩ = some (.slice x.2.1 x.1.length x.2.2) := hA.rawAt hi 0 _ rfl
    have hX := hx x (List.mem_of_getElem? hi)
    have hxb := hX.bytes
    have hle := sumL_le ls (i + 1)
    rw [sumL_take hi] at hle
    (repeat (first | (with_reducible apply XL.op) | ((with_reducible apply XOp.p1); (case hg | hv => exact rfl)) | ((with_reducible apply XOp.pr); (case hg => exact rfl); (case hr => ((with_reducible apply PR.idxA); (case ht | hk | he | hx | hi => exact rfl); (case hr => first | assumption | omega); (case ha => first | assumption | exact SlA.at_ (by assumption))))) | (with_reducible apply XL.nilT) | (with_reducible apply XC.seq) | (with_reducible apply XC.region (Γ := Γ)) | (with_reducible apply XQ.skip) | (with_reducible apply XQ.nt) | (with_reducible apply XC.block) | (first | ((with_reducible apply XOp.load); (case hg | ht | hk | hx => exact rfl); (case hc => exact Known.of_old hc (Mono.cell _ _))) | ((with_reducible apply XP.load); (case ho | hg | ht | hk | hx => exact rfl); (case hc => exact Known.of_old hc (Mono.cell _ _))))))
    refine XC.loop (fun k ρ L => ∃ (j : Nat) (v : Value) (F : HL), j + k = x.1.length ∧ OwnS 5 1 v (m + sumL (ls.take i) + j) ((xs ++ ((ls.take i).flatMap lvB ++ (x.1.take j).map toB)).map (.int .u8)) F ∧ L = F ++ [] ∧ Slots ρ [(0, v), (9, .slice a ls.length cap), (10, .int .i64 ls.length), (11, .int .i64 i), (15, .slice x.2.1 x.1.length x.2.2), (16, .int .i64 x.1.length), (17, .int .i64 j)])
      x.1.length ⟨0, _, F, by simp, hown.conv (by simp) (by simp), rfl, rfl, rfl, rfl, rfl, rfl, rfl, rfl, trivial⟩ ?_
    clear hown
    rintro k2 ρ L ⟨j, v, F, hjk, hown, rfl, hs⟩
    obtain ⟨a', c', rfl⟩ := hown.val
    refine XC.slots _ hs ?_
    (repeat (first | (with_reducible apply XL.op) | ((with_reducible apply XOp.p1); (case hg | hv => exact rfl)) | (with_reducible apply XL.nilT) | (with_reducible apply XC.seq) | (with_reducible apply XC.region (Γ := Γ))))
    ((with_reducible apply XC.cond); (case hc => exact rfl); all_goals (intro hb_; try simp only [pd_true, pd_false, Bool.not_eq_true', Bool.not_eq_false', Bool.and_eq_true, Bool.and_eq_false_iff, Bool.or_eq_true, Bool.or_eq_false_iff, not_true_eq_false, not_false_eq_true, Int.not_lt, Int.not_le] at hb_))
    · obtain ⟨y, hj⟩ : ∃ y, x.1[j]? = some y := ⟨_, List.getElem?_eq_getElem (by omega)⟩
      have hcy := (hX.int j (by omega)).1
      rw [hj] at hcy
      change cellv _ _ = some (.int .i8 y) at hcy
      (repeat (first | (with_reducible apply XL.op) | ((with_reducible apply XOp.p1); (case hg | hv => exact rfl)) | ((with_reducible apply XOp.pr); (case hg => exact rfl); (case hr => ((with_reducible apply PR.idxA); (case ht | hk | he | hx | hi => exact rfl); (case hr => first | assumption | omega); (case ha => first | assumption | exact SlA.at_ (by assumption))))) | (with_reducible apply XL.nilT) | (with_reducible apply XC.seq) | (with_reducible apply XC.region (Γ := Γ)) | (with_reducible apply XQ.skip) | (with_reducible apply XQ.nt) | (with_reducible apply XC.block) | (first | ((with_reducible apply XOp.load); (case hg | ht | hk | hx => exact rfl); (case hc => exact Known.of_old hcy (Mono.cell _ _))) | ((with_reducible apply XP.load); (case ho | hg | ht | hk | hx => exact rfl); (case hc => exact Known.of_old hcy (Mono.cell _ _))))))
      ((with_reducible apply XOp.buildSlice); (case hg | ht | hk | he | hz | hzl | hf => exact rfl); intro b2)
      (repeat ((with_reducible apply XL.op)))
      ((with_reducible apply XOp.append1); (case hg => exact rfl); (case ht => exact rfl); (case hk => exact rfl); (case he => exact rfl); (case hown => exact hown); (case hs => exact rfl); (case hx => exact rfl); (case hL => exact rfl); (case hl => exact rfl); (case h1 => exact rfl); (case hz => exact rfl); (case hsz => exact Nat.zero_lt_succ _); (case hk0 => exact Nat.zero_lt_succ _); (case h63 => simp only [maxLen]; omega); (case hb => simp only []; omega); intro v_ F_ hown_; obtain ⟨a_, c_, rfl⟩ := hown_.val)
      (repeat (first | (with_reducible apply XL.op) | ((with_reducible apply XOp.p1); (case hg | hv => exact rfl)) | (with_reducible apply XL.nilT) | (with_reducible apply XC.region (Γ := Γ)) | (with_reducible apply XL.nilQ) | (with_reducible apply XQ.nt) | (with_reducible apply XQ.nb)))
      exact ⟨k2 - 1, by omega, j + 1, _, F_, by omega, hown_.conv (by omega) (by rw [take_snocD hj, i8_byte]; simp [zerosL]), rfl, rfl, rfl, rfl, rfl, rfl, rfl, intS (m := x.1.length) (by omega) (by omega), trivial⟩
    · obtain rfl : j = x.1.length := by omega
      rw [List.take_length] at hown
      (repeat (first | (with_reducible apply XL.op) | ((with_reducible apply XOp.p1); (case hg | hv => exact rfl)) | (with_reducible apply XL.nilT) | (with_reducible apply XC.region (Γ := Γ)) | (with_reducible apply XQ.exit) | (with_reducible apply XQ.nt) | (with_reducible apply XQ.nb) | (with_reducible apply XQ.et) | ((with_reducible apply XQ.eb); (case hb => exact rfl))))
      exact ⟨k - 1, by omega, i + 1, _, F, by omega, hown.conv (by rw [sumL_take hi]; omega) (by rw [take_snocD hi]; simp [lvB]), rfl, rfl, rfl, rfl, intS (m := ls.length) (by omega) (by omega), trivial⟩
  · obtain rfl : i = ls.length := by omega
    rw [List.take_length] at hown
    (repeat (first | (with_reducible apply XL.op) | ((with_reducible apply XOp.p1); (case hg | hv => exact rfl)) | (with_reducible apply XL.nilT) | (with_reducible apply XC.seq) | (with_reducible apply XC.region (Γ := Γ)) | (with_reducible apply XQ.ret) | (with_reducible apply XQ.exit) | (with_reducible apply XQ.nt) | (with_reducible apply XQ.et) | ((with_reducible apply XQ.eb); (case hb => exact rfl))))
    ((with_reducible apply XQ.retE); (case hr => exact .t rfl .nil))
    rw [List.append_nil, List.take_length]
    exact hown
end Go.Proofs.YtppggaiahkecoaaDoorX
/- Measures of a layer's matrices. -/
namespace Go.Proofs.YtppggaiahkecoaaDoorX
open Go Go.SX

theorem head_div {c : Cfg} (hc : c.may) : IntKind.i64.wrap (c.Width.tdiv c.Heads) = c.head := by
  obtain ⟨n1, n2, _, _⟩ := may_nn hc
  have hW := hc.2.1
  unfold Cfg.head at *
  rw [Int.tdiv_eq_ediv_of_nonneg (by omega), wrap64_of (by omega) (by omega)]
theorem head_fn (c : Cfg) (hc : c.may) : FC Tryd.prog 69 [.agg ⟨c.cells⟩] [] (fun _ => True) (fun v L => v = .int .i64 c.head ∧ L = []) := by
  refine FC.nil ?_
  refine FC.intro Tryd.func69 rfl (by kernel_rfl) 8 [.tmp 2] rfl rfl rfl ?_
  intro w0 _
  have hH := hc.2.2.1
  (repeat (first | (with_reducible apply XL.op) | (with_reducible apply XC.seq) | (with_reducible apply XC.region (Γ := Γ))))
  ((with_reducible apply XOp.box); (case hg | hx' => exact rfl); intro cb)
  (repeat (first | (with_reducible apply XL.op) | ((with_reducible apply XOp.p1); (case hg | hv => exact rfl)) | ((with_reducible apply XOp.load); (case hg | ht | hk | hx => exact rfl); (case hc => exact own_cell (i := 0) rfl rfl)) | ((with_reducible apply XOp.pr); (case hg => exact rfl); (case hr => ((with_reducible apply PR.quo); (case hx | hy => exact rfl); (case hr => first | assumption | omega | (rw [wrap64_of (by omega) (by omega)]; omega))))) | (with_reducible apply XL.nilT) | (with_reducible apply XC.seq) | (with_reducible apply XC.region (Γ := Γ)) | (with_reducible apply XQ.ret)))
  ((with_reducible apply XQ.retE); (case hr => exact .t rfl .nil))
  exact congrArg (Value.int .i64) (head_div hc)
theorem refHead_fn (c : Cfg) (hc : c.may) : FC Tryd.prog 48 [.agg ⟨c.cells⟩] [] (fun _ => True) (fun v L => v = .int .i64 c.head ∧ L = []) := by
  refine FC.nil ?_
  refine FC.intro Tryd.func48 rfl (by kernel_rfl) 8 [.tmp 2] rfl rfl rfl ?_
  intro w0 _
  have hH := hc.2.2.1
  (repeat (first | (with_reducible apply XL.op) | (with_reducible apply XC.seq) | (with_reducible apply XC.region (Γ := Γ))))
  ((with_reducible apply XOp.box); (case hg | hx' => exact rfl); intro cb)
  (repeat (first | (with_reducible apply XL.op) | ((with_reducible apply XOp.p1); (case hg | hv => exact rfl)) | ((with_reducible apply XOp.load); (case hg | ht | hk | hx => exact rfl); (case hc => exact own_cell (i := 0) rfl rfl)) | ((with_reducible apply XOp.pr); (case hg => exact rfl); (case hr => ((with_reducible apply PR.quo); (case hx | hy => exact rfl); (case hr => first | assumption | omega | (rw [wrap64_of (by omega) (by omega)]; omega))))) | (with_reducible apply XL.nilT) | (with_reducible apply XC.seq) | (with_reducible apply XC.region (Γ := Γ)) | (with_reducible apply XQ.ret)))
  ((with_reducible apply XQ.retE); (case hr => exact .t rfl .nil))
  exact congrArg (Value.int .i64) (head_div hc)
def measS (c : Cfg) (s : Int) : Int := if s = 1 then c.keys else if s = 2 then c.Hidden else c.Width
theorem measure_fn (c : Cfg) (hc : c.may) (s : Int) : FC Tryd.prog 78 [.agg ⟨c.cells⟩, .int .i64 s] [] (fun _ => True) (fun v L => v = .int .i64 (measS c s) ∧ L = []) := by
  refine FC.nil ?_
  refine FC.intro Tryd.func78 rfl (by kernel_rfl) 19 [.tmp 4] rfl rfl rfl ?_
  intro w0 _
  obtain ⟨_, _, n1, n2⟩ := may_nn hc
  have ew : IntKind.i64.wrap (c.KV * c.head) = c.keys := by unfold Cfg.keys at *; exact wrap64_of (by omega) (by omega)
  (repeat (first | (with_reducible apply XL.op) | (with_reducible apply XC.seq) | (with_reducible apply XC.region (Γ := Γ))))
  ((with_reducible apply XOp.box); (case hg | hx' => exact rfl); intro cb)
  (repeat (first | (with_reducible apply XL.op) | ((with_reducible apply XOp.p1); (case hg | hv => exact rfl)) | (with_reducible apply XL.nilT) | (with_reducible apply XC.seq) | (with_reducible apply XC.region (Γ := Γ)) | (with_reducible apply XC.block)))
  ((with_reducible apply XC.cond); (case hc => exact rfl); all_goals (intro hb_; try simp only [pd_true, pd_false, Bool.not_eq_true', Bool.not_eq_false', Bool.and_eq_true, Bool.and_eq_false_iff, Bool.or_eq_true, Bool.or_eq_false_iff, not_true_eq_false, not_false_eq_true, Int.not_lt, Int.not_le] at hb_))
  · (repeat ((with_reducible apply XC.seq)))
    ((with_reducible apply XC.regionD (Γ := Γ) mixed (.q 0 (.q 1 (.q 2 (.e 3 (.q 4 (.q 5 (.done))))))) [] []); (case hc => kernel_rfl))
    (repeat (first | (with_reducible apply XQ.ret) | (with_reducible apply XQ.nt) | (with_reducible apply XQ.rt) | (with_reducible apply XQ.rb) | ((with_reducible apply XP.p1); (case ho | hg | hv => exact rfl)) | ((with_reducible apply XP.load); (case ho | hg | ht | hk | hx => exact rfl); (case hc => exact own_cell (i := 0) rfl rfl)) | ((with_reducible apply XP.loadO (j := 0)); (case ho | hg | ht | hk | hx | hi | hc => exact rfl)) | (with_reducible apply XP.done) | ((with_reducible apply XP.e); (first | ((with_reducible apply XE.d); (case ho => exact rfl); (case hd => exact rfl)) | ((with_reducible apply XE.e); (case ho => exact rfl)))) | ((with_reducible apply XP.keep); (case hk => first | ((repeat' (first | exact List.forall_mem_nil _ | (with_reducible refine List.forall_mem_cons.2 ⟨?_, ?_⟩) | exact List.mem_cons_self .. | (with_reducible apply List.mem_cons_of_mem) | (with_reducible apply List.mem_append_right))); done) | (intro x hx; first | exact sel_in hx | exact List.mem_cons_of_mem _ (sel_in hx) | exact List.mem_append_right _ (sel_in hx) | exact hx | exact List.mem_cons_of_mem _ hx | exact List.mem_append_right _ hx | ((repeat (first | exact sel_in hx | exact hx | (with_reducible apply List.mem_cons_of_mem) | (with_reducible apply List.mem_append_right))); done) | cases hx))) | (((with_reducible apply XOp.callQ (hF := head_fn c hc)); (case hg => exact rfl); (case hc => exact rfl); (case ha => exact rfl); try (case hA => exact Known.true)); rintro _ rfl)))
    ((with_reducible apply XQ.retE); (case hr => exact .t rfl .nil))
    exact congrArg (Value.int .i64) (ew.trans (by unfold measS; rw [if_pos (by assumption)]))
  · (repeat (first | (with_reducible apply XL.op) | ((with_reducible apply XOp.p1); (case hg | hv => exact rfl)) | (with_reducible apply XL.nilT) | (with_reducible apply XC.seq) | (with_reducible apply XC.region (Γ := Γ))))
    ((with_reducible apply XC.cond); (case hc => exact rfl); all_goals (intro hb_; try simp only [pd_true, pd_false, Bool.not_eq_true', Bool.not_eq_false', Bool.and_eq_true, Bool.and_eq_false_iff, Bool.or_eq_true, Bool.or_eq_false_iff, not_true_eq_false, not_false_eq_true, Int.not_lt, Int.not_le] at hb_))
    · (repeat (first | (with_reducible apply XL.op) | ((with_reducible apply XOp.p1); (case hg | hv => exact rfl)) | ((with_reducible apply XOp.load); (case hg | ht | hk | hx => exact rfl); (case hc => exact own_cell (i := 0) rfl rfl)) | (with_reducible apply XL.nilT) | (with_reducible apply XC.seq) | (with_reducible apply XC.region (Γ := Γ)) | (with_reducible apply XQ.ret) | (with_reducible apply XQ.rt) | (with_reducible apply XQ.rb)))
      ((with_reducible apply XQ.retE); (case hr => exact .t rfl .nil))
      exact congrArg (Value.int .i64) (by unfold measS; rw [if_neg (by assumption), if_pos (by assumption)])
    · (repeat (first | (with_reducible apply XL.op) | ((with_reducible apply XOp.p1); (case hg | hv => exact rfl)) | ((with_reducible apply XOp.load); (case hg | ht | hk | hx => exact rfl); (case hc => exact own_cell (i := 0) rfl rfl)) | (with_reducible apply XL.nilT) | (with_reducible apply XC.seq) | (with_reducible apply XC.region (Γ := Γ)) | (with_reducible apply XQ.skip) | (with_reducible apply XQ.ret) | (with_reducible apply XQ.nt) | (with_reducible apply XQ.nb)))
      ((with_reducible apply XQ.retE); (case hr => exact .t rfl .nil))
      exact congrArg (Value.int .i64) (by unfold measS; rw [if_neg (by assumption), if_neg (by assumption)])
end Go.Proofs.YtppggaiahkecoaaDoorX
/- Is it a matrix of that shape? -/
namespace Go.Proofs.YtppggaiahkecoaaDoorX
open Go Go.SX

def shpP (m : Mat) (r c : Int) : Prop := m.Rows = r ∧ m.Cols = c ∧ matOk m
theorem errMat_zero {m : Mat} (h : errMat m = 0) : matOk m := by
  by_cases h2 : matOk m
  · exact h2
  · rw [errMat_no h2] at h; omega
theorem shaped_fn (m : Mat) (a : Option Addr) (cap : Nat) (r c : Int) : FC Tryd.prog 67 [.agg ⟨[.int .i64 m.Rows, .int .i64 m.Cols, .slice a m.Data.length cap]⟩, .int .i64 r, .int .i64 c] [] (fun h => SlA (Kd.int .i8) 1 h m.Data a cap)
    (fun v L => v = .bool (pd (shpP m r c)) ∧ L = []) := by
  refine FC.nil ?_
  refine FC.intro Tryd.func67 rfl (by kernel_rfl) 22 [.tmp 6] rfl rfl rfl ?_
  intro w0 hA
  (repeat (first | (with_reducible apply XL.op) | (with_reducible apply XC.seq) | (with_reducible apply XC.region (Γ := Γ))))
  ((with_reducible apply XOp.box); (case hg | hx' => exact rfl); intro mb)
  (repeat' (first | (with_reducible apply XL.op) | ((with_reducible apply XOp.p1); (case hg | hv => exact rfl)) | ((with_reducible apply XOp.p0); (case hg => exact rfl)) | ((with_reducible apply XOp.load); (case hg | ht | hk | hx => exact rfl); (case hc => exact own_cell (i := 0) rfl rfl)) | ((with_reducible apply XOp.loadO (i := 0)); (case hg | ht | hk | hx | hi | hc => exact rfl)) | (with_reducible apply XL.nilT) | (with_reducible apply XC.seq) | (with_reducible apply XC.region (Γ := Γ)) | (with_reducible apply XQ.ret) | (((with_reducible apply XOp.callQ (hF := matCheck_fn m a cap)); (case hg => exact rfl); (case hc => exact rfl); (case ha => exact rfl); try (case hA => exact Known.true)); (case hA => exact Known.of_old hA (Mono.sl _ _ _ _ _)); rintro _ rfl) | ((with_reducible apply XOp.split); (case hg | hj | hd | hb => exact rfl); (fail_if_success (case hf => exact fun h => Bool.noConfusion h)); (fail_if_success (case ht => exact fun h => Bool.noConfusion h)); all_goals (intro hb_; try simp only [pd_true, pd_false, Bool.not_eq_true', Bool.not_eq_false', Bool.and_eq_true, Bool.and_eq_false_iff, Bool.or_eq_true, Bool.or_eq_false_iff, not_true_eq_false, not_false_eq_true, Int.not_lt, Int.not_le] at hb_))))
  all_goals ((with_reducible apply XQ.retE); (case hr => exact .t rfl .nil))
  all_goals refine congrArg Value.bool ?_
  all_goals by_cases hs : shpP m r c
  all_goals first
    | (rw [pdt hs]; done)
    | (rw [pdt hs]; exact pdt (errMat_ok hs.2.2))
    | (exfalso; exact hb_ hs.1)
    | (exfalso; exact hb_ hs.2.1)
    | (rw [pdf hs]; done)
    | (rw [pdf hs]; exact pdf (fun h => hs ⟨by assumption, by assumption, errMat_zero h⟩))
theorem refIs_fn (m : Mat) (a : Option Addr) (cap : Nat) (r c : Int) : FC Tryd.prog 45 [.agg ⟨[.int .i64 m.Rows, .int .i64 m.Cols, .slice a m.Data.length cap]⟩, .int .i64 r, .int .i64 c] [] (fun h => SlA (Kd.int .i8) 1 h m.Data a cap)
    (fun v L => v = .bool (pd (shpP m r c)) ∧ L = []) := by
  refine FC.nil ?_
  refine FC.intro Tryd.func45 rfl (by kernel_rfl) 24 [.tmp 6] rfl rfl rfl ?_
  intro w0 hA
  (repeat (first | (with_reducible apply XL.op) | (with_reducible apply XC.seq) | (with_reducible apply XC.region (Γ := Γ))))
  ((with_reducible apply XOp.box); (case hg | hx' => exact rfl); intro mb)
  (repeat' (first | (with_reducible apply XL.op) | ((with_reducible apply XOp.p1); (case hg | hv => exact rfl)) | ((with_reducible apply XOp.p0); (case hg => exact rfl)) | ((with_reducible apply XOp.load); (case hg | ht | hk | hx => exact rfl); (case hc => exact own_cell (i := 0) rfl rfl)) | ((with_reducible apply XOp.loadO (i := 0)); (case hg | ht | hk | hx | hi | hc => exact rfl)) | (with_reducible apply XL.nilT) | (with_reducible apply XC.seq) | (with_reducible apply XC.region (Γ := Γ)) | (with_reducible apply XQ.ret) | (((with_reducible apply XOp.callQ (hF := refMat_fn m a cap)); (case hg => exact rfl); (case hc => exact rfl); (case ha => exact rfl); try (case hA => exact Known.true)); (case hA => exact Known.of_old hA (Mono.sl _ _ _ _ _)); rintro _ rfl) | ((with_reducible apply XOp.split); (case hg | hj | hd | hb => exact rfl); (fail_if_success (case hf => exact fun h => Bool.noConfusion h)); (fail_if_success (case ht => exact fun h => Bool.noConfusion h)); all_goals (intro hb_; try simp only [pd_true, pd_false, Bool.not_eq_true', Bool.not_eq_false', Bool.and_eq_true, Bool.and_eq_false_iff, Bool.or_eq_true, Bool.or_eq_false_iff, not_true_eq_false, not_false_eq_true, Int.not_lt, Int.not_le] at hb_))))
  all_goals ((with_reducible apply XQ.retE); (case hr => exact .t rfl .nil))
  all_goals refine congrArg Value.bool ?_
  all_goals by_cases hs : shpP m r c
  all_goals first
    | (rw [pdt hs]; done)
    | (rw [pdt hs]; exact pdt hs.2.1)
    | (exfalso; exact hb_ (errMat_ok hs.2.2))
    | (exfalso; exact hb_ hs.1)
    | (rw [pdf hs]; done)
    | (rw [pdf hs]; exact pdf (fun h => hs ⟨by assumption, h, errMat_zero (by assumption)⟩))
end Go.Proofs.YtppggaiahkecoaaDoorX
/- Lists of small numbers with marks behind them. -/
namespace Go.Proofs.YtppggaiahkecoaaDoorX
open Go Go.SX

theorem intS2 {i m : Nat} (h : i < m) (hm : m ≤ 4611686018427387904) : Value.int .i64 (IntKind.i64.wrap ((i : Int) + 1)) = .int .i64 ((i + 1 : Nat) : Int) := by rw [wrap64_of (by omega) (by omega)]; rfl
theorem XOp.storeE {P : Program} {Γ : Env P} {n : Nat} {w0 : World} {K : List Nat} {ops : List Oper} {N : Fr → HL → Prop} {ρ : Fr} {L : HL} {d : Option Nat} {t ty i b off : Nat} {x y : Operand} {pos : String} {af : Array Edge} {g : Option (Nat × Bool)} {r : TR} {v : Value} {cs cs' : List Value} {te : Nat} {L' : HL}
    (hg : gval n ρ ops g = some true) (ht : Γ.get t = some r) (hk : r.sz = 1) (hx : ev n ρ x = .pointer (some ⟨b, off, none⟩)) (hv' : force (ev n ρ y) = some v) (h1 : v.oneCell' = true)
    (hi : L[i]? = some (b, .cells ⟨cs⟩ te (0, 0))) (hs : off < cs.length ∧ cs.set off v = cs') (ha : aset L i (b, .cells ⟨cs'⟩ te (0, 0)) = some L')
    (h : N (updO ρ d undef) L') :
    XOp Γ n w0 K ops { dst := d, op := .store t x y, type := ty, pos := pos, after := af, guard := g } N ρ L := by
  obtain ⟨hs, rfl⟩ := hs
  exact XOp.storeAt hg ht hk hx hv' h1 hi hs ha h
def mk64 : List Int := List.replicate 64 (-128)
def mkS (l : List Int) (i : Nat) : List Value := ((l ++ mk64).take i).map (.int .i8) ++ zerosL [.int .i8 0] (l.length + 64 - i)
end Go.Proofs.YtppggaiahkecoaaDoorX
/- The turns' bytes: the reference's. -/
namespace Go.Proofs.YtppggaiahkecoaaDoorX
open Go Go.SX

def turnV (x : Int × Int) : List Value := [.int .i64 x.1, .int .i64 x.2]
abbrev turnK : Kd (Int × Int) := Kd.raw turnV 2 (fun _ => rfl)
theorem u64_mod (z : Int) : IntKind.u64.wrap z = z % 18446744073709551616 := by
  first | rfl | (simp [IntKind.wrap]; done) | (unfold IntKind.wrap; simp [IntKind.bits, IntKind.signed]; done)
theorem num2 (z : Int) : numB (IntKind.u64.wrap z) 2 = numB (z % 65536) 2 := by
  rw [u64_mod]; simp only [numB, List.cons.injEq, and_true]; omega
theorem turnsLen (l : List (Int × Int)) : (l.flatMap turnB).length = l.length * 4 := turns_len l
set_option maxHeartbeats 2000000 in
theorem turnBody_fn (l : List (Int × Int)) (a : Option Addr) (cap : Nat) (hl : l.length ≤ 1000000) : FC Tryd.prog 82 [.slice a l.length cap] [] (fun h => SlA turnK 16 h l a cap)
    (fun v L => OwnS 5 1 v (l.length * 4) ((l.flatMap turnB).map (.int .u8)) L) := by
  refine FC.intro Tryd.func82 rfl (by kernel_rfl) 28 [.tmp 2] rfl rfl rfl ?_
  intro w0 hA
  (repeat (first | (with_reducible apply XL.op) | ((with_reducible apply XOp.p1); (case hg | hv => exact rfl)) | (with_reducible apply XL.nilT) | (with_reducible apply XC.seq) | (with_reducible apply XC.region (Γ := Γ)) | (with_reducible apply XC.block)))
  refine XC.loop (fun k ρ L => ∃ (i : Nat) (v : Value) (F : HL), i + k = l.length ∧ OwnS 5 1 v (i * 4) (((l.take i).flatMap turnB).map (.int .u8)) F ∧ L = F ++ [] ∧ Slots ρ [(0, .slice a l.length cap), (3, v), (4, .int .i64 i)])
    l.length ⟨0, _, [], by simp, OwnS.nil _ _, rfl, rfl, rfl, rfl, trivial⟩ ?_
  rintro k ρ L ⟨i, v, F, hik, hown, rfl, hs⟩
  obtain ⟨a', c', rfl⟩ := hown.val
  refine XC.slots _ hs ?_
  (repeat (first | (with_reducible apply XL.op) | ((with_reducible apply XOp.p1); (case hg | hv => exact rfl)) | (with_reducible apply XL.nilT) | (with_reducible apply XC.seq) | (with_reducible apply XC.region (Γ := Γ))))
  ((with_reducible apply XC.cond); (case hc => exact rfl); all_goals (intro hb_; try simp only [pd_true, pd_false, Bool.not_eq_true', Bool.not_eq_false', Bool.and_eq_true, Bool.and_eq_false_iff, Bool.or_eq_true, Bool.or_eq_false_iff, not_true_eq_false, not_false_eq_true, Int.not_lt, Int.not_le] at hb_))
  · obtain ⟨x, hi⟩ : ∃ x, l[i]? = some x := ⟨_, List.getElem?_eq_getElem (by omega)⟩
    have hr := hA.rawAt hi
    have c0 : cellv (oldv w0 (keys [])) ⟨ablk a, aoff a + i * 2 + 0, none⟩ = some (.int .i64 x.1) := hr 0 _ rfl
    have c1 : cellv (oldv w0 (keys [])) ⟨ablk a, aoff a + i * 2 + 1, none⟩ = some (.int .i64 x.2) := hr 1 _ rfl
    (repeat (first | (with_reducible apply XL.op) | ((with_reducible apply XOp.p1); (case hg | hv => exact rfl)) | ((with_reducible apply XOp.pr); (case hg => exact rfl); (case hr => ((with_reducible apply PR.idxA); (case ht | hk | he | hx | hi => exact rfl); (case hr => first | assumption | omega); (case ha => first | assumption | exact SlA.at_ (by assumption))))) | (with_reducible apply XC.seq) | (with_reducible apply XC.region (Γ := Γ)) | (with_reducible apply XQ.skip) | (with_reducible apply XQ.nt) | (with_reducible apply XC.block) | (first | ((with_reducible apply XOp.load); (case hg | ht | hk | hx => exact rfl); (case hc => exact Known.of_old c0 (Mono.cell _ _))) | ((with_reducible apply XP.load); (case ho | hg | ht | hk | hx => exact rfl); (case hc => exact Known.of_old c0 (Mono.cell _ _))))))
    ((with_reducible apply XOp.call (L0 := F) (hF :=  addNumber_fn (.slice a' (i * 4) c') (i * 4) ((l.take i).flatMap turnB) F hown (IntKind.u64.wrap x.1) (inK_wrap _ _) 2 (by omega))); (case hg => exact rfl); (case hc => exact rfl); (case ha => exact rfl); (case hL => exact rfl))
    · exact Known.true
    intro v1 F1 h1
    obtain ⟨a1, d1, rfl⟩ := h1.val
    (repeat (first | (with_reducible apply XL.op) | ((with_reducible apply XOp.p1); (case hg | hv => exact rfl)) | ((with_reducible apply XOp.pr); (case hg => exact rfl); (case hr => ((with_reducible apply PR.idxA); (case ht | hk | he | hx | hi => exact rfl); (case hr => first | assumption | omega); (case ha => first | assumption | exact SlA.at_ (by assumption))))) | (with_reducible apply XL.nilT) | (with_reducible apply XC.region (Γ := Γ)) | (first | ((with_reducible apply XOp.load); (case hg | ht | hk | hx => exact rfl); (case hc => exact Known.of_old c1 (Mono.cell _ _))) | ((with_reducible apply XP.load); (case ho | hg | ht | hk | hx => exact rfl); (case hc => exact Known.of_old c1 (Mono.cell _ _))))))
    ((with_reducible apply XOp.call (L0 := F1) (hF :=  addNumber_fn (.slice a1 (i * 4 + 2) d1) (i * 4 + 2) ((l.take i).flatMap turnB ++ numB (IntKind.u64.wrap x.1) 2) F1 h1 (IntKind.u64.wrap x.2) (inK_wrap _ _) 2 (by omega))); (case hg => exact rfl); (case hc => exact rfl); (case ha => exact rfl); (case hL => exact rfl))
    · exact Known.true
    intro v2 F2 h2
    obtain ⟨a2, d2, rfl⟩ := h2.val
    (repeat (first | (with_reducible apply XL.op) | ((with_reducible apply XOp.p1); (case hg | hv => exact rfl)) | (with_reducible apply XL.nilT) | (with_reducible apply XC.region (Γ := Γ)) | (with_reducible apply XL.nilQ) | (with_reducible apply XQ.nt) | (with_reducible apply XQ.nb)))
    exact ⟨k - 1, by omega, i + 1, _, F2, by omega, h2.conv (by omega) (by rw [take_snocD hi, num2, num2]; simp [turnB]), rfl, rfl, rfl, intS (m := l.length) (by omega) (by omega), trivial⟩
  · obtain rfl : i = l.length := by omega
    rw [List.take_length] at hown
    (repeat (first | (with_reducible apply XL.op) | ((with_reducible apply XOp.p1); (case hg | hv => exact rfl)) | (with_reducible apply XL.nilT) | (with_reducible apply XC.seq) | (with_reducible apply XC.region (Γ := Γ)) | (with_reducible apply XQ.ret) | (with_reducible apply XQ.exit) | (with_reducible apply XQ.nt) | (with_reducible apply XQ.et) | ((with_reducible apply XQ.eb); (case hb => exact rfl))))
    ((with_reducible apply XQ.retE); (case hr => exact .t rfl .nil))
    rw [List.append_nil]
    exact hown
end Go.Proofs.YtppggaiahkecoaaDoorX
/- The measures' bytes: the reference's. -/
namespace Go.Proofs.YtppggaiahkecoaaDoorX
open Go Go.SX

theorem measures_fn (c : Cfg) : FC Tryd.prog 80 [.agg ⟨c.cells⟩] [] (fun _ => True)
    (fun v L => OwnS 5 1 v 8 ((c.list.map toB).map (.int .u8)) L) := by
  refine FC.sub2 ?_
  refine FC.intro Tryd.func80 rfl (by kernel_rfl) 28 [.tmp 2] rfl rfl rfl ?_
  intro w0 _
  (repeat (first | (with_reducible apply XL.op) | (with_reducible apply XC.seq) | (with_reducible apply XC.region (Γ := Γ))))
  ((with_reducible apply XOp.box); (case hg | hx' => exact rfl); intro cb)
  (repeat (first | (with_reducible apply XL.op) | ((with_reducible apply XOp.p1); (case hg | hv => exact rfl)) | ((with_reducible apply XOp.load); (case hg | ht | hk | hx => exact rfl); (case hc => exact own_cell (i := 0) rfl rfl)) | (with_reducible apply XL.nilT) | (with_reducible apply XC.seq) | (with_reducible apply XC.region (Γ := Γ))))
  ((with_reducible apply XOp.buildSlice); (case hg | ht | hk | he | hz | hzl | hf => exact rfl); intro bb)
  (repeat (first | (with_reducible apply XL.op) | ((with_reducible apply XOp.p1); (case hg | hv => exact rfl)) | (with_reducible apply XL.nilT) | (with_reducible apply XQ.ret)))
  ((with_reducible apply XQ.retE); (case hr => exact .t rfl .nil))
  refine ⟨[(bb, .cells ⟨(c.list.map toB).map (.int .u8)⟩ 5 (0, 0))], .of ?_, by simp [Cfg.list], .inr ⟨bb, 8, [], rfl, by simp, Nat.le_refl _, by simp [maxLen], by simp [Cfg.list]⟩⟩
  simp only [← i8_byte, Cfg.list, List.map_cons, List.map_nil]
  exact List.Sublist.cons_cons _ (List.nil_sublist _)
end Go.Proofs.YtppggaiahkecoaaDoorX
/- Weights and where they lie. -/
namespace Go.Proofs.YtppggaiahkecoaaDoorX
open Go Go.SX

def Kd.loc {α : Type} (f : α → List Value) (k : Nat) (hk : ∀ x, (f x).length = k) (at_ : HV → α → Prop) (hm : ∀ x, Mono (fun h => at_ h x)) : Kd α :=
  ⟨k, fun h x cs => cs = f x ∧ at_ h x, fun {_ x _} h => by rw [h.1]; exact hk x, fun s h => ⟨h.1, hm _ _ _ s h.2⟩⟩
theorem _root_.Go.SX.SlA.locRaw {α : Type} {f : α → List Value} {k by_ : Nat} {hk : ∀ x, (f x).length = k} {at_ : HV → α → Prop} {hm : ∀ x, Mono (fun h => at_ h x)} {h : HV} {l : List α} {a : Option Addr} {cap : Nat}
    (s : SlA (Kd.loc f k hk at_ hm) by_ h l a cap) : SlA (Kd.raw f k hk) by_ h l a cap :=
  ⟨s.le, s.bytes, s.nil, s.at_, fun i x hx => by obtain ⟨c, hc, hr⟩ := s.row i x hx; exact ⟨c, hc.1, hr⟩⟩
theorem _root_.Go.SX.SlA.locAt {α : Type} {f : α → List Value} {k by_ : Nat} {hk : ∀ x, (f x).length = k} {at_ : HV → α → Prop} {hm : ∀ x, Mono (fun h => at_ h x)} {h : HV} {l : List α} {a : Option Addr} {cap : Nat}
    (s : SlA (Kd.loc f k hk at_ hm) by_ h l a cap) {x : α} (hx : x ∈ l) : at_ h x := by
  obtain ⟨i, hi⟩ := List.getElem?_of_mem hx
  obtain ⟨c, hc, _⟩ := s.row i x hi
  exact hc.2
theorem _root_.Go.SX.SlA.ofRaw {α : Type} {f : α → List Value} {k by_ : Nat} {hk : ∀ x, (f x).length = k} {at_ : HV → α → Prop} {hm : ∀ x, Mono (fun h => at_ h x)} {h : HV} {l : List α} {a : Option Addr} {cap : Nat}
    (s : SlA (Kd.raw f k hk) by_ h l a cap) (ha : ∀ x ∈ l, at_ h x) : SlA (Kd.loc f k hk at_ hm) by_ h l a cap :=
  ⟨s.le, s.bytes, s.nil, s.at_, fun i x hx => by obtain ⟨c, hc, hr⟩ := s.row i x hx; exact ⟨c, ⟨hc, ha x (List.mem_of_getElem? hx)⟩, hr⟩⟩

/-! ### The parts -/
abbrev lvAt (h : HV) (x : LV) : Prop := SlA (Kd.int .i8) 1 h x.1 x.2.1 x.2.2
abbrev slv (x : LV) : Value := .slice x.2.1 x.1.length x.2.2
theorem lv_mono (x : LV) : Mono (fun h => lvAt h x) := Mono.sl _ _ _ _ _
structure LM where
  (r c : Int)
  d : LV
def LM.mat (m : LM) : Mat := ⟨m.r, m.c, m.d.1⟩
def LM.cells (m : LM) : List Value := [.int .i64 m.r, .int .i64 m.c, slv m.d]
abbrev lmAt (h : HV) (m : LM) : Prop := lvAt h m.d
theorem lm_mono (x : LM) : Mono (fun h => lmAt h x) := lv_mono _
abbrev lmK : Kd LM := Kd.loc LM.cells 3 (fun _ => rfl) lmAt lm_mono
abbrev lmR : Kd LM := Kd.raw LM.cells 3 (fun _ => rfl)
structure LL where
  (n1 n2 : LV)
  (q k v o g u d : LM)
  (b0 b1 b2 b3 b4 b5 b6 : Int)
def LL.by_ (l : LL) : List Int := [l.b0, l.b1, l.b2, l.b3, l.b4, l.b5, l.b6]
def LL.lay (l : LL) : Lay := ⟨l.n1.1, l.n2.1, l.q.mat, l.k.mat, l.v.mat, l.o.mat, l.g.mat, l.u.mat, l.d.mat, l.by_⟩
def LL.cells (l : LL) : List Value := [slv l.n1, slv l.n2, .int .i64 l.q.r, .int .i64 l.q.c, slv l.q.d, .int .i64 l.k.r, .int .i64 l.k.c, slv l.k.d, .int .i64 l.v.r, .int .i64 l.v.c, slv l.v.d,
  .int .i64 l.o.r, .int .i64 l.o.c, slv l.o.d, .int .i64 l.g.r, .int .i64 l.g.c, slv l.g.d, .int .i64 l.u.r, .int .i64 l.u.c, slv l.u.d, .int .i64 l.d.r, .int .i64 l.d.c, slv l.d.d,
  .int .i64 l.b0, .int .i64 l.b1, .int .i64 l.b2, .int .i64 l.b3, .int .i64 l.b4, .int .i64 l.b5, .int .i64 l.b6]
structure llAt (h : HV) (l : LL) : Prop where
  n1 : lvAt h l.n1
  n2 : lvAt h l.n2
  q : lmAt h l.q
  k : lmAt h l.k
  v : lmAt h l.v
  o : lmAt h l.o
  g : lmAt h l.g
  u : lmAt h l.u
  d : lmAt h l.d
theorem ll_mono (x : LL) : Mono (fun h => llAt h x) := fun _ _ s h =>
  ⟨lv_mono _ _ _ s h.n1, lv_mono _ _ _ s h.n2, lm_mono _ _ _ s h.q, lm_mono _ _ _ s h.k, lm_mono _ _ _ s h.v, lm_mono _ _ _ s h.o, lm_mono _ _ _ s h.g, lm_mono _ _ _ s h.u, lm_mono _ _ _ s h.d⟩
abbrev llK : Kd LL := Kd.loc LL.cells 30 (fun _ => rfl) llAt ll_mono
abbrev llR : Kd LL := Kd.raw LL.cells 30 (fun _ => rfl)
/-- A list of α and where it lies. -/
abbrev LA (α : Type) := List α × Option Addr × Nat
abbrev sla {α : Type} (x : LA α) : Value := .slice x.2.1 x.1.length x.2.2
structure LW where
  C : Cfg
  E : LM
  T : LA (Int × Int)
  Ls : LA LL
  F : LV
  H : LM
  M : LA LM
def LW.w (x : LW) : Wts := ⟨x.C, x.E.mat, x.T.1, x.Ls.1.map LL.lay, x.F.1, x.H.mat, x.M.1.map LM.mat⟩
def LW.cells (x : LW) : List Value := [.int .i64 x.C.Vocab, .int .i64 x.C.Width, .int .i64 x.C.Heads, .int .i64 x.C.KV, .int .i64 x.C.Layers, .int .i64 x.C.Hidden, .int .i64 x.C.Len, .int .i64 x.C.Medusa,
  .int .i64 x.E.r, .int .i64 x.E.c, slv x.E.d, sla x.T, sla x.Ls, slv x.F, .int .i64 x.H.r, .int .i64 x.H.c, slv x.H.d, sla x.M]
structure lwAt (h : HV) (x : LW) : Prop where
  e : lmAt h x.E
  t : SlA turnK 16 h x.T.1 x.T.2.1 x.T.2.2
  l : SlA llK 384 h x.Ls.1 x.Ls.2.1 x.Ls.2.2
  f : lvAt h x.F
  hd : lmAt h x.H
  m : SlA lmK 40 h x.M.1 x.M.2.1 x.M.2.2
theorem lw_mono (x : LW) : Mono (fun h => lwAt h x) := fun _ _ s h =>
  ⟨lm_mono _ _ _ s h.e, h.t.mono s, h.l.mono s, lv_mono _ _ _ s h.f, lm_mono _ _ _ s h.hd, h.m.mono s⟩

/-! ### What fits, as the checks look at it -/
theorem lv_i8 {h : HV} {x : LV} (hx : lvAt h x) : ∀ y ∈ x.1, -128 ≤ y ∧ y ≤ 127 := fun y hy => inK_i8.1 (hx.okAll y hy)
theorem shp_iff {h : HV} {m : LM} (hm : lmAt h m) (r c : Int) : shpP m.mat r c ↔ isM m.mat r c := by
  constructor
  · rintro ⟨rfl, rfl, h1, h2, h3, h4⟩
    exact ⟨rfl, rfl, h1, h2, h3, fun x hx => by have := h4 x hx; have := lv_i8 hm x hx; omega⟩
  · rintro ⟨rfl, rfl, h1, h2, h3, h4⟩
    exact ⟨rfl, rfl, h1, h2, h3, fun x hx => by have := h4 x hx; omega⟩
theorem gains_iff {h : HV} {x : LV} (hx : lvAt h x) (n : Int) : gainsP x.1 n ↔ gainsS x.1 n := by
  constructor
  · rintro ⟨h1, h2⟩; exact ⟨h1, fun y hy => by have := h2 y hy; have := lv_i8 hx y hy; omega⟩
  · rintro ⟨h1, h2⟩; exact ⟨h1, fun y hy => by have := h2 y hy; omega⟩
end Go.Proofs.YtppggaiahkecoaaDoorX
/- Turns and layers: do they fit? The reference's. -/
namespace Go.Proofs.YtppggaiahkecoaaDoorX
open Go Go.SX

theorem refIsL_fn (m : LM) (r c : Int) : FC Tryd.prog 45 [.agg ⟨m.cells⟩, .int .i64 r, .int .i64 c] [] (fun h => lmAt h m) (fun v L => v = .bool (pd (shpP m.mat r c)) ∧ L = []) :=
  refIs_fn m.mat m.d.2.1 m.d.2.2 r c
theorem refGainsL_fn (x : LV) (n : Int) : FC Tryd.prog 46 [slv x, .int .i64 n] [] (fun h => lvAt h x) (fun v L => v = .bool (pd (gainsP x.1 n)) ∧ L = []) :=
  refGains_fn x.1 x.2.1 x.2.2 n
def turnP (x : Int × Int) : Prop := (-16384 ≤ x.1 ∧ x.1 ≤ 16384) ∧ (-16384 ≤ x.2 ∧ x.2 ≤ 16384)
def turnsP (l : List (Int × Int)) (n : Int) : Prop := (l.length : Int) = n ∧ ∀ x ∈ l, turnP x
theorem forall_snoc {α : Type} {p : α → Prop} {l : List α} {i : Nat} {x : α} (h : l[i]? = some x) (ha : ∀ y ∈ l.take i, p y) (hx : p x) : ∀ y ∈ l.take (i + 1), p y := fun y hy => by
  rw [take_snocD h] at hy
  rcases List.mem_append.1 hy with h2 | h2
  · exact ha y h2
  · rw [List.mem_singleton.1 h2]; exact hx
set_option maxHeartbeats 4000000 in
theorem refTurns_fn (l : List (Int × Int)) (a : Option Addr) (cap : Nat) (n : Int) : FC Tryd.prog 47 [.slice a l.length cap, .int .i64 n] [] (fun h => SlA turnK 16 h l a cap)
    (fun v L => v = .bool (pd (turnsP l n)) ∧ L = []) := by
  refine FC.nil ?_
  refine FC.intro Tryd.func47 rfl (by kernel_rfl) 45 [.tmp 4] rfl rfl rfl ?_
  intro w0 hA
  have hsm := hA.bytes
  (repeat (first | (with_reducible apply XL.op) | ((with_reducible apply XOp.p1); (case hg | hv => exact rfl)) | (with_reducible apply XL.nilT) | (with_reducible apply XC.seq) | (with_reducible apply XC.region (Γ := Γ))))
  ((with_reducible apply XC.cond); (case hc => exact rfl); all_goals (intro hb_; try simp only [pd_true, pd_false, Bool.not_eq_true', Bool.not_eq_false', Bool.and_eq_true, Bool.and_eq_false_iff, Bool.or_eq_true, Bool.or_eq_false_iff, not_true_eq_false, not_false_eq_true, Int.not_lt, Int.not_le] at hb_))
  · (repeat (first | (with_reducible apply XL.op) | ((with_reducible apply XOp.p1); (case hg | hv => exact rfl)) | (with_reducible apply XL.nilT) | (with_reducible apply XC.seq) | (with_reducible apply XC.region (Γ := Γ)) | (with_reducible apply XQ.ret) | (with_reducible apply XQ.rt)))
    ((with_reducible apply XQ.retE); (case hr => exact .t rfl .nil))
    exact congrArg Value.bool (pdf (show ¬ turnsP l n from fun h2 => hb_ h2.1)).symm
  (repeat (first | (with_reducible apply XL.op) | ((with_reducible apply XOp.p1); (case hg | hv => exact rfl)) | (with_reducible apply XL.nilT) | (with_reducible apply XC.seq) | (with_reducible apply XC.region (Γ := Γ)) | (with_reducible apply XQ.skip) | (with_reducible apply XQ.nt) | (with_reducible apply XC.block)))
  refine XC.loop (fun k ρ L => ∃ i : Nat, i + k = l.length ∧ L = [] ∧ (∀ y ∈ l.take i, turnP y) ∧ Slots ρ [(0, .slice a l.length cap), (1, .int .i64 n), (5, .int .i64 i)])
    l.length ⟨0, by simp, rfl, by simp, rfl, rfl, rfl, trivial⟩ ?_
  rintro k ρ L ⟨i, hik, rfl, hq, hs⟩
  have hn : (l.length : Int) = n := by first | assumption | omega
  refine XC.slots _ hs ?_
  (repeat (first | (with_reducible apply XL.op) | ((with_reducible apply XOp.p1); (case hg | hv => exact rfl)) | (with_reducible apply XL.nilT) | (with_reducible apply XC.seq) | (with_reducible apply XC.region (Γ := Γ))))
  ((with_reducible apply XC.cond); (case hc => exact rfl); all_goals (intro hb_; try simp only [pd_true, pd_false, Bool.not_eq_true', Bool.not_eq_false', Bool.and_eq_true, Bool.and_eq_false_iff, Bool.or_eq_true, Bool.or_eq_false_iff, not_true_eq_false, not_false_eq_true, Int.not_lt, Int.not_le] at hb_))
  · obtain ⟨x, hi⟩ : ∃ x, l[i]? = some x := ⟨_, List.getElem?_eq_getElem (by omega)⟩
    have hr := hA.rawAt hi
    have c0 : cellv (oldv w0 (keys [])) ⟨ablk a, aoff a + i * 2 + 0, none⟩ = some (.int .i64 x.1) := hr 0 _ rfl
    have c1 : cellv (oldv w0 (keys [])) ⟨ablk a, aoff a + i * 2 + 1, none⟩ = some (.int .i64 x.2) := hr 1 _ rfl
    (repeat' (first | (with_reducible apply XL.op) | ((with_reducible apply XOp.p1); (case hg | hv => exact rfl)) | ((with_reducible apply XOp.p0); (case hg => exact rfl)) | ((with_reducible apply XOp.pr); (case hg => exact rfl); (case hr => ((with_reducible apply PR.idxA); (case ht | hk | he | hx | hi => exact rfl); (case hr => first | assumption | omega); (case ha => first | assumption | exact SlA.at_ (by assumption))))) | (with_reducible apply XL.nilT) | (with_reducible apply XC.seq) | (with_reducible apply XC.region (Γ := Γ)) | (with_reducible apply XQ.skip) | (with_reducible apply XQ.ret) | (with_reducible apply XQ.nt) | (with_reducible apply XQ.nb) | (with_reducible apply XQ.rt) | (with_reducible apply XQ.rb) | (with_reducible apply XC.block) | ((with_reducible apply XC.condT); (case hc => exact rfl)) | (first | ((with_reducible apply XOp.load); (case hg | ht | hk | hx => exact rfl); (case hc => exact Known.of_old c0 (Mono.cell _ _))) | ((with_reducible apply XP.load); (case ho | hg | ht | hk | hx => exact rfl); (case hc => exact Known.of_old c0 (Mono.cell _ _)))) | (first | ((with_reducible apply XOp.load); (case hg | ht | hk | hx => exact rfl); (case hc => exact Known.of_old c1 (Mono.cell _ _))) | ((with_reducible apply XP.load); (case ho | hg | ht | hk | hx => exact rfl); (case hc => exact Known.of_old c1 (Mono.cell _ _)))) | ((with_reducible apply XOp.split); (case hg | hj | hd | hb => exact rfl); (fail_if_success (case hf => exact fun h => Bool.noConfusion h)); (fail_if_success (case ht => exact fun h => Bool.noConfusion h)); all_goals (intro hb_; try simp only [pd_true, pd_false, Bool.not_eq_true', Bool.not_eq_false', Bool.and_eq_true, Bool.and_eq_false_iff, Bool.or_eq_true, Bool.or_eq_false_iff, not_true_eq_false, not_false_eq_true, Int.not_lt, Int.not_le] at hb_)) | ((with_reducible apply XC.cond); (case hc => exact rfl); all_goals (intro hb_; try simp only [pd_true, pd_false, Bool.not_eq_true', Bool.not_eq_false', Bool.and_eq_true, Bool.and_eq_false_iff, Bool.or_eq_true, Bool.or_eq_false_iff, not_true_eq_false, not_false_eq_true, Int.not_lt, Int.not_le] at hb_))))
    iterate 4
      (((with_reducible apply XQ.retE); (case hr => exact .t rfl .nil))
       exact congrArg Value.bool (pdf (show ¬ turnsP l n from fun h => by have := h.2 x (List.mem_of_getElem? hi); unfold turnP at this; omega)).symm)
    exact ⟨k - 1, by omega, i + 1, by omega, rfl, forall_snoc hi hq (by unfold turnP; omega), rfl, rfl, intS (m := l.length) (by omega) (by omega), trivial⟩
  · obtain rfl : i = l.length := by omega
    rw [List.take_length] at hq
    (repeat (first | (with_reducible apply XL.op) | ((with_reducible apply XOp.p1); (case hg | hv => exact rfl)) | (with_reducible apply XL.nilT) | (with_reducible apply XC.seq) | (with_reducible apply XC.region (Γ := Γ)) | (with_reducible apply XQ.ret) | (with_reducible apply XQ.exit) | (with_reducible apply XQ.nt) | (with_reducible apply XQ.et) | ((with_reducible apply XQ.eb); (case hb => exact rfl))))
    ((with_reducible apply XQ.retE); (case hr => exact .t rfl .nil))
    exact congrArg Value.bool (pdt (show turnsP l n from ⟨hn, hq⟩)).symm

theorem by_cell (l : LL) {i : Nat} (h : i < 7) : l.cells[23 + ((i : Nat) : Int).toNat * 1]? = some (.int .i64 (l.by_.getD i 0)) := by
  match i, h with
  | 0, _ => rfl
  | 1, _ => rfl
  | 2, _ => rfl
  | 3, _ => rfl
  | 4, _ => rfl
  | 5, _ => rfl
  | 6, _ => rfl
theorem by_all (l : LL) {p : Int → Prop} (h : ∀ j < 7, p (l.by_.getD j 0)) : ∀ x ∈ l.by_, p x := by
  intro x hx
  obtain ⟨i, hi⟩ := List.getElem?_of_mem hx
  have h7 : i < 7 := (List.getElem?_eq_some_iff.1 hi).1
  have := h i h7
  rwa [List.getD_eq_getElem?_getD, hi] at this
theorem by_mem (l : LL) {j : Nat} (h : j < 7) : l.by_.getD j 0 ∈ l.by_ := by
  have h2 : j < l.by_.length := h
  rw [List.getD_eq_getElem?_getD, List.getElem?_eq_getElem h2]; exact List.getElem_mem h2
theorem keys_wrap {c : Cfg} (hc : c.may) : IntKind.i64.wrap (c.KV * c.head) = c.keys := by
  obtain ⟨_, _, n1, n2⟩ := may_nn hc
  unfold Cfg.keys at *; exact wrap64_of (by omega) (by omega)
structure layP (l : LL) (c : Cfg) : Prop where
  n1 : gainsP l.n1.1 c.Width
  n2 : gainsP l.n2.1 c.Width
  q : shpP l.q.mat c.Width c.Width
  k : shpP l.k.mat c.keys c.Width
  v : shpP l.v.mat c.keys c.Width
  o : shpP l.o.mat c.Width c.Width
  g : shpP l.g.mat c.Hidden c.Width
  u : shpP l.u.mat c.Hidden c.Width
  d : shpP l.d.mat c.Width c.Hidden
  by_ : ∀ j < 7, 0 ≤ l.by_.getD j 0 ∧ l.by_.getD j 0 ≤ 24
theorem layP_iff {h : HV} {l : LL} (hl : llAt h l) (c : Cfg) : layP l c ↔ okL l.lay c := by
  constructor
  · intro p
    exact ⟨(gains_iff hl.n1 _).1 p.n1, (gains_iff hl.n2 _).1 p.n2, (shp_iff hl.q _ _).1 p.q, (shp_iff hl.k _ _).1 p.k, (shp_iff hl.v _ _).1 p.v, (shp_iff hl.o _ _).1 p.o, (shp_iff hl.g _ _).1 p.g, (shp_iff hl.u _ _).1 p.u, (shp_iff hl.d _ _).1 p.d, rfl, by_all l p.by_⟩
  · intro p
    exact ⟨(gains_iff hl.n1 _).2 p.n1, (gains_iff hl.n2 _).2 p.n2, (shp_iff hl.q _ _).2 p.q, (shp_iff hl.k _ _).2 p.k, (shp_iff hl.v _ _).2 p.v, (shp_iff hl.o _ _).2 p.o, (shp_iff hl.g _ _).2 p.g, (shp_iff hl.u _ _).2 p.u, (shp_iff hl.d _ _).2 p.d, fun j hj => p.by_.2 _ (by_mem l hj)⟩
set_option maxHeartbeats 8000000 in
theorem refLayer_fn (l : LL) (c : Cfg) (hc : c.may) : FC Tryd.prog 49 [.agg ⟨l.cells⟩, .agg ⟨c.cells⟩] [] (fun h => llAt h l)
    (fun v L => v = .bool (pd (layP l c)) ∧ L = []) := by
  refine FC.nil ?_
  refine FC.intro Tryd.func49 rfl (by kernel_rfl) 100 [.tmp 4] rfl rfl rfl ?_
  intro w0 hA
  (repeat (first | (with_reducible apply XL.op) | (with_reducible apply XC.seq) | (with_reducible apply XC.region (Γ := Γ))))
  ((with_reducible apply XOp.box); (case hg | hx' => exact rfl); intro lb)
  (repeat ((with_reducible apply XL.op)))
  ((with_reducible apply XOp.box); (case hg | hx' => exact rfl); intro cb)
  (repeat (first | (with_reducible apply XL.op) | ((with_reducible apply XOp.p1); (case hg | hv => exact rfl)) | ((with_reducible apply XOp.load); (case hg | ht | hk | hx => exact rfl); (case hc => exact own_cell (i := 0) rfl rfl)) | (with_reducible apply XL.nilT) | (with_reducible apply XC.seq) | (with_reducible apply XC.region (Γ := Γ))))
  ((with_reducible apply XC.regionD (Γ := Γ) mixed (.q 0 (.q 1 (.q 2 (.e 3 (.q 4 (.q 5 (.done))))))) [] []); (case hc => kernel_rfl))
  (repeat (first | (with_reducible apply XL.op) | ((with_reducible apply XOp.p1); (case hg | hv => exact rfl)) | ((with_reducible apply XOp.load); (case hg | ht | hk | hx => exact rfl); (case hc => exact own_cell (i := 1) rfl rfl)) | (with_reducible apply XC.seq) | (with_reducible apply XC.region (Γ := Γ)) | (with_reducible apply XQ.nt) | ((with_reducible apply XP.p1); (case ho | hg | hv => exact rfl)) | ((with_reducible apply XP.load); (case ho | hg | ht | hk | hx => exact rfl); (case hc => exact own_cell (i := 0) rfl rfl)) | ((with_reducible apply XP.loadO (j := 0)); (case ho | hg | ht | hk | hx | hi | hc => exact rfl)) | (with_reducible apply XP.done) | ((with_reducible apply XP.e); (first | ((with_reducible apply XE.d); (case ho => exact rfl); (case hd => exact rfl)) | ((with_reducible apply XE.e); (case ho => exact rfl)))) | ((with_reducible apply XP.keep); (case hk => first | ((repeat' (first | exact List.forall_mem_nil _ | (with_reducible refine List.forall_mem_cons.2 ⟨?_, ?_⟩) | exact List.mem_cons_self .. | (with_reducible apply List.mem_cons_of_mem) | (with_reducible apply List.mem_append_right))); done) | (intro x hx; first | exact sel_in hx | exact List.mem_cons_of_mem _ (sel_in hx) | exact List.mem_append_right _ (sel_in hx) | exact hx | exact List.mem_cons_of_mem _ hx | exact List.mem_append_right _ hx | ((repeat (first | exact sel_in hx | exact hx | (with_reducible apply List.mem_cons_of_mem) | (with_reducible apply List.mem_append_right))); done) | cases hx))) | (((with_reducible apply XOp.callQ (hF := refHead_fn c hc)); (case hg => exact rfl); (case hc => exact rfl); (case ha => exact rfl); try (case hA => exact Known.true)); rintro _ rfl)))
  (repeat' (first | (with_reducible apply XL.op) | ((with_reducible apply XOp.p1); (case hg | hv => exact rfl)) | ((with_reducible apply XOp.p0); (case hg => exact rfl)) | ((with_reducible apply XOp.load); (case hg | ht | hk | hx => exact rfl); (case hc => exact own_cell (i := 0) rfl rfl)) | ((with_reducible apply XOp.load); (case hg | ht | hk | hx => exact rfl); (case hc => exact own_cell (i := 1) rfl rfl)) | ((with_reducible apply XOp.loadO (i := 1)); (case hg | ht | hk | hx | hi | hc => exact rfl)) | (with_reducible apply XL.nilT) | (with_reducible apply XC.seq) | (with_reducible apply XC.region (Γ := Γ)) | (with_reducible apply XQ.skip) | (with_reducible apply XQ.ret) | (with_reducible apply XQ.nt) | (with_reducible apply XQ.rt) | (with_reducible apply XC.block) | ((with_reducible apply XC.condT); (case hc => exact rfl)) | (((with_reducible apply XOp.callQ (hF := refGainsL_fn _ _)); (case hg => exact rfl); (case hc => exact rfl); (case ha => exact rfl); try (case hA => exact Known.true)); (case hA => first | exact Known.of_old hA.n1 (lv_mono _) | exact Known.of_old hA.n2 (lv_mono _)); rintro _ rfl) | (((with_reducible apply XOp.callQ (hF := refIsL_fn _ _ _)); (case hg => exact rfl); (case hc => exact rfl); (case ha => exact rfl); try (case hA => exact Known.true)); (case hA => first | exact Known.of_old hA.q (lm_mono _) | exact Known.of_old hA.k (lm_mono _) | exact Known.of_old hA.v (lm_mono _) | exact Known.of_old hA.o (lm_mono _) | exact Known.of_old hA.g (lm_mono _) | exact Known.of_old hA.u (lm_mono _) | exact Known.of_old hA.d (lm_mono _)); rintro _ rfl) | ((with_reducible apply XOp.split); (case hg | hj | hd | hb => exact rfl); (fail_if_success (case hf => exact fun h => Bool.noConfusion h)); (fail_if_success (case ht => exact fun h => Bool.noConfusion h)); all_goals (intro hb_; try simp only [pd_true, pd_false, Bool.not_eq_true', Bool.not_eq_false', Bool.and_eq_true, Bool.and_eq_false_iff, Bool.or_eq_true, Bool.or_eq_false_iff, not_true_eq_false, not_false_eq_true, Int.not_lt, Int.not_le] at hb_)) | ((with_reducible apply XC.cond); (case hc => exact rfl); all_goals (intro hb_; try simp only [pd_true, pd_false, Bool.not_eq_true', Bool.not_eq_false', Bool.and_eq_true, Bool.and_eq_false_iff, Bool.or_eq_true, Bool.or_eq_false_iff, not_true_eq_false, not_false_eq_true, Int.not_lt, Int.not_le] at hb_))))
  iterate 9
    (((with_reducible apply XQ.retE); (case hr => exact .t rfl .nil))
     exact congrArg Value.bool (pdf (show ¬ layP l c from fun h => by
       try rw [keys_wrap hc] at hb_
       first | exact hb_ h.n1 | exact hb_ h.n2 | exact hb_ h.q | exact hb_ h.k | exact hb_ h.v | exact hb_ h.o | exact hb_ h.g | exact hb_ h.u | exact hb_ h.d)).symm)
  rename_i p1 p2 p3 p4 p5 p6 p7 p8
  rw [keys_wrap hc] at p5 p6
  refine XC.loop (fun k ρ L => ∃ i : Nat, i + k = 7 ∧ L = [(cb, .cells ⟨c.cells⟩ 23 (0, 0)), (lb, .cells ⟨l.cells⟩ 67 (0, 0))] ∧ (∀ j < i, 0 ≤ l.by_.getD j 0 ∧ l.by_.getD j 0 ≤ 24) ∧ Slots ρ [(2, .pointer (some ⟨lb, 0, none⟩)), (3, .pointer (some ⟨cb, 0, none⟩)), (7, .int .i64 i)])
    7 ⟨0, by simp, rfl, by simp, rfl, rfl, rfl, trivial⟩ ?_
  rintro k ρ L ⟨i, hik, rfl, hq, hs⟩
  refine XC.slots _ hs ?_
  (repeat (first | (with_reducible apply XL.op) | ((with_reducible apply XOp.p1); (case hg | hv => exact rfl)) | (with_reducible apply XL.nilT) | (with_reducible apply XC.seq) | (with_reducible apply XC.region (Γ := Γ))))
  ((with_reducible apply XC.cond); (case hc => exact rfl); all_goals (intro hb_; try simp only [pd_true, pd_false, Bool.not_eq_true', Bool.not_eq_false', Bool.and_eq_true, Bool.and_eq_false_iff, Bool.or_eq_true, Bool.or_eq_false_iff, not_true_eq_false, not_false_eq_true, Int.not_lt, Int.not_le] at hb_))
  · have hc7 := by_cell l (i := i) (by omega)
    (repeat' (first | (with_reducible apply XL.op) | ((with_reducible apply XOp.p1); (case hg | hv => exact rfl)) | ((with_reducible apply XOp.p0); (case hg => exact rfl)) | ((with_reducible apply XOp.pr); (case hg => exact rfl); (case hr => ((with_reducible apply PR.aidx); (case ht | hk | he | hx | hi => exact rfl); (case hr => first | assumption | omega)))) | (with_reducible apply XL.nilT) | (with_reducible apply XC.seq) | (with_reducible apply XC.region (Γ := Γ)) | (with_reducible apply XQ.skip) | (with_reducible apply XQ.ret) | (with_reducible apply XQ.nt) | (with_reducible apply XQ.nb) | (with_reducible apply XQ.rt) | (with_reducible apply XQ.rb) | (with_reducible apply XC.block) | ((with_reducible apply XC.condT); (case hc => exact rfl)) | (first | ((with_reducible apply XOp.load); (case hg | ht | hk | hx => exact rfl); (case hc => exact own_cell (i := 1) rfl hc7)) | ((with_reducible apply XP.load); (case ho | hg | ht | hk | hx => exact rfl); (case hc => exact own_cell (i := 1) rfl hc7))) | ((with_reducible apply XOp.split); (case hg | hj | hd | hb => exact rfl); (fail_if_success (case hf => exact fun h => Bool.noConfusion h)); (fail_if_success (case ht => exact fun h => Bool.noConfusion h)); all_goals (intro hb_; try simp only [pd_true, pd_false, Bool.not_eq_true', Bool.not_eq_false', Bool.and_eq_true, Bool.and_eq_false_iff, Bool.or_eq_true, Bool.or_eq_false_iff, not_true_eq_false, not_false_eq_true, Int.not_lt, Int.not_le] at hb_)) | ((with_reducible apply XC.cond); (case hc => exact rfl); all_goals (intro hb_; try simp only [pd_true, pd_false, Bool.not_eq_true', Bool.not_eq_false', Bool.and_eq_true, Bool.and_eq_false_iff, Bool.or_eq_true, Bool.or_eq_false_iff, not_true_eq_false, not_false_eq_true, Int.not_lt, Int.not_le] at hb_))))
    iterate 2
      (((with_reducible apply XQ.retE); (case hr => exact .t rfl .nil))
       exact congrArg Value.bool (pdf (show ¬ layP l c from fun h => by have := h.by_ i (by omega); omega)).symm)
    exact ⟨k - 1, by omega, i + 1, by omega, rfl, fun j hj => by
      rcases Nat.lt_or_ge j i with h | h
      · exact hq j h
      · obtain rfl : j = i := by omega
        exact ⟨by assumption, by assumption⟩, rfl, rfl, intS (m := 7) (by omega) (by omega), trivial⟩
  · obtain rfl : i = 7 := by omega
    (repeat (first | (with_reducible apply XL.op) | ((with_reducible apply XOp.p1); (case hg | hv => exact rfl)) | (with_reducible apply XL.nilT) | (with_reducible apply XC.seq) | (with_reducible apply XC.region (Γ := Γ)) | (with_reducible apply XQ.ret) | (with_reducible apply XQ.exit) | (with_reducible apply XQ.nt) | (with_reducible apply XQ.et) | ((with_reducible apply XQ.eb); (case hb => exact rfl))))
    ((with_reducible apply XQ.retE); (case hr => exact .t rfl .nil))
    exact congrArg Value.bool (pdt (show layP l c from ⟨p1, p2, p3, p5, p6, p4, p7, p8, by assumption, hq⟩)).symm
end Go.Proofs.YtppggaiahkecoaaDoorX
/- Do the weights fit? The reference's. -/
namespace Go.Proofs.YtppggaiahkecoaaDoorX
open Go Go.SX

structure okP (x : LW) : Prop where
  e : shpP x.E.mat x.C.Vocab x.C.Width
  h : shpP x.H.mat x.C.Vocab x.C.Width
  f : gainsP x.F.1 x.C.Width
  t : turnsP x.T.1 (x.C.head / 2)
  ll : (x.Ls.1.length : Int) = x.C.Layers
  ml : (x.M.1.length : Int) = x.C.Medusa
  l : ∀ l ∈ x.Ls.1, layP l x.C
  m : ∀ m ∈ x.M.1, shpP m.mat x.C.Vocab x.C.Width
theorem okP_iff {h : HV} {x : LW} (hx : lwAt h x) : (x.C.may ∧ okP x) ↔ okW x.w := by
  constructor
  · rintro ⟨c, p⟩
    refine ⟨c, (shp_iff hx.e _ _).1 p.e, p.t, ⟨by show ((x.Ls.1.map LL.lay).length : Int) = _; rw [List.length_map]; exact p.ll, fun l hl => ?_⟩, (gains_iff hx.f _).1 p.f, (shp_iff hx.hd _ _).1 p.h, by show ((x.M.1.map LM.mat).length : Int) = _; rw [List.length_map]; exact p.ml, fun m hm => ?_⟩
    · obtain ⟨y, hy, rfl⟩ := List.mem_map.1 hl
      exact (layP_iff (hx.l.locAt hy) _).1 (p.l y hy)
    · obtain ⟨y, hy, rfl⟩ := List.mem_map.1 hm
      exact (shp_iff (hx.m.locAt hy) _ _).1 (p.m y hy)
  · intro p
    have h1 := p.l.1
    have h2 := p.m.1
    change ((x.Ls.1.map LL.lay).length : Int) = _ at h1
    change ((x.M.1.map LM.mat).length : Int) = _ at h2
    rw [List.length_map] at h1 h2
    exact ⟨p.c, (shp_iff hx.e _ _).2 p.e, (shp_iff hx.hd _ _).2 p.h, (gains_iff hx.f _).2 p.f, p.t, h1, h2,
      fun l hl => (layP_iff (hx.l.locAt hl) _).2 (p.l.2 _ (List.mem_map.2 ⟨l, hl, rfl⟩)), fun m hm => (shp_iff (hx.m.locAt hm) _ _).2 (p.m.2 _ (List.mem_map.2 ⟨m, hm, rfl⟩))⟩
noncomputable def errW (w : Wts) : Int := if pd w.C.may then (if pd (okW w) then 0 else 41) else 40
theorem errW_c {w : Wts} (h : ¬ w.C.may) : errW w = 40 := by unfold errW; rw [pdf h]; rfl
theorem errW_no {w : Wts} (hc : w.C.may) (h : ¬ okW w) : errW w = 41 := by unfold errW; rw [pdt hc, pdf h]; rfl
theorem errW_ok {w : Wts} (h : okW w) : errW w = 0 := by unfold errW; rw [pdt h.c, pdt h]; rfl
theorem errW_zero {w : Wts} (h : errW w = 0) : okW w := by
  by_cases hc : w.C.may
  · by_cases h2 : okW w
    · exact h2
    · rw [errW_no hc h2] at h; omega
  · rw [errW_c hc] at h; omega
theorem cerr_iff (c : Cfg) : c.err = 0 ↔ c.may := by
  unfold Cfg.err; split
  · rename_i h; simp only [decide_eq_true_eq] at h; exact ⟨fun _ => h, fun _ => rfl⟩
  · rename_i h; simp only [decide_eq_true_eq] at h; exact ⟨fun h2 => by omega, fun h2 => absurd h2 h⟩
theorem cerr_no {c : Cfg} (h : ¬ c.may) : c.err = 40 := by unfold Cfg.err; rw [if_neg]; simpa using h
theorem half_wrap {c : Cfg} (hc : c.may) : IntKind.i64.wrap (c.head.tdiv 2) = c.head / 2 := by
  obtain ⟨n1, n2, _, _⟩ := may_nn hc
  rw [Int.tdiv_eq_ediv_of_nonneg n1]; exact wrap64_of (by omega) (by omega)
set_option maxHeartbeats 8000000 in
theorem refCheckW_fn (x : LW) : FC Tryd.prog 16 [.agg ⟨x.cells⟩] [] (fun h => lwAt h x)
    (fun v L => v = .int .i64 (errW x.w) ∧ L = []) := by
  refine FC.nil ?_
  refine FC.intro Tryd.func16 rfl (by kernel_rfl) 98 [.tmp 2] rfl rfl rfl ?_
  intro w0 hA
  (repeat (first | (with_reducible apply XL.op) | (with_reducible apply XC.seq) | (with_reducible apply XC.region (Γ := Γ))))
  ((with_reducible apply XOp.box); (case hg | hx' => exact rfl); intro wb)
  (repeat (first | (with_reducible apply XL.op) | ((with_reducible apply XOp.p1); (case hg | hv => exact rfl)) | ((with_reducible apply XOp.loadO (i := 0)); (case hg | ht | hk | hx | hi | hc => exact rfl)) | (with_reducible apply XL.nilT) | (with_reducible apply XC.seq) | (with_reducible apply XC.region (Γ := Γ))))
  ((with_reducible apply XOp.alloc); (case hg | ht | hx' => exact rfl); intro cb)
  (repeat (first | (with_reducible apply XL.op) | ((with_reducible apply XOp.loadO (i := 0)); (case hg | ht | hk | hx | hi | hc => exact rfl)) | ((with_reducible apply XOp.storeN (i := 0)); (case hg | ht | hx | hv' | hk | h1 | hi | hs | ha => exact rfl)) | (with_reducible apply XL.nilT) | (with_reducible apply XC.seq) | (with_reducible apply XC.region (Γ := Γ))))
  (repeat (first | (with_reducible apply XL.op) | ((with_reducible apply XOp.p1); (case hg | hv => exact rfl)) | (with_reducible apply XL.nilT) | (with_reducible apply XC.seq) | (with_reducible apply XC.region (Γ := Γ)) | (((with_reducible apply XOp.callQ (hF := FC.nil (refCheck_fn x.C))); (case hg => exact rfl); (case hc => exact rfl); (case ha => exact rfl); try (case hA => exact Known.true)); rintro _ rfl)))
  ((with_reducible apply XC.cond); (case hc => exact rfl); all_goals (intro hb_; try simp only [pd_true, pd_false, Bool.not_eq_true', Bool.not_eq_false', Bool.and_eq_true, Bool.and_eq_false_iff, Bool.or_eq_true, Bool.or_eq_false_iff, not_true_eq_false, not_false_eq_true, Int.not_lt, Int.not_le] at hb_))
  · (repeat (first | (with_reducible apply XL.op) | ((with_reducible apply XOp.p1); (case hg | hv => exact rfl)) | (with_reducible apply XL.nilT) | (with_reducible apply XC.seq) | (with_reducible apply XC.region (Γ := Γ)) | (with_reducible apply XQ.ret) | (with_reducible apply XQ.rt)))
    ((with_reducible apply XQ.retE); (case hr => exact .t rfl .nil))
    exact congrArg (Value.int .i64) ((cerr_no (fun h => hb_ ((cerr_iff _).2 h))).trans (errW_c (w := x.w) (fun h => hb_ ((cerr_iff _).2 h))).symm)
  have hc : x.C.may := (cerr_iff _).1 (by first | assumption | exact Classical.not_not.1 hb_)
  have hno : ¬ okP x → errW x.w = 41 := fun h => errW_no hc (fun h2 => h ((okP_iff hA).2 h2).2)
  (repeat (first | (with_reducible apply XC.seq) | (with_reducible apply XQ.skip) | (with_reducible apply XQ.nt)))
  ((with_reducible apply XC.regionD (Γ := Γ) mixed (.q 0 (.q 1 (.q 2 (.q 3 (.q 4 (.q 5 (.e 6 (.q 7 (.q 8 (.q 9 (.q 10 (.q 11 (.q 12 (.q 13 (.q 14 (.e 15 (.q 16 (.q 17 (.q 18 (.q 19 (.q 20 (.q 21 (.q 22 (.e 23 (.q 24 (.q 25 (.q 26 (.q 27 (.q 28 (.q 29 (.e 30 (.q 31 (.e 32 (.q 33 (.q 34 (.done)))))))))))))))))))))))))))))))))))) [] []); (case hc => kernel_rfl))
  (repeat' (first | (with_reducible apply XL.op) | ((with_reducible apply XOp.p1); (case hg | hv => exact rfl)) | ((with_reducible apply XOp.p0); (case hg => exact rfl)) | ((with_reducible apply XOp.load); (case hg | ht | hk | hx => exact rfl); (case hc => exact own_cell (i := 0) rfl rfl)) | ((with_reducible apply XOp.load); (case hg | ht | hk | hx => exact rfl); (case hc => exact own_cell (i := 1) rfl rfl)) | (with_reducible apply XL.nilT) | (with_reducible apply XC.seq) | (with_reducible apply XC.region (Γ := Γ)) | (with_reducible apply XQ.skip) | (with_reducible apply XQ.ret) | (with_reducible apply XQ.nt) | (with_reducible apply XQ.rt) | (with_reducible apply XC.block) | ((with_reducible apply XP.p1); (case ho | hg | hv => exact rfl)) | ((with_reducible apply XP.p0); (case ho | hg => exact rfl)) | ((with_reducible apply XP.load); (case ho | hg | ht | hk | hx => exact rfl); (case hc => exact own_cell (i := 0) rfl rfl)) | ((with_reducible apply XP.load); (case ho | hg | ht | hk | hx => exact rfl); (case hc => exact own_cell (i := 1) rfl rfl)) | ((with_reducible apply XP.loadO (j := 0)); (case ho | hg | ht | hk | hx | hi | hc => exact rfl)) | ((with_reducible apply XP.loadO (j := 1)); (case ho | hg | ht | hk | hx | hi | hc => exact rfl)) | (with_reducible apply XP.done) | ((with_reducible apply XP.e); (first | ((with_reducible apply XE.d); (case ho => exact rfl); (case hd => exact rfl)) | ((with_reducible apply XE.e); (case ho => exact rfl)))) | ((with_reducible apply XP.keep); (case hk => first | ((repeat' (first | exact List.forall_mem_nil _ | (with_reducible refine List.forall_mem_cons.2 ⟨?_, ?_⟩) | exact List.mem_cons_self .. | (with_reducible apply List.mem_cons_of_mem) | (with_reducible apply List.mem_append_right))); done) | (intro x hx; first | exact sel_in hx | exact List.mem_cons_of_mem _ (sel_in hx) | exact List.mem_append_right _ (sel_in hx) | exact hx | exact List.mem_cons_of_mem _ hx | exact List.mem_append_right _ hx | ((repeat (first | exact sel_in hx | exact hx | (with_reducible apply List.mem_cons_of_mem) | (with_reducible apply List.mem_append_right))); done) | cases hx))) | ((with_reducible apply XC.condT); (case hc => exact rfl)) | (((with_reducible apply XOp.callQ (hF := refGainsL_fn _ _)); (case hg => exact rfl); (case hc => exact rfl); (case ha => exact rfl); try (case hA => exact Known.true)); (case hA => exact Known.of_old hA.f (lv_mono _)); rintro _ rfl) | (((with_reducible apply XOp.callQ (hF := refIsL_fn _ _ _)); (case hg => exact rfl); (case hc => exact rfl); (case ha => exact rfl); try (case hA => exact Known.true)); (case hA => first | exact Known.of_old hA.e (lm_mono _) | exact Known.of_old hA.hd (lm_mono _)); rintro _ rfl) | (((with_reducible apply XOp.callQ (hF := refHead_fn x.C hc)); (case hg => exact rfl); (case hc => exact rfl); (case ha => exact rfl); try (case hA => exact Known.true)); rintro _ rfl) | (((with_reducible apply XOp.callQ (hF := refTurns_fn x.T.1 x.T.2.1 x.T.2.2 _)); (case hg => exact rfl); (case hc => exact rfl); (case ha => exact rfl); try (case hA => exact Known.true)); (case hA => exact Known.of_old hA.t (Mono.sl _ _ _ _ _)); rintro _ rfl) | ((with_reducible apply XOp.split); (case hg | hj | hd | hb => exact rfl); (fail_if_success (case hf => exact fun h => Bool.noConfusion h)); (fail_if_success (case ht => exact fun h => Bool.noConfusion h)); all_goals (intro hb_; try simp only [pd_true, pd_false, Bool.not_eq_true', Bool.not_eq_false', Bool.and_eq_true, Bool.and_eq_false_iff, Bool.or_eq_true, Bool.or_eq_false_iff, not_true_eq_false, not_false_eq_true, Int.not_lt, Int.not_le] at hb_)) | ((with_reducible apply XP.split); (case ho | hg | hj | hd | hb => exact rfl); (fail_if_success (case hf => exact fun h => Bool.noConfusion h)); (fail_if_success (case ht => exact fun h => Bool.noConfusion h)); all_goals (intro hb_; try simp only [pd_true, pd_false, Bool.not_eq_true', Bool.not_eq_false', Bool.and_eq_true, Bool.and_eq_false_iff, Bool.or_eq_true, Bool.or_eq_false_iff, not_true_eq_false, not_false_eq_true, Int.not_lt, Int.not_le] at hb_)) | ((with_reducible apply XC.cond); (case hc => exact rfl); all_goals (intro hb_; try simp only [pd_true, pd_false, Bool.not_eq_true', Bool.not_eq_false', Bool.and_eq_true, Bool.and_eq_false_iff, Bool.or_eq_true, Bool.or_eq_false_iff, not_true_eq_false, not_false_eq_true, Int.not_lt, Int.not_le] at hb_))))
  iterate 6
    (((with_reducible apply XQ.retE); (case hr => exact .t rfl .nil))
     exact congrArg (Value.int .i64) (hno fun h => by
       try rw [half_wrap hc] at hb_
       first | exact hb_ h.e | exact hb_ h.h | exact hb_ h.f | exact hb_ h.t | exact hb_ h.ll | exact hb_ h.ml).symm)
  rename_i p1 p2 p3 p4 p5
  rw [half_wrap hc] at p4
  refine XC.loop (fun k ρ L => ∃ i : Nat, i + k = x.Ls.1.length ∧ L = [(cb, .cells ⟨x.C.cells⟩ 23 (0, 0)), (wb, .cells ⟨x.cells⟩ 31 (0, 0))] ∧ (∀ l ∈ x.Ls.1.take i, layP l x.C) ∧ Slots ρ [(1, .pointer (some ⟨wb, 0, none⟩)), (3, .pointer (some ⟨cb, 0, none⟩)), (5, .int .i64 i)])
    x.Ls.1.length ⟨0, by simp, rfl, by simp, rfl, rfl, rfl, trivial⟩ ?_
  rintro k ρ L ⟨i, hik, rfl, hq, hs⟩
  have hL := hA.l.locRaw
  have hLa := hL.at_
  have hLb := hL.bytes
  refine XC.slots _ hs ?_
  (repeat (first | (with_reducible apply XL.op) | ((with_reducible apply XOp.p1); (case hg | hv => exact rfl)) | ((with_reducible apply XOp.load); (case hg | ht | hk | hx => exact rfl); (case hc => exact own_cell (i := 0) rfl rfl)) | (with_reducible apply XL.nilT) | (with_reducible apply XC.seq) | (with_reducible apply XC.region (Γ := Γ))))
  ((with_reducible apply XC.cond); (case hc => exact rfl); all_goals (intro hb_; try simp only [pd_true, pd_false, Bool.not_eq_true', Bool.not_eq_false', Bool.and_eq_true, Bool.and_eq_false_iff, Bool.or_eq_true, Bool.or_eq_false_iff, not_true_eq_false, not_false_eq_true, Int.not_lt, Int.not_le] at hb_))
  · obtain ⟨l, hi⟩ : ∃ l, x.Ls.1[i]? = some l := ⟨_, List.getElem?_eq_getElem (by omega)⟩
    have hl := hA.l.locAt (List.mem_of_getElem? hi)
    (repeat (first | (with_reducible apply XC.seq) | (with_reducible apply XQ.skip) | (with_reducible apply XQ.nt) | (with_reducible apply XC.block)))
    ((with_reducible apply XC.regionD (Γ := Γ) mixed (.q 0 (.q 1 (.q 2 (.q 3 (.q 4 (.q 5 (.e 6 (.q 7 (.done))))))))) [] []); (case hc => kernel_rfl))
    (repeat' (first | (with_reducible apply XL.op) | ((with_reducible apply XOp.p1); (case hg | hv => exact rfl)) | (with_reducible apply XL.nilT) | (with_reducible apply XC.seq) | (with_reducible apply XC.region (Γ := Γ)) | (with_reducible apply XQ.skip) | (with_reducible apply XQ.ret) | (with_reducible apply XQ.nt) | (with_reducible apply XQ.nb) | (with_reducible apply XQ.rt) | (with_reducible apply XQ.rb) | ((with_reducible apply XP.p1); (case ho | hg | hv => exact rfl)) | ((with_reducible apply XP.load); (case ho | hg | ht | hk | hx => exact rfl); (case hc => exact own_cell (i := 1) rfl rfl)) | ((with_reducible apply XP.loadO (j := 0)); (case ho | hg | ht | hk | hx | hi | hc => exact rfl)) | ((with_reducible apply XP.pr); (case ho => exact rfl); (case hg => exact rfl); (case hr => ((with_reducible apply PR.idxA); (case ht | hk | he | hx | hi => exact rfl); (case hr => first | assumption | omega); (case ha => first | assumption | exact SlA.at_ (by assumption))))) | (with_reducible apply XP.done) | ((with_reducible apply XP.e); (first | ((with_reducible apply XE.d); (case ho => exact rfl); (case hd => exact rfl)) | ((with_reducible apply XE.e); (case ho => exact rfl)))) | ((with_reducible apply XP.keep); (case hk => first | ((repeat' (first | exact List.forall_mem_nil _ | (with_reducible refine List.forall_mem_cons.2 ⟨?_, ?_⟩) | exact List.mem_cons_self .. | (with_reducible apply List.mem_cons_of_mem) | (with_reducible apply List.mem_append_right))); done) | (intro x hx; first | exact sel_in hx | exact List.mem_cons_of_mem _ (sel_in hx) | exact List.mem_append_right _ (sel_in hx) | exact hx | exact List.mem_cons_of_mem _ hx | exact List.mem_append_right _ hx | ((repeat (first | exact sel_in hx | exact hx | (with_reducible apply List.mem_cons_of_mem) | (with_reducible apply List.mem_append_right))); done) | cases hx))) | (first | ((with_reducible apply XOp.loadN); (case hg | ht | hk | hx => exact rfl); (case hc => exact Known.of_old (hL.rawAt hi) (Mono.row _ _ _)); (case hl => exact rfl)) | ((with_reducible apply XP.loadN); (case ho | hg | ht | hk | hx => exact rfl); (case hc => exact Known.of_old (hL.rawAt hi) (Mono.row _ _ _)); (case hl => exact rfl))) | (((with_reducible apply XOp.callQ (hF := refLayer_fn l x.C hc)); (case hg => exact rfl); (case hc => exact rfl); (case ha => exact rfl); try (case hA => exact Known.true)); (case hA => exact Known.of_old hl (ll_mono _)); rintro _ rfl) | ((with_reducible apply XC.cond); (case hc => exact rfl); all_goals (intro hb_; try simp only [pd_true, pd_false, Bool.not_eq_true', Bool.not_eq_false', Bool.and_eq_true, Bool.and_eq_false_iff, Bool.or_eq_true, Bool.or_eq_false_iff, not_true_eq_false, not_false_eq_true, Int.not_lt, Int.not_le] at hb_))))
    · ((with_reducible apply XQ.retE); (case hr => exact .t rfl .nil))
      exact congrArg (Value.int .i64) (hno fun h => hb_ (h.l l (List.mem_of_getElem? hi))).symm
    · exact ⟨k - 1, by omega, i + 1, by omega, rfl, forall_snoc hi hq (by assumption), rfl, rfl, intS (m := x.Ls.1.length) (by omega) (by omega), trivial⟩
  obtain rfl : i = x.Ls.1.length := by omega
  rw [List.take_length] at hq
  (repeat (first | (with_reducible apply XL.op) | ((with_reducible apply XOp.p1); (case hg | hv => exact rfl)) | (with_reducible apply XL.nilT) | (with_reducible apply XC.seq) | (with_reducible apply XC.region (Γ := Γ)) | (with_reducible apply XQ.exit) | (with_reducible apply XQ.nt) | (with_reducible apply XQ.et) | (with_reducible apply XC.block) | ((with_reducible apply XQ.eb); (case hb => exact rfl))))
  refine XC.loop (fun k ρ L => ∃ i : Nat, i + k = x.M.1.length ∧ L = [(cb, .cells ⟨x.C.cells⟩ 23 (0, 0)), (wb, .cells ⟨x.cells⟩ 31 (0, 0))] ∧ (∀ l ∈ x.M.1.take i, shpP l.mat x.C.Vocab x.C.Width) ∧ Slots ρ [(1, .pointer (some ⟨wb, 0, none⟩)), (3, .pointer (some ⟨cb, 0, none⟩)), (7, .int .i64 i)])
    x.M.1.length ⟨0, by simp, rfl, by simp, rfl, rfl, rfl, trivial⟩ ?_
  rintro k ρ L ⟨i, hik, rfl, hq2, hs⟩
  have hM := hA.m.locRaw
  have hMa := hM.at_
  have hMb := hM.bytes
  refine XC.slots _ hs ?_
  (repeat (first | (with_reducible apply XL.op) | ((with_reducible apply XOp.p1); (case hg | hv => exact rfl)) | ((with_reducible apply XOp.load); (case hg | ht | hk | hx => exact rfl); (case hc => exact own_cell (i := 0) rfl rfl)) | (with_reducible apply XL.nilT) | (with_reducible apply XC.seq) | (with_reducible apply XC.region (Γ := Γ))))
  ((with_reducible apply XC.cond); (case hc => exact rfl); all_goals (intro hb_; try simp only [pd_true, pd_false, Bool.not_eq_true', Bool.not_eq_false', Bool.and_eq_true, Bool.and_eq_false_iff, Bool.or_eq_true, Bool.or_eq_false_iff, not_true_eq_false, not_false_eq_true, Int.not_lt, Int.not_le] at hb_))
  · obtain ⟨l, hi⟩ : ∃ l, x.M.1[i]? = some l := ⟨_, List.getElem?_eq_getElem (by omega)⟩
    have hl := hA.m.locAt (List.mem_of_getElem? hi)
    (repeat (first | (with_reducible apply XC.seq) | (with_reducible apply XQ.skip) | (with_reducible apply XQ.nt) | (with_reducible apply XC.block)))
    ((with_reducible apply XC.regionD (Γ := Γ) mixed (.q 0 (.q 1 (.q 2 (.q 3 (.q 4 (.q 5 (.q 6 (.q 7 (.q 8 (.e 9 (.q 10 (.done)))))))))))) [] []); (case hc => kernel_rfl))
    (repeat' (first | (with_reducible apply XL.op) | ((with_reducible apply XOp.p1); (case hg | hv => exact rfl)) | (with_reducible apply XL.nilT) | (with_reducible apply XC.seq) | (with_reducible apply XC.region (Γ := Γ)) | (with_reducible apply XQ.skip) | (with_reducible apply XQ.ret) | (with_reducible apply XQ.nt) | (with_reducible apply XQ.nb) | (with_reducible apply XQ.rt) | (with_reducible apply XQ.rb) | ((with_reducible apply XP.p1); (case ho | hg | hv => exact rfl)) | ((with_reducible apply XP.load); (case ho | hg | ht | hk | hx => exact rfl); (case hc => exact own_cell (i := 0) rfl rfl)) | ((with_reducible apply XP.load); (case ho | hg | ht | hk | hx => exact rfl); (case hc => exact own_cell (i := 1) rfl rfl)) | ((with_reducible apply XP.pr); (case ho => exact rfl); (case hg => exact rfl); (case hr => ((with_reducible apply PR.idxA); (case ht | hk | he | hx | hi => exact rfl); (case hr => first | assumption | omega); (case ha => first | assumption | exact SlA.at_ (by assumption))))) | (with_reducible apply XP.done) | ((with_reducible apply XP.e); (first | ((with_reducible apply XE.d); (case ho => exact rfl); (case hd => exact rfl)) | ((with_reducible apply XE.e); (case ho => exact rfl)))) | ((with_reducible apply XP.keep); (case hk => first | ((repeat' (first | exact List.forall_mem_nil _ | (with_reducible refine List.forall_mem_cons.2 ⟨?_, ?_⟩) | exact List.mem_cons_self .. | (with_reducible apply List.mem_cons_of_mem) | (with_reducible apply List.mem_append_right))); done) | (intro x hx; first | exact sel_in hx | exact List.mem_cons_of_mem _ (sel_in hx) | exact List.mem_append_right _ (sel_in hx) | exact hx | exact List.mem_cons_of_mem _ hx | exact List.mem_append_right _ hx | ((repeat (first | exact sel_in hx | exact hx | (with_reducible apply List.mem_cons_of_mem) | (with_reducible apply List.mem_append_right))); done) | cases hx))) | (first | ((with_reducible apply XOp.loadN); (case hg | ht | hk | hx => exact rfl); (case hc => exact Known.of_old (hM.rawAt hi) (Mono.row _ _ _)); (case hl => exact rfl)) | ((with_reducible apply XP.loadN); (case ho | hg | ht | hk | hx => exact rfl); (case hc => exact Known.of_old (hM.rawAt hi) (Mono.row _ _ _)); (case hl => exact rfl))) | (((with_reducible apply XOp.callQ (hF := refIsL_fn l _ _)); (case hg => exact rfl); (case hc => exact rfl); (case ha => exact rfl); try (case hA => exact Known.true)); (case hA => exact Known.of_old hl (lm_mono _)); rintro _ rfl) | ((with_reducible apply XC.cond); (case hc => exact rfl); all_goals (intro hb_; try simp only [pd_true, pd_false, Bool.not_eq_true', Bool.not_eq_false', Bool.and_eq_true, Bool.and_eq_false_iff, Bool.or_eq_true, Bool.or_eq_false_iff, not_true_eq_false, not_false_eq_true, Int.not_lt, Int.not_le] at hb_))))
    · ((with_reducible apply XQ.retE); (case hr => exact .t rfl .nil))
      exact congrArg (Value.int .i64) (hno fun h => hb_ (h.m l (List.mem_of_getElem? hi))).symm
    · exact ⟨k - 1, by omega, i + 1, by omega, rfl, forall_snoc hi hq2 (by assumption), rfl, rfl, intS (m := x.M.1.length) (by omega) (by omega), trivial⟩
  obtain rfl : i = x.M.1.length := by omega
  rw [List.take_length] at hq2
  (repeat (first | (with_reducible apply XL.op) | ((with_reducible apply XOp.p1); (case hg | hv => exact rfl)) | (with_reducible apply XL.nilT) | (with_reducible apply XC.seq) | (with_reducible apply XC.region (Γ := Γ)) | (with_reducible apply XQ.ret) | (with_reducible apply XQ.exit) | (with_reducible apply XQ.nt) | (with_reducible apply XQ.et) | ((with_reducible apply XQ.eb); (case hb => exact rfl))))
  ((with_reducible apply XQ.retE); (case hr => exact .t rfl .nil))
  exact congrArg (Value.int .i64) (errW_ok ((okP_iff hA).1 ⟨hc, p1, p2, p3, p4, p5, by assumption, hq, hq2⟩)).symm
end Go.Proofs.YtppggaiahkecoaaDoorX
/- A layer's bytes: the reference's. -/
namespace Go.Proofs.YtppggaiahkecoaaDoorX
open Go Go.SX

theorem addNarrowL_fn (v : Value) (m : Nat) (xs : List Int) (F : HL) (hown : OwnS 5 1 v m (xs.map (.int .u8)) F) (x : LV) (hm : m + x.1.length ≤ 1099511627776) :
    FC Tryd.prog 81 [v, slv x] F (fun h => lvAt h x) (fun v L => OwnS 5 1 v (m + x.1.length) ((xs ++ x.1.map toB).map (.int .u8)) L) :=
  addNarrow_fn v m xs F hown x.1 x.2.1 x.2.2 hm
theorem getD_take {l : List Int} {i : Nat} (h : i < l.length) : l.take (i + 1) = l.take i ++ [l.getD i 0] := by
  rw [take_snocD (List.getElem?_eq_getElem h), List.getD_eq_getElem?_getD, List.getElem?_eq_getElem h]; rfl
theorem layBody_sum (l : LL) : (layBody l.lay).length = l.n1.1.length + l.n2.1.length + l.q.d.1.length + l.k.d.1.length + l.v.d.1.length + l.o.d.1.length + l.g.d.1.length + l.u.d.1.length + l.d.d.1.length + 7 := by
  simp only [layBody, Mat.bytes, LL.lay, LM.mat, LL.by_, List.length_append, List.length_map, List.length_cons, List.length_nil]; omega
theorem tail7 (A B : List Int) (hB : B.length = 7) (i : Nat) : (A ++ B)[(A ++ B).length - 7 + i]? = B[i]? := by
  rw [List.length_append, hB, Nat.add_sub_cancel, List.getElem?_append_right (by omega), Nat.add_sub_cancel_left]
set_option maxHeartbeats 8000000 in
theorem layerBody_fn (l : LL) (hb : (layBody l.lay).length ≤ 1000000) : FC Tryd.prog 83 [.agg ⟨l.cells⟩] [] (fun h => llAt h l)
    (fun v L => OwnS 5 1 v (layBody l.lay).length ((layBody l.lay).map (.int .u8)) L) := by
  have hs := layBody_sum l
  refine FC.sub2 ?_
  refine FC.intro Tryd.func83 rfl (by kernel_rfl) 60 [.tmp 2] rfl rfl rfl ?_
  intro w0 hA
  (repeat (first | (with_reducible apply XL.op) | (with_reducible apply XC.seq) | (with_reducible apply XC.region (Γ := Γ))))
  ((with_reducible apply XOp.box); (case hg | hx' => exact rfl); intro lb)
  (repeat (first | (with_reducible apply XL.op) | ((with_reducible apply XOp.p1); (case hg | hv => exact rfl)) | ((with_reducible apply XOp.load); (case hg | ht | hk | hx => exact rfl); (case hc => exact own_cell (i := 0) rfl rfl)) | (with_reducible apply XL.nilT) | (with_reducible apply XC.seq) | (with_reducible apply XC.region (Γ := Γ))))
  ((with_reducible apply XOp.callR (R := [_]) (F := []) (hF := addNarrowL_fn (.slice none 0 0) (0) ([]) [] (OwnS.nil _ _) l.n1 (by omega))); (case hg => exact rfl); (case hc => exact rfl); (case ha => exact rfl); (case hL => exact rfl); try (case hA => exact Known.true))
  case hA => exact Known.of_old hA.n1 (lv_mono _)
  intro v0 F0 h0
  obtain ⟨a0, c0, rfl⟩ := h0.val
  (repeat (first | (with_reducible apply XL.op) | ((with_reducible apply XOp.p1); (case hg | hv => exact rfl)) | ((with_reducible apply XOp.load); (case hg | ht | hk | hx => exact rfl); (case hc => exact own_cell (i := 0) rfl rfl)) | (with_reducible apply XL.nilT) | (with_reducible apply XC.seq) | (with_reducible apply XC.region (Γ := Γ))))
  ((with_reducible apply XOp.callR (R := [_]) (F := F0) (hF := addNarrowL_fn (.slice a0 _ c0) (0 + l.n1.1.length) ([] ++ l.n1.1.map toB) F0 h0 l.n2 (by omega))); (case hg => exact rfl); (case hc => exact rfl); (case ha => exact rfl); (case hL => exact rfl); try (case hA => exact Known.true))
  case hA => exact Known.of_old hA.n2 (lv_mono _)
  intro v1 F1 h1
  obtain ⟨a1, c1, rfl⟩ := h1.val
  (repeat (first | (with_reducible apply XL.op) | ((with_reducible apply XOp.p1); (case hg | hv => exact rfl)) | ((with_reducible apply XOp.load); (case hg | ht | hk | hx => exact rfl); (case hc => exact own_cell (i := 0) rfl rfl)) | (with_reducible apply XL.nilT) | (with_reducible apply XC.seq) | (with_reducible apply XC.region (Γ := Γ))))
  ((with_reducible apply XOp.callR (R := [_]) (F := F1) (hF := addNarrowL_fn (.slice a1 _ c1) (0 + l.n1.1.length + l.n2.1.length) ([] ++ l.n1.1.map toB ++ l.n2.1.map toB) F1 h1 l.q.d (by omega))); (case hg => exact rfl); (case hc => exact rfl); (case ha => exact rfl); (case hL => exact rfl); try (case hA => exact Known.true))
  case hA => exact Known.of_old hA.q (lm_mono _)
  intro v2 F2 h2
  obtain ⟨a2, c2, rfl⟩ := h2.val
  (repeat (first | (with_reducible apply XL.op) | ((with_reducible apply XOp.p1); (case hg | hv => exact rfl)) | ((with_reducible apply XOp.load); (case hg | ht | hk | hx => exact rfl); (case hc => exact own_cell (i := 0) rfl rfl)) | (with_reducible apply XL.nilT) | (with_reducible apply XC.seq) | (with_reducible apply XC.region (Γ := Γ))))
  ((with_reducible apply XOp.callR (R := [_]) (F := F2) (hF := addNarrowL_fn (.slice a2 _ c2) (0 + l.n1.1.length + l.n2.1.length + l.q.d.1.length) ([] ++ l.n1.1.map toB ++ l.n2.1.map toB ++ l.q.d.1.map toB) F2 h2 l.k.d (by omega))); (case hg => exact rfl); (case hc => exact rfl); (case ha => exact rfl); (case hL => exact rfl); try (case hA => exact Known.true))
  case hA => exact Known.of_old hA.k (lm_mono _)
  intro v3 F3 h3
  obtain ⟨a3, c3, rfl⟩ := h3.val
  (repeat (first | (with_reducible apply XL.op) | ((with_reducible apply XOp.p1); (case hg | hv => exact rfl)) | ((with_reducible apply XOp.load); (case hg | ht | hk | hx => exact rfl); (case hc => exact own_cell (i := 0) rfl rfl)) | (with_reducible apply XL.nilT) | (with_reducible apply XC.seq) | (with_reducible apply XC.region (Γ := Γ))))
  ((with_reducible apply XOp.callR (R := [_]) (F := F3) (hF := addNarrowL_fn (.slice a3 _ c3) (0 + l.n1.1.length + l.n2.1.length + l.q.d.1.length + l.k.d.1.length) ([] ++ l.n1.1.map toB ++ l.n2.1.map toB ++ l.q.d.1.map toB ++ l.k.d.1.map toB) F3 h3 l.v.d (by omega))); (case hg => exact rfl); (case hc => exact rfl); (case ha => exact rfl); (case hL => exact rfl); try (case hA => exact Known.true))
  case hA => exact Known.of_old hA.v (lm_mono _)
  intro v4 F4 h4
  obtain ⟨a4, c4, rfl⟩ := h4.val
  (repeat (first | (with_reducible apply XL.op) | ((with_reducible apply XOp.p1); (case hg | hv => exact rfl)) | ((with_reducible apply XOp.load); (case hg | ht | hk | hx => exact rfl); (case hc => exact own_cell (i := 0) rfl rfl)) | (with_reducible apply XL.nilT) | (with_reducible apply XC.seq) | (with_reducible apply XC.region (Γ := Γ))))
  ((with_reducible apply XOp.callR (R := [_]) (F := F4) (hF := addNarrowL_fn (.slice a4 _ c4) (0 + l.n1.1.length + l.n2.1.length + l.q.d.1.length + l.k.d.1.length + l.v.d.1.length) ([] ++ l.n1.1.map toB ++ l.n2.1.map toB ++ l.q.d.1.map toB ++ l.k.d.1.map toB ++ l.v.d.1.map toB) F4 h4 l.o.d (by omega))); (case hg => exact rfl); (case hc => exact rfl); (case ha => exact rfl); (case hL => exact rfl); try (case hA => exact Known.true))
  case hA => exact Known.of_old hA.o (lm_mono _)
  intro v5 F5 h5
  obtain ⟨a5, c5, rfl⟩ := h5.val
  (repeat (first | (with_reducible apply XL.op) | ((with_reducible apply XOp.p1); (case hg | hv => exact rfl)) | ((with_reducible apply XOp.load); (case hg | ht | hk | hx => exact rfl); (case hc => exact own_cell (i := 0) rfl rfl)) | (with_reducible apply XL.nilT) | (with_reducible apply XC.seq) | (with_reducible apply XC.region (Γ := Γ))))
  ((with_reducible apply XOp.callR (R := [_]) (F := F5) (hF := addNarrowL_fn (.slice a5 _ c5) (0 + l.n1.1.length + l.n2.1.length + l.q.d.1.length + l.k.d.1.length + l.v.d.1.length + l.o.d.1.length) ([] ++ l.n1.1.map toB ++ l.n2.1.map toB ++ l.q.d.1.map toB ++ l.k.d.1.map toB ++ l.v.d.1.map toB ++ l.o.d.1.map toB) F5 h5 l.g.d (by omega))); (case hg => exact rfl); (case hc => exact rfl); (case ha => exact rfl); (case hL => exact rfl); try (case hA => exact Known.true))
  case hA => exact Known.of_old hA.g (lm_mono _)
  intro v6 F6 h6
  obtain ⟨a6, c6, rfl⟩ := h6.val
  (repeat (first | (with_reducible apply XL.op) | ((with_reducible apply XOp.p1); (case hg | hv => exact rfl)) | ((with_reducible apply XOp.load); (case hg | ht | hk | hx => exact rfl); (case hc => exact own_cell (i := 0) rfl rfl)) | (with_reducible apply XL.nilT) | (with_reducible apply XC.seq) | (with_reducible apply XC.region (Γ := Γ))))
  ((with_reducible apply XOp.callR (R := [_]) (F := F6) (hF := addNarrowL_fn (.slice a6 _ c6) (0 + l.n1.1.length + l.n2.1.length + l.q.d.1.length + l.k.d.1.length + l.v.d.1.length + l.o.d.1.length + l.g.d.1.length) ([] ++ l.n1.1.map toB ++ l.n2.1.map toB ++ l.q.d.1.map toB ++ l.k.d.1.map toB ++ l.v.d.1.map toB ++ l.o.d.1.map toB ++ l.g.d.1.map toB) F6 h6 l.u.d (by omega))); (case hg => exact rfl); (case hc => exact rfl); (case ha => exact rfl); (case hL => exact rfl); try (case hA => exact Known.true))
  case hA => exact Known.of_old hA.u (lm_mono _)
  intro v7 F7 h7
  obtain ⟨a7, c7, rfl⟩ := h7.val
  (repeat (first | (with_reducible apply XL.op) | ((with_reducible apply XOp.p1); (case hg | hv => exact rfl)) | ((with_reducible apply XOp.load); (case hg | ht | hk | hx => exact rfl); (case hc => exact own_cell (i := 0) rfl rfl)) | (with_reducible apply XL.nilT) | (with_reducible apply XC.seq) | (with_reducible apply XC.region (Γ := Γ))))
  ((with_reducible apply XOp.callR (R := [_]) (F := F7) (hF := addNarrowL_fn (.slice a7 _ c7) (0 + l.n1.1.length + l.n2.1.length + l.q.d.1.length + l.k.d.1.length + l.v.d.1.length + l.o.d.1.length + l.g.d.1.length + l.u.d.1.length) ([] ++ l.n1.1.map toB ++ l.n2.1.map toB ++ l.q.d.1.map toB ++ l.k.d.1.map toB ++ l.v.d.1.map toB ++ l.o.d.1.map toB ++ l.g.d.1.map toB ++ l.u.d.1.map toB) F7 h7 l.d.d (by omega))); (case hg => exact rfl); (case hc => exact rfl); (case ha => exact rfl); (case hL => exact rfl); try (case hA => exact Known.true))
  case hA => exact Known.of_old hA.d (lm_mono _)
  intro v8 F8 h8
  obtain ⟨a8, c8, rfl⟩ := h8.val
  (repeat (first | (with_reducible apply XL.op) | ((with_reducible apply XOp.p1); (case hg | hv => exact rfl)) | (with_reducible apply XL.nilT) | (with_reducible apply XC.seq) | (with_reducible apply XC.region (Γ := Γ)) | (with_reducible apply XC.block)))
  have hown : OwnS 5 1 (.slice a8 (0 + l.n1.1.length + l.n2.1.length + l.q.d.1.length + l.k.d.1.length + l.v.d.1.length + l.o.d.1.length + l.g.d.1.length + l.u.d.1.length + l.d.d.1.length) c8) ((layBody l.lay).length - 7) (((layBody l.lay).take ((layBody l.lay).length - 7)).map (.int .u8)) F8 := by
    refine h8.conv (by omega) ?_
    congr 1
    rw [show layBody l.lay = ([] ++ l.n1.1.map toB ++ l.n2.1.map toB ++ l.q.d.1.map toB ++ l.k.d.1.map toB ++ l.v.d.1.map toB ++ l.o.d.1.map toB ++ l.g.d.1.map toB ++ l.u.d.1.map toB ++ l.d.d.1.map toB) ++ l.by_.map toB by simp [layBody, Mat.bytes, LL.lay, LM.mat]]
    rw [List.take_left' (by simp only [List.length_append, List.length_map, List.length_nil, LL.by_, List.length_cons]; omega)]
  have hv : (0 + l.n1.1.length + l.n2.1.length + l.q.d.1.length + l.k.d.1.length + l.v.d.1.length + l.o.d.1.length + l.g.d.1.length + l.u.d.1.length + l.d.d.1.length) = (layBody l.lay).length - 7 := by omega
  rw [hv] at hown
  clear h0 h1 h2 h3 h4 h5 h6 h7 h8
  refine XC.loop (fun k ρ L => ∃ (i : Nat) (v : Value) (F : HL), i + k = 7 ∧ OwnS 5 1 v ((layBody l.lay).length - 7 + i) (((layBody l.lay).take ((layBody l.lay).length - 7 + i)).map (.int .u8)) F ∧ L = [(lb, .cells ⟨l.cells⟩ 67 (0, 0))] ++ F ∧ Slots ρ [(1, .pointer (some ⟨lb, 0, none⟩)), (3, v), (4, .int .i64 i)])
    7 ⟨0, _, F8, by omega, hown, rfl, rfl, by rw [hv]; rfl, rfl, trivial⟩ ?_
  clear hown
  rintro k ρ L ⟨i, v, F, hik, hown, rfl, hs2⟩
  obtain ⟨a', c', rfl⟩ := hown.val
  refine XC.slots _ hs2 ?_
  (repeat (first | (with_reducible apply XL.op) | ((with_reducible apply XOp.p1); (case hg | hv => exact rfl)) | (with_reducible apply XL.nilT) | (with_reducible apply XC.seq) | (with_reducible apply XC.region (Γ := Γ))))
  ((with_reducible apply XC.cond); (case hc => exact rfl); all_goals (intro hb_; try simp only [pd_true, pd_false, Bool.not_eq_true', Bool.not_eq_false', Bool.and_eq_true, Bool.and_eq_false_iff, Bool.or_eq_true, Bool.or_eq_false_iff, not_true_eq_false, not_false_eq_true, Int.not_lt, Int.not_le] at hb_))
  · have hc7 := by_cell l (i := i) (by omega)
    (repeat (first | (with_reducible apply XL.op) | ((with_reducible apply XOp.p1); (case hg | hv => exact rfl)) | ((with_reducible apply XOp.pr); (case hg => exact rfl); (case hr => ((with_reducible apply PR.aidx); (case ht | hk | he | hx | hi => exact rfl); (case hr => first | assumption | omega)))) | (with_reducible apply XC.seq) | (with_reducible apply XC.region (Γ := Γ)) | (with_reducible apply XQ.skip) | (with_reducible apply XQ.nt) | (with_reducible apply XC.block) | (first | ((with_reducible apply XOp.load); (case hg | ht | hk | hx => exact rfl); (case hc => exact own_cell (i := 0) rfl hc7)) | ((with_reducible apply XP.load); (case ho | hg | ht | hk | hx => exact rfl); (case hc => exact own_cell (i := 0) rfl hc7)))))
    ((with_reducible apply XOp.buildSlice); (case hg | ht | hk | he | hz | hzl | hf => exact rfl); intro bb)
    (repeat ((with_reducible apply XL.op)))
    ((with_reducible apply XOp.append1R (R := [_])); (case hg => exact rfl); (case ht => exact rfl); (case hk => exact rfl); (case he => exact rfl); (case hown => exact hown); (case hs => exact rfl); (case hx => exact rfl); (case hL => exact rfl); (case hl => exact rfl); (case h1 => exact rfl); (case hz => exact rfl); (case hsz => exact Nat.zero_lt_succ _); (case hk0 => exact Nat.zero_lt_succ _); (case h63 => simp only [maxLen]; omega); (case hb => simp only []; omega); intro v_ F_ hown_; obtain ⟨a_, c_, rfl⟩ := hown_.val)
    (repeat (first | (with_reducible apply XL.op) | ((with_reducible apply XOp.p1); (case hg | hv => exact rfl)) | (with_reducible apply XL.nilT) | (with_reducible apply XC.region (Γ := Γ)) | (with_reducible apply XL.nilQ) | (with_reducible apply XQ.nt) | (with_reducible apply XQ.nb)))
    refine ⟨k - 1, by omega, i + 1, _, F_, by omega, hown_.conv (by omega) ?_, rfl, rfl, rfl, intS (m := 7) (by omega) (by omega), trivial⟩
    have e : (layBody l.lay)[(layBody l.lay).length - 7 + i]? = some (toB (l.by_.getD i 0)) := by
      rw [show layBody l.lay = ([] ++ l.n1.1.map toB ++ l.n2.1.map toB ++ l.q.d.1.map toB ++ l.k.d.1.map toB ++ l.v.d.1.map toB ++ l.o.d.1.map toB ++ l.g.d.1.map toB ++ l.u.d.1.map toB ++ l.d.d.1.map toB) ++ l.by_.map toB by simp [layBody, Mat.bytes, LL.lay, LM.mat]]
      rw [tail7 _ _ (by simp [LL.by_]), List.getElem?_map, List.getElem?_eq_getElem (show i < l.by_.length from by show i < 7; omega), List.getD_eq_getElem?_getD, List.getElem?_eq_getElem (show i < l.by_.length from by show i < 7; omega)]
      rfl
    rw [← Nat.add_assoc, take_snocD e, List.map_append]
    simp only [i8_byte]
    rfl
  · obtain rfl : i = 7 := by omega
    (repeat (first | (with_reducible apply XL.op) | ((with_reducible apply XOp.p1); (case hg | hv => exact rfl)) | (with_reducible apply XL.nilT) | (with_reducible apply XC.seq) | (with_reducible apply XC.region (Γ := Γ)) | (with_reducible apply XQ.ret) | (with_reducible apply XQ.exit) | (with_reducible apply XQ.nt) | (with_reducible apply XQ.et) | ((with_reducible apply XQ.eb); (case hb => exact rfl))))
    ((with_reducible apply XQ.retE); (case hr => exact .t rfl .nil))
    refine ⟨F, .of (List.sublist_append_right _ _), ?_⟩
    refine hown.conv (by omega) ?_
    rw [List.take_of_length_le (by omega)]
end Go.Proofs.YtppggaiahkecoaaDoorX
/- How long the parts of weights that fit are. -/
namespace Go.Proofs.YtppggaiahkecoaaDoorX
open Go Go.SX

structure szW (w : Wts) : Prop where
  e : w.Embed.Data.length ≤ 2048
  t : w.Turns.length ≤ 16
  l : w.Layers.length ≤ 4
  lb : ∀ l ∈ w.Layers, (layBody l).length ≤ 30000
  f : w.Final.length ≤ 32
  h : w.Head.Data.length ≤ 2048
  m : w.Medusa.length ≤ 4
  mb : ∀ m ∈ w.Medusa, m.Data.length ≤ 2048
theorem layN_le {c : Cfg} (h : c.may) : layN c ≤ 30000 := by
  obtain ⟨n1, n2, n3, n4⟩ := may_nn h
  have hW := h.2.1
  have hH := h.2.2.2.2.1
  have p1 := mul_bnd (a := c.Width) (b := c.Width) (x := 32) (y := 32) (by omega) (by omega)
  have p2 := mul_bnd (a := c.keys) (b := c.Width) (x := 128) (y := 32) (by omega) (by omega)
  have p3 := mul_bnd (a := c.Hidden) (b := c.Width) (x := 64) (y := 32) (by omega) (by omega)
  have p4 := mul_bnd (a := c.Width) (b := c.Hidden) (x := 32) (y := 64) (by omega) (by omega)
  unfold layN; omega
theorem isM_le {m : Mat} {c : Cfg} (hc : c.may) (h : isM m c.Vocab c.Width) : m.Data.length ≤ 2048 := by
  have h1 := h.2.2.2.2.1
  have hV := hc.1
  have hW := hc.2.1
  have p1 := mul_bnd (a := c.Vocab) (b := c.Width) (x := 64) (y := 32) (by omega) (by omega)
  omega
theorem okW_sz {w : Wts} (h : okW w) : szW w := by
  obtain ⟨n1, n2, n3, n4⟩ := may_nn h.c
  have hW := h.c.2.1
  refine ⟨isM_le h.c h.e, ?_, ?_, fun l hl => ?_, ?_, isM_le h.c h.h, ?_, fun m hm => isM_le h.c (h.m.2 m hm)⟩
  · have := h.t.1; omega
  · have := h.l.1; have := h.c.2.2.2.1; omega
  · have := layBody_len (h.l.2 l hl); have := layN_le h.c; omega
  · have := h.f.1; omega
  · have := h.m.1; have := h.c.2.2.2.2.2.2.1; omega
end Go.Proofs.YtppggaiahkecoaaDoorX
/- The file's bytes: the reference's. -/
namespace Go.Proofs.YtppggaiahkecoaaDoorX
open Go Go.SX

theorem own_body {v : Value} {m : Nat} {xs : List Int} {F : HL} (h : OwnS 5 1 v m (xs.map (.int .u8)) F) (hb : isB xs) (hl : xs.length ≤ 1000000000) :
    ∃ a cap, v = .slice a xs.length cap ∧ m = xs.length ∧ SlA (Kd.int .u8) 1 (fv F) xs a cap :=
  h.slA (fun y hy => inK_u8.2 (hb y hy)) (by omega)
theorem isB_turns (l : List (Int × Int)) : isB (l.flatMap turnB) := fun y hy => by
  obtain ⟨x, _, hx⟩ := List.mem_flatMap.1 hy
  rcases List.mem_append.1 hx with h | h <;> exact numB_isB _ _ y h
theorem isB_app {a b : List Int} (ha : isB a) (hb : isB b) : isB (a ++ b) := fun y hy => (List.mem_append.1 hy).elim (ha y) (hb y)
theorem isB_lay (l : Lay) : isB (layBody l) := by
  unfold layBody Mat.bytes
  exact isB_app (isB_map _) (isB_app (isB_map _) (isB_app (isB_map _) (isB_app (isB_map _) (isB_app (isB_map _) (isB_app (isB_map _) (isB_app (isB_map _) (isB_app (isB_map _) (isB_app (isB_map _) (isB_map _)))))))))
theorem secB_len (c : Int) (b : List Int) : (secB c b).length = b.length + 5 := by simp only [secB, List.length_cons, List.length_append, numB_len]; omega
theorem cfg8 (c : Cfg) : (c.list.map toB).length = 8 := rfl
theorem isB_sec {c : Int} {b : List Int} (hc : 0 ≤ c ∧ c ≤ 255) (hb : isB b) : isB (secB c b) := fun y hy => by
  unfold secB at hy
  rcases List.mem_cons.1 hy with rfl | h
  · exact hc
  · exact isB_app (numB_isB _ _) hb y h
theorem isB_flat {α : Type} {l : List α} {f : α → List Int} (h : ∀ x ∈ l, isB (f x)) : isB (l.flatMap f) := fun y hy => by
  obtain ⟨x, hx, hy⟩ := List.mem_flatMap.1 hy
  exact h x hx y hy
def secsL (x : LW) : List Int := beginB ++ secB 67 (x.C.list.map toB) ++ secB 69 (x.E.d.1.map toB) ++ secB 84 (x.T.1.flatMap turnB)
theorem beginB_len : beginB.length = 6 := rfl
theorem isB_begin : isB beginB := fun y hy => by simp [beginB] at hy; omega
theorem fileOf_eq (x : LW) : fileOf digS x.w = (let b := secsL x ++ x.Ls.1.flatMap (fun l => secB 76 (layBody l.lay)) ++ secB 70 (x.F.1.map toB) ++ secB 72 (x.H.d.1.map toB) ++ x.M.1.flatMap (fun m => secB 77 (m.d.1.map toB)); b ++ secB 90 (numB (digS b) 8)) := by
  have e : fileB x.w = secsL x ++ x.Ls.1.flatMap (fun l => secB 76 (layBody l.lay)) ++ secB 70 (x.F.1.map toB) ++ secB 72 (x.H.d.1.map toB) ++ x.M.1.flatMap (fun m => secB 77 (m.d.1.map toB)) := by
    simp only [fileB, wtsB, secsL, LW.w, LM.mat, Mat.bytes, List.flatMap_map, List.append_assoc]
  unfold fileOf
  rw [e]
theorem inv_snoc {α : Type} {l : List α} {i : Nat} {x : α} (h : l[i]? = some x) (p : List Int) (f : α → List Int) : p ++ (l.take (i + 1)).flatMap f = p ++ (l.take i).flatMap f ++ f x := by
  rw [take_snocD h, List.flatMap_append]; simp
set_option maxHeartbeats 8000000 in
set_option maxRecDepth 10000 in
theorem file_fn (x : LW) (hok : okW x.w) : FC Tryd.prog 36 [.agg ⟨x.cells⟩] [] (fun h => lwAt h x)
    (fun v L => ∃ m, OwnS 5 1 v m ((fileOf digS x.w).map (.int .u8)) L ∧ m ≤ 1000000) := by
  have sz := okW_sz hok
  have se : x.E.d.1.length ≤ 2048 := sz.e
  have st : x.T.1.length ≤ 16 := sz.t
  have sl : x.Ls.1.length ≤ 4 := by have := sz.l; change (x.Ls.1.map LL.lay).length ≤ 4 at this; rwa [List.length_map] at this
  have slb : ∀ l ∈ x.Ls.1, (layBody l.lay).length ≤ 30000 := fun l hl => sz.lb _ (List.mem_map.2 ⟨l, hl, rfl⟩)
  have sf : x.F.1.length ≤ 32 := sz.f
  have sh : x.H.d.1.length ≤ 2048 := sz.h
  have sm : x.M.1.length ≤ 4 := by have := sz.m; change (x.M.1.map LM.mat).length ≤ 4 at this; rwa [List.length_map] at this
  have smb : ∀ l ∈ x.M.1, l.d.1.length ≤ 2048 := fun l hl => sz.mb _ (List.mem_map.2 ⟨l, hl, rfl⟩)
  clear sz
  refine FC.sub2 ?_
  refine FC.intro Tryd.func36 rfl (by kernel_rfl) 72 [.tmp 2] rfl rfl rfl ?_
  intro w0 hA
  (repeat (first | (with_reducible apply XL.op) | (with_reducible apply XC.seq) | (with_reducible apply XC.region (Γ := Γ))))
  ((with_reducible apply XOp.box); (case hg | hx' => exact rfl); intro wb)
  (repeat (first | (with_reducible apply XL.op) | ((with_reducible apply XOp.p1); (case hg | hv => exact rfl)) | (with_reducible apply XL.nilT) | (with_reducible apply XC.seq) | (with_reducible apply XC.region (Γ := Γ))))
  ((with_reducible apply XOp.buildSlice); (case hg | ht | hk | he | hz | hzl | hf => exact rfl); intro bb)
  have h0 : OwnS 5 1 (.slice (some ⟨bb, 0, none⟩) 6 6) 6 (beginB.map (.int .u8)) [(bb, Obj.cells ⟨beginB.map (.int .u8)⟩ 5 (0, 0))] :=
    ⟨rfl, .inr ⟨bb, 6, [], rfl, by simp, Nat.le_refl _, by simp [maxLen], rfl⟩⟩
  (repeat (first | (with_reducible apply XL.op) | ((with_reducible apply XOp.p1); (case hg | hv => exact rfl)) | ((with_reducible apply XOp.loadO (i := 1)); (case hg | ht | hk | hx | hi | hc => exact rfl)) | (with_reducible apply XL.nilT) | (with_reducible apply XC.seq) | (with_reducible apply XC.region (Γ := Γ))))
  ((with_reducible apply XOp.callD (R := [(bb, Obj.cells ⟨beginB.map (.int .u8)⟩ 5 (0, 0)), (wb, Obj.cells ⟨x.cells⟩ 31 (0, 0))]) (R' := [(bb, Obj.cells ⟨beginB.map (.int .u8)⟩ 5 (0, 0)), (wb, Obj.cells ⟨x.cells⟩ 31 (0, 0))]) (F := []) (hF := measures_fn x.C)); (case hg => exact rfl); (case hc => exact rfl); (case ha => exact rfl); (case hL => first | exact List.Perm.refl _ | (first | (with_reducible exact List.Perm.refl _) | refine perm_of_cnt fun p_ => ?_; simp only [List.countP_append, List.countP_cons, List.countP_nil]; omega)); (case hs => ((try simp only [List.append_eq, List.cons_append, List.nil_append, List.append_assoc]); repeat (first | exact List.Sublist.refl _ | exact List.nil_sublist _ | (with_reducible apply List.Sublist.cons_cons) | (with_reducible apply List.Sublist.cons) | exact List.sublist_append_right _ _))); try (case hA => exact Known.true))
  intro w1 G1 g1
  have l1 : (x.C.list.map toB).length ≤ 100000 := by simp only [cfg8]; omega
  obtain ⟨b1, d1, rfl, hb1, s1⟩ := own_body (xs := x.C.list.map toB) g1 (isB_map _) (by omega)
  (repeat ((with_reducible apply XL.op)))
  ((with_reducible apply XOp.callD (R := (wb, Obj.cells ⟨x.cells⟩ 31 (0, 0)) :: G1) (R' := [(wb, Obj.cells ⟨x.cells⟩ 31 (0, 0))]) (F := [(bb, Obj.cells ⟨beginB.map (.int .u8)⟩ 5 (0, 0))]) (hF := refSection_fn _ (6) (beginB) [(bb, Obj.cells ⟨beginB.map (.int .u8)⟩ 5 (0, 0))] h0 67 (x.C.list.map toB) b1 d1 (by omega))); (case hg => exact rfl); (case hc => exact rfl); (case ha => exact rfl); (case hL => first | exact List.Perm.refl _ | (first | (with_reducible exact List.Perm.refl _) | refine perm_of_cnt fun p_ => ?_; simp only [List.countP_append, List.countP_cons, List.countP_nil]; omega)); (case hs => ((try simp only [List.append_eq, List.cons_append, List.nil_append, List.append_assoc]); repeat (first | exact List.Sublist.refl _ | exact List.nil_sublist _ | (with_reducible apply List.Sublist.cons_cons) | (with_reducible apply List.Sublist.cons) | exact List.sublist_append_right _ _))); try (case hA => exact Known.true))
  case hA => exact Known.of_frag s1 (Mono.sl _ _ _ _ _) (fun z_ hz_ => by first | exact hz_ | (simp only [List.mem_cons, List.mem_append, hz_, true_or, or_true]; done) | ((repeat (first | exact hz_ | exact List.mem_append_left _ hz_ | (apply List.mem_cons_of_mem) | (apply List.mem_append_right))); done))
  intro v1 F1 h1
  obtain ⟨a1, c1, rfl⟩ := h1.val
  (repeat (first | (with_reducible apply XL.op) | ((with_reducible apply XOp.p1); (case hg | hv => exact rfl)) | ((with_reducible apply XOp.load); (case hg | ht | hk | hx => exact rfl); (case hc => exact own_cell (i := 0) rfl rfl)) | (with_reducible apply XL.nilT) | (with_reducible apply XC.seq) | (with_reducible apply XC.region (Γ := Γ))))
  replace h1 := h1.conv (m' := 19) (by rfl) rfl
  ((with_reducible apply XOp.callD (R := (wb, Obj.cells ⟨x.cells⟩ 31 (0, 0)) :: F1) (R' := (wb, Obj.cells ⟨x.cells⟩ 31 (0, 0)) :: F1) (F := []) (hF := addNarrowL_fn (.slice none 0 0) 0 [] [] (OwnS.nil _ _) x.E.d (by omega))); (case hg => exact rfl); (case hc => exact rfl); (case ha => exact rfl); (case hL => first | exact List.Perm.refl _ | (first | (with_reducible exact List.Perm.refl _) | refine perm_of_cnt fun p_ => ?_; simp only [List.countP_append, List.countP_cons, List.countP_nil]; omega)); (case hs => ((try simp only [List.append_eq, List.cons_append, List.nil_append, List.append_assoc]); repeat (first | exact List.Sublist.refl _ | exact List.nil_sublist _ | (with_reducible apply List.Sublist.cons_cons) | (with_reducible apply List.Sublist.cons) | exact List.sublist_append_right _ _))); try (case hA => exact Known.true))
  case hA => exact Known.of_old hA.e (lm_mono _)
  intro w2 G2 g2
  rw [List.nil_append, Nat.zero_add] at g2
  have l2 : (x.E.d.1.map toB).length ≤ 100000 := by rw [List.length_map]; omega
  obtain ⟨b2, d2, rfl, hb2, s2⟩ := own_body (xs := x.E.d.1.map toB) g2 (isB_map _) (by omega)
  (repeat ((with_reducible apply XL.op)))
  ((with_reducible apply XOp.callD (R := (wb, Obj.cells ⟨x.cells⟩ 31 (0, 0)) :: G2) (R' := [(wb, Obj.cells ⟨x.cells⟩ 31 (0, 0))]) (F := F1) (hF := refSection_fn (.slice a1 _ c1) (_) (beginB ++ secB 67 (x.C.list.map toB)) F1 h1 69 (x.E.d.1.map toB) b2 d2 (by omega))); (case hg => exact rfl); (case hc => exact rfl); (case ha => exact rfl); (case hL => first | exact List.Perm.refl _ | (first | (with_reducible exact List.Perm.refl _) | refine perm_of_cnt fun p_ => ?_; simp only [List.countP_append, List.countP_cons, List.countP_nil]; omega)); (case hs => ((try simp only [List.append_eq, List.cons_append, List.nil_append, List.append_assoc]); repeat (first | exact List.Sublist.refl _ | exact List.nil_sublist _ | (with_reducible apply List.Sublist.cons_cons) | (with_reducible apply List.Sublist.cons) | exact List.sublist_append_right _ _))); try (case hA => exact Known.true))
  case hA => exact Known.of_frag s2 (Mono.sl _ _ _ _ _) (fun z_ hz_ => by first | exact hz_ | (simp only [List.mem_cons, List.mem_append, hz_, true_or, or_true]; done) | ((repeat (first | exact hz_ | exact List.mem_append_left _ hz_ | (apply List.mem_cons_of_mem) | (apply List.mem_append_right))); done))
  intro v2 F2 h2
  obtain ⟨a2, c2, rfl⟩ := h2.val
  (repeat (first | (with_reducible apply XL.op) | ((with_reducible apply XOp.p1); (case hg | hv => exact rfl)) | ((with_reducible apply XOp.load); (case hg | ht | hk | hx => exact rfl); (case hc => exact own_cell (i := 0) rfl rfl)) | (with_reducible apply XL.nilT) | (with_reducible apply XC.seq) | (with_reducible apply XC.region (Γ := Γ))))
  ((with_reducible apply XOp.callD (R := (wb, Obj.cells ⟨x.cells⟩ 31 (0, 0)) :: F2) (R' := (wb, Obj.cells ⟨x.cells⟩ 31 (0, 0)) :: F2) (F := []) (hF := turnBody_fn x.T.1 x.T.2.1 x.T.2.2 (by omega))); (case hg => exact rfl); (case hc => exact rfl); (case ha => exact rfl); (case hL => first | exact List.Perm.refl _ | (first | (with_reducible exact List.Perm.refl _) | refine perm_of_cnt fun p_ => ?_; simp only [List.countP_append, List.countP_cons, List.countP_nil]; omega)); (case hs => ((try simp only [List.append_eq, List.cons_append, List.nil_append, List.append_assoc]); repeat (first | exact List.Sublist.refl _ | exact List.nil_sublist _ | (with_reducible apply List.Sublist.cons_cons) | (with_reducible apply List.Sublist.cons) | exact List.sublist_append_right _ _))); try (case hA => exact Known.true))
  case hA => exact Known.of_old hA.t (Mono.sl _ _ _ _ _)
  intro w3 G3 g3
  have l3 : (x.T.1.flatMap turnB).length ≤ 100000 := by rw [turnsLen]; omega
  obtain ⟨b3, d3, rfl, hb3, s3⟩ := own_body (xs := x.T.1.flatMap turnB) g3 (isB_turns _) (by omega)
  (repeat ((with_reducible apply XL.op)))
  ((with_reducible apply XOp.callD (R := (wb, Obj.cells ⟨x.cells⟩ 31 (0, 0)) :: G3) (R' := [(wb, Obj.cells ⟨x.cells⟩ 31 (0, 0))]) (F := F2) (hF := refSection_fn (.slice a2 _ c2) (_) (beginB ++ secB 67 (x.C.list.map toB) ++ secB 69 (x.E.d.1.map toB)) F2 h2 84 (x.T.1.flatMap turnB) b3 d3 (by omega))); (case hg => exact rfl); (case hc => exact rfl); (case ha => exact rfl); (case hL => first | exact List.Perm.refl _ | (first | (with_reducible exact List.Perm.refl _) | refine perm_of_cnt fun p_ => ?_; simp only [List.countP_append, List.countP_cons, List.countP_nil]; omega)); (case hs => ((try simp only [List.append_eq, List.cons_append, List.nil_append, List.append_assoc]); repeat (first | exact List.Sublist.refl _ | exact List.nil_sublist _ | (with_reducible apply List.Sublist.cons_cons) | (with_reducible apply List.Sublist.cons) | exact List.sublist_append_right _ _))); try (case hA => exact Known.true))
  case hA => exact Known.of_frag s3 (Mono.sl _ _ _ _ _) (fun z_ hz_ => by first | exact hz_ | (simp only [List.mem_cons, List.mem_append, hz_, true_or, or_true]; done) | ((repeat (first | exact hz_ | exact List.mem_append_left _ hz_ | (apply List.mem_cons_of_mem) | (apply List.mem_append_right))); done))
  intro v3 F3 h3
  obtain ⟨a3, c3, rfl⟩ := h3.val
  (repeat (first | (with_reducible apply XL.op) | ((with_reducible apply XOp.p1); (case hg | hv => exact rfl)) | (with_reducible apply XL.nilT) | (with_reducible apply XC.seq) | (with_reducible apply XC.region (Γ := Γ)) | (with_reducible apply XC.block)))
  refine XC.loop (fun k ρ L => ∃ (i m : Nat) (v : Value) (F : HL), i + k = x.Ls.1.length ∧ m ≤ 10000 + i * 40000 ∧ OwnS 5 1 v m ((secsL x ++ (x.Ls.1.take i).flatMap (fun l => secB 76 (layBody l.lay))).map (.int .u8)) F ∧ L = [(wb, Obj.cells ⟨x.cells⟩ 31 (0, 0))] ++ F ∧ Slots ρ [(1, .pointer (some ⟨wb, 0, none⟩)), (3, v), (4, .int .i64 i)])
    x.Ls.1.length ⟨0, _, _, F3, by omega, ?_, h3.conv rfl (by simp [secsL]), rfl, rfl, rfl, rfl, trivial⟩ ?_
  · simp only [List.length_map, turnsLen]; omega
  clear h0 h1 h2 h3 g1 g2 g3 s1 s2 s3
  rintro k ρ L ⟨i, m, v, F, hik, hm, hown, rfl, hs⟩
  obtain ⟨a', c', rfl⟩ := hown.val
  have hL := hA.l.locRaw
  have hLa := hL.at_
  have hLb := hL.bytes
  refine XC.slots _ hs ?_
  (repeat (first | (with_reducible apply XL.op) | ((with_reducible apply XOp.p1); (case hg | hv => exact rfl)) | ((with_reducible apply XOp.load); (case hg | ht | hk | hx => exact rfl); (case hc => exact own_cell (i := 0) rfl rfl)) | (with_reducible apply XL.nilT) | (with_reducible apply XC.seq) | (with_reducible apply XC.region (Γ := Γ))))
  ((with_reducible apply XC.cond); (case hc => exact rfl); all_goals (intro hb_; try simp only [pd_true, pd_false, Bool.not_eq_true', Bool.not_eq_false', Bool.and_eq_true, Bool.and_eq_false_iff, Bool.or_eq_true, Bool.or_eq_false_iff, not_true_eq_false, not_false_eq_true, Int.not_lt, Int.not_le] at hb_))
  · obtain ⟨l, hi⟩ : ∃ l, x.Ls.1[i]? = some l := ⟨_, List.getElem?_eq_getElem (by omega)⟩
    have hl := hA.l.locAt (List.mem_of_getElem? hi)
    have hll := slb l (List.mem_of_getElem? hi)
    (repeat (first | (with_reducible apply XL.op) | ((with_reducible apply XOp.p1); (case hg | hv => exact rfl)) | ((with_reducible apply XOp.load); (case hg | ht | hk | hx => exact rfl); (case hc => exact own_cell (i := 0) rfl rfl)) | ((with_reducible apply XOp.pr); (case hg => exact rfl); (case hr => ((with_reducible apply PR.idxA); (case ht | hk | he | hx | hi => exact rfl); (case hr => first | assumption | omega); (case ha => first | assumption | exact SlA.at_ (by assumption))))) | (with_reducible apply XC.seq) | (with_reducible apply XC.region (Γ := Γ)) | (with_reducible apply XQ.skip) | (with_reducible apply XQ.nt) | (with_reducible apply XC.block) | (first | ((with_reducible apply XOp.loadN); (case hg | ht | hk | hx => exact rfl); (case hc => exact Known.of_old (hL.rawAt hi) (Mono.row _ _ _)); (case hl => exact rfl)) | ((with_reducible apply XP.loadN); (case ho | hg | ht | hk | hx => exact rfl); (case hc => exact Known.of_old (hL.rawAt hi) (Mono.row _ _ _)); (case hl => exact rfl)))))
    ((with_reducible apply XOp.callD (R := (wb, Obj.cells ⟨x.cells⟩ 31 (0, 0)) :: F) (R' := (wb, Obj.cells ⟨x.cells⟩ 31 (0, 0)) :: F) (F := []) (hF := layerBody_fn l (by omega))); (case hg => exact rfl); (case hc => exact rfl); (case ha => exact rfl); (case hL => first | exact List.Perm.refl _ | (first | (with_reducible exact List.Perm.refl _) | refine perm_of_cnt fun p_ => ?_; simp only [List.countP_append, List.countP_cons, List.countP_nil]; omega)); (case hs => ((try simp only [List.append_eq, List.cons_append, List.nil_append, List.append_assoc]); repeat (first | exact List.Sublist.refl _ | exact List.nil_sublist _ | (with_reducible apply List.Sublist.cons_cons) | (with_reducible apply List.Sublist.cons) | exact List.sublist_append_right _ _))); try (case hA => exact Known.true))
    case hA => exact Known.of_old hl (ll_mono _)
    intro w4 G4 g4
    obtain ⟨b4, d4, rfl, hb4, s4⟩ := own_body g4 (isB_lay _) (by omega)
    (repeat ((with_reducible apply XL.op)))
    ((with_reducible apply XOp.callD (R := (wb, Obj.cells ⟨x.cells⟩ 31 (0, 0)) :: G4) (R' := [(wb, Obj.cells ⟨x.cells⟩ 31 (0, 0))]) (F := F) (hF := refSection_fn (.slice a' _ c') _ _ F hown 76 (layBody l.lay) b4 d4 (by omega))); (case hg => exact rfl); (case hc => exact rfl); (case ha => exact rfl); (case hL => first | exact List.Perm.refl _ | (first | (with_reducible exact List.Perm.refl _) | refine perm_of_cnt fun p_ => ?_; simp only [List.countP_append, List.countP_cons, List.countP_nil]; omega)); (case hs => ((try simp only [List.append_eq, List.cons_append, List.nil_append, List.append_assoc]); repeat (first | exact List.Sublist.refl _ | exact List.nil_sublist _ | (with_reducible apply List.Sublist.cons_cons) | (with_reducible apply List.Sublist.cons) | exact List.sublist_append_right _ _))); try (case hA => exact Known.true))
    case hA => exact Known.of_frag s4 (Mono.sl _ _ _ _ _) (fun z_ hz_ => by first | exact hz_ | (simp only [List.mem_cons, List.mem_append, hz_, true_or, or_true]; done) | ((repeat (first | exact hz_ | exact List.mem_append_left _ hz_ | (apply List.mem_cons_of_mem) | (apply List.mem_append_right))); done))
    intro v4 F4 h4
    obtain ⟨a4, c4, rfl⟩ := h4.val
    (repeat (first | (with_reducible apply XL.op) | ((with_reducible apply XOp.p1); (case hg | hv => exact rfl)) | (with_reducible apply XL.nilT) | (with_reducible apply XC.region (Γ := Γ)) | (with_reducible apply XL.nilQ) | (with_reducible apply XQ.nt) | (with_reducible apply XQ.nb)))
    exact ⟨k - 1, by omega, i + 1, _, _, F4, by omega, by omega, h4.conv rfl (by rw [inv_snoc hi]), rfl, rfl, rfl, intS (m := x.Ls.1.length) (by omega) (by omega), trivial⟩
  obtain rfl : i = x.Ls.1.length := by omega
  rw [List.take_length] at hown
  generalize hX : secsL x ++ x.Ls.1.flatMap (fun l => secB 76 (layBody l.lay)) = X at hown
  (repeat (first | (with_reducible apply XL.op) | ((with_reducible apply XOp.p1); (case hg | hv => exact rfl)) | ((with_reducible apply XOp.load); (case hg | ht | hk | hx => exact rfl); (case hc => exact own_cell (i := 0) rfl rfl)) | (with_reducible apply XC.seq) | (with_reducible apply XC.region (Γ := Γ)) | (with_reducible apply XQ.exit) | (with_reducible apply XQ.nt) | (with_reducible apply XQ.et) | ((with_reducible apply XQ.eb); (case hb => exact rfl))))
  ((with_reducible apply XOp.callD (R := (wb, Obj.cells ⟨x.cells⟩ 31 (0, 0)) :: F) (R' := (wb, Obj.cells ⟨x.cells⟩ 31 (0, 0)) :: F) (F := []) (hF := addNarrowL_fn (.slice none 0 0) 0 [] [] (OwnS.nil _ _) x.F (by omega))); (case hg => exact rfl); (case hc => exact rfl); (case ha => exact rfl); (case hL => first | exact List.Perm.refl _ | (first | (with_reducible exact List.Perm.refl _) | refine perm_of_cnt fun p_ => ?_; simp only [List.countP_append, List.countP_cons, List.countP_nil]; omega)); (case hs => ((try simp only [List.append_eq, List.cons_append, List.nil_append, List.append_assoc]); repeat (first | exact List.Sublist.refl _ | exact List.nil_sublist _ | (with_reducible apply List.Sublist.cons_cons) | (with_reducible apply List.Sublist.cons) | exact List.sublist_append_right _ _))); try (case hA => exact Known.true))
  case hA => exact Known.of_old hA.f (lv_mono _)
  intro w5 G5 g5
  rw [List.nil_append, Nat.zero_add] at g5
  have l5 : (x.F.1.map toB).length ≤ 100000 := by rw [List.length_map]; omega
  obtain ⟨b5, d5, rfl, hb5, s5⟩ := own_body (xs := x.F.1.map toB) g5 (isB_map _) (by omega)
  (repeat ((with_reducible apply XL.op)))
  ((with_reducible apply XOp.callD (R := (wb, Obj.cells ⟨x.cells⟩ 31 (0, 0)) :: G5) (R' := [(wb, Obj.cells ⟨x.cells⟩ 31 (0, 0))]) (F := F) (hF := refSection_fn (.slice a' _ c') (_) (X) F hown 70 (x.F.1.map toB) b5 d5 (by omega))); (case hg => exact rfl); (case hc => exact rfl); (case ha => exact rfl); (case hL => first | exact List.Perm.refl _ | (first | (with_reducible exact List.Perm.refl _) | refine perm_of_cnt fun p_ => ?_; simp only [List.countP_append, List.countP_cons, List.countP_nil]; omega)); (case hs => ((try simp only [List.append_eq, List.cons_append, List.nil_append, List.append_assoc]); repeat (first | exact List.Sublist.refl _ | exact List.nil_sublist _ | (with_reducible apply List.Sublist.cons_cons) | (with_reducible apply List.Sublist.cons) | exact List.sublist_append_right _ _))); try (case hA => exact Known.true))
  case hA => exact Known.of_frag s5 (Mono.sl _ _ _ _ _) (fun z_ hz_ => by first | exact hz_ | (simp only [List.mem_cons, List.mem_append, hz_, true_or, or_true]; done) | ((repeat (first | exact hz_ | exact List.mem_append_left _ hz_ | (apply List.mem_cons_of_mem) | (apply List.mem_append_right))); done))
  intro v5 F5 h5
  obtain ⟨a5, c5, rfl⟩ := h5.val
  (repeat (first | (with_reducible apply XL.op) | ((with_reducible apply XOp.p1); (case hg | hv => exact rfl)) | ((with_reducible apply XOp.load); (case hg | ht | hk | hx => exact rfl); (case hc => exact own_cell (i := 0) rfl rfl)) | (with_reducible apply XL.nilT) | (with_reducible apply XC.seq) | (with_reducible apply XC.region (Γ := Γ))))
  ((with_reducible apply XOp.callD (R := (wb, Obj.cells ⟨x.cells⟩ 31 (0, 0)) :: F5) (R' := (wb, Obj.cells ⟨x.cells⟩ 31 (0, 0)) :: F5) (F := []) (hF := addNarrowL_fn (.slice none 0 0) 0 [] [] (OwnS.nil _ _) x.H.d (by omega))); (case hg => exact rfl); (case hc => exact rfl); (case ha => exact rfl); (case hL => first | exact List.Perm.refl _ | (first | (with_reducible exact List.Perm.refl _) | refine perm_of_cnt fun p_ => ?_; simp only [List.countP_append, List.countP_cons, List.countP_nil]; omega)); (case hs => ((try simp only [List.append_eq, List.cons_append, List.nil_append, List.append_assoc]); repeat (first | exact List.Sublist.refl _ | exact List.nil_sublist _ | (with_reducible apply List.Sublist.cons_cons) | (with_reducible apply List.Sublist.cons) | exact List.sublist_append_right _ _))); try (case hA => exact Known.true))
  case hA => exact Known.of_old hA.hd (lm_mono _)
  intro w6 G6 g6
  rw [List.nil_append, Nat.zero_add] at g6
  have l6 : (x.H.d.1.map toB).length ≤ 100000 := by rw [List.length_map]; omega
  obtain ⟨b6, d6, rfl, hb6, s6⟩ := own_body (xs := x.H.d.1.map toB) g6 (isB_map _) (by omega)
  (repeat ((with_reducible apply XL.op)))
  ((with_reducible apply XOp.callD (R := (wb, Obj.cells ⟨x.cells⟩ 31 (0, 0)) :: G6) (R' := [(wb, Obj.cells ⟨x.cells⟩ 31 (0, 0))]) (F := F5) (hF := refSection_fn (.slice a5 _ c5) (_) (X ++ secB 70 (x.F.1.map toB)) F5 h5 72 (x.H.d.1.map toB) b6 d6 (by omega))); (case hg => exact rfl); (case hc => exact rfl); (case ha => exact rfl); (case hL => first | exact List.Perm.refl _ | (first | (with_reducible exact List.Perm.refl _) | refine perm_of_cnt fun p_ => ?_; simp only [List.countP_append, List.countP_cons, List.countP_nil]; omega)); (case hs => ((try simp only [List.append_eq, List.cons_append, List.nil_append, List.append_assoc]); repeat (first | exact List.Sublist.refl _ | exact List.nil_sublist _ | (with_reducible apply List.Sublist.cons_cons) | (with_reducible apply List.Sublist.cons) | exact List.sublist_append_right _ _))); try (case hA => exact Known.true))
  case hA => exact Known.of_frag s6 (Mono.sl _ _ _ _ _) (fun z_ hz_ => by first | exact hz_ | (simp only [List.mem_cons, List.mem_append, hz_, true_or, or_true]; done) | ((repeat (first | exact hz_ | exact List.mem_append_left _ hz_ | (apply List.mem_cons_of_mem) | (apply List.mem_append_right))); done))
  intro v6 F6 h6
  obtain ⟨a6, c6, rfl⟩ := h6.val
  (repeat (first | (with_reducible apply XL.op) | ((with_reducible apply XOp.p1); (case hg | hv => exact rfl)) | (with_reducible apply XL.nilT) | (with_reducible apply XC.seq) | (with_reducible apply XC.region (Γ := Γ)) | (with_reducible apply XC.block)))
  refine XC.loop (fun k ρ L => ∃ (i m : Nat) (v : Value) (F : HL), i + k = x.M.1.length ∧ m ≤ 200000 + i * 3000 ∧ OwnS 5 1 v m ((X ++ secB 70 (x.F.1.map toB) ++ secB 72 (x.H.d.1.map toB) ++ (x.M.1.take i).flatMap (fun l => secB 77 (l.d.1.map toB))).map (.int .u8)) F ∧ L = [(wb, Obj.cells ⟨x.cells⟩ 31 (0, 0))] ++ F ∧ Slots ρ [(1, .pointer (some ⟨wb, 0, none⟩)), (3, v), (5, .int .i64 i)])
    x.M.1.length ⟨0, _, _, F6, by omega, ?_, h6.conv rfl (by simp), rfl, rfl, rfl, rfl, trivial⟩ ?_
  · simp only [List.length_map]; omega
  clear hown h5 h6 g5 g6 s5 s6
  rintro k ρ L ⟨i, m, v, F, hik, hm, hown, rfl, hs⟩
  obtain ⟨a', c', rfl⟩ := hown.val
  have hM := hA.m.locRaw
  have hMa := hM.at_
  have hMb := hM.bytes
  refine XC.slots _ hs ?_
  (repeat (first | (with_reducible apply XL.op) | ((with_reducible apply XOp.p1); (case hg | hv => exact rfl)) | ((with_reducible apply XOp.load); (case hg | ht | hk | hx => exact rfl); (case hc => exact own_cell (i := 0) rfl rfl)) | (with_reducible apply XL.nilT) | (with_reducible apply XC.seq) | (with_reducible apply XC.region (Γ := Γ))))
  ((with_reducible apply XC.cond); (case hc => exact rfl); all_goals (intro hb_; try simp only [pd_true, pd_false, Bool.not_eq_true', Bool.not_eq_false', Bool.and_eq_true, Bool.and_eq_false_iff, Bool.or_eq_true, Bool.or_eq_false_iff, not_true_eq_false, not_false_eq_true, Int.not_lt, Int.not_le] at hb_))
  · obtain ⟨l, hi⟩ : ∃ l, x.M.1[i]? = some l := ⟨_, List.getElem?_eq_getElem (by omega)⟩
    have hl := hA.m.locAt (List.mem_of_getElem? hi)
    have hll := smb l (List.mem_of_getElem? hi)
    have hc : cellv (oldv w0 (keys [])) ⟨ablk x.M.2.1, aoff x.M.2.1 + i * 3 + 2, none⟩ = some (slv l.d) := hM.rawAt hi 2 _ rfl
    (repeat (first | (with_reducible apply XL.op) | ((with_reducible apply XOp.p1); (case hg | hv => exact rfl)) | ((with_reducible apply XOp.load); (case hg | ht | hk | hx => exact rfl); (case hc => exact own_cell (i := 0) rfl rfl)) | ((with_reducible apply XOp.pr); (case hg => exact rfl); (case hr => ((with_reducible apply PR.idxA); (case ht | hk | he | hx | hi => exact rfl); (case hr => first | assumption | omega); (case ha => first | assumption | exact SlA.at_ (by assumption))))) | (with_reducible apply XC.seq) | (with_reducible apply XC.region (Γ := Γ)) | (with_reducible apply XQ.skip) | (with_reducible apply XQ.nt) | (with_reducible apply XC.block) | (first | ((with_reducible apply XOp.load); (case hg | ht | hk | hx => exact rfl); (case hc => exact Known.of_old hc (Mono.cell _ _))) | ((with_reducible apply XP.load); (case ho | hg | ht | hk | hx => exact rfl); (case hc => exact Known.of_old hc (Mono.cell _ _))))))
    ((with_reducible apply XOp.callD (R := (wb, Obj.cells ⟨x.cells⟩ 31 (0, 0)) :: F) (R' := (wb, Obj.cells ⟨x.cells⟩ 31 (0, 0)) :: F) (F := []) (hF := addNarrowL_fn (.slice none 0 0) 0 [] [] (OwnS.nil _ _) l.d (by omega))); (case hg => exact rfl); (case hc => exact rfl); (case ha => exact rfl); (case hL => first | exact List.Perm.refl _ | (first | (with_reducible exact List.Perm.refl _) | refine perm_of_cnt fun p_ => ?_; simp only [List.countP_append, List.countP_cons, List.countP_nil]; omega)); (case hs => ((try simp only [List.append_eq, List.cons_append, List.nil_append, List.append_assoc]); repeat (first | exact List.Sublist.refl _ | exact List.nil_sublist _ | (with_reducible apply List.Sublist.cons_cons) | (with_reducible apply List.Sublist.cons) | exact List.sublist_append_right _ _))); try (case hA => exact Known.true))
    case hA => exact Known.of_old hl (lm_mono _)
    intro w4 G4 g4
    rw [List.nil_append, Nat.zero_add] at g4
    obtain ⟨b4, d4, rfl, hb4, s4⟩ := own_body g4 (isB_map _) (by rw [List.length_map]; omega)
    (repeat ((with_reducible apply XL.op)))
    ((with_reducible apply XOp.callD (R := (wb, Obj.cells ⟨x.cells⟩ 31 (0, 0)) :: G4) (R' := [(wb, Obj.cells ⟨x.cells⟩ 31 (0, 0))]) (F := F) (hF := refSection_fn (.slice a' _ c') _ _ F hown 77 (l.d.1.map toB) b4 d4 (by rw [List.length_map]; omega))); (case hg => exact rfl); (case hc => exact rfl); (case ha => exact rfl); (case hL => first | exact List.Perm.refl _ | (first | (with_reducible exact List.Perm.refl _) | refine perm_of_cnt fun p_ => ?_; simp only [List.countP_append, List.countP_cons, List.countP_nil]; omega)); (case hs => ((try simp only [List.append_eq, List.cons_append, List.nil_append, List.append_assoc]); repeat (first | exact List.Sublist.refl _ | exact List.nil_sublist _ | (with_reducible apply List.Sublist.cons_cons) | (with_reducible apply List.Sublist.cons) | exact List.sublist_append_right _ _))); try (case hA => exact Known.true))
    case hA => exact Known.of_frag s4 (Mono.sl _ _ _ _ _) (fun z_ hz_ => by first | exact hz_ | (simp only [List.mem_cons, List.mem_append, hz_, true_or, or_true]; done) | ((repeat (first | exact hz_ | exact List.mem_append_left _ hz_ | (apply List.mem_cons_of_mem) | (apply List.mem_append_right))); done))
    intro v4 F4 h4
    obtain ⟨a4, c4, rfl⟩ := h4.val
    (repeat (first | (with_reducible apply XL.op) | ((with_reducible apply XOp.p1); (case hg | hv => exact rfl)) | (with_reducible apply XL.nilT) | (with_reducible apply XC.region (Γ := Γ)) | (with_reducible apply XL.nilQ) | (with_reducible apply XQ.nt) | (with_reducible apply XQ.nb)))
    exact ⟨k - 1, by omega, i + 1, _, _, F4, by omega, by rw [List.length_map]; omega, h4.conv rfl (by rw [inv_snoc hi]), rfl, rfl, rfl, intS (m := x.M.1.length) (by omega) (by omega), trivial⟩
  obtain rfl : i = x.M.1.length := by omega
  rw [List.take_length] at hown
  have hfile := fileOf_eq x
  rw [hX] at hfile
  simp only [] at hfile
  have hXB : isB X := by
    rw [← hX]
    exact isB_app (isB_app (isB_app (isB_app isB_begin (isB_sec (by omega) (isB_map _))) (isB_sec (by omega) (isB_map _))) (isB_sec (by omega) (isB_turns _))) (isB_flat fun l _ => isB_sec (by omega) (isB_lay _))
  have hB : isB (X ++ secB 70 (x.F.1.map toB) ++ secB 72 (x.H.d.1.map toB) ++ x.M.1.flatMap (fun l => secB 77 (l.d.1.map toB))) :=
    isB_app (isB_app (isB_app hXB (isB_sec (by omega) (isB_map _))) (isB_sec (by omega) (isB_map _))) (isB_flat fun l _ => isB_sec (by omega) (isB_map _))
  generalize X ++ secB 70 (x.F.1.map toB) ++ secB 72 (x.H.d.1.map toB) ++ x.M.1.flatMap (fun l => secB 77 (l.d.1.map toB)) = Y at hown hfile hB
  have hYl : Y.length ≤ 1000000000 := by have := hown.1; rw [List.length_map] at this; omega
  obtain ⟨a2, c2, e2, hm2, s2⟩ := own_body hown hB hYl
  obtain ⟨rfl, rfl, rfl⟩ := Value.slice.inj e2
  (repeat (first | (with_reducible apply XL.op) | ((with_reducible apply XOp.p1); (case hg | hv => exact rfl)) | (with_reducible apply XL.nilT) | (with_reducible apply XC.seq) | (with_reducible apply XC.region (Γ := Γ)) | (with_reducible apply XQ.exit) | (with_reducible apply XQ.nt) | (with_reducible apply XQ.et) | ((with_reducible apply XQ.eb); (case hb => exact rfl)) | (((with_reducible apply XOp.callQ (hF := refDigest_fn Y a' c')); (case hg => exact rfl); (case hc => exact rfl); (case ha => exact rfl); try (case hA => exact Known.true)); (case hA => exact Known.of_frag s2 (Mono.sl _ _ _ _ _) (fun z_ hz_ => by first | exact hz_ | (simp only [List.mem_cons, List.mem_append, hz_, true_or, or_true]; done) | ((repeat (first | exact hz_ | exact List.mem_append_left _ hz_ | (apply List.mem_cons_of_mem) | (apply List.mem_append_right))); done))); rintro _ rfl)))
  have hd := digS_u64 Y
  ((with_reducible apply XOp.callD (R := (wb, Obj.cells ⟨x.cells⟩ 31 (0, 0)) :: F) (R' := (wb, Obj.cells ⟨x.cells⟩ 31 (0, 0)) :: F) (F := []) (hF := addNumber_fn (.slice none 0 0) 0 [] [] (OwnS.nil _ _) (digS Y) hd 8 (by omega))); (case hg => exact rfl); (case hc => exact rfl); (case ha => exact rfl); (case hL => first | exact List.Perm.refl _ | (first | (with_reducible exact List.Perm.refl _) | refine perm_of_cnt fun p_ => ?_; simp only [List.countP_append, List.countP_cons, List.countP_nil]; omega)); (case hs => ((try simp only [List.append_eq, List.cons_append, List.nil_append, List.append_assoc]); repeat (first | exact List.Sublist.refl _ | exact List.nil_sublist _ | (with_reducible apply List.Sublist.cons_cons) | (with_reducible apply List.Sublist.cons) | exact List.sublist_append_right _ _))); try (case hA => exact Known.true))
  intro w7 G7 g7
  rw [List.nil_append] at g7
  obtain ⟨b7, d7, rfl, hb7, s7⟩ := own_body g7 (numB_isB _ _) (by rw [numB_len]; omega)
  (repeat ((with_reducible apply XL.op)))
  ((with_reducible apply XOp.callD (R := (wb, Obj.cells ⟨x.cells⟩ 31 (0, 0)) :: G7) (R' := [(wb, Obj.cells ⟨x.cells⟩ 31 (0, 0))]) (F := F) (hF := refSection_fn (.slice a' _ c') _ _ F hown 90 (numB (digS Y) 8) b7 d7 (by rw [numB_len]; omega))); (case hg => exact rfl); (case hc => exact rfl); (case ha => exact rfl); (case hL => first | exact List.Perm.refl _ | (first | (with_reducible exact List.Perm.refl _) | refine perm_of_cnt fun p_ => ?_; simp only [List.countP_append, List.countP_cons, List.countP_nil]; omega)); (case hs => ((try simp only [List.append_eq, List.cons_append, List.nil_append, List.append_assoc]); repeat (first | exact List.Sublist.refl _ | exact List.nil_sublist _ | (with_reducible apply List.Sublist.cons_cons) | (with_reducible apply List.Sublist.cons) | exact List.sublist_append_right _ _))); try (case hA => exact Known.true))
  case hA => exact Known.of_frag s7 (Mono.sl _ _ _ _ _) (fun z_ hz_ => by first | exact hz_ | (simp only [List.mem_cons, List.mem_append, hz_, true_or, or_true]; done) | ((repeat (first | exact hz_ | exact List.mem_append_left _ hz_ | (apply List.mem_cons_of_mem) | (apply List.mem_append_right))); done))
  intro v8 F8 h8
  obtain ⟨a8, c8, rfl⟩ := h8.val
  (repeat (first | (with_reducible apply XL.op) | ((with_reducible apply XOp.p1); (case hg | hv => exact rfl)) | (with_reducible apply XL.nilT) | (with_reducible apply XQ.ret)))
  ((with_reducible apply XQ.retE); (case hr => exact .t rfl .nil))
  exact ⟨F8, .of (List.sublist_append_right _ _), _, h8.conv rfl (by rw [hfile]), by rw [numB_len]; omega⟩
end Go.Proofs.YtppggaiahkecoaaDoorX
/- The reference's Encode. -/
namespace Go.Proofs.YtppggaiahkecoaaDoorX
open Go Go.SX

noncomputable def encS (w : Wts) : List Int := if pd (okW w) then fileOf digS w else []
theorem encS_ok {w : Wts} (h : okW w) : encS w = fileOf digS w := by unfold encS; rw [pdt h]; rfl
theorem encS_no {w : Wts} (h : ¬ okW w) : encS w = [] := by unfold encS; rw [pdf h]; rfl
def EncR (w : Wts) (v : Value) (L : HL) : Prop := ∃ u m, v = .tuple #[u, .int .i64 (errW w)] ∧ OwnS 5 1 u m ((encS w).map (.int .u8)) L ∧ m ≤ 1000000
theorem refEncode_fn (x : LW) : FC Tryd.prog 11 [.agg ⟨x.cells⟩] [] (fun h => lwAt h x) (fun v L => EncR x.w v L) := by
  refine FC.sub2 ?_
  refine FC.intro Tryd.func11 rfl (by kernel_rfl) 12 [.tmp 2, .tmp 3] rfl rfl rfl ?_
  intro w0 hA
  (repeat (first | (with_reducible apply XL.op) | (with_reducible apply XC.seq) | (with_reducible apply XC.region (Γ := Γ))))
  ((with_reducible apply XOp.box); (case hg | hx' => exact rfl); intro wb)
  (repeat (first | (with_reducible apply XL.op) | ((with_reducible apply XOp.p1); (case hg | hv => exact rfl)) | ((with_reducible apply XOp.loadO (i := 0)); (case hg | ht | hk | hx | hi | hc => exact rfl)) | (with_reducible apply XL.nilT) | (with_reducible apply XC.seq) | (with_reducible apply XC.region (Γ := Γ)) | (((with_reducible apply XOp.callQ (hF := refCheckW_fn x)); (case hg => exact rfl); (case hc => exact rfl); (case ha => exact rfl); try (case hA => exact Known.true)); (case hA => exact Known.of_old hA (lw_mono _)); rintro _ rfl)))
  ((with_reducible apply XC.cond); (case hc => exact rfl); all_goals (intro hb_; try simp only [pd_true, pd_false, Bool.not_eq_true', Bool.not_eq_false', Bool.and_eq_true, Bool.and_eq_false_iff, Bool.or_eq_true, Bool.or_eq_false_iff, not_true_eq_false, not_false_eq_true, Int.not_lt, Int.not_le] at hb_))
  · (repeat (first | (with_reducible apply XL.op) | ((with_reducible apply XOp.p1); (case hg | hv => exact rfl)) | (with_reducible apply XL.nilT) | (with_reducible apply XC.seq) | (with_reducible apply XC.region (Γ := Γ)) | (with_reducible apply XQ.ret) | (with_reducible apply XQ.rt)))
    ((with_reducible apply XQ.retE); (case hr => exact .t rfl (.t rfl .nil)))
    have hno : ¬ okW x.w := fun h => by have := errW_ok h; omega
    exact ⟨[], .of (List.nil_sublist _), _, 0, rfl, by rw [encS_no hno]; exact OwnS.nil _ _, by omega⟩
  · have h0 : errW x.w = 0 := by omega
    have hok := errW_zero h0
    (repeat (first | (with_reducible apply XL.op) | ((with_reducible apply XOp.loadO (i := 0)); (case hg | ht | hk | hx | hi | hc => exact rfl)) | (with_reducible apply XC.seq) | (with_reducible apply XC.region (Γ := Γ)) | (with_reducible apply XQ.skip) | (with_reducible apply XQ.nt)))
    ((with_reducible apply XOp.callR (R := [_]) (F := []) (hF := file_fn x hok)); (case hg => exact rfl); (case hc => exact rfl); (case ha => exact rfl); (case hL => exact rfl); try (case hA => exact Known.true))
    case hA => exact Known.of_old hA (lw_mono _)
    rintro v1 F1 ⟨m, h1, hm⟩
    obtain ⟨a1, c1, rfl⟩ := h1.val
    (repeat (first | (with_reducible apply XL.op) | ((with_reducible apply XOp.p1); (case hg | hv => exact rfl)) | (with_reducible apply XL.nilT) | (with_reducible apply XQ.ret)))
    ((with_reducible apply XQ.retE); (case hr => exact .t rfl (.t rfl .nil)))
    exact ⟨F1, .of (List.sublist_append_right _ _), _, m, by rw [h0]; rfl, by rw [encS_ok hok]; exact h1, hm⟩
end Go.Proofs.YtppggaiahkecoaaDoorX
/- The matrices of a layer: where each lies, and its measures. -/
namespace Go.Proofs.YtppggaiahkecoaaDoorX
open Go Go.SX

def sidesL : List Value := [.int .i64 0, .int .i64 0, .int .i64 1, .int .i64 0, .int .i64 1, .int .i64 0, .int .i64 0, .int .i64 0, .int .i64 2, .int .i64 0, .int .i64 2, .int .i64 0, .int .i64 0, .int .i64 2]
/-- The program's table of sides, as it is laid. -/
def sidesK (h : HV) : Prop := rowv h 0 0 sidesL
theorem sides_mono : Mono sidesK := Mono.row _ _ _
def zf (i j : Nat) (v : Int) : Value := match Nat.blt j i with | true => .int .i64 v | false => .int .i64 0
def shC (c : Cfg) (i : Nat) : List Value := [.func (.func 71) #[] #[], zf i 0 (measS c 0), zf i 0 (measS c 0), .func (.func 72) #[] #[], zf i 1 (measS c 1), zf i 1 (measS c 0), .func (.func 73) #[] #[], zf i 2 (measS c 1), zf i 2 (measS c 0),
  .func (.func 74) #[] #[], zf i 3 (measS c 0), zf i 3 (measS c 0), .func (.func 75) #[] #[], zf i 4 (measS c 2), zf i 4 (measS c 0), .func (.func 76) #[] #[], zf i 5 (measS c 2), zf i 5 (measS c 0), .func (.func 77) #[] #[], zf i 6 (measS c 0), zf i 6 (measS c 2)]
set_option maxHeartbeats 8000000 in
theorem shapes_fn (c : Cfg) (hc : c.may) : FC Tryd.prog 34 [.agg ⟨c.cells⟩] [] (fun h => sidesK h)
    (fun v L => ∃ b, v = .slice (some ⟨b, 0, none⟩) 7 7 ∧ L = [(b, .cells ⟨shC c 7⟩ 80 (0, 0))]) := by
  refine FC.sub2 ?_
  refine FC.intro Tryd.func34 rfl (by kernel_rfl) 40 [.tmp 2] rfl rfl rfl ?_
  intro w0 hA
  (repeat (first | (with_reducible apply XL.op) | (with_reducible apply XC.seq) | (with_reducible apply XC.region (Γ := Γ))))
  ((with_reducible apply XOp.box); (case hg | hx' => exact rfl); intro cb)
  (repeat (first | (with_reducible apply XL.op) | ((with_reducible apply XOp.p1); (case hg | hv => exact rfl)) | ((with_reducible apply XOp.pr); (case hg => exact rfl); (case hr => ((with_reducible apply PR.build); (case ht | hk | hok | hz | hf => exact rfl)))) | (with_reducible apply XL.nilT) | (with_reducible apply XC.seq) | (with_reducible apply XC.region (Γ := Γ))))
  ((with_reducible apply XOp.buildSlice); (case hg | ht | hk | he | hz | hzl | hf => exact rfl); intro b)
  (repeat (first | (with_reducible apply XL.op) | ((with_reducible apply XOp.p1); (case hg | hv => exact rfl)) | (with_reducible apply XL.nilT) | (with_reducible apply XC.seq) | (with_reducible apply XC.region (Γ := Γ)) | (with_reducible apply XC.block)))
  refine XC.loop (fun k ρ L => ∃ i : Nat, i + k = 7 ∧ L = [(b, .cells ⟨shC c i⟩ 80 (0, 0)), (cb, .cells ⟨c.cells⟩ 23 (0, 0))] ∧ Slots ρ [(1, .pointer (some ⟨cb, 0, none⟩)), (3, .slice (some ⟨b, 0, none⟩) 7 7), (14, .int .i64 7), (15, .int .i64 i)])
    7 ⟨0, by simp, rfl, rfl, rfl, rfl, rfl, trivial⟩ ?_
  rintro k ρ L ⟨i, hik, rfl, hs⟩
  refine XC.slots _ hs ?_
  (repeat (first | (with_reducible apply XL.op) | ((with_reducible apply XOp.p1); (case hg | hv => exact rfl)) | (with_reducible apply XL.nilT) | (with_reducible apply XC.seq) | (with_reducible apply XC.region (Γ := Γ))))
  ((with_reducible apply XC.cond); (case hc => exact rfl); all_goals (intro hb_; try simp only [pd_true, pd_false, Bool.not_eq_true', Bool.not_eq_false', Bool.and_eq_true, Bool.and_eq_false_iff, Bool.or_eq_true, Bool.or_eq_false_iff, not_true_eq_false, not_false_eq_true, Int.not_lt, Int.not_le] at hb_))
  · have hcA : cellv (oldv w0 (keys [])) ⟨0, 0 + i * 2 + 0, none⟩ = some ((sidesL[i * 2]?).getD undef) := by
      have := hA (i * 2) _ (List.getElem?_eq_getElem (by show i * 2 < 14; omega))
      rw [List.getElem?_eq_getElem (by show i * 2 < 14; omega)]; exact this
    have hcB : cellv (oldv w0 (keys [])) ⟨0, 0 + i * 2 + 1, none⟩ = some ((sidesL[i * 2 + 1]?).getD undef) := by
      have := hA (i * 2 + 1) _ (List.getElem?_eq_getElem (by show i * 2 + 1 < 14; omega))
      rw [List.getElem?_eq_getElem (by show i * 2 + 1 < 14; omega)]; exact this
    rcases (by omega : i = 0 ∨ i = 1 ∨ i = 2 ∨ i = 3 ∨ i = 4 ∨ i = 5 ∨ i = 6) with rfl | rfl | rfl | rfl | rfl | rfl | rfl
    all_goals (repeat (first | (with_reducible apply XL.op) | ((with_reducible apply XOp.p1); (case hg | hv => exact rfl)) | (with_reducible apply XL.nilT) | (with_reducible apply XC.seq) | (with_reducible apply XC.region (Γ := Γ)) | (with_reducible apply XQ.skip) | (with_reducible apply XQ.nt) | (with_reducible apply XC.block)))
    all_goals ((with_reducible apply XC.regionD (Γ := Γ) mixed (.q 0 (.q 1 (.q 2 (.q 3 (.q 4 (.q 5 (.q 6 (.q 7 (.q 8 (.q 10 (.q 11 (.q 12 (.q 13 (.q 14 (.e 9 (.e 15 (.q 16 (.q 17 (.e 18 (.q 19 (.q 20 (.e 21 (.done))))))))))))))))))))))) [] [false, true]); (case hc => kernel_rfl))
    all_goals (repeat (first | (with_reducible apply XL.op) | ((with_reducible apply XOp.p1); (case hg | hv => exact rfl)) | ((with_reducible apply XOp.store (i := 0)); (case hg | ht | hk | hx | hv | h1 | hi | hs | ha => exact rfl)) | (with_reducible apply XL.nilT) | (with_reducible apply XC.region (Γ := Γ)) | (with_reducible apply XQ.nt) | (with_reducible apply XQ.nb) | ((with_reducible apply XP.p1); (case ho | hg | hv => exact rfl)) | ((with_reducible apply XP.loadO (j := 0)); (case ho | hg | ht | hk | hx | hi | hc => exact rfl)) | (with_reducible apply XP.done) | ((with_reducible apply XP.e); (first | ((with_reducible apply XE.d); (case ho => exact rfl); (case hd => exact rfl)) | ((with_reducible apply XE.e); (case ho => exact rfl)))) | ((with_reducible apply XP.keep); (case hk => first | ((repeat' (first | exact List.forall_mem_nil _ | (with_reducible refine List.forall_mem_cons.2 ⟨?_, ?_⟩) | exact List.mem_cons_self .. | (with_reducible apply List.mem_cons_of_mem) | (with_reducible apply List.mem_append_right))); done) | (intro x hx; first | exact sel_in hx | exact List.mem_cons_of_mem _ (sel_in hx) | exact List.mem_append_right _ (sel_in hx) | exact hx | exact List.mem_cons_of_mem _ hx | exact List.mem_append_right _ hx | ((repeat (first | exact sel_in hx | exact hx | (with_reducible apply List.mem_cons_of_mem) | (with_reducible apply List.mem_append_right))); done) | cases hx))) | (first | ((with_reducible apply XOp.load); (case hg | ht | hk | hx => exact rfl); (case hc => exact Known.of_old hcA (Mono.cell _ _))) | ((with_reducible apply XP.load); (case ho | hg | ht | hk | hx => exact rfl); (case hc => exact Known.of_old hcA (Mono.cell _ _)))) | (first | ((with_reducible apply XOp.load); (case hg | ht | hk | hx => exact rfl); (case hc => exact Known.of_old hcB (Mono.cell _ _))) | ((with_reducible apply XP.load); (case ho | hg | ht | hk | hx => exact rfl); (case hc => exact Known.of_old hcB (Mono.cell _ _)))) | (((with_reducible apply XOp.callQ (hF := measure_fn c hc _)); (case hg => exact rfl); (case hc => exact rfl); (case ha => exact rfl); try (case hA => exact Known.true)); rintro _ rfl)))
    all_goals first | exact ⟨k - 1, by omega, 1, by omega, rfl, rfl, rfl, rfl, intS2 (i := 0) (m := 7) (by omega) (by omega), trivial⟩ | exact ⟨k - 1, by omega, 2, by omega, rfl, rfl, rfl, rfl, intS2 (i := 1) (m := 7) (by omega) (by omega), trivial⟩ | exact ⟨k - 1, by omega, 3, by omega, rfl, rfl, rfl, rfl, intS2 (i := 2) (m := 7) (by omega) (by omega), trivial⟩ | exact ⟨k - 1, by omega, 4, by omega, rfl, rfl, rfl, rfl, intS2 (i := 3) (m := 7) (by omega) (by omega), trivial⟩ | exact ⟨k - 1, by omega, 5, by omega, rfl, rfl, rfl, rfl, intS2 (i := 4) (m := 7) (by omega) (by omega), trivial⟩ | exact ⟨k - 1, by omega, 6, by omega, rfl, rfl, rfl, rfl, intS2 (i := 5) (m := 7) (by omega) (by omega), trivial⟩ | exact ⟨k - 1, by omega, 7, by omega, rfl, rfl, rfl, rfl, intS2 (i := 6) (m := 7) (by omega) (by omega), trivial⟩
  · obtain rfl : i = 7 := by omega
    (repeat (first | (with_reducible apply XL.op) | ((with_reducible apply XOp.p1); (case hg | hv => exact rfl)) | (with_reducible apply XL.nilT) | (with_reducible apply XC.seq) | (with_reducible apply XC.region (Γ := Γ)) | (with_reducible apply XQ.ret) | (with_reducible apply XQ.exit) | (with_reducible apply XQ.nt) | (with_reducible apply XQ.et) | ((with_reducible apply XQ.eb); (case hb => exact rfl))))
    ((with_reducible apply XQ.retE); (case hr => exact .t rfl .nil))
    exact ⟨_, .of (List.Sublist.cons_cons _ (List.nil_sublist _)), b, rfl, rfl⟩

theorem shape1_fn (lb off : Nat) : FC Tryd.prog 71 [.pointer (some ⟨lb, off, none⟩)] [] (fun _ => True) (fun v L => v = .pointer (some ⟨lb, off + 2, none⟩) ∧ L = []) := by
  refine FC.nil ?_
  refine FC.intro Tryd.func71 rfl (by kernel_rfl) 6 [.tmp 2] rfl rfl rfl ?_
  intro w0 _
  (repeat (first | (with_reducible apply XL.op) | ((with_reducible apply XOp.p1); (case hg | hv => exact rfl)) | (with_reducible apply XL.nilT) | (with_reducible apply XC.seq) | (with_reducible apply XC.region (Γ := Γ)) | (with_reducible apply XQ.ret)))
  ((with_reducible apply XQ.retE); (case hr => exact .t rfl .nil))
  rfl
theorem shape2_fn (lb off : Nat) : FC Tryd.prog 72 [.pointer (some ⟨lb, off, none⟩)] [] (fun _ => True) (fun v L => v = .pointer (some ⟨lb, off + 5, none⟩) ∧ L = []) := by
  refine FC.nil ?_
  refine FC.intro Tryd.func72 rfl (by kernel_rfl) 6 [.tmp 2] rfl rfl rfl ?_
  intro w0 _
  (repeat (first | (with_reducible apply XL.op) | ((with_reducible apply XOp.p1); (case hg | hv => exact rfl)) | (with_reducible apply XL.nilT) | (with_reducible apply XC.seq) | (with_reducible apply XC.region (Γ := Γ)) | (with_reducible apply XQ.ret)))
  ((with_reducible apply XQ.retE); (case hr => exact .t rfl .nil))
  rfl
theorem shape3_fn (lb off : Nat) : FC Tryd.prog 73 [.pointer (some ⟨lb, off, none⟩)] [] (fun _ => True) (fun v L => v = .pointer (some ⟨lb, off + 8, none⟩) ∧ L = []) := by
  refine FC.nil ?_
  refine FC.intro Tryd.func73 rfl (by kernel_rfl) 6 [.tmp 2] rfl rfl rfl ?_
  intro w0 _
  (repeat (first | (with_reducible apply XL.op) | ((with_reducible apply XOp.p1); (case hg | hv => exact rfl)) | (with_reducible apply XL.nilT) | (with_reducible apply XC.seq) | (with_reducible apply XC.region (Γ := Γ)) | (with_reducible apply XQ.ret)))
  ((with_reducible apply XQ.retE); (case hr => exact .t rfl .nil))
  rfl
theorem shape4_fn (lb off : Nat) : FC Tryd.prog 74 [.pointer (some ⟨lb, off, none⟩)] [] (fun _ => True) (fun v L => v = .pointer (some ⟨lb, off + 11, none⟩) ∧ L = []) := by
  refine FC.nil ?_
  refine FC.intro Tryd.func74 rfl (by kernel_rfl) 6 [.tmp 2] rfl rfl rfl ?_
  intro w0 _
  (repeat (first | (with_reducible apply XL.op) | ((with_reducible apply XOp.p1); (case hg | hv => exact rfl)) | (with_reducible apply XL.nilT) | (with_reducible apply XC.seq) | (with_reducible apply XC.region (Γ := Γ)) | (with_reducible apply XQ.ret)))
  ((with_reducible apply XQ.retE); (case hr => exact .t rfl .nil))
  rfl
theorem shape5_fn (lb off : Nat) : FC Tryd.prog 75 [.pointer (some ⟨lb, off, none⟩)] [] (fun _ => True) (fun v L => v = .pointer (some ⟨lb, off + 14, none⟩) ∧ L = []) := by
  refine FC.nil ?_
  refine FC.intro Tryd.func75 rfl (by kernel_rfl) 6 [.tmp 2] rfl rfl rfl ?_
  intro w0 _
  (repeat (first | (with_reducible apply XL.op) | ((with_reducible apply XOp.p1); (case hg | hv => exact rfl)) | (with_reducible apply XL.nilT) | (with_reducible apply XC.seq) | (with_reducible apply XC.region (Γ := Γ)) | (with_reducible apply XQ.ret)))
  ((with_reducible apply XQ.retE); (case hr => exact .t rfl .nil))
  rfl
theorem shape6_fn (lb off : Nat) : FC Tryd.prog 76 [.pointer (some ⟨lb, off, none⟩)] [] (fun _ => True) (fun v L => v = .pointer (some ⟨lb, off + 17, none⟩) ∧ L = []) := by
  refine FC.nil ?_
  refine FC.intro Tryd.func76 rfl (by kernel_rfl) 6 [.tmp 2] rfl rfl rfl ?_
  intro w0 _
  (repeat (first | (with_reducible apply XL.op) | ((with_reducible apply XOp.p1); (case hg | hv => exact rfl)) | (with_reducible apply XL.nilT) | (with_reducible apply XC.seq) | (with_reducible apply XC.region (Γ := Γ)) | (with_reducible apply XQ.ret)))
  ((with_reducible apply XQ.retE); (case hr => exact .t rfl .nil))
  rfl
theorem shape7_fn (lb off : Nat) : FC Tryd.prog 77 [.pointer (some ⟨lb, off, none⟩)] [] (fun _ => True) (fun v L => v = .pointer (some ⟨lb, off + 20, none⟩) ∧ L = []) := by
  refine FC.nil ?_
  refine FC.intro Tryd.func77 rfl (by kernel_rfl) 6 [.tmp 2] rfl rfl rfl ?_
  intro w0 _
  (repeat (first | (with_reducible apply XL.op) | ((with_reducible apply XOp.p1); (case hg | hv => exact rfl)) | (with_reducible apply XL.nilT) | (with_reducible apply XC.seq) | (with_reducible apply XC.region (Γ := Γ)) | (with_reducible apply XQ.ret)))
  ((with_reducible apply XQ.retE); (case hr => exact .t rfl .nil))
  rfl
end Go.Proofs.YtppggaiahkecoaaDoorX
/- Does a layer fit? The program's. -/
namespace Go.Proofs.YtppggaiahkecoaaDoorX
open Go Go.SX

theorem shapedL_fn (m : LM) (r c : Int) : FC Tryd.prog 67 [.agg ⟨m.cells⟩, .int .i64 r, .int .i64 c] [] (fun h => lmAt h m) (fun v L => v = .bool (pd (shpP m.mat r c)) ∧ L = []) :=
  shaped_fn m.mat m.d.2.1 m.d.2.2 r c
theorem gainsL_fn (x : LV) (n : Int) : FC Tryd.prog 68 [slv x, .int .i64 n] [] (fun h => lvAt h x) (fun v L => v = .bool (pd (gainsP x.1 n)) ∧ L = []) :=
  gains_fn x.1 x.2.1 x.2.2 n
theorem meas0 (c : Cfg) : measS c 0 = c.Width := by unfold measS; rw [if_neg (by omega), if_neg (by omega)]
theorem meas1 (c : Cfg) : measS c 1 = c.keys := by unfold measS; rw [if_pos rfl]
theorem meas2 (c : Cfg) : measS c 2 = c.Hidden := by unfold measS; rw [if_neg (by omega), if_pos rfl]
/-- The j-th matrix of a layer has its shape. -/
def matJ (l : LL) (c : Cfg) : Nat → Prop
  | 0 => shpP l.q.mat (measS c 0) (measS c 0)
  | 1 => shpP l.k.mat (measS c 1) (measS c 0)
  | 2 => shpP l.v.mat (measS c 1) (measS c 0)
  | 3 => shpP l.o.mat (measS c 0) (measS c 0)
  | 4 => shpP l.g.mat (measS c 2) (measS c 0)
  | 5 => shpP l.u.mat (measS c 2) (measS c 0)
  | 6 => shpP l.d.mat (measS c 0) (measS c 2)
  | _ => True
theorem layP_mats {l : LL} {c : Cfg} (h : layP l c) : ∀ j < 7, matJ l c j := by
  obtain ⟨_, _, h0, h1, h2, h3, h4, h5, h6, _⟩ := h
  rw [← meas0] at h0 h1 h2 h3 h4 h5 h6
  rw [← meas1] at h1 h2
  rw [← meas2] at h4 h5 h6
  intro j hj
  rcases (by omega : j = 0 ∨ j = 1 ∨ j = 2 ∨ j = 3 ∨ j = 4 ∨ j = 5 ∨ j = 6) with rfl | rfl | rfl | rfl | rfl | rfl | rfl <;> assumption
theorem mats_layP {l : LL} {c : Cfg} (h : ∀ j < 7, matJ l c j) (n1 : gainsP l.n1.1 c.Width) (n2 : gainsP l.n2.1 c.Width) (hb : ∀ j < 7, 0 ≤ l.by_.getD j 0 ∧ l.by_.getD j 0 ≤ 24) : layP l c := by
  have h0 := h 0 (by omega); have h1 := h 1 (by omega); have h2 := h 2 (by omega); have h3 := h 3 (by omega); have h4 := h 4 (by omega); have h5 := h 5 (by omega); have h6 := h 6 (by omega)
  simp only [matJ, meas0, meas1, meas2] at h0 h1 h2 h3 h4 h5 h6
  exact ⟨n1, n2, h0, h1, h2, h3, h4, h5, h6, hb⟩
theorem by_get (l : LL) {i : Nat} (h : i < 7) : (l.by_.map (Value.int .i64))[((i : Nat) : Int).toNat]? = some (.int .i64 (l.by_.getD i 0)) := by
  match i, h with
  | 0, _ => rfl
  | 1, _ => rfl
  | 2, _ => rfl
  | 3, _ => rfl
  | 4, _ => rfl
  | 5, _ => rfl
  | 6, _ => rfl
set_option maxHeartbeats 8000000 in
theorem fits_fn (l : LL) (lb off : Nat) (c : Cfg) (hc : c.may) : FC Tryd.prog 70 [.pointer (some ⟨lb, off, none⟩), .agg ⟨c.cells⟩] [] (fun h => sidesK h ∧ rowv h lb off l.cells ∧ llAt h l)
    (fun v L => v = .bool (pd (layP l c)) ∧ L = []) := by
  refine FC.nil ?_
  refine FC.intro Tryd.func70 rfl (by kernel_rfl) 56 [.tmp 4] rfl rfl rfl ?_
  rintro w0 ⟨hS, hR, hA⟩
  (repeat (first | (with_reducible apply XL.op) | (with_reducible apply XC.seq) | (with_reducible apply XC.region (Γ := Γ))))
  ((with_reducible apply XOp.box); (case hg | hx' => exact rfl); intro cb)
  (repeat (first | (with_reducible apply XL.op) | ((with_reducible apply XOp.p1); (case hg | hv => exact rfl)) | ((with_reducible apply XOp.loadO (i := 0)); (case hg | ht | hk | hx | hi | hc => exact rfl)) | (with_reducible apply XL.nilT) | (with_reducible apply XC.seq) | (with_reducible apply XC.region (Γ := Γ))))
  ((with_reducible apply XOp.callR (R := [_]) (F := []) (hF := shapes_fn c hc)); (case hg => exact rfl); (case hc => exact rfl); (case ha => exact rfl); (case hL => exact rfl); try (case hA => exact Known.true))
  case hA => exact Known.of_old hS sides_mono
  rintro _ _ ⟨b, rfl, rfl⟩
  (repeat (first | (with_reducible apply XL.op) | ((with_reducible apply XOp.p1); (case hg | hv => exact rfl)) | (with_reducible apply XL.nilT) | (with_reducible apply XC.block)))
  have hno : ∀ j < 7, ¬ matJ l c j → Value.bool false = Value.bool (pd (layP l c)) := fun j hj h => congrArg Value.bool (pdf (fun h2 => h (layP_mats h2 j hj))).symm
  refine XC.loopP (fun k ρ L => ∃ i : Nat, i + k = 7 ∧ L = [(cb, .cells ⟨c.cells⟩ 23 (0, 0)), (b, .cells ⟨shC c 7⟩ 80 (0, 0))] ∧ (∀ j < i, matJ l c j) ∧ Slots ρ [(0, .pointer (some ⟨lb, off, none⟩)), (3, .pointer (some ⟨cb, 0, none⟩)), (10, .slice (some ⟨b, 0, none⟩) 7 7), (11, .int .i64 7), (12, .int .i64 i)])
    7 ⟨0, by simp, rfl, by simp, rfl, rfl, rfl, rfl, rfl, trivial⟩ ?_
  rintro k ρ L ⟨i, hik, rfl, hq, hs⟩
  refine XC.slots _ hs ?_
  (repeat (first | (with_reducible apply XL.op) | ((with_reducible apply XOp.p1); (case hg | hv => exact rfl)) | (with_reducible apply XL.nilT) | (with_reducible apply XC.seq) | (with_reducible apply XC.region (Γ := Γ))))
  ((with_reducible apply XC.cond); (case hc => exact rfl); all_goals (intro hb_; try simp only [pd_true, pd_false, Bool.not_eq_true', Bool.not_eq_false', Bool.and_eq_true, Bool.and_eq_false_iff, Bool.or_eq_true, Bool.or_eq_false_iff, not_true_eq_false, not_false_eq_true, Int.not_lt, Int.not_le] at hb_))
  · have m0 : rowv (oldv w0 (keys [])) lb (off + 2) l.q.cells := rowv_sub hR 2 3
    have m1 : rowv (oldv w0 (keys [])) lb (off + 5) l.k.cells := rowv_sub hR 5 3
    have m2 : rowv (oldv w0 (keys [])) lb (off + 8) l.v.cells := rowv_sub hR 8 3
    have m3 : rowv (oldv w0 (keys [])) lb (off + 11) l.o.cells := rowv_sub hR 11 3
    have m4 : rowv (oldv w0 (keys [])) lb (off + 14) l.g.cells := rowv_sub hR 14 3
    have m5 : rowv (oldv w0 (keys [])) lb (off + 17) l.u.cells := rowv_sub hR 17 3
    have m6 : rowv (oldv w0 (keys [])) lb (off + 20) l.d.cells := rowv_sub hR 20 3
    rcases (by omega : i = 0 ∨ i = 1 ∨ i = 2 ∨ i = 3 ∨ i = 4 ∨ i = 5 ∨ i = 6) with rfl | rfl | rfl | rfl | rfl | rfl | rfl
    all_goals (repeat (first | (with_reducible apply XL.op) | ((with_reducible apply XOp.p1); (case hg | hv => exact rfl)) | ((with_reducible apply XOp.loadO (i := 1)); (case hg | ht | hk | hx | hi | hc => exact rfl)) | (with_reducible apply XC.seq) | (with_reducible apply XC.region (Γ := Γ)) | (with_reducible apply XQ.skip) | (with_reducible apply XQ.nt) | (with_reducible apply XC.block)))
    all_goals ((with_reducible apply XOp.alloc); (case hg | ht | hx' => exact rfl); intro sb)
    all_goals (repeat (first | (with_reducible apply XL.op) | ((with_reducible apply XOp.storeN (i := 0)); (case hg | ht | hx | hv' | hk | h1 | hi | hs | ha => exact rfl)) | (with_reducible apply XL.nilT) | (with_reducible apply XC.seq)))
    all_goals ((with_reducible apply XC.regionD (Γ := Γ) mixed (.q 0 (.q 1 (.q 2 (.q 6 (.q 7 (.q 8 (.q 9 (.e 3 (.q 4 (.q 5 (.e 10 (.q 11 (.done))))))))))))) [] []); (case hc => kernel_rfl))
    all_goals (repeat' (first | (with_reducible apply XL.op) | ((with_reducible apply XOp.p1); (case hg | hv => exact rfl)) | (with_reducible apply XL.nilT) | (with_reducible apply XC.seq) | (with_reducible apply XC.region (Γ := Γ)) | (with_reducible apply XQ.skip) | (with_reducible apply XQ.ret) | (with_reducible apply XQ.nt) | (with_reducible apply XQ.nb) | (with_reducible apply XQ.rt) | (with_reducible apply XQ.rb) | ((with_reducible apply XP.p1); (case ho | hg | hv => exact rfl)) | ((with_reducible apply XP.load); (case ho | hg | ht | hk | hx => exact rfl); (case hc => exact own_cell (i := 0) rfl rfl)) | (with_reducible apply XP.done) | ((with_reducible apply XP.e); (first | ((with_reducible apply XE.d); (case ho => exact rfl); (case hd => exact rfl)) | ((with_reducible apply XE.e); (case ho => exact rfl)))) | ((with_reducible apply XP.keep); (case hk => first | ((repeat' (first | exact List.forall_mem_nil _ | (with_reducible refine List.forall_mem_cons.2 ⟨?_, ?_⟩) | exact List.mem_cons_self .. | (with_reducible apply List.mem_cons_of_mem) | (with_reducible apply List.mem_append_right))); done) | (intro x hx; first | exact sel_in hx | exact List.mem_cons_of_mem _ (sel_in hx) | exact List.mem_append_right _ (sel_in hx) | exact hx | exact List.mem_cons_of_mem _ hx | exact List.mem_append_right _ hx | ((repeat (first | exact sel_in hx | exact hx | (with_reducible apply List.mem_cons_of_mem) | (with_reducible apply List.mem_append_right))); done) | cases hx))) | (((with_reducible apply XOp.callQ (hF := shape1_fn lb off)); (case hg => exact rfl); (case hc => exact rfl); (case ha => exact rfl); try (case hA => exact Known.true)); rintro _ rfl) | (((with_reducible apply XOp.callQ (hF := shape2_fn lb off)); (case hg => exact rfl); (case hc => exact rfl); (case ha => exact rfl); try (case hA => exact Known.true)); rintro _ rfl) | (((with_reducible apply XOp.callQ (hF := shape3_fn lb off)); (case hg => exact rfl); (case hc => exact rfl); (case ha => exact rfl); try (case hA => exact Known.true)); rintro _ rfl) | (((with_reducible apply XOp.callQ (hF := shape4_fn lb off)); (case hg => exact rfl); (case hc => exact rfl); (case ha => exact rfl); try (case hA => exact Known.true)); rintro _ rfl) | (((with_reducible apply XOp.callQ (hF := shape5_fn lb off)); (case hg => exact rfl); (case hc => exact rfl); (case ha => exact rfl); try (case hA => exact Known.true)); rintro _ rfl) | (((with_reducible apply XOp.callQ (hF := shape6_fn lb off)); (case hg => exact rfl); (case hc => exact rfl); (case ha => exact rfl); try (case hA => exact Known.true)); rintro _ rfl) | (((with_reducible apply XOp.callQ (hF := shape7_fn lb off)); (case hg => exact rfl); (case hc => exact rfl); (case ha => exact rfl); try (case hA => exact Known.true)); rintro _ rfl) | (first | ((with_reducible apply XOp.loadN); (case hg | ht | hk | hx => exact rfl); (case hc => exact Known.of_old m0 (Mono.row _ _ _)); (case hl => exact rfl)) | ((with_reducible apply XP.loadN); (case ho | hg | ht | hk | hx => exact rfl); (case hc => exact Known.of_old m0 (Mono.row _ _ _)); (case hl => exact rfl))) | (first | ((with_reducible apply XOp.loadN); (case hg | ht | hk | hx => exact rfl); (case hc => exact Known.of_old m1 (Mono.row _ _ _)); (case hl => exact rfl)) | ((with_reducible apply XP.loadN); (case ho | hg | ht | hk | hx => exact rfl); (case hc => exact Known.of_old m1 (Mono.row _ _ _)); (case hl => exact rfl))) | (first | ((with_reducible apply XOp.loadN); (case hg | ht | hk | hx => exact rfl); (case hc => exact Known.of_old m2 (Mono.row _ _ _)); (case hl => exact rfl)) | ((with_reducible apply XP.loadN); (case ho | hg | ht | hk | hx => exact rfl); (case hc => exact Known.of_old m2 (Mono.row _ _ _)); (case hl => exact rfl))) | (first | ((with_reducible apply XOp.loadN); (case hg | ht | hk | hx => exact rfl); (case hc => exact Known.of_old m3 (Mono.row _ _ _)); (case hl => exact rfl)) | ((with_reducible apply XP.loadN); (case ho | hg | ht | hk | hx => exact rfl); (case hc => exact Known.of_old m3 (Mono.row _ _ _)); (case hl => exact rfl))) | (first | ((with_reducible apply XOp.loadN); (case hg | ht | hk | hx => exact rfl); (case hc => exact Known.of_old m4 (Mono.row _ _ _)); (case hl => exact rfl)) | ((with_reducible apply XP.loadN); (case ho | hg | ht | hk | hx => exact rfl); (case hc => exact Known.of_old m4 (Mono.row _ _ _)); (case hl => exact rfl))) | (first | ((with_reducible apply XOp.loadN); (case hg | ht | hk | hx => exact rfl); (case hc => exact Known.of_old m5 (Mono.row _ _ _)); (case hl => exact rfl)) | ((with_reducible apply XP.loadN); (case ho | hg | ht | hk | hx => exact rfl); (case hc => exact Known.of_old m5 (Mono.row _ _ _)); (case hl => exact rfl))) | (first | ((with_reducible apply XOp.loadN); (case hg | ht | hk | hx => exact rfl); (case hc => exact Known.of_old m6 (Mono.row _ _ _)); (case hl => exact rfl)) | ((with_reducible apply XP.loadN); (case ho | hg | ht | hk | hx => exact rfl); (case hc => exact Known.of_old m6 (Mono.row _ _ _)); (case hl => exact rfl))) | (((with_reducible apply XOp.callQ (hF := shapedL_fn _ _ _)); (case hg => exact rfl); (case hc => exact rfl); (case ha => exact rfl); try (case hA => exact Known.true)); (case hA => first | exact Known.of_old hA.q (lm_mono _) | exact Known.of_old hA.k (lm_mono _) | exact Known.of_old hA.v (lm_mono _) | exact Known.of_old hA.o (lm_mono _) | exact Known.of_old hA.g (lm_mono _) | exact Known.of_old hA.u (lm_mono _) | exact Known.of_old hA.d (lm_mono _)); rintro _ rfl) | ((with_reducible apply XC.cond); (case hc => exact rfl); all_goals (intro hb_; try simp only [pd_true, pd_false, Bool.not_eq_true', Bool.not_eq_false', Bool.and_eq_true, Bool.and_eq_false_iff, Bool.or_eq_true, Bool.or_eq_false_iff, not_true_eq_false, not_false_eq_true, Int.not_lt, Int.not_le] at hb_))))
    all_goals first | (((with_reducible apply XQ.retE); (case hr => exact .t rfl .nil)); (first | exact hno 0 (by omega) hb_ | exact hno 1 (by omega) hb_ | exact hno 2 (by omega) hb_ | exact hno 3 (by omega) hb_ | exact hno 4 (by omega) hb_ | exact hno 5 (by omega) hb_ | exact hno 6 (by omega) hb_)) | exact ⟨k - 1, by omega, _, .of (List.sublist_cons_self _ _), 1, by omega, rfl, fun j hj => by rcases (by omega : j < 0 ∨ j = 0) with h | rfl; exact hq j h; first | assumption | exact hb_, rfl, rfl, rfl, rfl, intS2 (i := 0) (m := 7) (by omega) (by omega), trivial⟩ | exact ⟨k - 1, by omega, _, .of (List.sublist_cons_self _ _), 2, by omega, rfl, fun j hj => by rcases (by omega : j < 1 ∨ j = 1) with h | rfl; exact hq j h; first | assumption | exact hb_, rfl, rfl, rfl, rfl, intS2 (i := 1) (m := 7) (by omega) (by omega), trivial⟩ | exact ⟨k - 1, by omega, _, .of (List.sublist_cons_self _ _), 3, by omega, rfl, fun j hj => by rcases (by omega : j < 2 ∨ j = 2) with h | rfl; exact hq j h; first | assumption | exact hb_, rfl, rfl, rfl, rfl, intS2 (i := 2) (m := 7) (by omega) (by omega), trivial⟩ | exact ⟨k - 1, by omega, _, .of (List.sublist_cons_self _ _), 4, by omega, rfl, fun j hj => by rcases (by omega : j < 3 ∨ j = 3) with h | rfl; exact hq j h; first | assumption | exact hb_, rfl, rfl, rfl, rfl, intS2 (i := 3) (m := 7) (by omega) (by omega), trivial⟩ | exact ⟨k - 1, by omega, _, .of (List.sublist_cons_self _ _), 5, by omega, rfl, fun j hj => by rcases (by omega : j < 4 ∨ j = 4) with h | rfl; exact hq j h; first | assumption | exact hb_, rfl, rfl, rfl, rfl, intS2 (i := 4) (m := 7) (by omega) (by omega), trivial⟩ | exact ⟨k - 1, by omega, _, .of (List.sublist_cons_self _ _), 6, by omega, rfl, fun j hj => by rcases (by omega : j < 5 ∨ j = 5) with h | rfl; exact hq j h; first | assumption | exact hb_, rfl, rfl, rfl, rfl, intS2 (i := 5) (m := 7) (by omega) (by omega), trivial⟩ | exact ⟨k - 1, by omega, _, .of (List.sublist_cons_self _ _), 7, by omega, rfl, fun j hj => by rcases (by omega : j < 6 ∨ j = 6) with h | rfl; exact hq j h; first | assumption | exact hb_, rfl, rfl, rfl, rfl, intS2 (i := 6) (m := 7) (by omega) (by omega), trivial⟩
  obtain rfl : i = 7 := by omega
  have hB : rowv (oldv w0 (keys [])) lb (off + 23) (l.by_.map (Value.int .i64)) := rowv_sub hR 23 7
  (repeat (first | (with_reducible apply XL.op) | ((with_reducible apply XOp.p1); (case hg | hv => exact rfl)) | (with_reducible apply XL.nilT) | (with_reducible apply XC.seq) | (with_reducible apply XC.region (Γ := Γ)) | (with_reducible apply XQ.exit) | (with_reducible apply XQ.nt) | (with_reducible apply XQ.et) | (with_reducible apply XC.block) | ((with_reducible apply XQ.eb); (case hb => exact rfl)) | (first | ((with_reducible apply XOp.loadN); (case hg | ht | hk | hx => exact rfl); (case hc => exact Known.of_old hB (Mono.row _ _ _)); (case hl => exact rfl)) | ((with_reducible apply XP.loadN); (case ho | hg | ht | hk | hx => exact rfl); (case hc => exact Known.of_old hB (Mono.row _ _ _)); (case hl => exact rfl)))))
  refine XC.subl (L' := [(cb, .cells ⟨c.cells⟩ 23 (0, 0))]) (List.Sublist.cons_cons _ (List.nil_sublist _)) ?_
  refine XC.loop (fun k ρ L => ∃ i : Nat, i + k = 7 ∧ L = [(cb, .cells ⟨c.cells⟩ 23 (0, 0))] ∧ (∀ j < i, 0 ≤ l.by_.getD j 0 ∧ l.by_.getD j 0 ≤ 24) ∧ Slots ρ [(0, .pointer (some ⟨lb, off, none⟩)), (3, .pointer (some ⟨cb, 0, none⟩)), (32, .agg ⟨l.by_.map (Value.int .i64)⟩), (33, .int .i64 i)])
    7 ⟨0, by simp, rfl, by simp, rfl, rfl, rfl, rfl, trivial⟩ ?_
  rintro k ρ L ⟨i, hik, rfl, hq2, hs⟩
  refine XC.slots _ hs ?_
  (repeat (first | (with_reducible apply XL.op) | ((with_reducible apply XOp.p1); (case hg | hv => exact rfl)) | (with_reducible apply XL.nilT) | (with_reducible apply XC.seq) | (with_reducible apply XC.region (Γ := Γ))))
  ((with_reducible apply XC.cond); (case hc => exact rfl); all_goals (intro hb_; try simp only [pd_true, pd_false, Bool.not_eq_true', Bool.not_eq_false', Bool.and_eq_true, Bool.and_eq_false_iff, Bool.or_eq_true, Bool.or_eq_false_iff, not_true_eq_false, not_false_eq_true, Int.not_lt, Int.not_le] at hb_))
  · (repeat' (first | (with_reducible apply XL.op) | ((with_reducible apply XOp.p1); (case hg | hv => exact rfl)) | (with_reducible apply XL.nilT) | (with_reducible apply XC.seq) | (with_reducible apply XC.region (Γ := Γ)) | (with_reducible apply XQ.skip) | (with_reducible apply XQ.ret) | (with_reducible apply XQ.nt) | (with_reducible apply XQ.nb) | (with_reducible apply XQ.rt) | (with_reducible apply XQ.rb) | (with_reducible apply XC.block) | (first | ((with_reducible apply XOp.pr); (case hg => exact rfl); (case hr => (with_reducible apply PR.arr); (case ht => exact rfl); (case hk => exact rfl); (case he => exact rfl); (case hag => exact rfl); (case hs => exact rfl); (case hx => exact rfl); (case hi => exact rfl); (case hr => first | assumption | omega); (case hc => exact by_get l (i := i) (by omega)))) | ((with_reducible apply XP.pr); (case ho => exact rfl); (case hg => exact rfl); (case hr => (with_reducible apply PR.arr); (case ht => exact rfl); (case hk => exact rfl); (case he => exact rfl); (case hag => exact rfl); (case hs => exact rfl); (case hx => exact rfl); (case hi => exact rfl); (case hr => first | assumption | omega); (case hc => exact by_get l (i := i) (by omega))))) | (((with_reducible apply XOp.callQ (hF := within_fn _ _ _)); (case hg => exact rfl); (case hc => exact rfl); (case ha => exact rfl); try (case hA => exact Known.true)); rintro _ rfl) | ((with_reducible apply XC.cond); (case hc => exact rfl); all_goals (intro hb_; try simp only [pd_true, pd_false, Bool.not_eq_true', Bool.not_eq_false', Bool.and_eq_true, Bool.and_eq_false_iff, Bool.or_eq_true, Bool.or_eq_false_iff, not_true_eq_false, not_false_eq_true, Int.not_lt, Int.not_le] at hb_))))
    · ((with_reducible apply XQ.retE); (case hr => exact .t rfl .nil))
      exact congrArg Value.bool (pdf (fun h => by have := h.by_ i (by omega); omega)).symm
    · exact ⟨k - 1, by omega, i + 1, by omega, rfl, fun j hj => by
        rcases Nat.lt_or_ge j i with h | h
        · exact hq2 j h
        · obtain rfl : j = i := by omega
          omega, rfl, rfl, rfl, intS2 (m := 7) (by omega) (by omega), trivial⟩
  obtain rfl : i = 7 := by omega
  have hN0 : cellv (oldv w0 (keys [])) ⟨lb, off + 0, none⟩ = some (slv l.n1) := hR 0 _ rfl
  have hN1 : cellv (oldv w0 (keys [])) ⟨lb, off + 1, none⟩ = some (slv l.n2) := hR 1 _ rfl
  (repeat (first | (with_reducible apply XC.seq) | (with_reducible apply XQ.exit) | (with_reducible apply XQ.nt) | (with_reducible apply XQ.et) | ((with_reducible apply XQ.eb); (case hb => exact rfl))))
  ((with_reducible apply XC.regionD (Γ := Γ) mixed (.q 0 (.q 1 (.q 2 (.q 3 (.q 4 (.q 5 (.e 6 (.q 7 (.q 8 (.q 9 (.q 10 (.q 11 (.q 12 (.q 13 (.e 14 (.q 15 (.q 16 (.done)))))))))))))))))) [] []); (case hc => kernel_rfl))
  (repeat' (first | ((with_reducible apply XOp.p0); (case hg => exact rfl)) | (with_reducible apply XQ.ret) | (with_reducible apply XQ.nt) | ((with_reducible apply XP.p1); (case ho | hg | hv => exact rfl)) | ((with_reducible apply XP.p0); (case ho | hg => exact rfl)) | ((with_reducible apply XP.load); (case ho | hg | ht | hk | hx => exact rfl); (case hc => exact own_cell (i := 0) rfl rfl)) | (with_reducible apply XP.done) | ((with_reducible apply XP.e); (first | ((with_reducible apply XE.d); (case ho => exact rfl); (case hd => exact rfl)) | ((with_reducible apply XE.e); (case ho => exact rfl)))) | ((with_reducible apply XP.keep); (case hk => first | ((repeat' (first | exact List.forall_mem_nil _ | (with_reducible refine List.forall_mem_cons.2 ⟨?_, ?_⟩) | exact List.mem_cons_self .. | (with_reducible apply List.mem_cons_of_mem) | (with_reducible apply List.mem_append_right))); done) | (intro x hx; first | exact sel_in hx | exact List.mem_cons_of_mem _ (sel_in hx) | exact List.mem_append_right _ (sel_in hx) | exact hx | exact List.mem_cons_of_mem _ hx | exact List.mem_append_right _ hx | ((repeat (first | exact sel_in hx | exact hx | (with_reducible apply List.mem_cons_of_mem) | (with_reducible apply List.mem_append_right))); done) | cases hx))) | (first | ((with_reducible apply XOp.load); (case hg | ht | hk | hx => exact rfl); (case hc => exact Known.of_old hN0 (Mono.cell _ _))) | ((with_reducible apply XP.load); (case ho | hg | ht | hk | hx => exact rfl); (case hc => exact Known.of_old hN0 (Mono.cell _ _)))) | (first | ((with_reducible apply XOp.load); (case hg | ht | hk | hx => exact rfl); (case hc => exact Known.of_old hN1 (Mono.cell _ _))) | ((with_reducible apply XP.load); (case ho | hg | ht | hk | hx => exact rfl); (case hc => exact Known.of_old hN1 (Mono.cell _ _)))) | (((with_reducible apply XOp.callQ (hF := gainsL_fn _ _)); (case hg => exact rfl); (case hc => exact rfl); (case ha => exact rfl); try (case hA => exact Known.true)); (case hA => first | exact Known.of_old hA.n1 (lv_mono _) | exact Known.of_old hA.n2 (lv_mono _)); rintro _ rfl) | ((with_reducible apply XP.split); (case ho | hg | hj | hd | hb => exact rfl); (fail_if_success (case hf => exact fun h => Bool.noConfusion h)); (fail_if_success (case ht => exact fun h => Bool.noConfusion h)); all_goals (intro hb_; try simp only [pd_true, pd_false, Bool.not_eq_true', Bool.not_eq_false', Bool.and_eq_true, Bool.and_eq_false_iff, Bool.or_eq_true, Bool.or_eq_false_iff, not_true_eq_false, not_false_eq_true, Int.not_lt, Int.not_le] at hb_))))
  all_goals ((with_reducible apply XQ.retE); (case hr => exact .t rfl .nil))
  · refine congrArg Value.bool ?_
    by_cases h2 : gainsP l.n2.1 c.Width
    · rw [pdt h2, pdt (mats_layP hq hb_ h2 hq2)]
    · rw [pdf h2, pdf (fun h => h2 h.n2)]
  · exact congrArg Value.bool (pdf (fun h => hb_ h.n1)).symm
end Go.Proofs.YtppggaiahkecoaaDoorX
