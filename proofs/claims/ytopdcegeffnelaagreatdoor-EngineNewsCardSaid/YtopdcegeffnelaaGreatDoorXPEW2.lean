/- The types of this seat's program that the proofs meet, as a table; written by genenv.py. -/
import Derived.Test.YtopdcegeffnelaaGreatDoorProg
import Derived.Test.YtopdcegeffnelaaGreatDoorXPEW1
set_option linter.unusedSimpArgs false
set_option linter.unusedVariables false
namespace Go.Proofs.YtopdcegeffnelaaGreatDoorX
open Go Go.SX
def tab : List (Nat × TR) := [
  (0, ⟨.tuple, 1, 0, .tuple #[]⟩),
  (1, ⟨.func, 1, 8, .nilFunc⟩),
  (3, ⟨.int .i64, 1, 8, .int .i64 0⟩),
  (4, ⟨.bool, 1, 1, .bool false⟩),
  (2, ⟨.int .i64, 1, 8, .int .i64 0⟩),
  (41, ⟨.int .i64, 1, 8, .int .i64 0⟩),
  (5, ⟨.int .u8, 1, 1, .int .u8 0⟩),
  (23, ⟨.struct [(0, 1, 1), (1, 1, 1), (2, 1, 1), (3, 1, 1), (4, 1, 1), (5, 1, 1), (6, 1, 1), (7, 1, 1)], 8, 64, .agg #[.int .i64 0, .int .i64 0, .int .i64 0, .int .i64 0, .int .i64 0, .int .i64 0, .int .i64 0, .int .i64 0]⟩),
  (31, ⟨.struct [(0, 8, 2), (8, 3, 2), (11, 1, 1), (12, 1, 1), (13, 1, 1), (14, 3, 2), (17, 1, 1)], 18, 240, .agg #[.int .i64 0, .int .i64 0, .int .i64 0, .int .i64 0, .int .i64 0, .int .i64 0, .int .i64 0, .int .i64 0, .int .i64 0, .int .i64 0, .slice none 0 0, .slice none 0 0, .slice none 0 0, .slice none 0 0, .int .i64 0, .int .i64 0, .slice none 0 0, .slice none 0 0]⟩),
  (35, ⟨.struct [(0, 1, 1), (1, 1, 1)], 2, 48, .agg #[.slice none 0 0, .slice none 0 0]⟩),
  (26, ⟨.struct [(0, 1, 1), (1, 1, 1), (2, 1, 1)], 3, 40, .agg #[.int .i64 0, .int .i64 0, .slice none 0 0]⟩),
  (40, ⟨.ptr 99, 1, 8, .pointer none⟩),
  (7, ⟨.struct [(0, 1, 1), (1, 1, 1), (2, 1, 1), (3, 1, 1)], 4, 24, .agg #[.int .i64 0, .int .i64 0, .bool false, .int .u8 0]⟩),
  (55, ⟨.slice 3, 1, 24, .slice none 0 0⟩),
  (24, ⟨.slice 306, 1, 24, .slice none 0 0⟩),
  (217, ⟨.struct [(0, 1, 1), (1, 1, 1), (2, 3, 2), (5, 3, 2), (8, 3, 2), (11, 3, 2), (14, 3, 2), (17, 3, 2), (20, 3, 2), (23, 7, 2)], 30, 384, .agg #[.slice none 0 0, .slice none 0 0, .int .i64 0, .int .i64 0, .slice none 0 0, .int .i64 0, .int .i64 0, .slice none 0 0, .int .i64 0, .int .i64 0, .slice none 0 0, .int .i64 0, .int .i64 0, .slice none 0 0, .int .i64 0, .int .i64 0, .slice none 0 0, .int .i64 0, .int .i64 0, .slice none 0 0, .int .i64 0, .int .i64 0, .slice none 0 0, .int .i64 0, .int .i64 0, .int .i64 0, .int .i64 0, .int .i64 0, .int .i64 0, .int .i64 0]⟩),
  (37, ⟨.struct [(0, 1, 1), (1, 1, 1), (2, 1, 1), (3, 1, 1), (4, 1, 1)], 5, 40, .agg #[.int .i64 0, .int .i64 0, .int .i64 0, .int .i64 0, .int .i64 0]⟩),
  (191, ⟨.struct [(0, 1, 1), (1, 1, 1), (2, 1, 1), (3, 1, 1), (4, 1, 1)], 5, 56, .agg #[.int .i64 0, .int .i64 0, .int .i64 0, .int .i64 0, .slice none 0 0]⟩),
  (32, ⟨.slice 5, 1, 24, .slice none 0 0⟩),
  (186, ⟨.ptr 189, 1, 8, .pointer none⟩),
  (9, ⟨.string, 1, 16, .string ⟨#[]⟩⟩),
  (106, ⟨.ptr 113, 1, 8, .pointer none⟩),
  (27, ⟨.slice 329, 1, 24, .slice none 0 0⟩),
  (33, ⟨.slice 94, 1, 24, .slice none 0 0⟩),
  (329, ⟨.struct [(0, 1, 1), (1, 1, 1)], 2, 16, .agg #[.int .i64 0, .int .i64 0]⟩),
  (57, ⟨.struct [(0, 1, 1), (1, 1, 1), (2, 1, 1)], 3, 56, .agg #[.slice none 0 0, .slice none 0 0, .int .i64 0]⟩),
  (89, ⟨.ptr 162, 1, 8, .pointer none⟩),
  (124, ⟨.struct [(0, 1, 1), (1, 1, 1), (2, 1, 1)], 3, 24, .agg #[.int .i64 0, .int .i64 0, .int .i64 0]⟩),
  (121, ⟨.slice 191, 1, 24, .slice none 0 0⟩),
  (189, ⟨.struct [(0, 5, 2), (5, 1, 1), (6, 1, 1), (7, 1, 1), (8, 1, 1), (9, 1, 1), (10, 2, 2)], 12, 160, .agg #[.int .i64 0, .int .i64 0, .int .i64 0, .int .i64 0, .int .i64 0, .slice none 0 0, .map none, .slice none 0 0, .int .i64 0, .int .i64 0, .slice none 0 0, .slice none 0 0]⟩),
  (134, ⟨.slice 24, 1, 24, .slice none 0 0⟩),
  (39, ⟨.struct [(0, 18, 2), (18, 2, 2), (20, 5, 2)], 25, 328, .agg #[.int .i64 0, .int .i64 0, .int .i64 0, .int .i64 0, .int .i64 0, .int .i64 0, .int .i64 0, .int .i64 0, .int .i64 0, .int .i64 0, .slice none 0 0, .slice none 0 0, .slice none 0 0, .slice none 0 0, .int .i64 0, .int .i64 0, .slice none 0 0, .slice none 0 0, .slice none 0 0, .slice none 0 0, .int .i64 0, .int .i64 0, .int .i64 0, .int .i64 0, .int .i64 0]⟩),
  (94, ⟨.array 2 3, 2, 16, .agg #[.int .i64 0, .int .i64 0]⟩),
  (139, ⟨.struct [(0, 1, 1), (1, 1, 1), (2, 1, 1), (3, 1, 1), (4, 1, 1)], 5, 56, .agg #[.int .i64 0, .int .i64 0, .int .i64 0, .int .i64 0, .slice none 0 0]⟩),
  (118, ⟨.struct [(0, 1, 1), (1, 1, 1)], 2, 48, .agg #[.slice none 0 0, .slice none 0 0]⟩),
  (84, ⟨.ptr 157, 1, 8, .pointer none⟩),
  (99, ⟨.struct [(0, 1, 1), (1, 8, 2), (9, 2, 2), (11, 5, 2), (16, 1, 1), (17, 1, 1), (18, 1, 1)], 19, 200, .agg #[.pointer none, .int .i64 0, .int .i64 0, .int .i64 0, .int .i64 0, .int .i64 0, .int .i64 0, .int .i64 0, .int .i64 0, .slice none 0 0, .slice none 0 0, .int .i64 0, .int .i64 0, .int .i64 0, .int .i64 0, .int .i64 0, .pointer none, .pointer none, .slice none 0 0]⟩),
  (113, ⟨.struct [(0, 9, 2), (9, 1, 1), (10, 1, 1), (11, 3, 2), (14, 1, 1), (15, 1, 1), (16, 1, 1), (17, 1, 1), (18, 1, 1), (19, 1, 1)], 20, 232, .agg #[.slice none 0 0, .int .i64 0, .int .i64 0, .int .i64 0, .int .i64 0, .int .i64 0, .int .u64 0, .int .i64 0, .string ⟨#[]⟩, .slice none 0 0, .int .i64 0, .int .i64 0, .int .i64 0, .int .i64 0, .pointer none, .int .i64 0, .pointer none, .int .i64 0, .slice none 0 0, .slice none 0 0]⟩),
  (205, ⟨.struct [(0, 1, 1), (1, 1, 1), (2, 1, 1), (3, 1, 1)], 4, 48, .agg #[.int .i64 0, .int .i64 0, .int .i64 0, .slice none 0 0]⟩),
  (126, ⟨.ptr 129, 1, 8, .pointer none⟩),
  (105, ⟨.map 3 3, 1, 8, .map none⟩),
  (13, ⟨.struct [(0, 1, 1), (1, 1, 1)], 2, 24, .agg #[.string ⟨#[]⟩, .int .u64 0]⟩),
  (28, ⟨.slice 217, 1, 24, .slice none 0 0⟩),
  (60, ⟨.struct [(0, 1, 1), (1, 1, 1)], 2, 32, .agg #[.int .i64 0, .slice none 0 0]⟩),
  (70, ⟨.struct [(0, 1, 1), (1, 1, 1), (2, 5, 2), (7, 1, 1), (8, 1, 1)], 9, 96, .agg #[.slice none 0 0, .int .i64 0, .int .i64 0, .int .i64 0, .int .i64 0, .int .i64 0, .int .u64 0, .int .i64 0, .string ⟨#[]⟩]⟩),
  (211, ⟨.ptr 219, 1, 8, .pointer none⟩),
  (336, ⟨.struct [(0, 1, 1), (1, 1, 1), (2, 1, 1)], 3, 24, .agg #[.nilFunc, .int .i64 0, .int .i64 0]⟩),
  (12, ⟨.int .u64, 1, 8, .int .u64 0⟩),
  (331, ⟨.ptr 217, 1, 8, .pointer none⟩),
  (64, ⟨.func, 1, 8, .nilFunc⟩),
  (110, ⟨.ptr 182, 1, 8, .pointer none⟩),
  (21, ⟨.int .i32, 1, 4, .int .i32 0⟩),
  (29, ⟨.slice 26, 1, 24, .slice none 0 0⟩),
  (158, ⟨.slice 32, 1, 24, .slice none 0 0⟩),
  (160, ⟨.func, 1, 8, .nilFunc⟩),
  (171, ⟨.ptr 271, 1, 8, .pointer none⟩),
  (20, ⟨.iface, 1, 16, .nilIface⟩),
  (97, ⟨.slice 106, 1, 24, .slice none 0 0⟩),
  (132, ⟨.slice 205, 1, 24, .slice none 0 0⟩),
  (206, ⟨.ptr 223, 1, 8, .pointer none⟩),
  (257, ⟨.func, 1, 8, .nilFunc⟩),
  (334, ⟨.func, 1, 8, .nilFunc⟩),
  (337, ⟨.ptr 26, 1, 8, .pointer none⟩),
  (262, ⟨.func, 1, 8, .nilFunc⟩),
  (129, ⟨.struct [(0, 1, 1), (1, 1, 1), (2, 1, 1), (3, 1, 1), (4, 1, 1), (5, 1, 1)], 6, 80, .agg #[.pointer none, .int .i64 0, .int .i64 0, .slice none 0 0, .slice none 0 0, .int .i64 0]⟩),
  (45, ⟨.ptr 52, 1, 8, .pointer none⟩),
  (63, ⟨.func, 1, 8, .nilFunc⟩),
  (221, ⟨.slice 27, 1, 24, .slice none 0 0⟩),
  (306, ⟨.int .i8, 1, 1, .int .i8 0⟩),
  (30, ⟨.struct [(0, 8, 2), (8, 3, 2), (11, 1, 1), (12, 1, 1), (13, 1, 1), (14, 3, 2), (17, 1, 1)], 18, 240, .agg #[.int .i64 0, .int .i64 0, .int .i64 0, .int .i64 0, .int .i64 0, .int .i64 0, .int .i64 0, .int .i64 0, .int .i64 0, .int .i64 0, .slice none 0 0, .slice none 0 0, .slice none 0 0, .slice none 0 0, .int .i64 0, .int .i64 0, .slice none 0 0, .slice none 0 0]⟩),
  (72, ⟨.struct [(0, 25, 2), (25, 9, 2), (34, 1, 1), (35, 1, 1)], 36, 456, .agg #[.int .i64 0, .int .i64 0, .int .i64 0, .int .i64 0, .int .i64 0, .int .i64 0, .int .i64 0, .int .i64 0, .int .i64 0, .int .i64 0, .slice none 0 0, .slice none 0 0, .slice none 0 0, .slice none 0 0, .int .i64 0, .int .i64 0, .slice none 0 0, .slice none 0 0, .slice none 0 0, .slice none 0 0, .int .i64 0, .int .i64 0, .int .i64 0, .int .i64 0, .int .i64 0, .slice none 0 0, .int .i64 0, .int .i64 0, .int .i64 0, .int .i64 0, .int .i64 0, .int .u64 0, .int .i64 0, .string ⟨#[]⟩, .int .i64 0, .slice none 0 0]⟩),
  (50, ⟨.slice 526, 1, 24, .slice none 0 0⟩),
  (56, ⟨.struct [(0, 1, 1), (1, 1, 1), (2, 1, 1)], 3, 56, .agg #[.slice none 0 0, .slice none 0 0, .int .i64 0]⟩),
  (227, ⟨.map 3 24, 1, 8, .map none⟩),
  (54, ⟨.slice 139, 1, 24, .slice none 0 0⟩),
  (112, ⟨.struct [(0, 9, 2), (9, 1, 1), (10, 1, 1), (11, 3, 2), (14, 1, 1), (15, 1, 1), (16, 1, 1), (17, 1, 1), (18, 1, 1), (19, 1, 1)], 20, 232, .agg #[.slice none 0 0, .int .i64 0, .int .i64 0, .int .i64 0, .int .i64 0, .int .i64 0, .int .u64 0, .int .i64 0, .string ⟨#[]⟩, .slice none 0 0, .int .i64 0, .int .i64 0, .int .i64 0, .int .i64 0, .pointer none, .int .i64 0, .pointer none, .int .i64 0, .slice none 0 0, .slice none 0 0]⟩),
  (117, ⟨.struct [(0, 1, 1), (1, 1, 1)], 2, 48, .agg #[.slice none 0 0, .slice none 0 0]⟩),
  (125, ⟨.slice 126, 1, 24, .slice none 0 0⟩),
  (48, ⟨.tuple, 1, 0, .tuple #[.int .i64 0, .int .i64 0, .int .i64 0, .int .i64 0]⟩),
  (209, ⟨.slice 211, 1, 24, .slice none 0 0⟩),
  (219, ⟨.struct [(0, 1, 1), (1, 30, 2), (31, 1, 1), (32, 1, 1), (33, 1, 1), (34, 1, 1), (35, 1, 1), (36, 1, 1)], 37, 520, .agg #[.pointer none, .slice none 0 0, .slice none 0 0, .int .i64 0, .int .i64 0, .slice none 0 0, .int .i64 0, .int .i64 0, .slice none 0 0, .int .i64 0, .int .i64 0, .slice none 0 0, .int .i64 0, .int .i64 0, .slice none 0 0, .int .i64 0, .int .i64 0, .slice none 0 0, .int .i64 0, .int .i64 0, .slice none 0 0, .int .i64 0, .int .i64 0, .slice none 0 0, .int .i64 0, .int .i64 0, .int .i64 0, .int .i64 0, .int .i64 0, .int .i64 0, .int .i64 0, .int .i64 0, .slice none 0 0, .slice none 0 0, .slice none 0 0, .slice none 0 0, .slice none 0 0]⟩),
  (220, ⟨.func, 1, 8, .nilFunc⟩),
  (223, ⟨.struct [(0, 18, 2), (18, 1, 1), (19, 1, 1)], 20, 272, .agg #[.int .i64 0, .int .i64 0, .int .i64 0, .int .i64 0, .int .i64 0, .int .i64 0, .int .i64 0, .int .i64 0, .int .i64 0, .int .i64 0, .slice none 0 0, .slice none 0 0, .slice none 0 0, .slice none 0 0, .int .i64 0, .int .i64 0, .slice none 0 0, .slice none 0 0, .int .i64 0, .slice none 0 0]⟩),
  (260, ⟨.func, 1, 8, .nilFunc⟩),
  (332, ⟨.slice 336, 1, 24, .slice none 0 0⟩),
  (22, ⟨.struct [(0, 1, 1), (1, 1, 1), (2, 1, 1), (3, 1, 1), (4, 1, 1), (5, 1, 1), (6, 1, 1), (7, 1, 1)], 8, 64, .agg #[.int .i64 0, .int .i64 0, .int .i64 0, .int .i64 0, .int .i64 0, .int .i64 0, .int .i64 0, .int .i64 0]⟩),
  (256, ⟨.map 94 3, 1, 8, .map none⟩),
  (263, ⟨.func, 1, 8, .nilFunc⟩),
  (43, ⟨.func, 1, 8, .nilFunc⟩),
  (52, ⟨.struct [(0, 25, 2), (25, 1, 1), (26, 1, 1), (27, 1, 1), (28, 1, 1)], 29, 376, .agg #[.int .i64 0, .int .i64 0, .int .i64 0, .int .i64 0, .int .i64 0, .int .i64 0, .int .i64 0, .int .i64 0, .int .i64 0, .int .i64 0, .slice none 0 0, .slice none 0 0, .slice none 0 0, .slice none 0 0, .int .i64 0, .int .i64 0, .slice none 0 0, .slice none 0 0, .slice none 0 0, .slice none 0 0, .int .i64 0, .int .i64 0, .int .i64 0, .int .i64 0, .int .i64 0, .pointer none, .pointer none, .int .i64 0, .slice none 0 0]⟩),
  (53, ⟨.func, 1, 8, .nilFunc⟩),
  (86, ⟨.func, 1, 8, .nilFunc⟩),
  (92, ⟨.func, 1, 8, .nilFunc⟩),
  (109, ⟨.ptr 324, 1, 8, .pointer none⟩),
  (115, ⟨.func, 1, 8, .nilFunc⟩),
  (127, ⟨.slice 200, 1, 24, .slice none 0 0⟩),
  (142, ⟨.func, 1, 8, .nilFunc⟩),
  (151, ⟨.func, 1, 8, .nilFunc⟩),
  (162, ⟨.struct [(0, 1, 1), (1, 1, 1), (2, 1, 1), (3, 1, 1), (4, 1, 1), (5, 1, 1), (6, 1, 1), (7, 1, 1)], 8, 112, .agg #[.int .i64 0, .int .i64 0, .int .i64 0, .int .i64 0, .slice none 0 0, .int .i64 0, .slice none 0 0, .slice none 0 0]⟩),
  (271, ⟨.struct [(0, 1, 1), (1, 1, 1), (2, 1, 1), (3, 1, 1), (4, 1, 1), (5, 1, 1), (6, 1, 1)], 7, 104, .agg #[.int .i64 0, .int .i64 0, .int .i64 0, .int .i64 0, .slice none 0 0, .slice none 0 0, .slice none 0 0]⟩),
  (304, ⟨.slice 4, 1, 24, .slice none 0 0⟩),
  (25, ⟨.struct [(0, 1, 1), (1, 1, 1), (2, 1, 1)], 3, 40, .agg #[.int .i64 0, .int .i64 0, .slice none 0 0]⟩),
  (44, ⟨.func, 1, 8, .nilFunc⟩),
  (47, ⟨.func, 1, 8, .nilFunc⟩),
  (62, ⟨.func, 1, 8, .nilFunc⟩),
  (73, ⟨.tuple, 1, 0, .tuple #[.int .i64 0, .int .i64 0]⟩),
  (80, ⟨.func, 1, 8, .nilFunc⟩),
  (87, ⟨.func, 1, 8, .nilFunc⟩),
  (90, ⟨.tuple, 1, 0, .tuple #[.pointer none, .int .i64 0]⟩),
  (95, ⟨.ptr 166, 1, 8, .pointer none⟩),
  (103, ⟨.func, 1, 8, .nilFunc⟩),
  (111, ⟨.slice 154, 1, 24, .slice none 0 0⟩),
  (150, ⟨.tuple, 1, 0, .tuple #[.pointer none, .int .i64 0]⟩),
  (157, ⟨.struct [(0, 18, 2)], 18, 240, .agg #[.int .i64 0, .int .i64 0, .int .i64 0, .int .i64 0, .int .i64 0, .int .i64 0, .int .i64 0, .int .i64 0, .int .i64 0, .int .i64 0, .slice none 0 0, .slice none 0 0, .slice none 0 0, .slice none 0 0, .int .i64 0, .int .i64 0, .slice none 0 0, .slice none 0 0]⟩),
  (170, ⟨.func, 1, 8, .nilFunc⟩),
  (174, ⟨.ptr 275, 1, 8, .pointer none⟩),
  (200, ⟨.struct [(0, 1, 1), (1, 1, 1), (2, 1, 1)], 3, 24, .agg #[.int .i64 0, .int .i64 0, .int .i64 0]⟩),
  (210, ⟨.slice 55, 1, 24, .slice none 0 0⟩),
  (233, ⟨.struct [(0, 1, 1)], 1, 8, .agg #[.nilFunc]⟩),
  (290, ⟨.func, 1, 8, .nilFunc⟩),
  (42, ⟨.tuple, 1, 0, .tuple #[.pointer none, .int .i64 0]⟩),
  (61, ⟨.tuple, 1, 0, .tuple #[.agg #[.int .i64 0, .slice none 0 0], .int .i64 0]⟩),
  (77, ⟨.func, 1, 8, .nilFunc⟩),
  (88, ⟨.func, 1, 8, .nilFunc⟩),
  (96, ⟨.func, 1, 8, .nilFunc⟩),
  (114, ⟨.func, 1, 8, .nilFunc⟩),
  (116, ⟨.slice 124, 1, 24, .slice none 0 0⟩),
  (122, ⟨.func, 1, 8, .nilFunc⟩),
  (168, ⟨.func, 1, 8, .nilFunc⟩),
  (178, ⟨.struct [(0, 18, 2), (18, 2, 2), (20, 5, 2), (25, 1, 1), (26, 1, 1), (27, 1, 1)], 28, 368, .agg #[.int .i64 0, .int .i64 0, .int .i64 0, .int .i64 0, .int .i64 0, .int .i64 0, .int .i64 0, .int .i64 0, .int .i64 0, .int .i64 0, .slice none 0 0, .slice none 0 0, .slice none 0 0, .slice none 0 0, .int .i64 0, .int .i64 0, .slice none 0 0, .slice none 0 0, .slice none 0 0, .slice none 0 0, .int .i64 0, .int .i64 0, .int .i64 0, .int .i64 0, .int .i64 0, .pointer none, .pointer none, .slice none 0 0]⟩),
  (179, ⟨.struct [(0, 1, 1)], 1, 24, .agg #[.slice none 0 0]⟩),
  (180, ⟨.struct [(0, 1, 1)], 1, 24, .agg #[.slice none 0 0]⟩),
  (229, ⟨.slice 233, 1, 24, .slice none 0 0⟩),
  (261, ⟨.func, 1, 8, .nilFunc⟩),
  (265, ⟨.func, 1, 8, .nilFunc⟩),
  (268, ⟨.array 64 3, 64, 512, .agg #[.int .i64 0, .int .i64 0, .int .i64 0, .int .i64 0, .int .i64 0, .int .i64 0, .int .i64 0, .int .i64 0, .int .i64 0, .int .i64 0, .int .i64 0, .int .i64 0, .int .i64 0, .int .i64 0, .int .i64 0, .int .i64 0, .int .i64 0, .int .i64 0, .int .i64 0, .int .i64 0, .int .i64 0, .int .i64 0, .int .i64 0, .int .i64 0, .int .i64 0, .int .i64 0, .int .i64 0, .int .i64 0, .int .i64 0, .int .i64 0, .int .i64 0, .int .i64 0, .int .i64 0, .int .i64 0, .int .i64 0, .int .i64 0, .int .i64 0, .int .i64 0, .int .i64 0, .int .i64 0, .int .i64 0, .int .i64 0, .int .i64 0, .int .i64 0, .int .i64 0, .int .i64 0, .int .i64 0, .int .i64 0, .int .i64 0, .int .i64 0, .int .i64 0, .int .i64 0, .int .i64 0, .int .i64 0, .int .i64 0, .int .i64 0, .int .i64 0, .int .i64 0, .int .i64 0, .int .i64 0, .int .i64 0, .int .i64 0, .int .i64 0, .int .i64 0]⟩),
  (305, ⟨.func, 1, 8, .nilFunc⟩),
  (363, ⟨.func, 1, 8, .nilFunc⟩),
  (34, ⟨.struct [(0, 1, 1), (1, 1, 1)], 2, 48, .agg #[.slice none 0 0, .slice none 0 0]⟩),
  (59, ⟨.struct [(0, 1, 1), (1, 1, 1)], 2, 32, .agg #[.int .i64 0, .slice none 0 0]⟩),
  (68, ⟨.struct [(0, 1, 1), (1, 1, 1), (2, 1, 1), (3, 1, 1), (4, 1, 1)], 5, 40, .agg #[.int .i64 0, .int .i64 0, .int .i64 0, .int .i64 0, .int .u64 0]⟩),
  (71, ⟨.struct [(0, 25, 2), (25, 9, 2), (34, 1, 1), (35, 1, 1)], 36, 456, .agg #[.int .i64 0, .int .i64 0, .int .i64 0, .int .i64 0, .int .i64 0, .int .i64 0, .int .i64 0, .int .i64 0, .int .i64 0, .int .i64 0, .slice none 0 0, .slice none 0 0, .slice none 0 0, .slice none 0 0, .int .i64 0, .int .i64 0, .slice none 0 0, .slice none 0 0, .slice none 0 0, .slice none 0 0, .int .i64 0, .int .i64 0, .int .i64 0, .int .i64 0, .int .i64 0, .slice none 0 0, .int .i64 0, .int .i64 0, .int .i64 0, .int .i64 0, .int .i64 0, .int .u64 0, .int .i64 0, .string ⟨#[]⟩, .int .i64 0, .slice none 0 0]⟩),
  (74, ⟨.func, 1, 8, .nilFunc⟩),
  (78, ⟨.tuple, 1, 0, .tuple #[.slice none 0 0, .slice none 0 0, .int .i64 0]⟩),
  (120, ⟨.func, 1, 8, .nilFunc⟩),
  (135, ⟨.tuple, 1, 0, .tuple #[.slice none 0 0, .int .i64 0]⟩),
  (159, ⟨.func, 1, 8, .nilFunc⟩),
  (169, ⟨.func, 1, 8, .nilFunc⟩),
  (175, ⟨.func, 1, 8, .nilFunc⟩),
  (231, ⟨.func, 1, 8, .nilFunc⟩),
  (254, ⟨.map 5 3, 1, 8, .map none⟩),
  (46, ⟨.tuple, 1, 0, .tuple #[.pointer none, .bool false]⟩),
  (49, ⟨.ptr 178, 1, 8, .pointer none⟩),
  (58, ⟨.func, 1, 8, .nilFunc⟩),
  (75, ⟨.func, 1, 8, .nilFunc⟩),
  (76, ⟨.func, 1, 8, .nilFunc⟩),
  (91, ⟨.func, 1, 8, .nilFunc⟩),
  (133, ⟨.func, 1, 8, .nilFunc⟩),
  (137, ⟨.func, 1, 8, .nilFunc⟩),
  (172, ⟨.tuple, 1, 0, .tuple #[.pointer none, .int .i64 0]⟩),
  (182, ⟨.struct [(0, 1, 2), (1, 1, 1)], 2, 32, .agg #[.slice none 0 0, .pointer none]⟩),
  (215, ⟨.array 7 3, 7, 56, .agg #[.int .i64 0, .int .i64 0, .int .i64 0, .int .i64 0, .int .i64 0, .int .i64 0, .int .i64 0]⟩),
  (267, ⟨.func, 1, 8, .nilFunc⟩),
  (291, ⟨.func, 1, 8, .nilFunc⟩),
  (338, ⟨.func, 1, 8, .nilFunc⟩),
  (344, ⟨.func, 1, 8, .nilFunc⟩),
  (351, ⟨.func, 1, 8, .nilFunc⟩),
  (414, ⟨.struct [(0, 1, 1), (1, 1, 1)], 2, 16, .agg #[.int .i64 0, .int .i64 0]⟩),
  (82, ⟨.func, 1, 8, .nilFunc⟩),
  (85, ⟨.func, 1, 8, .nilFunc⟩),
  (93, ⟨.func, 1, 8, .nilFunc⟩),
  (100, ⟨.tuple, 1, 0, .tuple #[.pointer none, .bool false]⟩),
  (108, ⟨.struct [(0, 1, 1), (1, 1, 1), (2, 1, 1)], 3, 24, .agg #[.int .i64 0, .int .i64 0, .int .i64 0]⟩),
  (119, ⟨.tuple, 1, 0, .tuple #[.agg #[.slice none 0 0, .slice none 0 0], .int .i64 0]⟩),
  (130, ⟨.func, 1, 8, .nilFunc⟩),
  (131, ⟨.func, 1, 8, .nilFunc⟩),
  (140, ⟨.func, 1, 8, .nilFunc⟩),
  (143, ⟨.func, 1, 8, .nilFunc⟩),
  (144, ⟨.func, 1, 8, .nilFunc⟩),
  (148, ⟨.tuple, 1, 0, .tuple #[.agg #[.int .i64 0, .int .i64 0, .int .i64 0], .int .i64 0]⟩),
  (152, ⟨.func, 1, 8, .nilFunc⟩),
  (154, ⟨.struct [(0, 1, 1), (1, 1, 1)], 2, 16, .agg #[.int .i64 0, .int .i64 0]⟩),
  (155, ⟨.func, 1, 8, .nilFunc⟩),
  (173, ⟨.func, 1, 8, .nilFunc⟩),
  (176, ⟨.slice 527, 1, 24, .slice none 0 0⟩),
  (181, ⟨.struct [(0, 1, 2), (1, 1, 1)], 2, 32, .agg #[.slice none 0 0, .pointer none]⟩),
  (183, ⟨.func, 1, 8, .nilFunc⟩),
  (185, ⟨.func, 1, 8, .nilFunc⟩),
  (187, ⟨.func, 1, 8, .nilFunc⟩),
  (192, ⟨.func, 1, 8, .nilFunc⟩),
  (195, ⟨.func, 1, 8, .nilFunc⟩),
  (204, ⟨.struct [(0, 1, 1), (1, 1, 1), (2, 1, 1), (3, 1, 1)], 4, 48, .agg #[.int .i64 0, .int .i64 0, .int .i64 0, .slice none 0 0]⟩),
  (222, ⟨.struct [(0, 18, 2), (18, 1, 1), (19, 1, 1)], 20, 272, .agg #[.int .i64 0, .int .i64 0, .int .i64 0, .int .i64 0, .int .i64 0, .int .i64 0, .int .i64 0, .int .i64 0, .int .i64 0, .int .i64 0, .slice none 0 0, .slice none 0 0, .slice none 0 0, .slice none 0 0, .int .i64 0, .int .i64 0, .slice none 0 0, .slice none 0 0, .int .i64 0, .slice none 0 0]⟩),
  (228, ⟨.tuple, 1, 0, .tuple #[.slice none 0 0, .bool false]⟩),
  (255, ⟨.tuple, 1, 0, .tuple #[.int .i64 0, .bool false]⟩),
  (269, ⟨.func, 1, 8, .nilFunc⟩),
  (272, ⟨.func, 1, 8, .nilFunc⟩),
  (276, ⟨.ptr 180, 1, 8, .pointer none⟩),
  (287, ⟨.func, 1, 8, .nilFunc⟩),
  (288, ⟨.func, 1, 8, .nilFunc⟩),
  (333, ⟨.func, 1, 8, .nilFunc⟩),
  (377, ⟨.func, 1, 8, .nilFunc⟩),
  (413, ⟨.func, 1, 8, .nilFunc⟩),
  (38, ⟨.struct [(0, 18, 2), (18, 2, 2), (20, 5, 2)], 25, 328, .agg #[.int .i64 0, .int .i64 0, .int .i64 0, .int .i64 0, .int .i64 0, .int .i64 0, .int .i64 0, .int .i64 0, .int .i64 0, .int .i64 0, .slice none 0 0, .slice none 0 0, .slice none 0 0, .slice none 0 0, .int .i64 0, .int .i64 0, .slice none 0 0, .slice none 0 0, .slice none 0 0, .slice none 0 0, .int .i64 0, .int .i64 0, .int .i64 0, .int .i64 0, .int .i64 0]⟩),
  (51, ⟨.struct [(0, 25, 2), (25, 1, 1), (26, 1, 1), (27, 1, 1), (28, 1, 1)], 29, 376, .agg #[.int .i64 0, .int .i64 0, .int .i64 0, .int .i64 0, .int .i64 0, .int .i64 0, .int .i64 0, .int .i64 0, .int .i64 0, .int .i64 0, .slice none 0 0, .slice none 0 0, .slice none 0 0, .slice none 0 0, .int .i64 0, .int .i64 0, .slice none 0 0, .slice none 0 0, .slice none 0 0, .slice none 0 0, .int .i64 0, .int .i64 0, .int .i64 0, .int .i64 0, .int .i64 0, .pointer none, .pointer none, .int .i64 0, .slice none 0 0]⟩),
  (65, ⟨.func, 1, 8, .nilFunc⟩),
  (66, ⟨.int .u64, 1, 8, .int .u64 0⟩),
  (67, ⟨.struct [(0, 1, 1), (1, 1, 1), (2, 1, 1), (3, 1, 1), (4, 1, 1)], 5, 40, .agg #[.int .i64 0, .int .i64 0, .int .i64 0, .int .i64 0, .int .u64 0]⟩),
  (69, ⟨.struct [(0, 1, 1), (1, 1, 1), (2, 5, 2), (7, 1, 1), (8, 1, 1)], 9, 96, .agg #[.slice none 0 0, .int .i64 0, .int .i64 0, .int .i64 0, .int .i64 0, .int .i64 0, .int .u64 0, .int .i64 0, .string ⟨#[]⟩]⟩),
  (79, ⟨.func, 1, 8, .nilFunc⟩),
  (81, ⟨.tuple, 1, 0, .tuple #[.slice none 0 0, .int .i64 0]⟩),
  (83, ⟨.func, 1, 8, .nilFunc⟩),
  (101, ⟨.func, 1, 8, .nilFunc⟩),
  (102, ⟨.func, 1, 8, .nilFunc⟩),
  (104, ⟨.func, 1, 8, .nilFunc⟩),
  (123, ⟨.struct [(0, 1, 1), (1, 1, 1), (2, 1, 1)], 3, 24, .agg #[.int .i64 0, .int .i64 0, .int .i64 0]⟩),
  (128, ⟨.struct [(0, 1, 1), (1, 1, 1), (2, 1, 1), (3, 1, 1), (4, 1, 1), (5, 1, 1)], 6, 80, .agg #[.pointer none, .int .i64 0, .int .i64 0, .slice none 0 0, .slice none 0 0, .int .i64 0]⟩),
  (136, ⟨.func, 1, 8, .nilFunc⟩),
  (141, ⟨.func, 1, 8, .nilFunc⟩),
  (146, ⟨.func, 1, 8, .nilFunc⟩),
  (149, ⟨.func, 1, 8, .nilFunc⟩),
  (153, ⟨.struct [(0, 1, 1), (1, 1, 1)], 2, 16, .agg #[.int .i64 0, .int .i64 0]⟩),
  (156, ⟨.struct [(0, 18, 2)], 18, 240, .agg #[.int .i64 0, .int .i64 0, .int .i64 0, .int .i64 0, .int .i64 0, .int .i64 0, .int .i64 0, .int .i64 0, .int .i64 0, .int .i64 0, .slice none 0 0, .slice none 0 0, .slice none 0 0, .slice none 0 0, .int .i64 0, .int .i64 0, .slice none 0 0, .slice none 0 0]⟩),
  (161, ⟨.struct [(0, 1, 1), (1, 1, 1), (2, 1, 1), (3, 1, 1), (4, 1, 1), (5, 1, 1), (6, 1, 1), (7, 1, 1)], 8, 112, .agg #[.int .i64 0, .int .i64 0, .int .i64 0, .int .i64 0, .slice none 0 0, .int .i64 0, .slice none 0 0, .slice none 0 0]⟩),
  (164, ⟨.map 3 278, 1, 8, .map none⟩),
  (177, ⟨.struct [(0, 18, 2), (18, 2, 2), (20, 5, 2), (25, 1, 1), (26, 1, 1), (27, 1, 1)], 28, 368, .agg #[.int .i64 0, .int .i64 0, .int .i64 0, .int .i64 0, .int .i64 0, .int .i64 0, .int .i64 0, .int .i64 0, .int .i64 0, .int .i64 0, .slice none 0 0, .slice none 0 0, .slice none 0 0, .slice none 0 0, .int .i64 0, .int .i64 0, .slice none 0 0, .slice none 0 0, .slice none 0 0, .slice none 0 0, .int .i64 0, .int .i64 0, .int .i64 0, .int .i64 0, .int .i64 0, .pointer none, .pointer none, .slice none 0 0]⟩),
  (184, ⟨.func, 1, 8, .nilFunc⟩),
  (188, ⟨.struct [(0, 5, 2), (5, 1, 1), (6, 1, 1), (7, 1, 1), (8, 1, 1), (9, 1, 1), (10, 2, 2)], 12, 160, .agg #[.int .i64 0, .int .i64 0, .int .i64 0, .int .i64 0, .int .i64 0, .slice none 0 0, .map none, .slice none 0 0, .int .i64 0, .int .i64 0, .slice none 0 0, .slice none 0 0]⟩),
  (202, ⟨.func, 1, 8, .nilFunc⟩),
  (207, ⟨.func, 1, 8, .nilFunc⟩),
  (208, ⟨.func, 1, 8, .nilFunc⟩),
  (224, ⟨.tuple, 1, 0, .tuple #[.slice none 0 0, .slice none 0 0]⟩),
  (225, ⟨.func, 1, 8, .nilFunc⟩),
  (226, ⟨.func, 1, 8, .nilFunc⟩),
  (230, ⟨.func, 1, 8, .nilFunc⟩),
  (235, ⟨.int .i64, 1, 8, .int .i64 0⟩),
  (249, ⟨.tuple, 1, 0, .tuple #[.pointer none, .int .i64 0, .int .i64 0]⟩),
  (250, ⟨.func, 1, 8, .nilFunc⟩),
  (258, ⟨.func, 1, 8, .nilFunc⟩),
  (259, ⟨.func, 1, 8, .nilFunc⟩),
  (264, ⟨.func, 1, 8, .nilFunc⟩),
  (266, ⟨.func, 1, 8, .nilFunc⟩),
  (289, ⟨.func, 1, 8, .nilFunc⟩),
  (294, ⟨.struct [(0, 1, 1), (1, 1, 1)], 2, 16, .agg #[.int .i64 0, .int .i64 0]⟩),
  (301, ⟨.func, 1, 8, .nilFunc⟩),
  (302, ⟨.tuple, 1, 0, .tuple #[.slice none 0 0, .int .i64 0]⟩),
  (303, ⟨.func, 1, 8, .nilFunc⟩),
  (330, ⟨.func, 1, 8, .nilFunc⟩),
  (362, ⟨.func, 1, 8, .nilFunc⟩),
  (415, ⟨.array 7 414, 14, 112, .agg #[.int .i64 0, .int .i64 0, .int .i64 0, .int .i64 0, .int .i64 0, .int .i64 0, .int .i64 0, .int .i64 0, .int .i64 0, .int .i64 0, .int .i64 0, .int .i64 0, .int .i64 0, .int .i64 0]⟩),
  (36, ⟨.struct [(0, 1, 1), (1, 1, 1), (2, 1, 1), (3, 1, 1), (4, 1, 1)], 5, 40, .agg #[.int .i64 0, .int .i64 0, .int .i64 0, .int .i64 0, .int .i64 0]⟩),
  (145, ⟨.tuple, 1, 0, .tuple #[.pointer none, .int .i64 0]⟩),
  (147, ⟨.func, 1, 8, .nilFunc⟩),
  (163, ⟨.map 282 278, 1, 8, .map none⟩),
  (165, ⟨.struct [(0, 1, 1), (1, 1, 1), (2, 1, 1), (3, 1, 1), (4, 1, 1), (5, 1, 1)], 6, 48, .agg #[.pointer none, .int .i64 0, .map none, .map none, .int .i64 0, .int .i64 0]⟩),
  (166, ⟨.struct [(0, 1, 1), (1, 1, 1), (2, 1, 1), (3, 1, 1), (4, 1, 1), (5, 1, 1)], 6, 48, .agg #[.pointer none, .int .i64 0, .map none, .map none, .int .i64 0, .int .i64 0]⟩),
  (167, ⟨.tuple, 1, 0, .tuple #[.pointer none, .int .i64 0]⟩),
  (194, ⟨.func, 1, 8, .nilFunc⟩),
  (197, ⟨.struct [(0, 1, 1)], 1, 8, .agg #[.nilFunc]⟩),
  (199, ⟨.struct [(0, 1, 1), (1, 1, 1), (2, 1, 1)], 3, 24, .agg #[.int .i64 0, .int .i64 0, .int .i64 0]⟩),
  (201, ⟨.func, 1, 8, .nilFunc⟩),
  (212, ⟨.slice 2, 1, 24, .slice none 0 0⟩),
  (213, ⟨.func, 1, 8, .nilFunc⟩),
  (216, ⟨.struct [(0, 1, 1), (1, 1, 1), (2, 3, 2), (5, 3, 2), (8, 3, 2), (11, 3, 2), (14, 3, 2), (17, 3, 2), (20, 3, 2), (23, 7, 2)], 30, 384, .agg #[.slice none 0 0, .slice none 0 0, .int .i64 0, .int .i64 0, .slice none 0 0, .int .i64 0, .int .i64 0, .slice none 0 0, .int .i64 0, .int .i64 0, .slice none 0 0, .int .i64 0, .int .i64 0, .slice none 0 0, .int .i64 0, .int .i64 0, .slice none 0 0, .int .i64 0, .int .i64 0, .slice none 0 0, .int .i64 0, .int .i64 0, .slice none 0 0, .int .i64 0, .int .i64 0, .int .i64 0, .int .i64 0, .int .i64 0, .int .i64 0, .int .i64 0]⟩),
  (232, ⟨.struct [(0, 1, 1)], 1, 8, .agg #[.nilFunc]⟩),
  (234, ⟨.func, 1, 8, .nilFunc⟩),
  (237, ⟨.tuple, 1, 0, .tuple #[.slice none 0 0, .int .i64 0, .int .i64 0]⟩),
  (238, ⟨.func, 1, 8, .nilFunc⟩),
  (242, ⟨.slice 318, 1, 24, .slice none 0 0⟩),
  (243, ⟨.tuple, 1, 0, .tuple #[.slice none 0 0, .int .i64 0]⟩),
  (252, ⟨.func, 1, 8, .nilFunc⟩),
  (275, ⟨.struct [(0, 1, 1), (1, 1, 1), (2, 1, 1)], 3, 40, .agg #[.pointer none, .slice none 0 0, .int .i64 0]⟩),
  (277, ⟨.func, 1, 8, .nilFunc⟩),
  (279, ⟨.array 16 3, 16, 128, .agg #[.int .i64 0, .int .i64 0, .int .i64 0, .int .i64 0, .int .i64 0, .int .i64 0, .int .i64 0, .int .i64 0, .int .i64 0, .int .i64 0, .int .i64 0, .int .i64 0, .int .i64 0, .int .i64 0, .int .i64 0, .int .i64 0]⟩),
  (280, ⟨.array 16 3, 16, 128, .agg #[.int .i64 0, .int .i64 0, .int .i64 0, .int .i64 0, .int .i64 0, .int .i64 0, .int .i64 0, .int .i64 0, .int .i64 0, .int .i64 0, .int .i64 0, .int .i64 0, .int .i64 0, .int .i64 0, .int .i64 0, .int .i64 0]⟩),
  (286, ⟨.struct [(0, 17, 2), (17, 1, 1), (18, 1, 1), (19, 1, 1), (20, 1, 1)], 21, 168, .agg #[.int .i64 0, .int .i64 0, .int .i64 0, .int .i64 0, .int .i64 0, .int .i64 0, .int .i64 0, .int .i64 0, .int .i64 0, .int .i64 0, .int .i64 0, .int .i64 0, .int .i64 0, .int .i64 0, .int .i64 0, .int .i64 0, .int .i64 0, .int .i64 0, .int .i64 0, .int .i64 0, .int .i64 0]⟩),
  (293, ⟨.struct [(0, 1, 1), (1, 1, 1)], 2, 16, .agg #[.int .i64 0, .int .i64 0]⟩),
  (298, ⟨.func, 1, 8, .nilFunc⟩),
  (308, ⟨.func, 1, 8, .nilFunc⟩),
  (317, ⟨.struct [(0, 1, 1), (1, 1, 1)], 2, 16, .agg #[.int .i64 0, .int .i64 0]⟩),
  (326, ⟨.func, 1, 8, .nilFunc⟩),
  (335, ⟨.struct [(0, 1, 1), (1, 1, 1), (2, 1, 1)], 3, 24, .agg #[.nilFunc, .int .i64 0, .int .i64 0]⟩),
  (343, ⟨.func, 1, 8, .nilFunc⟩),
  (345, ⟨.func, 1, 8, .nilFunc⟩),
  (346, ⟨.func, 1, 8, .nilFunc⟩),
  (347, ⟨.int .u64, 1, 8, .int .u64 0⟩),
  (348, ⟨.func, 1, 8, .nilFunc⟩),
  (350, ⟨.struct [(0, 1, 1), (1, 1, 1)], 2, 16, .agg #[.nilFunc, .nilFunc]⟩),
  (361, ⟨.tuple, 1, 0, .tuple #[.int .i64 0, .int .i64 0]⟩),
  (367, ⟨.func, 1, 8, .nilFunc⟩),
  (368, ⟨.func, 1, 8, .nilFunc⟩),
  (382, ⟨.func, 1, 8, .nilFunc⟩),
  (383, ⟨.func, 1, 8, .nilFunc⟩),
  (384, ⟨.struct [(0, 1, 1), (1, 1, 1)], 2, 16, .agg #[.int .i64 0, .int .i64 0]⟩),
  (385, ⟨.struct [(0, 1, 1), (1, 1, 1)], 2, 16, .agg #[.int .i64 0, .int .i64 0]⟩),
  (386, ⟨.tuple, 1, 0, .tuple #[.slice none 0 0, .bool false]⟩),
  (387, ⟨.iface, 1, 16, .nilIface⟩),
  (388, ⟨.iface, 1, 16, .nilIface⟩),
  (389, ⟨.tuple, 1, 0, .tuple #[.nilIface, .int .i64 0, .int .i64 0]⟩),
  (390, ⟨.func, 1, 8, .nilFunc⟩),
  (392, ⟨.slice 409, 1, 24, .slice none 0 0⟩),
  (397, ⟨.struct [(0, 1, 1), (1, 1, 1), (2, 1, 1)], 3, 24, .agg #[.bool false, .int .u64 0, .int .u64 0]⟩),
  (398, ⟨.func, 1, 8, .nilFunc⟩),
  (401, ⟨.slice 400, 1, 24, .slice none 0 0⟩),
  (404, ⟨.struct [(0, 1, 1), (1, 1, 1)], 2, 48, .agg #[.slice none 0 0, .slice none 0 0]⟩),
  (405, ⟨.struct [(0, 1, 1), (1, 1, 1)], 2, 48, .agg #[.slice none 0 0, .slice none 0 0]⟩),
  (408, ⟨.array 4 66, 4, 32, .agg #[.int .u64 0, .int .u64 0, .int .u64 0, .int .u64 0]⟩),
  (412, ⟨.func, 1, 8, .nilFunc⟩),
  (422, ⟨.int .i64, 1, 8, .int .i64 0⟩),
  (456, ⟨.tuple, 1, 0, .tuple #[.slice none 0 0, .bool false]⟩),
  (458, ⟨.func, 1, 8, .nilFunc⟩),
  (98, ⟨.struct [(0, 1, 1), (1, 8, 2), (9, 2, 2), (11, 5, 2), (16, 1, 1), (17, 1, 1), (18, 1, 1)], 19, 200, .agg #[.pointer none, .int .i64 0, .int .i64 0, .int .i64 0, .int .i64 0, .int .i64 0, .int .i64 0, .int .i64 0, .int .i64 0, .slice none 0 0, .slice none 0 0, .int .i64 0, .int .i64 0, .int .i64 0, .int .i64 0, .int .i64 0, .pointer none, .pointer none, .slice none 0 0]⟩),
  (138, ⟨.struct [(0, 1, 1), (1, 1, 1), (2, 1, 1), (3, 1, 1), (4, 1, 1)], 5, 56, .agg #[.int .i64 0, .int .i64 0, .int .i64 0, .int .i64 0, .slice none 0 0]⟩),
  (190, ⟨.struct [(0, 1, 1), (1, 1, 1), (2, 1, 1), (3, 1, 1), (4, 1, 1)], 5, 56, .agg #[.int .i64 0, .int .i64 0, .int .i64 0, .int .i64 0, .slice none 0 0]⟩),
  (196, ⟨.struct [(0, 1, 1)], 1, 8, .agg #[.nilFunc]⟩),
  (214, ⟨.array 7 3, 7, 56, .agg #[.int .i64 0, .int .i64 0, .int .i64 0, .int .i64 0, .int .i64 0, .int .i64 0, .int .i64 0]⟩),
  (218, ⟨.struct [(0, 1, 1), (1, 30, 2), (31, 1, 1), (32, 1, 1), (33, 1, 1), (34, 1, 1), (35, 1, 1), (36, 1, 1)], 37, 520, .agg #[.pointer none, .slice none 0 0, .slice none 0 0, .int .i64 0, .int .i64 0, .slice none 0 0, .int .i64 0, .int .i64 0, .slice none 0 0, .int .i64 0, .int .i64 0, .slice none 0 0, .int .i64 0, .int .i64 0, .slice none 0 0, .int .i64 0, .int .i64 0, .slice none 0 0, .int .i64 0, .int .i64 0, .slice none 0 0, .int .i64 0, .int .i64 0, .slice none 0 0, .int .i64 0, .int .i64 0, .int .i64 0, .int .i64 0, .int .i64 0, .int .i64 0, .int .i64 0, .int .i64 0, .slice none 0 0, .slice none 0 0, .slice none 0 0, .slice none 0 0, .slice none 0 0]⟩),
  (270, ⟨.struct [(0, 1, 1), (1, 1, 1), (2, 1, 1), (3, 1, 1), (4, 1, 1), (5, 1, 1), (6, 1, 1)], 7, 104, .agg #[.int .i64 0, .int .i64 0, .int .i64 0, .int .i64 0, .slice none 0 0, .slice none 0 0, .slice none 0 0]⟩),
  (273, ⟨.slice 529, 1, 24, .slice none 0 0⟩),
  (274, ⟨.struct [(0, 1, 1), (1, 1, 1), (2, 1, 1)], 3, 40, .agg #[.pointer none, .slice none 0 0, .int .i64 0]⟩),
  (278, ⟨.ptr 286, 1, 8, .pointer none⟩),
  (281, ⟨.struct [(0, 1, 1), (1, 16, 2)], 17, 136, .agg #[.int .i64 0, .int .i64 0, .int .i64 0, .int .i64 0, .int .i64 0, .int .i64 0, .int .i64 0, .int .i64 0, .int .i64 0, .int .i64 0, .int .i64 0, .int .i64 0, .int .i64 0, .int .i64 0, .int .i64 0, .int .i64 0, .int .i64 0]⟩),
  (282, ⟨.struct [(0, 1, 1), (1, 16, 2)], 17, 136, .agg #[.int .i64 0, .int .i64 0, .int .i64 0, .int .i64 0, .int .i64 0, .int .i64 0, .int .i64 0, .int .i64 0, .int .i64 0, .int .i64 0, .int .i64 0, .int .i64 0, .int .i64 0, .int .i64 0, .int .i64 0, .int .i64 0, .int .i64 0]⟩),
  (285, ⟨.struct [(0, 17, 2), (17, 1, 1), (18, 1, 1), (19, 1, 1), (20, 1, 1)], 21, 168, .agg #[.int .i64 0, .int .i64 0, .int .i64 0, .int .i64 0, .int .i64 0, .int .i64 0, .int .i64 0, .int .i64 0, .int .i64 0, .int .i64 0, .int .i64 0, .int .i64 0, .int .i64 0, .int .i64 0, .int .i64 0, .int .i64 0, .int .i64 0, .int .i64 0, .int .i64 0, .int .i64 0, .int .i64 0]⟩),
  (318, ⟨.struct [(0, 1, 1), (1, 1, 1)], 2, 16, .agg #[.int .i64 0, .int .i64 0]⟩),
  (319, ⟨.ptr 405, 1, 8, .pointer none⟩),
  (322, ⟨.map 3 55, 1, 8, .map none⟩),
  (323, ⟨.struct [(0, 1, 1), (1, 1, 1), (2, 1, 1), (3, 1, 1)], 4, 64, .agg #[.pointer none, .slice none 0 0, .slice none 0 0, .map none]⟩),
  (324, ⟨.struct [(0, 1, 1), (1, 1, 1), (2, 1, 1), (3, 1, 1)], 4, 64, .agg #[.pointer none, .slice none 0 0, .slice none 0 0, .map none]⟩),
  (325, ⟨.func, 1, 8, .nilFunc⟩),
  (328, ⟨.struct [(0, 1, 1), (1, 1, 1)], 2, 16, .agg #[.int .i64 0, .int .i64 0]⟩),
  (339, ⟨.other, 1, 8, .pointer none⟩),
  (349, ⟨.struct [(0, 1, 1), (1, 1, 1)], 2, 16, .agg #[.nilFunc, .nilFunc]⟩),
  (396, ⟨.struct [(0, 1, 1), (1, 1, 1), (2, 1, 1)], 3, 24, .agg #[.bool false, .int .u64 0, .int .u64 0]⟩),
  (399, ⟨.struct [(0, 1, 1), (1, 1, 1)], 2, 16, .agg #[.int .u64 0, .bool false]⟩),
  (400, ⟨.struct [(0, 1, 1), (1, 1, 1)], 2, 16, .agg #[.int .u64 0, .bool false]⟩),
  (403, ⟨.slice 406, 1, 24, .slice none 0 0⟩),
  (406, ⟨.array 256 3, 256, 2048, .agg #[.int .i64 0, .int .i64 0, .int .i64 0, .int .i64 0, .int .i64 0, .int .i64 0, .int .i64 0, .int .i64 0, .int .i64 0, .int .i64 0, .int .i64 0, .int .i64 0, .int .i64 0, .int .i64 0, .int .i64 0, .int .i64 0, .int .i64 0, .int .i64 0, .int .i64 0, .int .i64 0, .int .i64 0, .int .i64 0, .int .i64 0, .int .i64 0, .int .i64 0, .int .i64 0, .int .i64 0, .int .i64 0, .int .i64 0, .int .i64 0, .int .i64 0, .int .i64 0, .int .i64 0, .int .i64 0, .int .i64 0, .int .i64 0, .int .i64 0, .int .i64 0, .int .i64 0, .int .i64 0, .int .i64 0, .int .i64 0, .int .i64 0, .int .i64 0, .int .i64 0, .int .i64 0, .int .i64 0, .int .i64 0, .int .i64 0, .int .i64 0, .int .i64 0, .int .i64 0, .int .i64 0, .int .i64 0, .int .i64 0, .int .i64 0, .int .i64 0, .int .i64 0, .int .i64 0, .int .i64 0, .int .i64 0, .int .i64 0, .int .i64 0, .int .i64 0, .int .i64 0, .int .i64 0, .int .i64 0, .int .i64 0, .int .i64 0, .int .i64 0, .int .i64 0, .int .i64 0, .int .i64 0, .int .i64 0, .int .i64 0, .int .i64 0, .int .i64 0, .int .i64 0, .int .i64 0, .int .i64 0, .int .i64 0, .int .i64 0, .int .i64 0, .int .i64 0, .int .i64 0, .int .i64 0, .int .i64 0, .int .i64 0, .int .i64 0, .int .i64 0, .int .i64 0, .int .i64 0, .int .i64 0, .int .i64 0, .int .i64 0, .int .i64 0, .int .i64 0, .int .i64 0, .int .i64 0, .int .i64 0, .int .i64 0, .int .i64 0, .int .i64 0, .int .i64 0, .int .i64 0, .int .i64 0, .int .i64 0, .int .i64 0, .int .i64 0, .int .i64 0, .int .i64 0, .int .i64 0, .int .i64 0, .int .i64 0, .int .i64 0, .int .i64 0, .int .i64 0, .int .i64 0, .int .i64 0, .int .i64 0, .int .i64 0, .int .i64 0, .int .i64 0, .int .i64 0, .int .i64 0, .int .i64 0, .int .i64 0, .int .i64 0, .int .i64 0, .int .i64 0, .int .i64 0, .int .i64 0, .int .i64 0, .int .i64 0, .int .i64 0, .int .i64 0, .int .i64 0, .int .i64 0, .int .i64 0, .int .i64 0, .int .i64 0, .int .i64 0, .int .i64 0, .int .i64 0, .int .i64 0, .int .i64 0, .int .i64 0, .int .i64 0, .int .i64 0, .int .i64 0, .int .i64 0, .int .i64 0, .int .i64 0, .int .i64 0, .int .i64 0, .int .i64 0, .int .i64 0, .int .i64 0, .int .i64 0, .int .i64 0, .int .i64 0, .int .i64 0, .int .i64 0, .int .i64 0, .int .i64 0, .int .i64 0, .int .i64 0, .int .i64 0, .int .i64 0, .int .i64 0, .int .i64 0, .int .i64 0, .int .i64 0, .int .i64 0, .int .i64 0, .int .i64 0, .int .i64 0, .int .i64 0, .int .i64 0, .int .i64 0, .int .i64 0, .int .i64 0, .int .i64 0, .int .i64 0, .int .i64 0, .int .i64 0, .int .i64 0, .int .i64 0, .int .i64 0, .int .i64 0, .int .i64 0, .int .i64 0, .int .i64 0, .int .i64 0, .int .i64 0, .int .i64 0, .int .i64 0, .int .i64 0, .int .i64 0, .int .i64 0, .int .i64 0, .int .i64 0, .int .i64 0, .int .i64 0, .int .i64 0, .int .i64 0, .int .i64 0, .int .i64 0, .int .i64 0, .int .i64 0, .int .i64 0, .int .i64 0, .int .i64 0, .int .i64 0, .int .i64 0, .int .i64 0, .int .i64 0, .int .i64 0, .int .i64 0, .int .i64 0, .int .i64 0, .int .i64 0, .int .i64 0, .int .i64 0, .int .i64 0, .int .i64 0, .int .i64 0, .int .i64 0, .int .i64 0, .int .i64 0, .int .i64 0, .int .i64 0, .int .i64 0, .int .i64 0, .int .i64 0, .int .i64 0, .int .i64 0, .int .i64 0, .int .i64 0, .int .i64 0, .int .i64 0, .int .i64 0, .int .i64 0, .int .i64 0, .int .i64 0, .int .i64 0, .int .i64 0, .int .i64 0, .int .i64 0, .int .i64 0, .int .i64 0, .int .i64 0, .int .i64 0, .int .i64 0, .int .i64 0, .int .i64 0]⟩),
  (409, ⟨.array 4 66, 4, 32, .agg #[.int .u64 0, .int .u64 0, .int .u64 0, .int .u64 0]⟩),
  (416, ⟨.struct [(0, 1, 1)], 1, 8, .agg #[.pointer none]⟩),
  (420, ⟨.int .u32, 1, 4, .int .u32 0⟩),
  (518, ⟨.func, 1, 8, .nilFunc⟩),
  (519, ⟨.ptr 5, 1, 8, .pointer none⟩),
  (525, ⟨.struct [(0, 3, 2), (3, 3, 2)], 6, 112, .agg #[.slice none 0 0, .slice none 0 0, .int .i64 0, .slice none 0 0, .slice none 0 0, .int .i64 0]⟩),
  (526, ⟨.struct [(0, 3, 2), (3, 3, 2)], 6, 112, .agg #[.slice none 0 0, .slice none 0 0, .int .i64 0, .slice none 0 0, .slice none 0 0, .int .i64 0]⟩),
  (527, ⟨.ptr 534, 1, 8, .pointer none⟩),
  (528, ⟨.struct [(0, 1, 1), (1, 1, 1), (2, 1, 1)], 3, 40, .agg #[.slice none 0 0, .int .i64 0, .int .i64 0]⟩),
  (529, ⟨.struct [(0, 1, 1), (1, 1, 1), (2, 1, 1)], 3, 40, .agg #[.slice none 0 0, .int .i64 0, .int .i64 0]⟩),
  (532, ⟨.ptr 536, 1, 8, .pointer none⟩),
  (533, ⟨.struct [(0, 9, 2), (9, 1, 1), (10, 1, 1), (11, 1, 1), (12, 3, 2), (15, 1, 1), (16, 1, 1), (17, 1, 1), (18, 1, 1)], 19, 208, .agg #[.slice none 0 0, .int .i64 0, .int .i64 0, .int .i64 0, .int .i64 0, .int .i64 0, .int .u64 0, .int .i64 0, .string ⟨#[]⟩, .slice none 0 0, .int .i64 0, .int .i64 0, .int .i64 0, .int .i64 0, .int .i64 0, .pointer none, .int .i64 0, .bool false, .slice none 0 0]⟩),
  (534, ⟨.struct [(0, 9, 2), (9, 1, 1), (10, 1, 1), (11, 1, 1), (12, 3, 2), (15, 1, 1), (16, 1, 1), (17, 1, 1), (18, 1, 1)], 19, 208, .agg #[.slice none 0 0, .int .i64 0, .int .i64 0, .int .i64 0, .int .i64 0, .int .i64 0, .int .u64 0, .int .i64 0, .string ⟨#[]⟩, .slice none 0 0, .int .i64 0, .int .i64 0, .int .i64 0, .int .i64 0, .int .i64 0, .pointer none, .int .i64 0, .bool false, .slice none 0 0]⟩),
  (535, ⟨.struct [(0, 1, 1), (1, 1, 1)], 2, 32, .agg #[.pointer none, .slice none 0 0]⟩),
  (536, ⟨.struct [(0, 1, 1), (1, 1, 1)], 2, 32, .agg #[.pointer none, .slice none 0 0]⟩)]
theorem tab_ok : tab.map (fun x => SX.look Tryz.prog x.1) = tab.map (fun x => some x.2) := by kernel_rfl
noncomputable def Γ : Env Tryz.prog := ⟨tab, tab_ok⟩
theorem mixed : Tryz.prog.follows .mixedOrders = true := by kernel_rfl
end Go.Proofs.YtopdcegeffnelaaGreatDoorX
/- Which measures may be (door seat): both functions come to the same number. -/
namespace Go.Proofs.YtopdcegeffnelaaGreatDoorX
open Go Go.SX

def _root_.Go.SX.Cfg.cells (c : Cfg) : List Value := [.int .i64 c.Vocab, .int .i64 c.Width, .int .i64 c.Heads, .int .i64 c.KV, .int .i64 c.Layers, .int .i64 c.Hidden, .int .i64 c.Len, .int .i64 c.Medusa]
def _root_.Go.SX.Cfg.ok (c : Cfg) : Prop := inK .i64 c.Vocab ∧ inK .i64 c.Width ∧ inK .i64 c.Heads ∧ inK .i64 c.KV ∧ inK .i64 c.Layers ∧ inK .i64 c.Hidden ∧ inK .i64 c.Len ∧ inK .i64 c.Medusa
def cfgK : Kd Cfg := ⟨8, fun _ c cs => cs = c.cells ∧ c.ok, fun h => by rw [h.1]; rfl, fun _ h => h⟩
theorem len8 {α : Type} {l : List α} (h : l.length = 8) : ∃ a b c d e f g i, l = [a, b, c, d, e, f, g, i] := by
  match l, h with
  | [a, b, c, d, e, f, g, i], _ => exact ⟨a, b, c, d, e, f, g, i, rfl⟩
theorem rdrCfg {H : Type} (enc : TypeId × Value → H) (W : World) : Rdr enc Tryz.prog W 23 cfgK := fun fuel cs x h hw => by
  have hl := rdr_struct_len Tryz.underlying23 h
  have hc : Tryz.prog.cellsOf 23 = 8 := by kernel_rfl
  have h1 : Tryz.prog.cellsOf 3 = 1 := by kernel_rfl
  obtain ⟨a0, e0⟩ := rdr_field Tryz.underlying23 h hw (i := 0) rfl (rdr_int Tryz.underlying3) rfl h1
  obtain ⟨a1, e1⟩ := rdr_field Tryz.underlying23 h hw (i := 1) rfl (rdr_int Tryz.underlying3) rfl h1
  obtain ⟨a2, e2⟩ := rdr_field Tryz.underlying23 h hw (i := 2) rfl (rdr_int Tryz.underlying3) rfl h1
  obtain ⟨a3, e3⟩ := rdr_field Tryz.underlying23 h hw (i := 3) rfl (rdr_int Tryz.underlying3) rfl h1
  obtain ⟨a4, e4⟩ := rdr_field Tryz.underlying23 h hw (i := 4) rfl (rdr_int Tryz.underlying3) rfl h1
  obtain ⟨a5, e5⟩ := rdr_field Tryz.underlying23 h hw (i := 5) rfl (rdr_int Tryz.underlying3) rfl h1
  obtain ⟨a6, e6⟩ := rdr_field Tryz.underlying23 h hw (i := 6) rfl (rdr_int Tryz.underlying3) rfl h1
  obtain ⟨a7, e7⟩ := rdr_field Tryz.underlying23 h hw (i := 7) rfl (rdr_int Tryz.underlying3) rfl h1
  obtain ⟨c0, c1, c2, c3, c4, c5, c6, c7, rfl⟩ := len8 (hl.trans hc)
  simp [Kd.int] at e0 e1 e2 e3 e4 e5 e6 e7
  exact ⟨⟨a0, a1, a2, a3, a4, a5, a6, a7⟩, by simp [Cfg.cells, e0.1, e1.1, e2.1, e3.1, e4.1, e5.1, e6.1, e7.1], e0.2, e1.2, e2.2, e3.2, e4.2, e5.2, e6.2, e7.2⟩

theorem within_fn (a lo hi : Int) : FC Tryz.prog 220 [.int .i64 a, .int .i64 lo, .int .i64 hi] [] (fun _ => True)
    (fun v L => v = .bool (pd (lo ≤ a) && pd (a ≤ hi)) ∧ L = []) := by
  refine FC.intro Tryz.func220 rfl (by kernel_rfl) 15 [.tmp 6] rfl rfl rfl ?_
  intro w0 _
  (repeat' (first | (with_reducible apply XL.op) | ((with_reducible apply XOp.p1); (case hg | hv => exact rfl)) | ((with_reducible apply XOp.p0); (case hg => exact rfl)) | (with_reducible apply XL.nilT) | (with_reducible apply XC.seq) | (with_reducible apply XC.region (Γ := Γ)) | (with_reducible apply XQ.ret) | ((with_reducible apply XOp.split); (case hg | hj | hd | hb => exact rfl); (fail_if_success (case hf => exact fun h => Bool.noConfusion h)); (fail_if_success (case ht => exact fun h => Bool.noConfusion h)); all_goals (intro hb_; try simp only [pd_true, pd_false, Bool.not_eq_true', Bool.not_eq_false', Bool.and_eq_true, Bool.and_eq_false_iff, Bool.or_eq_true, Bool.or_eq_false_iff, not_true_eq_false, not_false_eq_true, Int.not_lt, Int.not_le] at hb_))))
  all_goals ((with_reducible apply XQ.retE); (case hr => exact .t rfl .nil))
  · simp [resV, pdt hb_]
  · simp [resV, pdf (show ¬ lo ≤ a by omega)]

noncomputable def _root_.Go.SX.Cfg.err (c : Cfg) : Int := if @decide c.may (Classical.propDecidable _) then 0 else 40
theorem err_ok {c : Cfg} (h : c.may) : Value.int .i64 0 = .int .i64 c.err := by unfold Go.SX.Cfg.err; simp [h]
theorem err_no {c : Cfg} (h : ¬ c.may) : Value.int .i64 40 = .int .i64 c.err := by unfold Go.SX.Cfg.err; simp [h]

theorem dims {w h : Int} (hw : 2 ≤ w ∧ w ≤ 32) (hh : 1 ≤ h ∧ h ≤ 4) : (w.tmod h = 0 ∧ (IntKind.i64.wrap (w.tdiv h)).tmod 2 = 0) ↔ w % (2 * h) = 0 := by
  have hd : 0 ≤ w.tdiv h ∧ w.tdiv h ≤ 32 := by
    rw [Int.tdiv_eq_ediv_of_nonneg (by omega)]
    rcases (by omega : h = 1 ∨ h = 2 ∨ h = 3 ∨ h = 4) with rfl | rfl | rfl | rfl <;> omega
  rw [wrap64_of (by omega) (by omega), Int.tmod_eq_emod_of_nonneg hd.1, Int.tmod_eq_emod_of_nonneg (by omega), Int.tdiv_eq_ediv_of_nonneg (by omega)]
  rcases (by omega : h = 1 ∨ h = 2 ∨ h = 3 ∨ h = 4) with rfl | rfl | rfl | rfl <;> omega

theorem check_fn (c : Cfg) : FC Tryz.prog 173 [.agg ⟨c.cells⟩] [] (fun _ => True)
    (fun v _ => v = .int .i64 c.err) := by
  refine FC.intro Tryz.func173 rfl (by kernel_rfl) 72 [.tmp 2] rfl rfl rfl ?_
  intro w0 _
  (repeat' (first | (with_reducible apply XL.op) | ((with_reducible apply XOp.p1); (case hg | hv => exact rfl)) | ((with_reducible apply XOp.p0); (case hg => exact rfl)) | ((with_reducible apply XOp.load); (case hg | ht | hk | hx => exact rfl); (case hc => exact own_cell (i := 0) rfl rfl)) | ((with_reducible apply XOp.pr); (case hg => exact rfl); (case hr => ((with_reducible apply PR.quo); (case hx | hy => exact rfl); (case hr => first | assumption | omega | (rw [wrap64_of (by omega) (by omega)]; omega))))) | ((with_reducible apply XOp.pr); (case hg => exact rfl); (case hr => ((with_reducible apply PR.rem); (case hx | hy => exact rfl); (case hr => first | assumption | omega | (rw [wrap64_of (by omega) (by omega)]; omega))))) | ((with_reducible apply XOp.box); (case hg | hx' => exact rfl); intro bx_) | (with_reducible apply XL.nilT) | (with_reducible apply XC.seq) | (with_reducible apply XC.region (Γ := Γ)) | (with_reducible apply XQ.skip) | (with_reducible apply XQ.ret) | (with_reducible apply XQ.nt) | (with_reducible apply XQ.rt) | ((with_reducible apply XC.condT); (case hc => exact rfl)) | (((with_reducible apply XOp.call (hF := within_fn _ _ _)); (case hg => exact rfl); (case hc => exact rfl); (case ha => exact rfl); (case hL => exact (List.nil_append _).symm); try (case hA => exact Known.true)); rintro _ _ ⟨rfl, rfl⟩) | ((with_reducible apply XOp.split); (case hg | hj | hd | hb => exact rfl); (fail_if_success (case hf => exact fun h => Bool.noConfusion h)); (fail_if_success (case ht => exact fun h => Bool.noConfusion h)); all_goals (intro hb_; try simp only [pd_true, pd_false, Bool.not_eq_true', Bool.not_eq_false', Bool.and_eq_true, Bool.and_eq_false_iff, Bool.or_eq_true, Bool.or_eq_false_iff, not_true_eq_false, not_false_eq_true, Int.not_lt, Int.not_le] at hb_)) | ((with_reducible apply XC.cond); (case hc => exact rfl); all_goals (intro hb_; try simp only [pd_true, pd_false, Bool.not_eq_true', Bool.not_eq_false', Bool.and_eq_true, Bool.and_eq_false_iff, Bool.or_eq_true, Bool.or_eq_false_iff, not_true_eq_false, not_false_eq_true, Int.not_lt, Int.not_le] at hb_))))
  all_goals ((with_reducible apply XQ.retE); (case hr => exact .t rfl .nil))
  all_goals first
    | (refine err_no fun h => ?_
       obtain ⟨h1, h2, h3, h4, h5, h6, h7, h8, h9, h10⟩ := h
       first
       | omega
       | exact absurd ((dims h2 h3).2 h8).1 (by assumption)
       | exact absurd ((dims h2 h3).2 h8).2 (by assumption)
       | (rw [Int.tmod_eq_emod_of_nonneg (by omega)] at *; omega))
    | exact err_ok ⟨by assumption, by assumption, by assumption, by assumption, by assumption, by assumption, by assumption, (dims (by assumption) (by assumption)).1 ⟨by assumption, by assumption⟩, by assumption, by
        rename_i h _; rw [← Int.tmod_eq_emod_of_nonneg (by omega)]; assumption⟩

set_option maxRecDepth 10000 in
set_option maxHeartbeats 2000000 in
theorem refCheck_fn (c : Cfg) : FC Tryz.prog 116 [.agg ⟨c.cells⟩] [] (fun _ => True)
    (fun v _ => v = .int .i64 c.err) := by
  refine FC.intro Tryz.func116 rfl (by kernel_rfl) 92 [.tmp 2] rfl rfl rfl ?_
  intro w0 _
  (repeat' (first | (with_reducible apply XL.op) | ((with_reducible apply XOp.p1); (case hg | hv => exact rfl)) | ((with_reducible apply XOp.p0); (case hg => exact rfl)) | ((with_reducible apply XOp.load); (case hg | ht | hk | hx => exact rfl); (case hc => exact own_cell (i := 0) rfl rfl)) | ((with_reducible apply XOp.pr); (case hg => exact rfl); (case hr => ((with_reducible apply PR.rem); (case hx | hy => exact rfl); (case hr => first | assumption | omega | (rw [wrap64_of (by omega) (by omega)]; omega))))) | ((with_reducible apply XOp.box); (case hg | hx' => exact rfl); intro bx_) | (with_reducible apply XL.nilT) | (with_reducible apply XC.seq) | (with_reducible apply XC.region (Γ := Γ)) | (with_reducible apply XQ.skip) | (with_reducible apply XQ.ret) | (with_reducible apply XQ.nt) | (with_reducible apply XQ.rt) | ((with_reducible apply XC.condT); (case hc => exact rfl)) | ((with_reducible apply XOp.split); (case hg | hj | hd | hb => exact rfl); (fail_if_success (case hf => exact fun h => Bool.noConfusion h)); (fail_if_success (case ht => exact fun h => Bool.noConfusion h)); all_goals (intro hb_; try simp only [pd_true, pd_false, Bool.not_eq_true', Bool.not_eq_false', Bool.and_eq_true, Bool.and_eq_false_iff, Bool.or_eq_true, Bool.or_eq_false_iff, not_true_eq_false, not_false_eq_true, Int.not_lt, Int.not_le] at hb_)) | ((with_reducible apply XC.cond); (case hc => exact rfl); all_goals (intro hb_; try simp only [pd_true, pd_false, Bool.not_eq_true', Bool.not_eq_false', Bool.and_eq_true, Bool.and_eq_false_iff, Bool.or_eq_true, Bool.or_eq_false_iff, not_true_eq_false, not_false_eq_true, Int.not_lt, Int.not_le] at hb_))))
  all_goals ((with_reducible apply XQ.retE); (case hr => exact .t rfl .nil))
  all_goals first
    | (refine err_no fun h => ?_
       obtain ⟨h1, h2, h3, h4, h5, h6, h7, h8, h9, h10⟩ := h
       first
       | omega
       | (rw [wrap64_of (by omega) (by omega), Int.tmod_eq_emod_of_nonneg (by omega)] at *; omega)
       | (rw [Int.tmod_eq_emod_of_nonneg (by omega)] at *; omega))
    | (refine err_ok ⟨by omega, by omega, by omega, by omega, by omega, by omega, by omega, ?_, by omega, ?_⟩
       · have h : c.Width.tmod (IntKind.i64.wrap (2 * c.Heads)) = 0 := by assumption
         rwa [wrap64_of (by omega) (by omega), Int.tmod_eq_emod_of_nonneg (by omega)] at h
       · rw [← Int.tmod_eq_emod_of_nonneg (by omega)]; assumption)

end Go.Proofs.YtopdcegeffnelaaGreatDoorX
/- Gains and matrices: do they fit? -/
namespace Go.Proofs.YtopdcegeffnelaaGreatDoorX
open Go Go.SX

def gainsP (l : List Int) (n : Int) : Prop := (l.length : Int) = n ∧ ∀ x ∈ l, x ≠ -128
theorem take_snocD {α : Type} {l : List α} {i : Nat} {x : α} (h : l[i]? = some x) : l.take (i + 1) = l.take i ++ [x] := by
  obtain ⟨hl, rfl⟩ := List.getElem?_eq_some_iff.1 h
  rw [List.take_add_one, List.getElem?_eq_getElem hl]; rfl
theorem all_snoc {l : List Int} {i : Nat} {x : Int} (h : l[i]? = some x) (ha : ∀ y ∈ l.take i, y ≠ -128) (hx : x ≠ -128) : ∀ y ∈ l.take (i + 1), y ≠ -128 := fun y hy => by
  rw [take_snocD h] at hy
  rcases List.mem_append.1 hy with h2 | h2
  · exact ha y h2
  · rw [List.mem_singleton.1 h2]; exact hx
theorem gains_fn (l : List Int) (a : Option Addr) (cap : Nat) (n : Int) : FC Tryz.prog 175 [.slice a l.length cap, .int .i64 n] [] (fun h => SlA (Kd.int .i8) 1 h l a cap)
    (fun v L => v = .bool (pd (gainsP l n)) ∧ L = []) := by
  refine FC.nil ?_
  refine FC.intro Tryz.func175 rfl (by kernel_rfl) 20 [.tmp 4] rfl rfl rfl ?_
  intro w0 hA
  have hsm := hA.bytes
  (repeat (first | (with_reducible apply XL.op) | ((with_reducible apply XOp.p1); (case hg | hv => exact rfl)) | (with_reducible apply XL.nilT) | (with_reducible apply XC.seq) | (with_reducible apply XC.region (Γ := Γ)) | (with_reducible apply XC.block)))
  refine XC.loop (fun k ρ L => ∃ i : Nat, i + k = l.length ∧ L = [] ∧ (∀ y ∈ l.take i, y ≠ -128) ∧ Slots ρ [(0, .slice a l.length cap), (1, .int .i64 n), (7, .slice a l.length cap), (8, .int .i64 l.length), (9, .int .i64 i)])
    l.length ⟨0, by simp, rfl, by simp, rfl, rfl, rfl, rfl, rfl, trivial⟩ ?_
  rintro k ρ L ⟨i, hik, rfl, hq, hs⟩
  refine XC.slots _ hs ?_
  (repeat (first | (with_reducible apply XL.op) | ((with_reducible apply XOp.p1); (case hg | hv => exact rfl)) | (with_reducible apply XL.nilT) | (with_reducible apply XC.seq) | (with_reducible apply XC.region (Γ := Γ))))
  ((with_reducible apply XC.cond); (case hc => exact rfl); all_goals (intro hb_; try simp only [pd_true, pd_false, Bool.not_eq_true', Bool.not_eq_false', Bool.and_eq_true, Bool.and_eq_false_iff, Bool.or_eq_true, Bool.or_eq_false_iff, not_true_eq_false, not_false_eq_true, Int.not_lt, Int.not_le] at hb_))
  · obtain ⟨x, hi⟩ : ∃ x, l[i]? = some x := ⟨_, List.getElem?_eq_getElem (by omega)⟩
    have hc := (hA.int i (by omega)).1
    rw [hi] at hc
    (repeat (first | (with_reducible apply XL.op) | ((with_reducible apply XOp.p1); (case hg | hv => exact rfl)) | ((with_reducible apply XOp.pr); (case hg => exact rfl); (case hr => ((with_reducible apply PR.idxA); (case ht | hk | he | hx | hi => exact rfl); (case hr => first | assumption | omega); (case ha => first | assumption | exact SlA.at_ (by assumption))))) | (with_reducible apply XL.nilT) | (with_reducible apply XC.seq) | (with_reducible apply XC.region (Γ := Γ)) | (with_reducible apply XQ.skip) | (with_reducible apply XQ.nt) | (with_reducible apply XC.block) | (first | ((with_reducible apply XOp.load); (case hg | ht | hk | hx => exact rfl); (case hc => exact Known.of_old hc (Mono.cell _ _))) | ((with_reducible apply XP.load); (case ho | hg | ht | hk | hx => exact rfl); (case hc => exact Known.of_old hc (Mono.cell _ _))))))
    ((with_reducible apply XC.cond); (case hc => exact rfl); all_goals (intro hb_; try simp only [pd_true, pd_false, Bool.not_eq_true', Bool.not_eq_false', Bool.and_eq_true, Bool.and_eq_false_iff, Bool.or_eq_true, Bool.or_eq_false_iff, not_true_eq_false, not_false_eq_true, Int.not_lt, Int.not_le] at hb_))
    · (repeat (first | (with_reducible apply XL.op) | ((with_reducible apply XOp.p1); (case hg | hv => exact rfl)) | (with_reducible apply XL.nilT) | (with_reducible apply XC.seq) | (with_reducible apply XC.region (Γ := Γ)) | (with_reducible apply XQ.ret) | (with_reducible apply XQ.rt) | (with_reducible apply XQ.rb)))
      ((with_reducible apply XQ.retE); (case hr => exact .t rfl .nil))
      exact congrArg Value.bool (pdf (fun h => h.2 x (List.mem_of_getElem? hi) (by assumption))).symm
    · (repeat (first | (with_reducible apply XL.op) | ((with_reducible apply XOp.p1); (case hg | hv => exact rfl)) | (with_reducible apply XL.nilT) | (with_reducible apply XC.region (Γ := Γ)) | (with_reducible apply XQ.skip) | (with_reducible apply XQ.nt) | (with_reducible apply XQ.nb)))
      exact ⟨k - 1, by omega, i + 1, by omega, rfl, all_snoc hi hq (by assumption), rfl, rfl, rfl, rfl, intS (m := l.length) (by omega) (by omega), trivial⟩
  · obtain rfl : i = l.length := by omega
    rw [List.take_length] at hq
    (repeat (first | (with_reducible apply XL.op) | ((with_reducible apply XOp.p1); (case hg | hv => exact rfl)) | (with_reducible apply XL.nilT) | (with_reducible apply XC.seq) | (with_reducible apply XC.region (Γ := Γ)) | (with_reducible apply XQ.ret) | (with_reducible apply XQ.exit) | (with_reducible apply XQ.nt) | (with_reducible apply XQ.et) | ((with_reducible apply XQ.eb); (case hb => exact rfl))))
    ((with_reducible apply XQ.retE); (case hr => exact .t rfl .nil))
    by_cases h : (l.length : Int) = n
    · exact congrArg Value.bool ((pdt h).trans (pdt (show gainsP l n from ⟨h, hq⟩)).symm)
    · exact congrArg Value.bool ((pdf h).trans (pdf (show ¬ gainsP l n from fun h2 => h h2.1)).symm)
theorem refGains_fn (l : List Int) (a : Option Addr) (cap : Nat) (n : Int) : FC Tryz.prog 118 [.slice a l.length cap, .int .i64 n] [] (fun h => SlA (Kd.int .i8) 1 h l a cap)
    (fun v L => v = .bool (pd (gainsP l n)) ∧ L = []) := by
  refine FC.nil ?_
  refine FC.intro Tryz.func118 rfl (by kernel_rfl) 20 [.tmp 4] rfl rfl rfl ?_
  intro w0 hA
  have hsm := hA.bytes
  (repeat (first | (with_reducible apply XL.op) | ((with_reducible apply XOp.p1); (case hg | hv => exact rfl)) | (with_reducible apply XL.nilT) | (with_reducible apply XC.seq) | (with_reducible apply XC.region (Γ := Γ))))
  ((with_reducible apply XC.cond); (case hc => exact rfl); all_goals (intro hb_; try simp only [pd_true, pd_false, Bool.not_eq_true', Bool.not_eq_false', Bool.and_eq_true, Bool.and_eq_false_iff, Bool.or_eq_true, Bool.or_eq_false_iff, not_true_eq_false, not_false_eq_true, Int.not_lt, Int.not_le] at hb_))
  · (repeat (first | (with_reducible apply XL.op) | ((with_reducible apply XOp.p1); (case hg | hv => exact rfl)) | (with_reducible apply XL.nilT) | (with_reducible apply XC.seq) | (with_reducible apply XC.region (Γ := Γ)) | (with_reducible apply XQ.ret) | (with_reducible apply XQ.rt)))
    ((with_reducible apply XQ.retE); (case hr => exact .t rfl .nil))
    exact congrArg Value.bool (pdf (show ¬ gainsP l n from fun h2 => hb_ h2.1)).symm
  (repeat (first | (with_reducible apply XL.op) | ((with_reducible apply XOp.p1); (case hg | hv => exact rfl)) | (with_reducible apply XL.nilT) | (with_reducible apply XC.seq) | (with_reducible apply XC.region (Γ := Γ)) | (with_reducible apply XQ.skip) | (with_reducible apply XQ.nt) | (with_reducible apply XC.block)))
  refine XC.loop (fun k ρ L => ∃ i : Nat, i + k = l.length ∧ L = [] ∧ (∀ y ∈ l.take i, y ≠ -128) ∧ Slots ρ [(0, .slice a l.length cap), (1, .int .i64 n), (5, .int .i64 i)])
    l.length ⟨0, by simp, rfl, by simp, rfl, rfl, rfl, trivial⟩ ?_
  rintro k ρ L ⟨i, hik, rfl, hq, hs⟩
  have hn : (l.length : Int) = n := by first | assumption | omega
  refine XC.slots _ hs ?_
  (repeat (first | (with_reducible apply XL.op) | ((with_reducible apply XOp.p1); (case hg | hv => exact rfl)) | (with_reducible apply XL.nilT) | (with_reducible apply XC.seq) | (with_reducible apply XC.region (Γ := Γ))))
  ((with_reducible apply XC.cond); (case hc => exact rfl); all_goals (intro hb_; try simp only [pd_true, pd_false, Bool.not_eq_true', Bool.not_eq_false', Bool.and_eq_true, Bool.and_eq_false_iff, Bool.or_eq_true, Bool.or_eq_false_iff, not_true_eq_false, not_false_eq_true, Int.not_lt, Int.not_le] at hb_))
  · obtain ⟨x, hi⟩ : ∃ x, l[i]? = some x := ⟨_, List.getElem?_eq_getElem (by omega)⟩
    have hc := (hA.int i (by omega)).1
    rw [hi] at hc
    (repeat (first | (with_reducible apply XL.op) | ((with_reducible apply XOp.p1); (case hg | hv => exact rfl)) | ((with_reducible apply XOp.pr); (case hg => exact rfl); (case hr => ((with_reducible apply PR.idxA); (case ht | hk | he | hx | hi => exact rfl); (case hr => first | assumption | omega); (case ha => first | assumption | exact SlA.at_ (by assumption))))) | (with_reducible apply XL.nilT) | (with_reducible apply XC.seq) | (with_reducible apply XC.region (Γ := Γ)) | (with_reducible apply XQ.skip) | (with_reducible apply XQ.nt) | (with_reducible apply XC.block) | (first | ((with_reducible apply XOp.load); (case hg | ht | hk | hx => exact rfl); (case hc => exact Known.of_old hc (Mono.cell _ _))) | ((with_reducible apply XP.load); (case ho | hg | ht | hk | hx => exact rfl); (case hc => exact Known.of_old hc (Mono.cell _ _))))))
    ((with_reducible apply XC.cond); (case hc => exact rfl); all_goals (intro hb_; try simp only [pd_true, pd_false, Bool.not_eq_true', Bool.not_eq_false', Bool.and_eq_true, Bool.and_eq_false_iff, Bool.or_eq_true, Bool.or_eq_false_iff, not_true_eq_false, not_false_eq_true, Int.not_lt, Int.not_le] at hb_))
    · (repeat (first | (with_reducible apply XL.op) | ((with_reducible apply XOp.p1); (case hg | hv => exact rfl)) | (with_reducible apply XL.nilT) | (with_reducible apply XC.seq) | (with_reducible apply XC.region (Γ := Γ)) | (with_reducible apply XQ.ret) | (with_reducible apply XQ.rt) | (with_reducible apply XQ.rb)))
      ((with_reducible apply XQ.retE); (case hr => exact .t rfl .nil))
      exact congrArg Value.bool (pdf (fun h => h.2 x (List.mem_of_getElem? hi) (by assumption))).symm
    · (repeat (first | (with_reducible apply XL.op) | ((with_reducible apply XOp.p1); (case hg | hv => exact rfl)) | (with_reducible apply XL.nilT) | (with_reducible apply XC.region (Γ := Γ)) | (with_reducible apply XQ.skip) | (with_reducible apply XQ.nt) | (with_reducible apply XQ.nb)))
      exact ⟨k - 1, by omega, i + 1, by omega, rfl, all_snoc hi hq (by assumption), rfl, rfl, intS (m := l.length) (by omega) (by omega), trivial⟩
  · obtain rfl : i = l.length := by omega
    rw [List.take_length] at hq
    (repeat (first | (with_reducible apply XL.op) | ((with_reducible apply XOp.p1); (case hg | hv => exact rfl)) | (with_reducible apply XL.nilT) | (with_reducible apply XC.seq) | (with_reducible apply XC.region (Γ := Γ)) | (with_reducible apply XQ.ret) | (with_reducible apply XQ.exit) | (with_reducible apply XQ.nt) | (with_reducible apply XQ.et) | ((with_reducible apply XQ.eb); (case hb => exact rfl))))
    ((with_reducible apply XQ.retE); (case hr => exact .t rfl .nil))
    exact congrArg Value.bool (pdt (show gainsP l n from ⟨hn, hq⟩)).symm
end Go.Proofs.YtopdcegeffnelaaGreatDoorX
/- Matrices: are they well made? -/
namespace Go.Proofs.YtopdcegeffnelaaGreatDoorX
open Go Go.SX

def matOk (m : Mat) : Prop := 1 ≤ m.Rows ∧ 1 ≤ m.Cols ∧ (m.Data.length : Int) = m.Rows * m.Cols ∧ ∀ x ∈ m.Data, x ≠ -128
noncomputable def errMat (m : Mat) : Int := if pd (matOk m) then 0 else 30
theorem errMat_ok {m : Mat} (h : matOk m) : errMat m = 0 := by unfold errMat; rw [pdt h]; rfl
theorem errMat_no {m : Mat} (h : ¬ matOk m) : errMat m = 30 := by unfold errMat; rw [pdf h]; rfl
theorem shape_iff {r c : Int} {n : Nat} (hc : 1 ≤ c) (hn : n ≤ 140737488355328) : ((n : Int).tmod c = 0 ∧ IntKind.i64.wrap ((n : Int).tdiv c) = r) ↔ (n : Int) = r * c := by
  have h0 : (0 : Int) ≤ n := Int.natCast_nonneg n
  have h1 := Int.mul_tdiv_add_tmod (n : Int) c
  have h2 : 0 ≤ (n : Int).tdiv c := Int.tdiv_nonneg h0 (by omega)
  have h3 : (n : Int).tdiv c ≤ n := by
    rw [Int.tdiv_eq_ediv_of_nonneg h0]; exact Int.ediv_le_self _ h0
  rw [wrap64_of (by omega) (by omega)]
  constructor
  · rintro ⟨h, rfl⟩
    rw [h, Int.add_zero] at h1; rw [Int.mul_comm] at h1; exact h1.symm
  · intro h
    rw [h]
    exact ⟨Int.mul_tmod_left _ _, Int.mul_tdiv_cancel _ (by omega)⟩
set_option maxHeartbeats 4000000 in
theorem matCheck_fn (m : Mat) (a : Option Addr) (cap : Nat) : FC Tryz.prog 221 [.agg ⟨[.int .i64 m.Rows, .int .i64 m.Cols, .slice a m.Data.length cap]⟩] [] (fun h => SlA (Kd.int .i8) 1 h m.Data a cap)
    (fun v L => v = .int .i64 (errMat m) ∧ L = []) := by
  refine FC.nil ?_
  refine FC.intro Tryz.func221 rfl (by kernel_rfl) 43 [.tmp 2] rfl rfl rfl ?_
  intro w0 hA
  have hsm := hA.bytes
  have hI8 := hA.okAll
  (repeat (first | (with_reducible apply XL.op) | (with_reducible apply XC.seq) | (with_reducible apply XC.region (Γ := Γ))))
  ((with_reducible apply XOp.box); (case hg | hx' => exact rfl); intro mb)
  (repeat (first | (with_reducible apply XL.op) | ((with_reducible apply XOp.p1); (case hg | hv => exact rfl)) | (with_reducible apply XL.nilT) | (with_reducible apply XC.seq)))
  ((with_reducible apply XC.regionD (Γ := Γ) mixed (.q 0 (.q 1 (.q 2 (.q 3 (.q 4 (.q 5 (.q 6 (.q 7 (.q 8 (.q 9 (.q 10 (.q 11 (.q 12 (.q 13 (.q 14 (.q 15 (.q 16 (.q 17 (.q 18 (.q 19 (.q 20 (.q 21 (.q 22 (.q 23 (.q 24 (.q 25 (.q 26 (.q 27 (.done))))))))))))))))))))))))))))) [] []); (case hc => kernel_rfl))
  (repeat' (first | (with_reducible apply XL.op) | ((with_reducible apply XOp.p1); (case hg | hv => exact rfl)) | ((with_reducible apply XOp.load); (case hg | ht | hk | hx => exact rfl); (case hc => exact own_cell (i := 0) rfl rfl)) | (with_reducible apply XL.nilT) | (with_reducible apply XC.seq) | (with_reducible apply XC.region (Γ := Γ)) | (with_reducible apply XQ.skip) | (with_reducible apply XQ.ret) | (with_reducible apply XQ.nt) | (with_reducible apply XQ.rt) | (with_reducible apply XC.block) | ((with_reducible apply XP.p1); (case ho | hg | hv => exact rfl)) | ((with_reducible apply XP.p0); (case ho | hg => exact rfl)) | ((with_reducible apply XP.load); (case ho | hg | ht | hk | hx => exact rfl); (case hc => exact own_cell (i := 0) rfl rfl)) | ((with_reducible apply XP.pr); (case ho => exact rfl); (case hg => exact rfl); (case hr => ((with_reducible apply PR.quo); (case hx | hy => exact rfl); (case hr => first | assumption | omega | (rw [wrap64_of (by omega) (by omega)]; omega))))) | ((with_reducible apply XP.pr); (case ho => exact rfl); (case hg => exact rfl); (case hr => ((with_reducible apply PR.rem); (case hx | hy => exact rfl); (case hr => first | assumption | omega | (rw [wrap64_of (by omega) (by omega)]; omega))))) | (with_reducible apply XP.done) | ((with_reducible apply XC.condT); (case hc => exact rfl)) | ((with_reducible apply XP.split); (case ho | hg | hj | hd | hb => exact rfl); (fail_if_success (case hf => exact fun h => Bool.noConfusion h)); (fail_if_success (case ht => exact fun h => Bool.noConfusion h)); all_goals (intro hb_; try simp only [pd_true, pd_false, Bool.not_eq_true', Bool.not_eq_false', Bool.and_eq_true, Bool.and_eq_false_iff, Bool.or_eq_true, Bool.or_eq_false_iff, not_true_eq_false, not_false_eq_true, Int.not_lt, Int.not_le] at hb_)) | ((with_reducible apply XC.cond); (case hc => exact rfl); all_goals (intro hb_; try simp only [pd_true, pd_false, Bool.not_eq_true', Bool.not_eq_false', Bool.and_eq_true, Bool.and_eq_false_iff, Bool.or_eq_true, Bool.or_eq_false_iff, not_true_eq_false, not_false_eq_true, Int.not_lt, Int.not_le] at hb_))))
  iterate 4
    (((with_reducible apply XQ.retE); (case hr => exact .t rfl .nil))
     refine congrArg (Value.int .i64) (errMat_no (fun h => ?_)).symm
     have hsh := (shape_iff (r := m.Rows) (c := m.Cols) h.2.1 (n := m.Data.length) (by omega)).2 h.2.2.1
     have h1 := h.1
     have h2 := h.2.1
     first | omega | exact hb_ hsh.1 | exact hb_ hsh.2)
  have hok : 1 ≤ m.Rows ∧ 1 ≤ m.Cols ∧ (m.Data.length : Int) = m.Rows * m.Cols := by
    have hc : 1 ≤ m.Cols := by omega
    exact ⟨by omega, hc, (shape_iff hc (by omega)).1 ⟨by assumption, by assumption⟩⟩
  refine XC.loop (fun k ρ L => ∃ i : Nat, i + k = m.Data.length ∧ L = [(mb, .cells ⟨[.int .i64 m.Rows, .int .i64 m.Cols, .slice a m.Data.length cap]⟩ 26 (0, 0))] ∧ (∀ y ∈ m.Data.take i, y ≠ -128) ∧ Slots ρ [(1, .pointer (some ⟨mb, 0, none⟩)), (34, .slice a m.Data.length cap), (35, .int .i64 m.Data.length), (36, .int .i64 i)])
    m.Data.length ⟨0, by simp, rfl, by simp, rfl, rfl, rfl, rfl, trivial⟩ ?_
  rintro k ρ L ⟨i, hik, rfl, hq, hs⟩
  refine XC.slots _ hs ?_
  (repeat (first | (with_reducible apply XL.op) | ((with_reducible apply XOp.p1); (case hg | hv => exact rfl)) | (with_reducible apply XL.nilT) | (with_reducible apply XC.seq) | (with_reducible apply XC.region (Γ := Γ))))
  ((with_reducible apply XC.cond); (case hc => exact rfl); all_goals (intro hb_; try simp only [pd_true, pd_false, Bool.not_eq_true', Bool.not_eq_false', Bool.and_eq_true, Bool.and_eq_false_iff, Bool.or_eq_true, Bool.or_eq_false_iff, not_true_eq_false, not_false_eq_true, Int.not_lt, Int.not_le] at hb_))
  · obtain ⟨x, hi⟩ : ∃ x, m.Data[i]? = some x := ⟨_, List.getElem?_eq_getElem (by omega)⟩
    have hc := (hA.int i (by omega)).1
    rw [hi] at hc
    change cellv _ _ = some (.int .i8 x) at hc
    (repeat (first | (with_reducible apply XL.op) | ((with_reducible apply XOp.p1); (case hg | hv => exact rfl)) | ((with_reducible apply XOp.pr); (case hg => exact rfl); (case hr => ((with_reducible apply PR.idxA); (case ht | hk | he | hx | hi => exact rfl); (case hr => first | assumption | omega); (case ha => first | assumption | exact SlA.at_ (by assumption))))) | (with_reducible apply XL.nilT) | (with_reducible apply XC.seq) | (with_reducible apply XC.region (Γ := Γ)) | (with_reducible apply XQ.skip) | (with_reducible apply XQ.nt) | (with_reducible apply XC.block) | (first | ((with_reducible apply XOp.load); (case hg | ht | hk | hx => exact rfl); (case hc => exact Known.of_old hc (Mono.cell _ _))) | ((with_reducible apply XP.load); (case ho | hg | ht | hk | hx => exact rfl); (case hc => exact Known.of_old hc (Mono.cell _ _))))))
    ((with_reducible apply XC.cond); (case hc => exact rfl); all_goals (intro hb_; try simp only [pd_true, pd_false, Bool.not_eq_true', Bool.not_eq_false', Bool.and_eq_true, Bool.and_eq_false_iff, Bool.or_eq_true, Bool.or_eq_false_iff, not_true_eq_false, not_false_eq_true, Int.not_lt, Int.not_le] at hb_))
    · (repeat (first | (with_reducible apply XL.op) | ((with_reducible apply XOp.p1); (case hg | hv => exact rfl)) | (with_reducible apply XL.nilT) | (with_reducible apply XC.seq) | (with_reducible apply XC.region (Γ := Γ)) | (with_reducible apply XQ.ret) | (with_reducible apply XQ.rt) | (with_reducible apply XQ.rb)))
      ((with_reducible apply XQ.retE); (case hr => exact .t rfl .nil))
      exact congrArg (Value.int .i64) (errMat_no (fun h => h.2.2.2 x (List.mem_of_getElem? hi) (by have := inK_i8.1 (hI8 x (List.mem_of_getElem? hi)); omega))).symm
    · (repeat (first | (with_reducible apply XL.op) | ((with_reducible apply XOp.p1); (case hg | hv => exact rfl)) | (with_reducible apply XL.nilT) | (with_reducible apply XC.region (Γ := Γ)) | (with_reducible apply XQ.skip) | (with_reducible apply XQ.nt) | (with_reducible apply XQ.nb)))
      exact ⟨k - 1, by omega, i + 1, by omega, rfl, all_snoc hi hq (by first | assumption | (have := inK_i8.1 (hI8 x (List.mem_of_getElem? hi)); omega)), rfl, rfl, rfl, intS (m := m.Data.length) (by omega) (by omega), trivial⟩
  · obtain rfl : i = m.Data.length := by omega
    rw [List.take_length] at hq
    (repeat (first | (with_reducible apply XL.op) | ((with_reducible apply XOp.p1); (case hg | hv => exact rfl)) | (with_reducible apply XL.nilT) | (with_reducible apply XC.seq) | (with_reducible apply XC.region (Γ := Γ)) | (with_reducible apply XQ.ret) | (with_reducible apply XQ.exit) | (with_reducible apply XQ.nt) | (with_reducible apply XQ.et) | ((with_reducible apply XQ.eb); (case hb => exact rfl))))
    ((with_reducible apply XQ.retE); (case hr => exact .t rfl .nil))
    exact congrArg (Value.int .i64) (errMat_ok ⟨hok.1, hok.2.1, hok.2.2, hq⟩).symm
set_option maxHeartbeats 4000000 in
theorem refMat_fn (m : Mat) (a : Option Addr) (cap : Nat) : FC Tryz.prog 181 [.agg ⟨[.int .i64 m.Rows, .int .i64 m.Cols, .slice a m.Data.length cap]⟩] [] (fun h => SlA (Kd.int .i8) 1 h m.Data a cap)
    (fun v L => v = .int .i64 (errMat m) ∧ L = []) := by
  refine FC.nil ?_
  refine FC.intro Tryz.func181 rfl (by kernel_rfl) 45 [.tmp 2] rfl rfl rfl ?_
  intro w0 hA
  have hsm := hA.bytes
  have hI8 := hA.okAll
  (repeat (first | (with_reducible apply XL.op) | (with_reducible apply XC.seq) | (with_reducible apply XC.region (Γ := Γ))))
  ((with_reducible apply XOp.box); (case hg | hx' => exact rfl); intro mb)
  (repeat (first | (with_reducible apply XL.op) | ((with_reducible apply XOp.p1); (case hg | hv => exact rfl)) | (with_reducible apply XL.nilT) | (with_reducible apply XC.seq)))
  ((with_reducible apply XC.regionD (Γ := Γ) mixed (.q 0 (.q 1 (.q 2 (.q 3 (.q 4 (.q 5 (.q 6 (.q 7 (.q 8 (.q 9 (.q 10 (.q 11 (.q 12 (.q 13 (.q 14 (.q 15 (.q 16 (.q 17 (.q 18 (.q 19 (.q 20 (.q 21 (.q 22 (.q 23 (.q 24 (.q 25 (.q 26 (.q 27 (.done))))))))))))))))))))))))))))) [] []); (case hc => kernel_rfl))
  (repeat' (first | (with_reducible apply XL.op) | ((with_reducible apply XOp.p1); (case hg | hv => exact rfl)) | (with_reducible apply XL.nilT) | (with_reducible apply XC.seq) | (with_reducible apply XC.region (Γ := Γ)) | (with_reducible apply XQ.skip) | (with_reducible apply XQ.ret) | (with_reducible apply XQ.nt) | (with_reducible apply XQ.rt) | (with_reducible apply XC.block) | ((with_reducible apply XP.p1); (case ho | hg | hv => exact rfl)) | ((with_reducible apply XP.p0); (case ho | hg => exact rfl)) | ((with_reducible apply XP.load); (case ho | hg | ht | hk | hx => exact rfl); (case hc => exact own_cell (i := 0) rfl rfl)) | ((with_reducible apply XP.pr); (case ho => exact rfl); (case hg => exact rfl); (case hr => ((with_reducible apply PR.quo); (case hx | hy => exact rfl); (case hr => first | assumption | omega | (rw [wrap64_of (by omega) (by omega)]; omega))))) | ((with_reducible apply XP.pr); (case ho => exact rfl); (case hg => exact rfl); (case hr => ((with_reducible apply PR.rem); (case hx | hy => exact rfl); (case hr => first | assumption | omega | (rw [wrap64_of (by omega) (by omega)]; omega))))) | (with_reducible apply XP.done) | ((with_reducible apply XC.condT); (case hc => exact rfl)) | ((with_reducible apply XP.split); (case ho | hg | hj | hd | hb => exact rfl); (fail_if_success (case hf => exact fun h => Bool.noConfusion h)); (fail_if_success (case ht => exact fun h => Bool.noConfusion h)); all_goals (intro hb_; try simp only [pd_true, pd_false, Bool.not_eq_true', Bool.not_eq_false', Bool.and_eq_true, Bool.and_eq_false_iff, Bool.or_eq_true, Bool.or_eq_false_iff, not_true_eq_false, not_false_eq_true, Int.not_lt, Int.not_le] at hb_)) | ((with_reducible apply XC.cond); (case hc => exact rfl); all_goals (intro hb_; try simp only [pd_true, pd_false, Bool.not_eq_true', Bool.not_eq_false', Bool.and_eq_true, Bool.and_eq_false_iff, Bool.or_eq_true, Bool.or_eq_false_iff, not_true_eq_false, not_false_eq_true, Int.not_lt, Int.not_le] at hb_))))
  iterate 4
    (((with_reducible apply XQ.retE); (case hr => exact .t rfl .nil))
     refine congrArg (Value.int .i64) (errMat_no (fun h => ?_)).symm
     have hsh := (shape_iff (r := m.Rows) (c := m.Cols) h.2.1 (n := m.Data.length) (by omega)).2 h.2.2.1
     have h1 := h.1
     have h2 := h.2.1
     first | omega | exact hb_ hsh.1 | exact hb_ hsh.2)
  have hok : 1 ≤ m.Rows ∧ 1 ≤ m.Cols ∧ (m.Data.length : Int) = m.Rows * m.Cols := by
    have hc : 1 ≤ m.Cols := by omega
    exact ⟨by omega, hc, (shape_iff hc (by omega)).1 ⟨by assumption, by assumption⟩⟩
  refine XC.loop (fun k ρ L => ∃ i : Nat, i + k = m.Data.length ∧ L = [(mb, .cells ⟨[.int .i64 m.Rows, .int .i64 m.Cols, .slice a m.Data.length cap]⟩ 26 (0, 0))] ∧ (∀ y ∈ m.Data.take i, y ≠ -128) ∧ Slots ρ [(1, .pointer (some ⟨mb, 0, none⟩)), (3, .int .i64 i)])
    m.Data.length ⟨0, by simp, rfl, by simp, rfl, rfl, trivial⟩ ?_
  rintro k ρ L ⟨i, hik, rfl, hq, hs⟩
  refine XC.slots _ hs ?_
  (repeat (first | (with_reducible apply XL.op) | ((with_reducible apply XOp.p1); (case hg | hv => exact rfl)) | ((with_reducible apply XOp.load); (case hg | ht | hk | hx => exact rfl); (case hc => exact own_cell (i := 0) rfl rfl)) | (with_reducible apply XL.nilT) | (with_reducible apply XC.seq) | (with_reducible apply XC.region (Γ := Γ))))
  ((with_reducible apply XC.cond); (case hc => exact rfl); all_goals (intro hb_; try simp only [pd_true, pd_false, Bool.not_eq_true', Bool.not_eq_false', Bool.and_eq_true, Bool.and_eq_false_iff, Bool.or_eq_true, Bool.or_eq_false_iff, not_true_eq_false, not_false_eq_true, Int.not_lt, Int.not_le] at hb_))
  · obtain ⟨x, hi⟩ : ∃ x, m.Data[i]? = some x := ⟨_, List.getElem?_eq_getElem (by omega)⟩
    have hc := (hA.int i (by omega)).1
    rw [hi] at hc
    change cellv _ _ = some (.int .i8 x) at hc
    (repeat (first | (with_reducible apply XL.op) | ((with_reducible apply XOp.p1); (case hg | hv => exact rfl)) | ((with_reducible apply XOp.load); (case hg | ht | hk | hx => exact rfl); (case hc => exact own_cell (i := 0) rfl rfl)) | ((with_reducible apply XOp.pr); (case hg => exact rfl); (case hr => ((with_reducible apply PR.idxA); (case ht | hk | he | hx | hi => exact rfl); (case hr => first | assumption | omega); (case ha => first | assumption | exact SlA.at_ (by assumption))))) | (with_reducible apply XL.nilT) | (with_reducible apply XC.seq) | (with_reducible apply XC.region (Γ := Γ)) | (with_reducible apply XQ.skip) | (with_reducible apply XQ.nt) | (with_reducible apply XC.block) | (first | ((with_reducible apply XOp.load); (case hg | ht | hk | hx => exact rfl); (case hc => exact Known.of_old hc (Mono.cell _ _))) | ((with_reducible apply XP.load); (case ho | hg | ht | hk | hx => exact rfl); (case hc => exact Known.of_old hc (Mono.cell _ _))))))
    ((with_reducible apply XC.cond); (case hc => exact rfl); all_goals (intro hb_; try simp only [pd_true, pd_false, Bool.not_eq_true', Bool.not_eq_false', Bool.and_eq_true, Bool.and_eq_false_iff, Bool.or_eq_true, Bool.or_eq_false_iff, not_true_eq_false, not_false_eq_true, Int.not_lt, Int.not_le] at hb_))
    · (repeat (first | (with_reducible apply XL.op) | ((with_reducible apply XOp.p1); (case hg | hv => exact rfl)) | (with_reducible apply XL.nilT) | (with_reducible apply XC.seq) | (with_reducible apply XC.region (Γ := Γ)) | (with_reducible apply XQ.ret) | (with_reducible apply XQ.rt) | (with_reducible apply XQ.rb)))
      ((with_reducible apply XQ.retE); (case hr => exact .t rfl .nil))
      exact congrArg (Value.int .i64) (errMat_no (fun h => h.2.2.2 x (List.mem_of_getElem? hi) (by assumption))).symm
    · (repeat (first | (with_reducible apply XL.op) | ((with_reducible apply XOp.p1); (case hg | hv => exact rfl)) | (with_reducible apply XL.nilT) | (with_reducible apply XC.region (Γ := Γ)) | (with_reducible apply XQ.skip) | (with_reducible apply XQ.nt) | (with_reducible apply XQ.nb)))
      exact ⟨k - 1, by omega, i + 1, by omega, rfl, all_snoc hi hq (by first | assumption | (have := inK_i8.1 (hI8 x (List.mem_of_getElem? hi)); omega)), rfl, intS (m := m.Data.length) (by omega) (by omega), trivial⟩
  · obtain rfl : i = m.Data.length := by omega
    rw [List.take_length] at hq
    (repeat (first | (with_reducible apply XL.op) | ((with_reducible apply XOp.p1); (case hg | hv => exact rfl)) | (with_reducible apply XL.nilT) | (with_reducible apply XC.seq) | (with_reducible apply XC.region (Γ := Γ)) | (with_reducible apply XQ.ret) | (with_reducible apply XQ.exit) | (with_reducible apply XQ.nt) | (with_reducible apply XQ.et) | ((with_reducible apply XQ.eb); (case hb => exact rfl))))
    ((with_reducible apply XQ.retE); (case hr => exact .t rfl .nil))
    exact congrArg (Value.int .i64) (errMat_ok ⟨hok.1, hok.2.1, hok.2.2, hq⟩).symm
end Go.Proofs.YtopdcegeffnelaaGreatDoorX
/- Numbers as bytes; the digest. -/
namespace Go.Proofs.YtopdcegeffnelaaGreatDoorX
open Go Go.SX

def digStep (h b : Int) : Int := IntKind.u64.wrap (bitsV .xor .u64 h (IntKind.u64.wrap b) * 1099511628211)
def digS (l : List Int) : Int := l.foldl digStep 14695981039346656037
end Go.Proofs.YtopdcegeffnelaaGreatDoorX
/- Numbers as bytes: the program's. -/
namespace Go.Proofs.YtopdcegeffnelaaGreatDoorX
open Go Go.SX

end Go.Proofs.YtopdcegeffnelaaGreatDoorX
/- Sections and lists of small numbers behind some bytes: the reference's. -/
namespace Go.Proofs.YtopdcegeffnelaaGreatDoorX
open Go Go.SX

end Go.Proofs.YtopdcegeffnelaaGreatDoorX
/- Sections behind some bytes: the program's. -/
namespace Go.Proofs.YtopdcegeffnelaaGreatDoorX
open Go Go.SX

theorem rowInts {h : HV} {l : List Int} {k : IntKind} {by_ : Nat} {a : Option Addr} {cap : Nat} (s : SlA (Kd.int k) by_ h l a cap) : rowv h (ablk a) (aoff a) (l.map (.int k)) := fun i v hv => by
  obtain ⟨hl, he⟩ := List.getElem?_eq_some_iff.1 hv
  rw [List.length_map] at hl
  have := (s.int i hl).1
  rw [List.getElem?_eq_getElem hl] at this
  rw [List.getElem_map] at he
  rw [← he]
  simpa using this
end Go.Proofs.YtopdcegeffnelaaGreatDoorX
/- Lists of small numbers behind some bytes: the program's. -/
namespace Go.Proofs.YtopdcegeffnelaaGreatDoorX
open Go Go.SX

/-- A list and where it lies. -/
abbrev LV := List Int × Option Addr × Nat
def lvx (x : LV) : List Value := [.slice x.2.1 x.1.length x.2.2]
def lvB (x : LV) : List Int := x.1.map toB
def sumL (ls : List LV) : Nat := (ls.flatMap lvB).length
end Go.Proofs.YtopdcegeffnelaaGreatDoorX
/- Measures of a layer's matrices. -/
namespace Go.Proofs.YtopdcegeffnelaaGreatDoorX
open Go Go.SX

theorem head_div {c : Cfg} (hc : c.may) : IntKind.i64.wrap (c.Width.tdiv c.Heads) = c.head := by
  obtain ⟨n1, n2, _, _⟩ := may_nn hc
  have hW := hc.2.1
  unfold Cfg.head at *
  rw [Int.tdiv_eq_ediv_of_nonneg (by omega), wrap64_of (by omega) (by omega)]
theorem head_fn (c : Cfg) (hc : c.may) : FC Tryz.prog 176 [.agg ⟨c.cells⟩] [] (fun _ => True) (fun v L => v = .int .i64 c.head ∧ L = []) := by
  refine FC.nil ?_
  refine FC.intro Tryz.func176 rfl (by kernel_rfl) 8 [.tmp 2] rfl rfl rfl ?_
  intro w0 _
  have hH := hc.2.2.1
  (repeat (first | (with_reducible apply XL.op) | (with_reducible apply XC.seq) | (with_reducible apply XC.region (Γ := Γ))))
  ((with_reducible apply XOp.box); (case hg | hx' => exact rfl); intro cb)
  (repeat (first | (with_reducible apply XL.op) | ((with_reducible apply XOp.p1); (case hg | hv => exact rfl)) | ((with_reducible apply XOp.load); (case hg | ht | hk | hx => exact rfl); (case hc => exact own_cell (i := 0) rfl rfl)) | ((with_reducible apply XOp.pr); (case hg => exact rfl); (case hr => ((with_reducible apply PR.quo); (case hx | hy => exact rfl); (case hr => first | assumption | omega | (rw [wrap64_of (by omega) (by omega)]; omega))))) | (with_reducible apply XL.nilT) | (with_reducible apply XC.seq) | (with_reducible apply XC.region (Γ := Γ)) | (with_reducible apply XQ.ret)))
  ((with_reducible apply XQ.retE); (case hr => exact .t rfl .nil))
  exact congrArg (Value.int .i64) (head_div hc)
theorem refHead_fn (c : Cfg) (hc : c.may) : FC Tryz.prog 120 [.agg ⟨c.cells⟩] [] (fun _ => True) (fun v L => v = .int .i64 c.head ∧ L = []) := by
  refine FC.nil ?_
  refine FC.intro Tryz.func120 rfl (by kernel_rfl) 8 [.tmp 2] rfl rfl rfl ?_
  intro w0 _
  have hH := hc.2.2.1
  (repeat (first | (with_reducible apply XL.op) | (with_reducible apply XC.seq) | (with_reducible apply XC.region (Γ := Γ))))
  ((with_reducible apply XOp.box); (case hg | hx' => exact rfl); intro cb)
  (repeat (first | (with_reducible apply XL.op) | ((with_reducible apply XOp.p1); (case hg | hv => exact rfl)) | ((with_reducible apply XOp.load); (case hg | ht | hk | hx => exact rfl); (case hc => exact own_cell (i := 0) rfl rfl)) | ((with_reducible apply XOp.pr); (case hg => exact rfl); (case hr => ((with_reducible apply PR.quo); (case hx | hy => exact rfl); (case hr => first | assumption | omega | (rw [wrap64_of (by omega) (by omega)]; omega))))) | (with_reducible apply XL.nilT) | (with_reducible apply XC.seq) | (with_reducible apply XC.region (Γ := Γ)) | (with_reducible apply XQ.ret)))
  ((with_reducible apply XQ.retE); (case hr => exact .t rfl .nil))
  exact congrArg (Value.int .i64) (head_div hc)
def measS (c : Cfg) (s : Int) : Int := if s = 1 then c.keys else if s = 2 then c.Hidden else c.Width
theorem measure_fn (c : Cfg) (hc : c.may) (s : Int) : FC Tryz.prog 229 [.agg ⟨c.cells⟩, .int .i64 s] [] (fun _ => True) (fun v L => v = .int .i64 (measS c s) ∧ L = []) := by
  refine FC.nil ?_
  refine FC.intro Tryz.func229 rfl (by kernel_rfl) 19 [.tmp 4] rfl rfl rfl ?_
  intro w0 _
  obtain ⟨_, _, n1, n2⟩ := may_nn hc
  have ew : IntKind.i64.wrap (c.KV * c.head) = c.keys := by unfold Cfg.keys at *; exact wrap64_of (by omega) (by omega)
  (repeat (first | (with_reducible apply XL.op) | (with_reducible apply XC.seq) | (with_reducible apply XC.region (Γ := Γ))))
  ((with_reducible apply XOp.box); (case hg | hx' => exact rfl); intro cb)
  (repeat (first | (with_reducible apply XL.op) | ((with_reducible apply XOp.p1); (case hg | hv => exact rfl)) | (with_reducible apply XL.nilT) | (with_reducible apply XC.seq) | (with_reducible apply XC.region (Γ := Γ)) | (with_reducible apply XC.block)))
  ((with_reducible apply XC.cond); (case hc => exact rfl); all_goals (intro hb_; try simp only [pd_true, pd_false, Bool.not_eq_true', Bool.not_eq_false', Bool.and_eq_true, Bool.and_eq_false_iff, Bool.or_eq_true, Bool.or_eq_false_iff, not_true_eq_false, not_false_eq_true, Int.not_lt, Int.not_le] at hb_))
  · (repeat ((with_reducible apply XC.seq)))
    ((with_reducible apply XC.regionD (Γ := Γ) mixed (.q 0 (.q 1 (.q 2 (.e 3 (.q 4 (.q 5 (.done))))))) [] []); (case hc => kernel_rfl))
    (repeat (first | (with_reducible apply XQ.ret) | (with_reducible apply XQ.nt) | (with_reducible apply XQ.rt) | (with_reducible apply XQ.rb) | ((with_reducible apply XP.p1); (case ho | hg | hv => exact rfl)) | ((with_reducible apply XP.load); (case ho | hg | ht | hk | hx => exact rfl); (case hc => exact own_cell (i := 0) rfl rfl)) | ((with_reducible apply XP.loadO (j := 0)); (case ho | hg | ht | hk | hx | hi | hc => exact rfl)) | (with_reducible apply XP.done) | ((with_reducible apply XP.e); (first | ((with_reducible apply XE.d); (case ho => exact rfl); (case hd => exact rfl)) | ((with_reducible apply XE.e); (case ho => exact rfl)))) | ((with_reducible apply XP.keep); (case hk => first | ((repeat' (first | exact List.forall_mem_nil _ | (with_reducible refine List.forall_mem_cons.2 ⟨?_, ?_⟩) | exact List.mem_cons_self .. | (with_reducible apply List.mem_cons_of_mem) | (with_reducible apply List.mem_append_right))); done) | (intro x hx; first | exact sel_in hx | exact List.mem_cons_of_mem _ (sel_in hx) | exact List.mem_append_right _ (sel_in hx) | exact hx | exact List.mem_cons_of_mem _ hx | exact List.mem_append_right _ hx | ((repeat (first | exact sel_in hx | exact hx | (with_reducible apply List.mem_cons_of_mem) | (with_reducible apply List.mem_append_right))); done) | (rw [List.mem_singleton.1 hx]; (simp; done)) | (rcases List.mem_cons.1 hx with rfl | hx; (simp; done); (rw [List.mem_singleton.1 hx]; (simp; done))) | cases hx))) | (((with_reducible apply XOp.callQ (hF := head_fn c hc)); (case hg => exact rfl); (case hc => exact rfl); (case ha => exact rfl); try (case hA => exact Known.true)); rintro _ rfl)))
    ((with_reducible apply XQ.retE); (case hr => exact .t rfl .nil))
    exact congrArg (Value.int .i64) (ew.trans (by unfold measS; rw [if_pos (by assumption)]))
  · (repeat (first | (with_reducible apply XL.op) | ((with_reducible apply XOp.p1); (case hg | hv => exact rfl)) | (with_reducible apply XL.nilT) | (with_reducible apply XC.seq) | (with_reducible apply XC.region (Γ := Γ))))
    ((with_reducible apply XC.cond); (case hc => exact rfl); all_goals (intro hb_; try simp only [pd_true, pd_false, Bool.not_eq_true', Bool.not_eq_false', Bool.and_eq_true, Bool.and_eq_false_iff, Bool.or_eq_true, Bool.or_eq_false_iff, not_true_eq_false, not_false_eq_true, Int.not_lt, Int.not_le] at hb_))
    · (repeat (first | (with_reducible apply XL.op) | ((with_reducible apply XOp.p1); (case hg | hv => exact rfl)) | ((with_reducible apply XOp.load); (case hg | ht | hk | hx => exact rfl); (case hc => exact own_cell (i := 0) rfl rfl)) | (with_reducible apply XL.nilT) | (with_reducible apply XC.seq) | (with_reducible apply XC.region (Γ := Γ)) | (with_reducible apply XQ.ret) | (with_reducible apply XQ.rt) | (with_reducible apply XQ.rb)))
      ((with_reducible apply XQ.retE); (case hr => exact .t rfl .nil))
      exact congrArg (Value.int .i64) (by unfold measS; rw [if_neg (by assumption), if_pos (by assumption)])
    · (repeat (first | (with_reducible apply XL.op) | ((with_reducible apply XOp.p1); (case hg | hv => exact rfl)) | ((with_reducible apply XOp.load); (case hg | ht | hk | hx => exact rfl); (case hc => exact own_cell (i := 0) rfl rfl)) | (with_reducible apply XL.nilT) | (with_reducible apply XC.seq) | (with_reducible apply XC.region (Γ := Γ)) | (with_reducible apply XQ.skip) | (with_reducible apply XQ.ret) | (with_reducible apply XQ.nt) | (with_reducible apply XQ.nb)))
      ((with_reducible apply XQ.retE); (case hr => exact .t rfl .nil))
      exact congrArg (Value.int .i64) (by unfold measS; rw [if_neg (by assumption), if_neg (by assumption)])
end Go.Proofs.YtopdcegeffnelaaGreatDoorX
/- Is it a matrix of that shape? -/
namespace Go.Proofs.YtopdcegeffnelaaGreatDoorX
open Go Go.SX

def shpP (m : Mat) (r c : Int) : Prop := m.Rows = r ∧ m.Cols = c ∧ matOk m
theorem errMat_zero {m : Mat} (h : errMat m = 0) : matOk m := by
  by_cases h2 : matOk m
  · exact h2
  · rw [errMat_no h2] at h; omega
theorem shaped_fn (m : Mat) (a : Option Addr) (cap : Nat) (r c : Int) : FC Tryz.prog 174 [.agg ⟨[.int .i64 m.Rows, .int .i64 m.Cols, .slice a m.Data.length cap]⟩, .int .i64 r, .int .i64 c] [] (fun h => SlA (Kd.int .i8) 1 h m.Data a cap)
    (fun v L => v = .bool (pd (shpP m r c)) ∧ L = []) := by
  refine FC.nil ?_
  refine FC.intro Tryz.func174 rfl (by kernel_rfl) 22 [.tmp 6] rfl rfl rfl ?_
  intro w0 hA
  (repeat (first | (with_reducible apply XL.op) | (with_reducible apply XC.seq) | (with_reducible apply XC.region (Γ := Γ))))
  ((with_reducible apply XOp.box); (case hg | hx' => exact rfl); intro mb)
  (repeat' (first | (with_reducible apply XL.op) | ((with_reducible apply XOp.p1); (case hg | hv => exact rfl)) | ((with_reducible apply XOp.p0); (case hg => exact rfl)) | ((with_reducible apply XOp.load); (case hg | ht | hk | hx => exact rfl); (case hc => exact own_cell (i := 0) rfl rfl)) | ((with_reducible apply XOp.loadO (i := 0)); (case hg | ht | hk | hx | hi | hc => exact rfl)) | (with_reducible apply XL.nilT) | (with_reducible apply XC.seq) | (with_reducible apply XC.region (Γ := Γ)) | (with_reducible apply XQ.ret) | (((with_reducible apply XOp.callQ (hF := matCheck_fn m a cap)); (case hg => exact rfl); (case hc => exact rfl); (case ha => exact rfl); try (case hA => exact Known.true)); (case hA => exact Known.of_old hA (Mono.sl _ _ _ _ _)); rintro _ rfl) | ((with_reducible apply XOp.split); (case hg | hj | hd | hb => exact rfl); (fail_if_success (case hf => exact fun h => Bool.noConfusion h)); (fail_if_success (case ht => exact fun h => Bool.noConfusion h)); all_goals (intro hb_; try simp only [pd_true, pd_false, Bool.not_eq_true', Bool.not_eq_false', Bool.and_eq_true, Bool.and_eq_false_iff, Bool.or_eq_true, Bool.or_eq_false_iff, not_true_eq_false, not_false_eq_true, Int.not_lt, Int.not_le] at hb_))))
  all_goals ((with_reducible apply XQ.retE); (case hr => exact .t rfl .nil))
  all_goals refine congrArg Value.bool ?_
  all_goals by_cases hs : shpP m r c
  all_goals first
    | (rw [pdt hs]; done)
    | (rw [pdt hs]; exact pdt (errMat_ok hs.2.2))
    | (exfalso; exact hb_ hs.1)
    | (exfalso; exact hb_ hs.2.1)
    | (rw [pdf hs]; done)
    | (rw [pdf hs]; exact pdf (fun h => hs ⟨by assumption, by assumption, errMat_zero h⟩))
theorem refIs_fn (m : Mat) (a : Option Addr) (cap : Nat) (r c : Int) : FC Tryz.prog 117 [.agg ⟨[.int .i64 m.Rows, .int .i64 m.Cols, .slice a m.Data.length cap]⟩, .int .i64 r, .int .i64 c] [] (fun h => SlA (Kd.int .i8) 1 h m.Data a cap)
    (fun v L => v = .bool (pd (shpP m r c)) ∧ L = []) := by
  refine FC.nil ?_
  refine FC.intro Tryz.func117 rfl (by kernel_rfl) 24 [.tmp 6] rfl rfl rfl ?_
  intro w0 hA
  (repeat (first | (with_reducible apply XL.op) | (with_reducible apply XC.seq) | (with_reducible apply XC.region (Γ := Γ))))
  ((with_reducible apply XOp.box); (case hg | hx' => exact rfl); intro mb)
  (repeat' (first | (with_reducible apply XL.op) | ((with_reducible apply XOp.p1); (case hg | hv => exact rfl)) | ((with_reducible apply XOp.p0); (case hg => exact rfl)) | ((with_reducible apply XOp.load); (case hg | ht | hk | hx => exact rfl); (case hc => exact own_cell (i := 0) rfl rfl)) | ((with_reducible apply XOp.loadO (i := 0)); (case hg | ht | hk | hx | hi | hc => exact rfl)) | (with_reducible apply XL.nilT) | (with_reducible apply XC.seq) | (with_reducible apply XC.region (Γ := Γ)) | (with_reducible apply XQ.ret) | (((with_reducible apply XOp.callQ (hF := refMat_fn m a cap)); (case hg => exact rfl); (case hc => exact rfl); (case ha => exact rfl); try (case hA => exact Known.true)); (case hA => exact Known.of_old hA (Mono.sl _ _ _ _ _)); rintro _ rfl) | ((with_reducible apply XOp.split); (case hg | hj | hd | hb => exact rfl); (fail_if_success (case hf => exact fun h => Bool.noConfusion h)); (fail_if_success (case ht => exact fun h => Bool.noConfusion h)); all_goals (intro hb_; try simp only [pd_true, pd_false, Bool.not_eq_true', Bool.not_eq_false', Bool.and_eq_true, Bool.and_eq_false_iff, Bool.or_eq_true, Bool.or_eq_false_iff, not_true_eq_false, not_false_eq_true, Int.not_lt, Int.not_le] at hb_))))
  all_goals ((with_reducible apply XQ.retE); (case hr => exact .t rfl .nil))
  all_goals refine congrArg Value.bool ?_
  all_goals by_cases hs : shpP m r c
  all_goals first
    | (rw [pdt hs]; done)
    | (rw [pdt hs]; exact pdt hs.2.1)
    | (exfalso; exact hb_ (errMat_ok hs.2.2))
    | (exfalso; exact hb_ hs.1)
    | (rw [pdf hs]; done)
    | (rw [pdf hs]; exact pdf (fun h => hs ⟨by assumption, h, errMat_zero (by assumption)⟩))
end Go.Proofs.YtopdcegeffnelaaGreatDoorX
/- Lists of small numbers with marks behind them. -/
namespace Go.Proofs.YtopdcegeffnelaaGreatDoorX
open Go Go.SX

theorem intS2 {i m : Nat} (h : i < m) (hm : m ≤ 4611686018427387904) : Value.int .i64 (IntKind.i64.wrap ((i : Int) + 1)) = .int .i64 ((i + 1 : Nat) : Int) := by rw [wrap64_of (by omega) (by omega)]; rfl
theorem XOp.storeE {P : Program} {Γ : Env P} {n : FrN} {w0 : World} {K : List Nat} {ops : List Oper} {N : Fr → HL → Prop} {ρ : Fr} {L : HL} {d : Option Nat} {t ty i b off : Nat} {x y : Operand} {pos : String} {af : Array Edge} {g : Option (Nat × Bool)} {r : TR} {v : Value} {cs cs' : List Value} {te : Nat} {L' : HL}
    (hg : gval n ρ ops g = some true) (ht : Γ.get t = some r) (hk : r.sz = 1) (hx : ev n ρ x = .pointer (some ⟨b, off, none⟩)) (hv' : force (ev n ρ y) = some v) (h1 : v.oneCell' = true)
    (hi : L[i]? = some (b, .cells ⟨cs⟩ te (0, 0))) (hs : off < cs.length ∧ cs.set off v = cs') (ha : aset L i (b, .cells ⟨cs'⟩ te (0, 0)) = some L')
    (h : N (updO ρ d undef) L') :
    XOp Γ n w0 K ops { dst := d, op := .store t x y, type := ty, pos := pos, after := af, guard := g } N ρ L := by
  obtain ⟨hs, rfl⟩ := hs
  exact XOp.storeAt hg ht hk hx hv' h1 hi hs ha h
def mk64 : List Int := List.replicate 64 (-128)
def mkS (l : List Int) (i : Nat) : List Value := ((l ++ mk64).take i).map (.int .i8) ++ zerosL [.int .i8 0] (l.length + 64 - i)
end Go.Proofs.YtopdcegeffnelaaGreatDoorX
/- The turns' bytes: the reference's. -/
namespace Go.Proofs.YtopdcegeffnelaaGreatDoorX
open Go Go.SX

def turnV (x : Int × Int) : List Value := [.int .i64 x.1, .int .i64 x.2]
abbrev turnK : Kd (Int × Int) := Kd.raw turnV 2 (fun _ => rfl)
end Go.Proofs.YtopdcegeffnelaaGreatDoorX
/- The measures' bytes: the reference's. -/
namespace Go.Proofs.YtopdcegeffnelaaGreatDoorX
open Go Go.SX

end Go.Proofs.YtopdcegeffnelaaGreatDoorX
/- Weights and where they lie. -/
namespace Go.Proofs.YtopdcegeffnelaaGreatDoorX
open Go Go.SX

def Kd.loc {α : Type} (f : α → List Value) (k : Nat) (hk : ∀ x, (f x).length = k) (at_ : HV → α → Prop) (hm : ∀ x, Mono (fun h => at_ h x)) : Kd α :=
  ⟨k, fun h x cs => cs = f x ∧ at_ h x, fun {_ x _} h => by rw [h.1]; exact hk x, fun s h => ⟨h.1, hm _ _ _ s h.2⟩⟩
theorem _root_.Go.SX.SlA.locRaw {α : Type} {f : α → List Value} {k by_ : Nat} {hk : ∀ x, (f x).length = k} {at_ : HV → α → Prop} {hm : ∀ x, Mono (fun h => at_ h x)} {h : HV} {l : List α} {a : Option Addr} {cap : Nat}
    (s : SlA (Kd.loc f k hk at_ hm) by_ h l a cap) : SlA (Kd.raw f k hk) by_ h l a cap :=
  ⟨s.le, s.bytes, s.nil, s.at_, fun i x hx => by obtain ⟨c, hc, hr⟩ := s.row i x hx; exact ⟨c, hc.1, hr⟩⟩
theorem _root_.Go.SX.SlA.locAt {α : Type} {f : α → List Value} {k by_ : Nat} {hk : ∀ x, (f x).length = k} {at_ : HV → α → Prop} {hm : ∀ x, Mono (fun h => at_ h x)} {h : HV} {l : List α} {a : Option Addr} {cap : Nat}
    (s : SlA (Kd.loc f k hk at_ hm) by_ h l a cap) {x : α} (hx : x ∈ l) : at_ h x := by
  obtain ⟨i, hi⟩ := List.getElem?_of_mem hx
  obtain ⟨c, hc, _⟩ := s.row i x hi
  exact hc.2
theorem _root_.Go.SX.SlA.ofRaw {α : Type} {f : α → List Value} {k by_ : Nat} {hk : ∀ x, (f x).length = k} {at_ : HV → α → Prop} {hm : ∀ x, Mono (fun h => at_ h x)} {h : HV} {l : List α} {a : Option Addr} {cap : Nat}
    (s : SlA (Kd.raw f k hk) by_ h l a cap) (ha : ∀ x ∈ l, at_ h x) : SlA (Kd.loc f k hk at_ hm) by_ h l a cap :=
  ⟨s.le, s.bytes, s.nil, s.at_, fun i x hx => by obtain ⟨c, hc, hr⟩ := s.row i x hx; exact ⟨c, ⟨hc, ha x (List.mem_of_getElem? hx)⟩, hr⟩⟩

/-! ### The parts -/
abbrev lvAt (h : HV) (x : LV) : Prop := SlA (Kd.int .i8) 1 h x.1 x.2.1 x.2.2
abbrev slv (x : LV) : Value := .slice x.2.1 x.1.length x.2.2
theorem lv_mono (x : LV) : Mono (fun h => lvAt h x) := Mono.sl _ _ _ _ _
structure LM where
  (r c : Int)
  d : LV
def LM.mat (m : LM) : Mat := ⟨m.r, m.c, m.d.1⟩
def LM.cells (m : LM) : List Value := [.int .i64 m.r, .int .i64 m.c, slv m.d]
abbrev lmAt (h : HV) (m : LM) : Prop := lvAt h m.d
theorem lm_mono (x : LM) : Mono (fun h => lmAt h x) := lv_mono _
abbrev lmK : Kd LM := Kd.loc LM.cells 3 (fun _ => rfl) lmAt lm_mono
abbrev lmR : Kd LM := Kd.raw LM.cells 3 (fun _ => rfl)
structure LL where
  (n1 n2 : LV)
  (q k v o g u d : LM)
  (b0 b1 b2 b3 b4 b5 b6 : Int)
def LL.by_ (l : LL) : List Int := [l.b0, l.b1, l.b2, l.b3, l.b4, l.b5, l.b6]
def LL.lay (l : LL) : Lay := ⟨l.n1.1, l.n2.1, l.q.mat, l.k.mat, l.v.mat, l.o.mat, l.g.mat, l.u.mat, l.d.mat, l.by_⟩
def LL.cells (l : LL) : List Value := [slv l.n1, slv l.n2, .int .i64 l.q.r, .int .i64 l.q.c, slv l.q.d, .int .i64 l.k.r, .int .i64 l.k.c, slv l.k.d, .int .i64 l.v.r, .int .i64 l.v.c, slv l.v.d,
  .int .i64 l.o.r, .int .i64 l.o.c, slv l.o.d, .int .i64 l.g.r, .int .i64 l.g.c, slv l.g.d, .int .i64 l.u.r, .int .i64 l.u.c, slv l.u.d, .int .i64 l.d.r, .int .i64 l.d.c, slv l.d.d,
  .int .i64 l.b0, .int .i64 l.b1, .int .i64 l.b2, .int .i64 l.b3, .int .i64 l.b4, .int .i64 l.b5, .int .i64 l.b6]
structure llAt (h : HV) (l : LL) : Prop where
  n1 : lvAt h l.n1
  n2 : lvAt h l.n2
  q : lmAt h l.q
  k : lmAt h l.k
  v : lmAt h l.v
  o : lmAt h l.o
  g : lmAt h l.g
  u : lmAt h l.u
  d : lmAt h l.d
theorem ll_mono (x : LL) : Mono (fun h => llAt h x) := fun _ _ s h =>
  ⟨lv_mono _ _ _ s h.n1, lv_mono _ _ _ s h.n2, lm_mono _ _ _ s h.q, lm_mono _ _ _ s h.k, lm_mono _ _ _ s h.v, lm_mono _ _ _ s h.o, lm_mono _ _ _ s h.g, lm_mono _ _ _ s h.u, lm_mono _ _ _ s h.d⟩
abbrev llK : Kd LL := Kd.loc LL.cells 30 (fun _ => rfl) llAt ll_mono
abbrev llR : Kd LL := Kd.raw LL.cells 30 (fun _ => rfl)
/-- A list of α and where it lies. -/
abbrev LA (α : Type) := List α × Option Addr × Nat
abbrev sla {α : Type} (x : LA α) : Value := .slice x.2.1 x.1.length x.2.2
structure LW where
  C : Cfg
  E : LM
  T : LA (Int × Int)
  Ls : LA LL
  F : LV
  H : LM
  M : LA LM
def LW.w (x : LW) : Wts := ⟨x.C, x.E.mat, x.T.1, x.Ls.1.map LL.lay, x.F.1, x.H.mat, x.M.1.map LM.mat⟩
def LW.cells (x : LW) : List Value := [.int .i64 x.C.Vocab, .int .i64 x.C.Width, .int .i64 x.C.Heads, .int .i64 x.C.KV, .int .i64 x.C.Layers, .int .i64 x.C.Hidden, .int .i64 x.C.Len, .int .i64 x.C.Medusa,
  .int .i64 x.E.r, .int .i64 x.E.c, slv x.E.d, sla x.T, sla x.Ls, slv x.F, .int .i64 x.H.r, .int .i64 x.H.c, slv x.H.d, sla x.M]
structure lwAt (h : HV) (x : LW) : Prop where
  e : lmAt h x.E
  t : SlA turnK 16 h x.T.1 x.T.2.1 x.T.2.2
  l : SlA llK 384 h x.Ls.1 x.Ls.2.1 x.Ls.2.2
  f : lvAt h x.F
  hd : lmAt h x.H
  m : SlA lmK 40 h x.M.1 x.M.2.1 x.M.2.2
theorem lw_mono (x : LW) : Mono (fun h => lwAt h x) := fun _ _ s h =>
  ⟨lm_mono _ _ _ s h.e, h.t.mono s, h.l.mono s, lv_mono _ _ _ s h.f, lm_mono _ _ _ s h.hd, h.m.mono s⟩

/-! ### What fits, as the checks look at it -/
theorem lv_i8 {h : HV} {x : LV} (hx : lvAt h x) : ∀ y ∈ x.1, -128 ≤ y ∧ y ≤ 127 := fun y hy => inK_i8.1 (hx.okAll y hy)
theorem shp_iff {h : HV} {m : LM} (hm : lmAt h m) (r c : Int) : shpP m.mat r c ↔ isM m.mat r c := by
  constructor
  · rintro ⟨rfl, rfl, h1, h2, h3, h4⟩
    exact ⟨rfl, rfl, h1, h2, h3, fun x hx => by have := h4 x hx; have := lv_i8 hm x hx; omega⟩
  · rintro ⟨rfl, rfl, h1, h2, h3, h4⟩
    exact ⟨rfl, rfl, h1, h2, h3, fun x hx => by have := h4 x hx; omega⟩
theorem gains_iff {h : HV} {x : LV} (hx : lvAt h x) (n : Int) : gainsP x.1 n ↔ gainsS x.1 n := by
  constructor
  · rintro ⟨h1, h2⟩; exact ⟨h1, fun y hy => by have := h2 y hy; have := lv_i8 hx y hy; omega⟩
  · rintro ⟨h1, h2⟩; exact ⟨h1, fun y hy => by have := h2 y hy; omega⟩
end Go.Proofs.YtopdcegeffnelaaGreatDoorX
/- Which measures may be: both functions come to the same number. -/
namespace Go.Proofs.YtopdcegeffnelaaGreatDoorX
open Go Go.SX

def _root_.Go.SX.Srv.cells (c : Srv) : List Value := [.int .i64 c.Blocks, .int .i64 c.Block, .int .i64 c.Budget, .int .i64 c.Chunk, .int .i64 c.Tree]
def _root_.Go.SX.Srv.ok (c : Srv) : Prop := inK .i64 c.Blocks ∧ inK .i64 c.Block ∧ inK .i64 c.Budget ∧ inK .i64 c.Chunk ∧ inK .i64 c.Tree
def srvK : Kd Srv := ⟨5, fun _ c cs => cs = c.cells ∧ c.ok, fun h => by rw [h.1]; rfl, fun _ h => h⟩
theorem rdrSrv {H : Type} (enc : TypeId × Value → H) (W : World) : Rdr enc Tryz.prog W 37 srvK := fun fuel cs x h hw => by
  have hl := rdr_struct_len Tryz.underlying37 h
  have hc : Tryz.prog.cellsOf 37 = 5 := by kernel_rfl
  have h1 : Tryz.prog.cellsOf 3 = 1 := by kernel_rfl
  obtain ⟨a0, e0⟩ := rdr_field Tryz.underlying37 h hw (i := 0) rfl (rdr_int Tryz.underlying3) rfl h1
  obtain ⟨a1, e1⟩ := rdr_field Tryz.underlying37 h hw (i := 1) rfl (rdr_int Tryz.underlying3) rfl h1
  obtain ⟨a2, e2⟩ := rdr_field Tryz.underlying37 h hw (i := 2) rfl (rdr_int Tryz.underlying3) rfl h1
  obtain ⟨a3, e3⟩ := rdr_field Tryz.underlying37 h hw (i := 3) rfl (rdr_int Tryz.underlying3) rfl h1
  obtain ⟨a4, e4⟩ := rdr_field Tryz.underlying37 h hw (i := 4) rfl (rdr_int Tryz.underlying3) rfl h1
  obtain ⟨c0, c1, c2, c3, c4, rfl⟩ := len5 (hl.trans hc)
  simp [Kd.int] at e0 e1 e2 e3 e4
  exact ⟨⟨a0, a1, a2, a3, a4⟩, by simp [Go.SX.Srv.cells, e0.1, e1.1, e2.1, e3.1, e4.1], e0.2, e1.2, e2.2, e3.2, e4.2⟩

theorem swithin_fn (a lo hi : Int) : FC Tryz.prog 61 [.int .i64 a, .int .i64 lo, .int .i64 hi] [] (fun _ => True)
    (fun v L => v = .bool (pd (lo ≤ a) && pd (a ≤ hi)) ∧ L = []) := by
  refine FC.intro Tryz.func61 rfl (by kernel_rfl) 15 [.tmp 6] rfl rfl rfl ?_
  intro w0 _
  (repeat' (first | (with_reducible apply XL.op) | ((with_reducible apply XOp.p1); (case hg | hv => exact rfl)) | ((with_reducible apply XOp.p0); (case hg => exact rfl)) | (with_reducible apply XL.nilT) | (with_reducible apply XC.seq) | (with_reducible apply XC.region (Γ := Γ)) | (with_reducible apply XQ.ret) | ((with_reducible apply XOp.split); (case hg | hj | hd | hb => exact rfl); (fail_if_success (case hf => exact fun h => Bool.noConfusion h)); (fail_if_success (case ht => exact fun h => Bool.noConfusion h)); all_goals (intro hb_; try simp only [pd_true, pd_false, Bool.not_eq_true', Bool.not_eq_false', Bool.and_eq_true, Bool.and_eq_false_iff, Bool.or_eq_true, Bool.or_eq_false_iff, not_true_eq_false, not_false_eq_true, Int.not_lt, Int.not_le] at hb_))))
  all_goals ((with_reducible apply XQ.retE); (case hr => exact .t rfl .nil))
  · simp [resV, pdt hb_]
  · simp [resV, pdf (show ¬ lo ≤ a by omega)]

noncomputable def _root_.Go.SX.Srv.err (c : Srv) (l : Int) : Int := if @decide (c.okS l) (Classical.propDecidable _) then 0 else 200
theorem serr_ok {c : Srv} {l : Int} (h : c.okS l) : Value.int .i64 0 = .int .i64 (c.err l) := by unfold Go.SX.Srv.err; simp [h]
theorem serr_no {c : Srv} {l : Int} (h : ¬ c.okS l) : Value.int .i64 200 = .int .i64 (c.err l) := by unfold Go.SX.Srv.err; simp [h]
theorem small_mul {a b : Int} (ha : 1 ≤ a ∧ a ≤ 256) (hb : 1 ≤ b ∧ b ≤ 16) : IntKind.i64.wrap (a * b) = a * b := by
  have h1 : 0 ≤ a * b := Int.mul_nonneg (by omega) (by omega)
  have h2 : a * b ≤ 256 * 16 := Int.mul_le_mul ha.2 hb.2 (by omega) (by omega)
  exact wrap64_of (by omega) (by omega)

theorem scheck_fn (c : Srv) (l : Int) : FC Tryz.prog 23 [.agg ⟨c.cells⟩, .int .i64 l] [] (fun _ => True)
    (fun v L => v = .int .i64 (c.err l) ∧ L = []) := by
  refine FC.nil ?_
  refine FC.intro Tryz.func23 rfl (by kernel_rfl) 52 [.tmp 4] rfl rfl rfl ?_
  intro w0 _
  (repeat' (first | (with_reducible apply XL.op) | ((with_reducible apply XOp.p1); (case hg | hv => exact rfl)) | ((with_reducible apply XOp.p0); (case hg => exact rfl)) | ((with_reducible apply XOp.load); (case hg | ht | hk | hx => exact rfl); (case hc => exact own_cell (i := 0) rfl rfl)) | ((with_reducible apply XOp.box); (case hg | hx' => exact rfl); intro bx_) | (with_reducible apply XL.nilT) | (with_reducible apply XC.seq) | (with_reducible apply XC.region (Γ := Γ)) | (with_reducible apply XQ.skip) | (with_reducible apply XQ.ret) | (with_reducible apply XQ.nt) | (with_reducible apply XQ.rt) | ((with_reducible apply XC.condT); (case hc => exact rfl)) | (((with_reducible apply XOp.call (hF := swithin_fn _ _ _)); (case hg => exact rfl); (case hc => exact rfl); (case ha => exact rfl); (case hL => exact (List.nil_append _).symm); try (case hA => exact Known.true)); rintro _ _ ⟨rfl, rfl⟩) | ((with_reducible apply XOp.split); (case hg | hj | hd | hb => exact rfl); (fail_if_success (case hf => exact fun h => Bool.noConfusion h)); (fail_if_success (case ht => exact fun h => Bool.noConfusion h)); all_goals (intro hb_; try simp only [pd_true, pd_false, Bool.not_eq_true', Bool.not_eq_false', Bool.and_eq_true, Bool.and_eq_false_iff, Bool.or_eq_true, Bool.or_eq_false_iff, not_true_eq_false, not_false_eq_true, Int.not_lt, Int.not_le] at hb_)) | ((with_reducible apply XC.cond); (case hc => exact rfl); all_goals (intro hb_; try simp only [pd_true, pd_false, Bool.not_eq_true', Bool.not_eq_false', Bool.and_eq_true, Bool.and_eq_false_iff, Bool.or_eq_true, Bool.or_eq_false_iff, not_true_eq_false, not_false_eq_true, Int.not_lt, Int.not_le] at hb_))))
  all_goals ((with_reducible apply XQ.retE); (case hr => exact .t rfl .nil))
  all_goals first
    | (refine serr_no fun h => ?_
       obtain ⟨h1, h2, h3, h4, h5, h6, h7⟩ := h
       have := small_mul h2 h3
       omega)
    | (have hm := small_mul (a := c.Blocks) (b := c.Block) (by omega) (by omega)
       exact serr_ok ⟨by omega, by omega, by omega, by omega, by omega, by omega, by omega⟩)

theorem srefCheck_fn (c : Srv) (l : Int) : FC Tryz.prog 68 [.agg ⟨c.cells⟩, .int .i64 l] [] (fun _ => True)
    (fun v L => v = .int .i64 (c.err l) ∧ L = []) := by
  refine FC.nil ?_
  refine FC.intro Tryz.func68 rfl (by kernel_rfl) 65 [.tmp 4] rfl rfl rfl ?_
  intro w0 _
  (repeat' (first | (with_reducible apply XL.op) | ((with_reducible apply XOp.p1); (case hg | hv => exact rfl)) | ((with_reducible apply XOp.p0); (case hg => exact rfl)) | ((with_reducible apply XOp.load); (case hg | ht | hk | hx => exact rfl); (case hc => exact own_cell (i := 0) rfl rfl)) | ((with_reducible apply XOp.box); (case hg | hx' => exact rfl); intro bx_) | (with_reducible apply XL.nilT) | (with_reducible apply XC.seq) | (with_reducible apply XC.region (Γ := Γ)) | (with_reducible apply XQ.skip) | (with_reducible apply XQ.ret) | (with_reducible apply XQ.nt) | (with_reducible apply XQ.rt) | ((with_reducible apply XC.condT); (case hc => exact rfl)) | ((with_reducible apply XOp.split); (case hg | hj | hd | hb => exact rfl); (fail_if_success (case hf => exact fun h => Bool.noConfusion h)); (fail_if_success (case ht => exact fun h => Bool.noConfusion h)); all_goals (intro hb_; try simp only [pd_true, pd_false, Bool.not_eq_true', Bool.not_eq_false', Bool.and_eq_true, Bool.and_eq_false_iff, Bool.or_eq_true, Bool.or_eq_false_iff, not_true_eq_false, not_false_eq_true, Int.not_lt, Int.not_le] at hb_)) | ((with_reducible apply XC.cond); (case hc => exact rfl); all_goals (intro hb_; try simp only [pd_true, pd_false, Bool.not_eq_true', Bool.not_eq_false', Bool.and_eq_true, Bool.and_eq_false_iff, Bool.or_eq_true, Bool.or_eq_false_iff, not_true_eq_false, not_false_eq_true, Int.not_lt, Int.not_le] at hb_))))
  all_goals ((with_reducible apply XQ.retE); (case hr => exact .t rfl .nil))
  all_goals first
    | (refine serr_no fun h => ?_
       obtain ⟨h1, h2, h3, h4, h5, h6, h7⟩ := h
       have := small_mul h2 h3
       omega)
    | (have hm := small_mul (a := c.Blocks) (b := c.Block) (by omega) (by omega)
       exact serr_ok ⟨by omega, by omega, by omega, by omega, by omega, by omega, by omega⟩)

end Go.Proofs.YtopdcegeffnelaaGreatDoorX
/- Vocabularies and setups, and where they lie. -/
namespace Go.Proofs.YtopdcegeffnelaaGreatDoorX
open Go Go.SX

structure LVo where
  B : LA Int
  P : LA (Int × Int)
def LVo.voc (x : LVo) : Voc := ⟨x.B.1, x.P.1⟩
def LVo.cells (x : LVo) : List Value := [sla x.B, sla x.P]
structure voAt (h : HV) (x : LVo) : Prop where
  b : SlA (Kd.int .u8) 1 h x.B.1 x.B.2.1 x.B.2.2
  p : SlA turnK 16 h x.P.1 x.P.2.1 x.P.2.2
  bs : x.B.1.length ≤ 140737488351232
  ps : x.P.1.length * 16 ≤ 140737488351232
theorem vo_mono (x : LVo) : Mono (fun h => voAt h x) := fun _ _ s h => ⟨h.b.mono s, h.p.mono s, h.bs, h.ps⟩
/-- A setup: weights, a vocabulary, an engine's measures. -/
structure LSt where
  w : LW
  v : LVo
  c : Srv
def LSt.cells (x : LSt) : List Value := x.w.cells ++ (x.v.cells ++ x.c.cells)
structure stAt (h : HV) (x : LSt) : Prop where
  w : lwAt h x.w
  v : voAt h x.v
theorem st_mono (x : LSt) : Mono (fun h => stAt h x) := fun _ _ s h => ⟨lw_mono _ _ _ s h.w, vo_mono _ _ _ s h.v⟩
/-- A request. -/
structure LAsk where
  P : LA Int
  (new temp topK topP pen seed prop : Int)
  guide : ByteArray
def LAsk.cells (x : LAsk) : List Value := [sla x.P, .int .i64 x.new, .int .i64 x.temp, .int .i64 x.topK, .int .i64 x.topP, .int .i64 x.pen, .int .u64 x.seed, .int .i64 x.prop, .string x.guide]
abbrev ints (h : HV) (x : LA Int) : Prop := SlA (Kd.int .i64) 8 h x.1 x.2.1 x.2.2
structure LLo where
  u : LSt
  ask : LAsk
  id : Int
  picks : LA Int
def LLo.cells (x : LLo) : List Value := x.u.cells ++ (x.ask.cells ++ [.int .i64 x.id, sla x.picks])
structure loAt (h : HV) (x : LLo) : Prop where
  u : stAt h x.u
  a : ints h x.ask.P
  p : ints h x.picks
theorem lo_mono (x : LLo) : Mono (fun h => loAt h x) := fun _ _ s h => ⟨st_mono _ _ _ s h.u, h.a.mono s, h.p.mono s⟩
end Go.Proofs.YtopdcegeffnelaaGreatDoorX
/- Bytes: copied, held against others. -/
namespace Go.Proofs.YtopdcegeffnelaaGreatDoorX
open Go Go.SX

theorem copyBytes_fn (xs : List Int) (a : Option Addr) (cap : Nat) : FC Tryz.prog 28 [.slice a xs.length cap] [] (fun h => SlA (Kd.int .u8) 1 h xs a cap)
    (fun v L => OwnS 5 1 v xs.length (xs.map (.int .u8)) L) := by
  refine FC.intro Tryz.func28 rfl (by kernel_rfl) 19 [.tmp 2] rfl rfl rfl ?_
  intro w0 hA
  have hsm := hA.bytes
  (repeat (first | (with_reducible apply XL.op) | ((with_reducible apply XOp.p1); (case hg | hv => exact rfl)) | (with_reducible apply XL.nilT) | (with_reducible apply XC.seq) | (with_reducible apply XC.region (Γ := Γ)) | (with_reducible apply XC.block)))
  refine XC.loop (fun k ρ L => ∃ (i : Nat) (v : Value) (F : HL), i + k = xs.length ∧ L = F ++ [] ∧ OwnS 5 1 v i ((xs.take i).map (.int .u8)) F ∧ Slots ρ [(0, .slice a xs.length cap), (3, v), (4, .int .i64 i)])
    xs.length ⟨0, _, [], by simp, rfl, OwnS.nil _ _, rfl, rfl, rfl, trivial⟩ ?_
  rintro k ρ L ⟨i, v, F, hik, rfl, hown, hs⟩
  obtain ⟨a', c', rfl⟩ := hown.val
  refine XC.slots _ hs ?_
  (repeat' (first | (with_reducible apply XL.op) | ((with_reducible apply XOp.p1); (case hg | hv => exact rfl)) | ((with_reducible apply XOp.pr); (case hg => exact rfl); (case hr => ((with_reducible apply PR.idxA); (case ht | hk | he | hx | hi => exact rfl); (case hr => first | assumption | omega); (case ha => first | assumption | exact SlA.at_ (by assumption))))) | ((with_reducible apply XOp.buildSlice); (case hg | ht | hk | he | hz | hzl | hf => exact rfl); intro bs_) | (with_reducible apply XL.nilT) | (with_reducible apply XC.seq) | (with_reducible apply XC.region (Γ := Γ)) | (with_reducible apply XL.nilQ) | (with_reducible apply XQ.skip) | (with_reducible apply XQ.ret) | (with_reducible apply XQ.exit) | (with_reducible apply XQ.nt) | (with_reducible apply XQ.nb) | (with_reducible apply XQ.et) | (with_reducible apply XC.block) | ((with_reducible apply XQ.eb); (case hb => exact rfl)) | (first | ((with_reducible apply XOp.load); (case hg | ht | hk | hx => exact rfl); (case hc => exact Known.of_old (hA.int i (by omega)).1 (Mono.cell _ _))) | ((with_reducible apply XP.load); (case ho | hg | ht | hk | hx => exact rfl); (case hc => exact Known.of_old (hA.int i (by omega)).1 (Mono.cell _ _)))) | ((with_reducible apply XOp.append1); (case hg => exact rfl); (case ht => exact rfl); (case hk => exact rfl); (case he => exact rfl); (case hown => exact hown); (case hs => exact rfl); (case hx => exact rfl); (case hL => exact rfl); (case hl => exact rfl); (case h1 => exact rfl); (case hz => exact rfl); (case hsz => exact Nat.zero_lt_succ _); (case hk0 => exact Nat.zero_lt_succ _); (case h63 => simp only [maxLen]; omega); (case hb => simp only []; omega); intro v_ F_ hown_; obtain ⟨a_, c_, rfl⟩ := hown_.val) | ((with_reducible apply XC.cond); (case hc => exact rfl); all_goals (intro hb_; try simp only [pd_true, pd_false, Bool.not_eq_true', Bool.not_eq_false', Bool.and_eq_true, Bool.and_eq_false_iff, Bool.or_eq_true, Bool.or_eq_false_iff, not_true_eq_false, not_false_eq_true, Int.not_lt, Int.not_le] at hb_))))
  · exact ⟨k - 1, by omega, i + 1, _, F_, by omega, rfl, by rw [take_map_snoc _ _ _ 0 (by omega)]; exact hown_, rfl, rfl, intS (m := xs.length) (by omega) (by omega), trivial⟩
  · ((with_reducible apply XQ.retE); (case hr => exact .t rfl .nil))
    obtain rfl : i = xs.length := by omega
    rw [List.append_nil]
    rw [List.take_length] at hown; exact hown

theorem eqBytes_fn (xs ys : List Int) (a b : Option Addr) (ca cb : Nat) : FC Tryz.prog 124 [.slice a xs.length ca, .slice b ys.length cb] []
    (fun h => SlA (Kd.int .u8) 1 h xs a ca ∧ SlA (Kd.int .u8) 1 h ys b cb) (fun v L => v = .bool (pd (xs = ys)) ∧ L = []) := by
  refine FC.intro Tryz.func124 rfl (by kernel_rfl) 26 [.tmp 4] rfl rfl rfl ?_
  rintro w0 ⟨hA, hB⟩
  have hsm := hA.bytes
  (repeat (first | (with_reducible apply XL.op) | ((with_reducible apply XOp.p1); (case hg | hv => exact rfl)) | (with_reducible apply XL.nilT) | (with_reducible apply XC.seq) | (with_reducible apply XC.region (Γ := Γ))))
  ((with_reducible apply XC.cond); (case hc => exact rfl); all_goals (intro hb_; try simp only [pd_true, pd_false, Bool.not_eq_true', Bool.not_eq_false', Bool.and_eq_true, Bool.and_eq_false_iff, Bool.or_eq_true, Bool.or_eq_false_iff, not_true_eq_false, not_false_eq_true, Int.not_lt, Int.not_le] at hb_))
  · (repeat (first | (with_reducible apply XL.op) | ((with_reducible apply XOp.p1); (case hg | hv => exact rfl)) | (with_reducible apply XL.nilT) | (with_reducible apply XC.seq) | (with_reducible apply XC.region (Γ := Γ)) | (with_reducible apply XQ.ret) | (with_reducible apply XQ.rt)))
    ((with_reducible apply XQ.retE); (case hr => exact .t rfl .nil))
    refine ⟨?_, rfl⟩
    rw [pdf (fun h => hb_ (by rw [h]))]; rfl
  (repeat (first | (with_reducible apply XL.op) | ((with_reducible apply XOp.p1); (case hg | hv => exact rfl)) | (with_reducible apply XL.nilT) | (with_reducible apply XC.seq) | (with_reducible apply XC.region (Γ := Γ)) | (with_reducible apply XQ.skip) | (with_reducible apply XQ.nt) | (with_reducible apply XC.block)))
  refine XC.loop (fun k ρ L => ∃ (i : Nat), i + k = xs.length ∧ L = [] ∧ (∀ j, j < i → xs[j]? = ys[j]?) ∧ Slots ρ [(0, .slice a xs.length ca), (1, .slice b ys.length cb), (5, .int .i64 i)])
    xs.length ⟨0, by simp, rfl, by simp, rfl, rfl, rfl, trivial⟩ ?_
  rintro k ρ L ⟨i, hik, rfl, hq, hs⟩
  refine XC.slots _ hs ?_
  (repeat' (first | (with_reducible apply XL.op) | ((with_reducible apply XOp.p1); (case hg | hv => exact rfl)) | (with_reducible apply XL.nilT) | (with_reducible apply XC.seq) | (with_reducible apply XC.region (Γ := Γ)) | (with_reducible apply XQ.skip) | (with_reducible apply XQ.ret) | (with_reducible apply XQ.exit) | (with_reducible apply XQ.nt) | (with_reducible apply XQ.nb) | (with_reducible apply XQ.rt) | (with_reducible apply XQ.rb) | (with_reducible apply XQ.et) | (with_reducible apply XC.block) | ((with_reducible apply XP.p1); (case ho | hg | hv => exact rfl)) | ((with_reducible apply XP.pr); (case ho => exact rfl); (case hg => exact rfl); (case hr => ((with_reducible apply PR.idxA); (case ht | hk | he | hx | hi => exact rfl); (case hr => first | assumption | omega); (case ha => first | assumption | exact SlA.at_ (by assumption))))) | (with_reducible apply XP.done) | ((with_reducible apply XQ.eb); (case hb => exact rfl)) | ((with_reducible apply XC.regionD (Γ := Γ) mixed (.q 0 (.q 1 (.q 2 (.q 3 (.q 4 (.q 5 (.q 6 (.q 7 (.q 8 (.done)))))))))) [] []); (case hc => kernel_rfl)) | (first | ((with_reducible apply XOp.load); (case hg | ht | hk | hx => exact rfl); (case hc => exact Known.of_old (hA.int i (by omega)).1 (Mono.cell _ _))) | ((with_reducible apply XP.load); (case ho | hg | ht | hk | hx => exact rfl); (case hc => exact Known.of_old (hA.int i (by omega)).1 (Mono.cell _ _)))) | (first | ((with_reducible apply XOp.load); (case hg | ht | hk | hx => exact rfl); (case hc => exact Known.of_old (hB.int i (by omega)).1 (Mono.cell _ _))) | ((with_reducible apply XP.load); (case ho | hg | ht | hk | hx => exact rfl); (case hc => exact Known.of_old (hB.int i (by omega)).1 (Mono.cell _ _)))) | ((with_reducible apply XC.cond); (case hc => exact rfl); all_goals (intro hb_; try simp only [pd_true, pd_false, Bool.not_eq_true', Bool.not_eq_false', Bool.and_eq_true, Bool.and_eq_false_iff, Bool.or_eq_true, Bool.or_eq_false_iff, not_true_eq_false, not_false_eq_true, Int.not_lt, Int.not_le] at hb_))))
  · ((with_reducible apply XQ.retE); (case hr => exact .t rfl .nil))
    refine ⟨?_, rfl⟩
    rw [pdf (fun h => hb_ (by rw [h]))]; rfl
  · refine ⟨k - 1, by omega, i + 1, by omega, rfl, fun j hj => ?_, rfl, rfl, intS (m := xs.length) (by omega) (by omega), trivial⟩
    by_cases h : j = i
    · subst h; rw [List.getElem?_eq_getElem (by omega), List.getElem?_eq_getElem (by omega)] at hb_ ⊢; simpa using hb_
    · exact hq j (by omega)
  · ((with_reducible apply XQ.retE); (case hr => exact .t rfl .nil))
    refine ⟨?_, rfl⟩
    rw [pdt (List.ext_getElem? fun j => ?_)]; rfl
    by_cases h : j < i
    · exact hq j h
    · rw [List.getElem?_eq_none (by omega), List.getElem?_eq_none (by omega)]
end Go.Proofs.YtopdcegeffnelaaGreatDoorX
/- Vocabularies: copied, given spare room, held against others. -/
namespace Go.Proofs.YtopdcegeffnelaaGreatDoorX
open Go Go.SX

theorem _root_.Go.SX.OwnS.blk2 {e sz m : Nat} {v : Value} {xs : List Value} {F : HL} (h : OwnS e sz v m xs F) (hp : 0 < m) : ∃ g cap sp, v = .slice (some ⟨g, 0, none⟩) m cap ∧ F = [(g, .cells ⟨xs ++ sp⟩ e (0, 0))] ∧ m ≤ cap ∧ cap ≤ maxLen ∧ (xs ++ sp).length = cap * sz := by
  rcases h.2 with ⟨_, h0, _⟩ | h
  · omega
  · exact h
def VoB (b : Nat) (bv pv : Value) : Nat × Obj := (b, Obj.cells ⟨[bv, pv]⟩ 35 (0, 0))
abbrev nilS : Value := .slice none 0 0
abbrev prS (l : List (Int × Int)) : List Value := l.flatMap turnV
def CopV (x : LVo) (v : Value) (L : HL) : Prop := ∃ bv pv Fb Fp, v = .agg ⟨[bv, pv]⟩ ∧ OwnS 5 1 bv x.B.1.length (x.B.1.map (.int .u8)) Fb ∧ OwnS 94 2 pv x.P.1.length (prS x.P.1) Fp ∧ L = Fb ++ Fp
set_option maxHeartbeats 8000000 in
theorem copyVocab_fn (x : LVo) : FC Tryz.prog 6 [.agg ⟨x.cells⟩] [] (fun h => voAt h x) (fun v L => CopV x v L) := by
  refine FC.sub2 ?_
  obtain ⟨⟨B, ab, cb⟩, ⟨Ps, ap, cp⟩⟩ := x
  refine FC.intro Tryz.func6 rfl (by kernel_rfl) 27 [.cell 2 35] rfl rfl rfl ?_
  rintro w0 ⟨hB, hP, _, hps⟩
  change SlA (Kd.int .u8) 1 _ B ab cb at hB
  change SlA turnK 16 _ Ps ap cp at hP
  change Ps.length * 16 ≤ _ at hps
  have hat := hP.at_
  (repeat (first | (with_reducible apply XL.op) | (with_reducible apply XC.seq) | (with_reducible apply XC.region (Γ := Γ))))
  ((with_reducible apply XOp.box); (case hg | hx' => exact rfl); intro ub)
  (repeat ((with_reducible apply XL.op)))
  ((with_reducible apply XOp.alloc); (case hg | ht | hx' => exact rfl); intro rb)
  (repeat (first | (with_reducible apply XL.op) | (with_reducible apply XL.nilT) | (with_reducible apply XC.seq) | (with_reducible apply XC.region (Γ := Γ))))
  ((with_reducible apply XOp.alloc); (case hg | ht | hx' => exact rfl); intro xb)
  (repeat (first | (with_reducible apply XL.op) | ((with_reducible apply XOp.p1); (case hg | hv => exact rfl)) | ((with_reducible apply XOp.load); (case hg | ht | hk | hx => exact rfl); (case hc => exact own_cell (i := 2) rfl rfl)) | (with_reducible apply XL.nilT) | (with_reducible apply XC.seq) | (with_reducible apply XC.region (Γ := Γ))))
  ((with_reducible apply XOp.callN (hF := copyBytes_fn B ab cb)); (case hg => exact rfl); (case hc => exact rfl); (case ha => exact rfl); try (case hA => exact Known.true))
  case hA => exact Known.of_old hB (Mono.sl _ _ _ _ _)
  intro bv Fb hb
  obtain ⟨ba, bc, rfl⟩ := hb.val
  (repeat (first | (with_reducible apply XL.op) | ((with_reducible apply XOp.p1); (case hg | hv => exact rfl)) | ((with_reducible apply XOp.store (i := 0)); (case hg | ht | hk | hx | hv | h1 | hi | hs | ha => exact rfl)) | (with_reducible apply XL.nilT) | (with_reducible apply XC.seq) | (with_reducible apply XC.region (Γ := Γ)) | (with_reducible apply XC.block)))
  refine XC.loopP (fun k ρ L => ∃ (i : Nat) (v : Value) (Fv : HL), i + k = Ps.length ∧ OwnS 94 2 v i (prS (Ps.take i)) Fv ∧ L = ([VoB xb (.slice ba B.length bc) v, VoB rb nilS nilS, VoB ub (.slice ab B.length cb) (.slice ap Ps.length cp)] ++ Fb) ++ Fv ∧ Slots ρ [(1, .pointer (some ⟨ub, 0, none⟩)), (2, .pointer (some ⟨rb, 0, none⟩)), (3, .pointer (some ⟨xb, 0, none⟩)), (4, .int .i64 i)])
    Ps.length ⟨0, _, [], by simp, OwnS.nil _ _, by simp only [List.append_nil]; rfl, rfl, rfl, rfl, rfl, trivial⟩ ?_
  rintro k ρ L ⟨i, v, Fv, hik, hown, rfl, hs⟩
  obtain ⟨a', c', rfl⟩ := hown.val
  refine XC.slots _ hs ?_
  (repeat (first | (with_reducible apply XL.op) | ((with_reducible apply XOp.p1); (case hg | hv => exact rfl)) | ((with_reducible apply XOp.load); (case hg | ht | hk | hx => exact rfl); (case hc => exact own_cell (i := 2) rfl rfl)) | (with_reducible apply XL.nilT) | (with_reducible apply XC.seq) | (with_reducible apply XC.region (Γ := Γ))))
  ((with_reducible apply XC.cond); (case hc => exact rfl); all_goals (intro hb_; try simp only [pd_true, pd_false, Bool.not_eq_true', Bool.not_eq_false', Bool.and_eq_true, Bool.and_eq_false_iff, Bool.or_eq_true, Bool.or_eq_false_iff, not_true_eq_false, not_false_eq_true, Int.not_lt, Int.not_le] at hb_))
  · obtain ⟨p, hi⟩ : ∃ p, Ps[i]? = some p := ⟨_, List.getElem?_eq_getElem (by omega)⟩
    (repeat (first | (with_reducible apply XC.seq) | (with_reducible apply XQ.skip) | (with_reducible apply XQ.nt) | (with_reducible apply XC.block)))
    ((with_reducible apply XC.regionL (Γ := Γ) mixed (.q 0 (.q 1 (.q 2 (.q 3 (.q 4 (.q 5 (.q 6 (.e 7 (.e 8 (.e 9 (.e 10 (.done)))))))))))) [8, 10] ([VoB xb (.slice ba B.length bc) (.slice a' i c'), VoB rb nilS nilS, VoB ub (.slice ab B.length cb) (.slice ap Ps.length cp)])); (case hc => kernel_rfl); (case hs => first | exact List.nil_sublist _ | exact List.Sublist.refl _ | exact List.sublist_append_right _ _ | (refine List.Sublist.cons_cons _ (List.nil_sublist _)) | (refine List.Sublist.cons_cons _ (List.Sublist.cons_cons _ (List.nil_sublist _))) | (refine List.Sublist.cons_cons _ (List.Sublist.cons_cons _ (List.Sublist.cons_cons _ (List.nil_sublist _)))) | (refine List.Sublist.cons_cons _ (List.Sublist.cons_cons _ (List.Sublist.cons_cons _ (List.Sublist.cons_cons _ (List.nil_sublist _))))) | ((try simp only [List.append_eq, List.cons_append, List.nil_append, List.append_assoc]); (repeat (first | exact List.Sublist.refl _ | exact List.nil_sublist _ | (with_reducible apply List.Sublist.cons_cons) | (with_reducible apply List.Sublist.cons))); done)))
    (repeat (first | ((with_reducible apply XP.p1); (case ho | hg | hv => exact rfl)) | ((with_reducible apply XP.load); (case ho | hg | ht | hk | hx => exact rfl); (case hc => exact own_cell (i := 0) rfl rfl)) | ((with_reducible apply XP.load); (case ho | hg | ht | hk | hx => exact rfl); (case hc => exact own_cell (i := 2) rfl rfl)) | ((with_reducible apply XP.pr); (case ho => exact rfl); (case hg => exact rfl); (case hr => ((with_reducible apply PR.idxA); (case ht | hk | he | hx | hi => exact rfl); (case hr => first | assumption | omega); (case ha => first | assumption | exact SlA.at_ (by assumption))))) | ((with_reducible apply XP.e); (first | ((with_reducible apply XE.d); (case ho => exact rfl); (case hd => exact rfl)) | ((with_reducible apply XE.e); (case ho => exact rfl)))) | (first | ((with_reducible apply XOp.loadN); (case hg | ht | hk | hx => exact rfl); (case hc => exact Known.of_old (hP.rawAt hi) (Mono.row _ _ _)); (case hl => exact rfl)) | ((with_reducible apply XP.loadN); (case ho | hg | ht | hk | hx => exact rfl); (case hc => exact Known.of_old (hP.rawAt hi) (Mono.row _ _ _)); (case hl => exact rfl)))))
    ((with_reducible apply XOp.buildSlice); (case hg | ht | hk | he | hz | hzl | hf => exact rfl); intro bb)
    (refine ⟨fun y_ hy_ => (by (simp only [List.mem_cons, List.mem_append, List.not_mem_nil, or_false] at hy_ ⊢); (repeat' (rcases hy_ with hy_ | hy_)) <;> simp), ?_⟩)
    (repeat (((with_reducible apply XP.e); (first | ((with_reducible apply XE.d); (case ho => exact rfl); (case hd => exact rfl)) | ((with_reducible apply XE.e); (case ho => exact rfl))))))
    ((with_reducible apply XOp.append1R (R := [VoB xb (.slice ba B.length bc) (.slice a' i c'), VoB rb nilS nilS, VoB ub (.slice ab B.length cb) (.slice ap Ps.length cp)] ++ Fb)); (case hg => exact rfl); (case ht => exact rfl); (case hk => exact rfl); (case he => exact rfl); (case hown => exact hown); (case hs => exact rfl); (case hx => exact rfl); (case hL => exact rfl); (case hl => exact rfl); (case h1 => exact rfl); (case hz => exact rfl); (case hsz => exact Nat.zero_lt_succ _); (case hk0 => exact Nat.zero_lt_succ _); (case h63 => simp only [maxLen]; omega); (case hb => simp only []; omega); intro v_ F_ hown_; obtain ⟨a_, c_, rfl⟩ := hown_.val)
    (repeat (first | ((with_reducible apply XOp.p1); (case hg | hv => exact rfl)) | ((with_reducible apply XP.e); (first | ((with_reducible apply XE.d); (case ho => exact rfl); (case hd => exact rfl)) | ((with_reducible apply XE.e); (case ho => exact rfl))))))
    (refine ⟨fun y_ hy_ => (by (simp only [List.mem_cons, List.mem_append, List.not_mem_nil, or_false] at hy_ ⊢); (repeat' (rcases hy_ with hy_ | hy_)) <;> simp), ?_⟩)
    (repeat (first | (with_reducible apply XL.op) | ((with_reducible apply XOp.p1); (case hg | hv => exact rfl)) | ((with_reducible apply XOp.store (i := 0)); (case hg | ht | hk | hx | hv | h1 | hi | hs | ha => exact rfl)) | (with_reducible apply XL.nilT) | (with_reducible apply XC.region (Γ := Γ)) | (with_reducible apply XQ.nt) | (with_reducible apply XQ.nb) | (with_reducible apply XP.done) | ((with_reducible apply XP.e); (first | ((with_reducible apply XE.d); (case ho => exact rfl); (case hd => exact rfl)) | ((with_reducible apply XE.e); (case ho => exact rfl))))))
    exact ⟨k - 1, by omega, _, .of (List.Sublist.refl _), i + 1, _, F_, by omega, hown_.conv rfl (by rw [take_snocD hi, prS, prS, List.flatMap_append]; simp [zerosL, turnV]), rfl, rfl, rfl, rfl, intS (m := Ps.length) (by omega) (by omega), trivial⟩
  obtain rfl : i = Ps.length := by omega
  rw [List.take_length] at hown
  (repeat (first | (with_reducible apply XL.op) | ((with_reducible apply XOp.loadO (i := 0)); (case hg | ht | hk | hx | hi | hc => exact rfl)) | ((with_reducible apply XOp.storeN (i := 1)); (case hg | ht | hx | hv' | hk | h1 | hi | hs | ha => exact rfl)) | (with_reducible apply XL.nilT) | (with_reducible apply XC.seq) | (with_reducible apply XC.region (Γ := Γ)) | (with_reducible apply XQ.ret) | (with_reducible apply XQ.exit) | (with_reducible apply XQ.nt) | (with_reducible apply XQ.et) | ((with_reducible apply XQ.eb); (case hb => exact rfl))))
  ((with_reducible apply XQ.retE); (case hr => exact .row rfl (by kernel_rfl) (by kernel_rfl) (own_row (i := 1) (m := 2) rfl rfl) .nil))
  exact ⟨Fb ++ Fv, .of (by ((try simp only [List.append_eq, List.cons_append, List.nil_append, List.append_assoc]); repeat (first | exact List.Sublist.refl _ | exact List.nil_sublist _ | (with_reducible apply List.Sublist.cons_cons) | (with_reducible apply List.Sublist.cons) | exact List.sublist_append_right _ _))), _, _, Fb, Fv, rfl, hb, hown, rfl⟩

def mB (j : Nat) : List Int := (List.range j).map fun (k : Nat) => 200 - (k : Int)
def mP (j : Nat) : List (Int × Int) := (List.range j).map fun (k : Nat) => (-71, -(k : Int))
theorem mB_succ (j : Nat) : mB (j + 1) = mB j ++ [200 - (j : Int)] := by simp [mB, List.range_succ]
theorem mP_succ (j : Nat) : mP (j + 1) = mP j ++ [(-71, -(j : Int))] := by simp [mP, List.range_succ]
theorem mB_len (j : Nat) : (mB j).length = j := by simp [mB]
theorem mP_len (j : Nat) : (mP j).length = j := by simp [mP]
theorem mB_at {j : Nat} (h : j < 64) : (mB 64)[j]? = some (200 - (j : Int)) := by simp [mB, h]
theorem mP_at {j : Nat} (h : j < 64) : (mP 64)[j]? = some (-71, -(j : Int)) := by simp [mP, h]
theorem u8_of {x : Int} (h : 0 ≤ x ∧ x ≤ 255) : IntKind.u8.wrap x = x := by
  show x % 256 = x
  omega
def RoomR (x : LVo) (v : Value) (L : HL) : Prop :=
  ∃ gb cb gp cp Fb Fp, OwnS 5 1 (.slice (some ⟨gb, 0, none⟩) (x.B.1.length + 64) cb) (x.B.1.length + 64) ((x.B.1 ++ mB 64).map (.int .u8)) Fb ∧
    OwnS 94 2 (.slice (some ⟨gp, 0, none⟩) (x.P.1.length + 64) cp) (x.P.1.length + 64) (prS (x.P.1 ++ mP 64)) Fp ∧
    v = .agg ⟨[.slice (some ⟨gb, 0, none⟩) x.B.1.length cb, .slice (some ⟨gp, 0, none⟩) x.P.1.length cp]⟩ ∧ L = Fb ++ Fp
set_option maxHeartbeats 16000000 in
theorem roomyVocab_fn (x : LVo) : FC Tryz.prog 30 [.agg ⟨x.cells⟩] [] (fun h => voAt h x) (fun v L => RoomR x v L) := by
  refine FC.sub2 ?_
  refine FC.intro Tryz.func30 rfl (by kernel_rfl) 40 [.cell 2 35] rfl rfl rfl ?_
  intro w0 hA
  have hbs := hA.bs
  have hps := hA.ps
  (repeat (first | (with_reducible apply XL.op) | (with_reducible apply XC.seq) | (with_reducible apply XC.region (Γ := Γ))))
  ((with_reducible apply XOp.box); (case hg | hx' => exact rfl); intro ub)
  (repeat ((with_reducible apply XL.op)))
  ((with_reducible apply XOp.alloc); (case hg | ht | hx' => exact rfl); intro rb)
  (repeat (first | (with_reducible apply XL.op) | ((with_reducible apply XOp.loadO (i := 1)); (case hg | ht | hk | hx | hi | hc => exact rfl)) | (with_reducible apply XL.nilT) | (with_reducible apply XC.seq) | (with_reducible apply XC.region (Γ := Γ))))
  ((with_reducible apply XOp.callN (hF := copyVocab_fn x)); (case hg => exact rfl); (case hc => exact rfl); (case ha => exact rfl); try (case hA => exact Known.true))
  case hA => exact Known.of_old hA (vo_mono _)
  rintro _ F ⟨bv, pv, Fb, Fp, rfl, hb, hp, rfl⟩
  obtain ⟨ba, bc, rfl⟩ := hb.val
  obtain ⟨pa, pc, rfl⟩ := hp.val
  (repeat ((with_reducible apply XL.op)))
  ((with_reducible apply XOp.alloc); (case hg | ht | hx' => exact rfl); intro xb)
  (repeat (first | (with_reducible apply XL.op) | ((with_reducible apply XOp.p1); (case hg | hv => exact rfl)) | ((with_reducible apply XOp.load); (case hg | ht | hk | hx => exact rfl); (case hc => exact own_cell (i := 0) rfl rfl)) | ((with_reducible apply XOp.storeN (i := 0)); (case hg | ht | hx | hv' | hk | h1 | hi | hs | ha => exact rfl)) | (with_reducible apply XL.nilT) | (with_reducible apply XC.seq) | (with_reducible apply XC.region (Γ := Γ)) | (with_reducible apply XC.block)))
  refine XC.loopP (fun k ρ L => ∃ (j : Nat) (v1 v2 : Value) (F1 F2 : HL), j + k = 64 ∧ OwnS 5 1 v1 (x.B.1.length + j) ((x.B.1 ++ mB j).map (.int .u8)) F1 ∧ OwnS 94 2 v2 (x.P.1.length + j) (prS (x.P.1 ++ mP j)) F2 ∧
      L = [VoB xb (.slice ba x.B.1.length bc) (.slice pa x.P.1.length pc), VoB rb nilS nilS, VoB ub (sla x.B) (sla x.P)] ++ (F1 ++ F2) ∧
      Slots ρ [(1, .pointer (some ⟨ub, 0, none⟩)), (2, .pointer (some ⟨rb, 0, none⟩)), (3, .pointer (some ⟨xb, 0, none⟩)), (4, v1), (5, v2), (6, .int .i64 j)])
    64 ⟨0, _, _, Fb, Fp, by simp, hb.conv rfl (by simp [mB]), hp.conv rfl (by simp [mP]), rfl, rfl, rfl, rfl, rfl, rfl, rfl, trivial⟩ ?_
  clear hb hp
  rintro k ρ L ⟨j, v1, v2, F1, F2, hjk, hb, hp, rfl, hs⟩
  obtain ⟨a1, c1, rfl⟩ := hb.val
  obtain ⟨a2, c2, rfl⟩ := hp.val
  refine XC.slots _ hs ?_
  (repeat (first | (with_reducible apply XL.op) | ((with_reducible apply XOp.p1); (case hg | hv => exact rfl)) | (with_reducible apply XL.nilT) | (with_reducible apply XC.seq) | (with_reducible apply XC.region (Γ := Γ))))
  ((with_reducible apply XC.cond); (case hc => exact rfl); all_goals (intro hb_; try simp only [pd_true, pd_false, Bool.not_eq_true', Bool.not_eq_false', Bool.and_eq_true, Bool.and_eq_false_iff, Bool.or_eq_true, Bool.or_eq_false_iff, not_true_eq_false, not_false_eq_true, Int.not_lt, Int.not_le] at hb_))
  · have e1 : IntKind.u8.wrap (IntKind.i64.wrap (200 - ((j : Nat) : Int))) = 200 - (j : Int) := by rw [wrap64_of (by omega) (by omega), u8_of (by omega)]
    have e2 : IntKind.i64.wrap (0 - ((j : Nat) : Int)) = -(j : Int) := by rw [wrap64_of (by omega) (by omega)]; omega
    (repeat (first | (with_reducible apply XL.op) | ((with_reducible apply XOp.p1); (case hg | hv => exact rfl)) | (with_reducible apply XC.seq) | (with_reducible apply XC.region (Γ := Γ)) | (with_reducible apply XQ.skip) | (with_reducible apply XQ.nt) | (with_reducible apply XC.block)))
    ((with_reducible apply XOp.buildSlice); (case hg | ht | hk | he | hz | hzl | hf => exact rfl); intro bb)
    (repeat ((with_reducible apply XL.op)))
    (refine (show XOp _ _ _ _ _ _ _ _ ((bb, Obj.cells ⟨[.int .u8 (IntKind.u8.wrap (IntKind.i64.wrap (200 - ((j : Nat) : Int))))]⟩ 5 (0, 0)) :: ([VoB xb (.slice ba x.B.1.length bc) (.slice pa x.P.1.length pc), VoB rb nilS nilS, VoB ub (sla x.B) (sla x.P)] ++ (F1 ++ F2))) from XOp.perm (L' :=  (bb, Obj.cells ⟨[.int .u8 (IntKind.u8.wrap (IntKind.i64.wrap (200 - ((j : Nat) : Int))))]⟩ 5 (0, 0)) :: (([VoB xb (.slice ba x.B.1.length bc) (.slice pa x.P.1.length pc), VoB rb nilS nilS, VoB ub (sla x.B) (sla x.P)] ++ F2) ++ F1)) rfl ?_ (by (first | (with_reducible exact List.Perm.refl _) | refine perm_of_cnt fun p_ => ?_; simp only [List.countP_append, List.countP_cons, List.countP_nil]; omega))))
    ((with_reducible apply XOp.append1R (R := [VoB xb (.slice ba x.B.1.length bc) (.slice pa x.P.1.length pc), VoB rb nilS nilS, VoB ub (sla x.B) (sla x.P)] ++ F2)); (case hg => exact rfl); (case ht => exact rfl); (case hk => exact rfl); (case he => exact rfl); (case hown => exact hb); (case hs => exact rfl); (case hx => exact rfl); (case hL => exact rfl); (case hl => exact rfl); (case h1 => exact rfl); (case hz => exact rfl); (case hsz => exact Nat.zero_lt_succ _); (case hk0 => exact Nat.zero_lt_succ _); (case h63 => simp only [maxLen]; omega); (case hb => simp only []; omega); intro v_ F_ hown_; obtain ⟨a_, c_, rfl⟩ := hown_.val)
    generalize F_ = G1 at *
    have hb2 := hown_
    clear hown_
    (repeat (first | (with_reducible apply XL.op) | ((with_reducible apply XOp.p1); (case hg | hv => exact rfl)) | (with_reducible apply XL.nilT) | (with_reducible apply XC.region (Γ := Γ)) | (first | ((with_reducible apply XOp.pr); (case hg => exact rfl); (case hr => (with_reducible apply PR.buildA); (case ht => exact rfl); (case hk => exact rfl); (case he => exact rfl); (case hz => exact rfl); (case hf => exact rfl))) | ((with_reducible apply XP.pr); (case ho => exact rfl); (case hg => exact rfl); (case hr => (with_reducible apply PR.buildA); (case ht => exact rfl); (case hk => exact rfl); (case he => exact rfl); (case hz => exact rfl); (case hf => exact rfl))))))
    ((with_reducible apply XOp.buildSlice); (case hg | ht | hk | he | hz | hzl | hf => exact rfl); intro bc')
    (repeat ((with_reducible apply XL.op)))
    (refine (show XOp _ _ _ _ _ _ _ _ ((bc', Obj.cells ⟨[.int .i64 (-71), .int .i64 (IntKind.i64.wrap (0 - ((j : Nat) : Int)))]⟩ 94 (0, 0)) :: (([VoB xb (.slice ba x.B.1.length bc) (.slice pa x.P.1.length pc), VoB rb nilS nilS, VoB ub (sla x.B) (sla x.P)] ++ F2) ++ G1)) from XOp.perm (L' :=  (bc', Obj.cells ⟨[.int .i64 (-71), .int .i64 (IntKind.i64.wrap (0 - ((j : Nat) : Int)))]⟩ 94 (0, 0)) :: (([VoB xb (.slice ba x.B.1.length bc) (.slice pa x.P.1.length pc), VoB rb nilS nilS, VoB ub (sla x.B) (sla x.P)] ++ G1) ++ F2)) rfl ?_ (by (first | (with_reducible exact List.Perm.refl _) | refine perm_of_cnt fun p_ => ?_; simp only [List.countP_append, List.countP_cons, List.countP_nil]; omega))))
    ((with_reducible apply XOp.append1R (R := [VoB xb (.slice ba x.B.1.length bc) (.slice pa x.P.1.length pc), VoB rb nilS nilS, VoB ub (sla x.B) (sla x.P)] ++ G1)); (case hg => exact rfl); (case ht => exact rfl); (case hk => exact rfl); (case he => exact rfl); (case hown => exact hp); (case hs => exact rfl); (case hx => exact rfl); (case hL => exact rfl); (case hl => exact rfl); (case h1 => exact rfl); (case hz => exact rfl); (case hsz => exact Nat.zero_lt_succ _); (case hk0 => exact Nat.zero_lt_succ _); (case h63 => simp only [maxLen]; omega); (case hb => simp only []; omega); intro v_ F_ hown_; obtain ⟨a_, c_, rfl⟩ := hown_.val)
    (repeat (first | (with_reducible apply XL.op) | ((with_reducible apply XOp.p1); (case hg | hv => exact rfl)) | (with_reducible apply XL.nilT) | (with_reducible apply XC.region (Γ := Γ)) | (with_reducible apply XL.nilQ) | (with_reducible apply XQ.nt) | (with_reducible apply XQ.nb)))
    refine ⟨k - 1, by omega, _, .of (List.Sublist.refl _), j + 1, _, _, G1, F_, by omega, hb2.conv (by omega) ?_, hown_.conv (by omega) ?_, by simp only [List.append_assoc], rfl, rfl, rfl, rfl, rfl, intS (m := 64) (by omega) (by omega), trivial⟩
    · rw [mB_succ, e1]; simp [zerosL]
    · rw [mP_succ, e2]; simp [zerosL, prS, turnV]
  obtain rfl : j = 64 := by omega
  obtain ⟨gb, hmc1, rfl⟩ : ∃ g, x.B.1.length + 64 ≤ c1 ∧ a1 = some ⟨g, 0, none⟩ := by obtain ⟨g, cp, sp, he, _, hle, _⟩ := hb.blk2 (by omega); exact ⟨g, by have := (Value.slice.inj he).2.2; omega, (Value.slice.inj he).1⟩
  obtain ⟨gp, hmc2, rfl⟩ : ∃ g, x.P.1.length + 64 ≤ c2 ∧ a2 = some ⟨g, 0, none⟩ := by obtain ⟨g, cp, sp, he, _, hle, _⟩ := hp.blk2 (by omega); exact ⟨g, by have := (Value.slice.inj he).2.2; omega, (Value.slice.inj he).1⟩
  (repeat (first | (with_reducible apply XC.seq) | (with_reducible apply XQ.exit) | (with_reducible apply XQ.nt) | (with_reducible apply XQ.et) | ((with_reducible apply XQ.eb); (case hb => exact rfl))))
  ((with_reducible apply XC.regionL (Γ := Γ) mixed (.q 0 (.q 1 (.q 2 (.q 3 (.q 4 (.q 5 (.q 6 (.q 7 (.q 8 (.q 9 (.q 10 (.e 11 (.done))))))))))))) [11] ([VoB xb (.slice ba x.B.1.length bc) (.slice pa x.P.1.length pc), VoB rb nilS nilS, VoB ub (sla x.B) (sla x.P)])); (case hc => kernel_rfl); (case hs => first | exact List.nil_sublist _ | exact List.Sublist.refl _ | exact List.sublist_append_right _ _ | (refine List.Sublist.cons_cons _ (List.nil_sublist _)) | (refine List.Sublist.cons_cons _ (List.Sublist.cons_cons _ (List.nil_sublist _))) | (refine List.Sublist.cons_cons _ (List.Sublist.cons_cons _ (List.Sublist.cons_cons _ (List.nil_sublist _)))) | (refine List.Sublist.cons_cons _ (List.Sublist.cons_cons _ (List.Sublist.cons_cons _ (List.Sublist.cons_cons _ (List.nil_sublist _))))) | ((try simp only [List.append_eq, List.cons_append, List.nil_append, List.append_assoc]); (repeat (first | exact List.Sublist.refl _ | exact List.nil_sublist _ | (with_reducible apply List.Sublist.cons_cons) | (with_reducible apply List.Sublist.cons))); done)))
  (repeat (first | ((with_reducible apply XP.p1); (case ho | hg | hv => exact rfl)) | ((with_reducible apply XP.load); (case ho | hg | ht | hk | hx => exact rfl); (case hc => exact own_cell (i := 2) rfl rfl))))
  (first | ((with_reducible apply XOp.pr); (case hg => exact rfl); (case hr => (with_reducible apply PR.sliceTo); (case ht => exact rfl); (case hk => exact rfl); (case he => exact rfl); (case hx => exact rfl); (case hh => exact rfl); (case hb => omega))) | ((with_reducible apply XP.pr); (case ho => exact rfl); (case hg => exact rfl); (case hr => (with_reducible apply PR.sliceTo); (case ht => exact rfl); (case hk => exact rfl); (case he => exact rfl); (case hx => exact rfl); (case hh => exact rfl); (case hb => omega))))
  (repeat (first | ((with_reducible apply XP.p1); (case ho | hg | hv => exact rfl)) | ((with_reducible apply XP.load); (case ho | hg | ht | hk | hx => exact rfl); (case hc => exact own_cell (i := 2) rfl rfl))))
  (first | ((with_reducible apply XOp.pr); (case hg => exact rfl); (case hr => (with_reducible apply PR.sliceTo); (case ht => exact rfl); (case hk => exact rfl); (case he => exact rfl); (case hx => exact rfl); (case hh => exact rfl); (case hb => omega))) | ((with_reducible apply XP.pr); (case ho => exact rfl); (case hg => exact rfl); (case hr => (with_reducible apply PR.sliceTo); (case ht => exact rfl); (case hk => exact rfl); (case he => exact rfl); (case hx => exact rfl); (case hh => exact rfl); (case hb => omega))))
  (repeat (first | ((with_reducible apply XOp.storeN (i := 1)); (case hg | ht | hx | hv' | hk | h1 | hi | hs | ha => exact rfl)) | (with_reducible apply XQ.ret) | (with_reducible apply XQ.nt) | ((with_reducible apply XP.pr); (case ho => exact rfl); (case hg => exact rfl); (case hr => ((with_reducible apply PR.build); (case ht | hk | hok | hz | hf => exact rfl)))) | (with_reducible apply XP.done) | ((with_reducible apply XP.e); (first | ((with_reducible apply XE.d); (case ho => exact rfl); (case hd => exact rfl)) | ((with_reducible apply XE.e); (case ho => exact rfl))))))
  ((with_reducible apply XQ.retE); (case hr => exact .row rfl (by kernel_rfl) (by kernel_rfl) (own_row (i := 1) (m := 2) rfl rfl) .nil))
  refine ⟨F1 ++ F2, .of (by repeat (first | exact List.Sublist.refl _ | apply List.Sublist.cons)), gb, c1, gp, c2, F1, F2, hb, hp, ?_, rfl⟩
  simp only [Int.toNat_natCast]; rfl

set_option maxHeartbeats 8000000 in
theorem eqVocabT_fn (B : List Int) (Ps : List (Int × Int)) (a b p q : Option Addr) (ca cb cp cq : Nat) : FC Tryz.prog 69 [.agg ⟨[.slice a B.length ca, .slice p Ps.length cp]⟩, .agg ⟨[.slice b B.length cb, .slice q Ps.length cq]⟩] []
    (fun h => (SlA (Kd.int .u8) 1 h B a ca ∧ SlA turnK 16 h Ps p cp) ∧ (SlA (Kd.int .u8) 1 h B b cb ∧ SlA turnK 16 h Ps q cq)) (fun v L => v = .bool true ∧ L = []) := by
  refine FC.nil ?_
  refine FC.intro Tryz.func69 rfl (by kernel_rfl) 39 [.tmp 4] rfl rfl rfl ?_
  rintro w0 ⟨⟨hA, hP⟩, ⟨hB, hQ⟩⟩
  have hsm := hP.bytes
  have hat := hP.at_
  have hat2 := hQ.at_
  (repeat (first | (with_reducible apply XL.op) | (with_reducible apply XC.seq) | (with_reducible apply XC.region (Γ := Γ))))
  ((with_reducible apply XOp.box); (case hg | hx' => exact rfl); intro xb)
  (repeat ((with_reducible apply XL.op)))
  ((with_reducible apply XOp.box); (case hg | hx' => exact rfl); intro yb)
  (repeat (first | (with_reducible apply XL.op) | ((with_reducible apply XOp.p1); (case hg | hv => exact rfl)) | ((with_reducible apply XOp.load); (case hg | ht | hk | hx => exact rfl); (case hc => exact own_cell (i := 0) rfl rfl)) | ((with_reducible apply XOp.load); (case hg | ht | hk | hx => exact rfl); (case hc => exact own_cell (i := 1) rfl rfl)) | (with_reducible apply XL.nilT) | (with_reducible apply XC.seq) | (with_reducible apply XC.region (Γ := Γ))))
  ((with_reducible apply XOp.call (hF := eqBytes_fn B B a b ca cb)); (case hg => exact rfl); (case hc => exact rfl); (case ha => exact rfl); (case hL => exact (List.nil_append _).symm); try (case hA => exact Known.true))
  case hA => exact Known.of_old ⟨hA, hB⟩ ((Mono.sl _ _ _ _ _).and (Mono.sl _ _ _ _ _))
  rintro _ _ ⟨rfl, rfl⟩
  rw [pdt (rfl : B = B)]
  (repeat (first | (with_reducible apply XL.op) | ((with_reducible apply XOp.p1); (case hg | hv => exact rfl)) | ((with_reducible apply XOp.load); (case hg | ht | hk | hx => exact rfl); (case hc => exact own_cell (i := 0) rfl rfl)) | ((with_reducible apply XOp.load); (case hg | ht | hk | hx => exact rfl); (case hc => exact own_cell (i := 1) rfl rfl)) | (with_reducible apply XL.nilT) | (with_reducible apply XC.seq) | (with_reducible apply XC.region (Γ := Γ)) | (with_reducible apply XQ.skip) | (with_reducible apply XQ.nt) | (with_reducible apply XC.block) | (first | ((with_reducible apply XOp.split); (case hg | hj | hd | hb => exact rfl); (fail_if_success (case hf => exact fun h => Bool.noConfusion h)); (fail_if_success (case ht => exact fun h => Bool.noConfusion h)); (first | (case ht => intro hb_; try simp only [pd_true, pd_false, Bool.not_eq_true', Bool.not_eq_false', Bool.and_eq_true, Bool.and_eq_false_iff, Bool.or_eq_true, Bool.or_eq_false_iff, not_true_eq_false, not_false_eq_true, Int.not_lt, Int.not_le] at hb_; first | done | (exfalso; first | omega | contradiction)) | (case hf => intro hb_; try simp only [pd_true, pd_false, Bool.not_eq_true', Bool.not_eq_false', Bool.and_eq_true, Bool.and_eq_false_iff, Bool.or_eq_true, Bool.or_eq_false_iff, not_true_eq_false, not_false_eq_true, Int.not_lt, Int.not_le] at hb_; first | done | (exfalso; first | omega | contradiction))); intro hb_; try simp only [pd_true, pd_false, Bool.not_eq_true', Bool.not_eq_false', Bool.and_eq_true, Bool.and_eq_false_iff, Bool.or_eq_true, Bool.or_eq_false_iff, not_true_eq_false, not_false_eq_true, Int.not_lt, Int.not_le] at hb_) | ((with_reducible apply XP.split); (case ho | hg | hj | hd | hb => exact rfl); (fail_if_success (case hf => exact fun h => Bool.noConfusion h)); (fail_if_success (case ht => exact fun h => Bool.noConfusion h)); (first | (case ht => intro hb_; try simp only [pd_true, pd_false, Bool.not_eq_true', Bool.not_eq_false', Bool.and_eq_true, Bool.and_eq_false_iff, Bool.or_eq_true, Bool.or_eq_false_iff, not_true_eq_false, not_false_eq_true, Int.not_lt, Int.not_le] at hb_; first | done | (exfalso; first | omega | contradiction)) | (case hf => intro hb_; try simp only [pd_true, pd_false, Bool.not_eq_true', Bool.not_eq_false', Bool.and_eq_true, Bool.and_eq_false_iff, Bool.or_eq_true, Bool.or_eq_false_iff, not_true_eq_false, not_false_eq_true, Int.not_lt, Int.not_le] at hb_; first | done | (exfalso; first | omega | contradiction))); intro hb_; try simp only [pd_true, pd_false, Bool.not_eq_true', Bool.not_eq_false', Bool.and_eq_true, Bool.and_eq_false_iff, Bool.or_eq_true, Bool.or_eq_false_iff, not_true_eq_false, not_false_eq_true, Int.not_lt, Int.not_le] at hb_) | ((with_reducible apply XC.cond); (case hc => exact rfl); (first | (case ht => intro hb_; try simp only [pd_true, pd_false, Bool.not_eq_true', Bool.not_eq_false', Bool.and_eq_true, Bool.and_eq_false_iff, Bool.or_eq_true, Bool.or_eq_false_iff, not_true_eq_false, not_false_eq_true, Int.not_lt, Int.not_le] at hb_; first | done | (exfalso; first | omega | contradiction)) | (case hf => intro hb_; try simp only [pd_true, pd_false, Bool.not_eq_true', Bool.not_eq_false', Bool.and_eq_true, Bool.and_eq_false_iff, Bool.or_eq_true, Bool.or_eq_false_iff, not_true_eq_false, not_false_eq_true, Int.not_lt, Int.not_le] at hb_; first | done | (exfalso; first | omega | contradiction))); intro hb_; try simp only [pd_true, pd_false, Bool.not_eq_true', Bool.not_eq_false', Bool.and_eq_true, Bool.and_eq_false_iff, Bool.or_eq_true, Bool.or_eq_false_iff, not_true_eq_false, not_false_eq_true, Int.not_lt, Int.not_le] at hb_))))
  refine XC.loopP (fun k ρ L => ∃ (i : Nat), i + k = Ps.length ∧ L = [VoB yb (.slice b B.length cb) (.slice q Ps.length cq), VoB xb (.slice a B.length ca) (.slice p Ps.length cp)] ∧ Slots ρ [(2, .pointer (some ⟨xb, 0, none⟩)), (3, .pointer (some ⟨yb, 0, none⟩)), (5, .int .i64 i)])
    Ps.length ⟨0, by simp, rfl, rfl, rfl, rfl, trivial⟩ ?_
  rintro k ρ L ⟨i, hik, rfl, hs⟩
  refine XC.slots _ hs ?_
  (repeat (first | (with_reducible apply XL.op) | ((with_reducible apply XOp.p1); (case hg | hv => exact rfl)) | ((with_reducible apply XOp.load); (case hg | ht | hk | hx => exact rfl); (case hc => exact own_cell (i := 1) rfl rfl)) | (with_reducible apply XL.nilT) | (with_reducible apply XC.seq) | (with_reducible apply XC.region (Γ := Γ))))
  ((with_reducible apply XC.cond); (case hc => exact rfl); all_goals (intro hb_; try simp only [pd_true, pd_false, Bool.not_eq_true', Bool.not_eq_false', Bool.and_eq_true, Bool.and_eq_false_iff, Bool.or_eq_true, Bool.or_eq_false_iff, not_true_eq_false, not_false_eq_true, Int.not_lt, Int.not_le] at hb_))
  · obtain ⟨x, hi⟩ : ∃ x, Ps[i]? = some x := ⟨_, List.getElem?_eq_getElem (by omega)⟩
    (repeat (first | (with_reducible apply XC.seq) | (with_reducible apply XQ.skip) | (with_reducible apply XQ.nt) | (with_reducible apply XC.block)))
    ((with_reducible apply XC.regionD (Γ := Γ) mixed (.q 0 (.q 1 (.q 2 (.q 3 (.q 4 (.q 5 (.q 6 (.q 7 (.q 8 (.q 9 (.q 10 (.done)))))))))))) [] []); (case hc => kernel_rfl))
    (repeat (first | (with_reducible apply XQ.nt) | ((with_reducible apply XP.p1); (case ho | hg | hv => exact rfl)) | ((with_reducible apply XP.load); (case ho | hg | ht | hk | hx => exact rfl); (case hc => exact own_cell (i := 0) rfl rfl)) | ((with_reducible apply XP.load); (case ho | hg | ht | hk | hx => exact rfl); (case hc => exact own_cell (i := 1) rfl rfl)) | ((with_reducible apply XP.pr); (case ho => exact rfl); (case hg => exact rfl); (case hr => ((with_reducible apply PR.idxA); (case ht | hk | he | hx | hi => exact rfl); (case hr => first | assumption | omega); (case ha => first | assumption | exact SlA.at_ (by assumption))))) | (with_reducible apply XP.done) | (first | ((with_reducible apply XOp.loadN); (case hg | ht | hk | hx => exact rfl); (case hc => exact Known.of_old (hP.rawAt hi) (Mono.row _ _ _)); (case hl => exact rfl)) | ((with_reducible apply XP.loadN); (case ho | hg | ht | hk | hx => exact rfl); (case hc => exact Known.of_old (hP.rawAt hi) (Mono.row _ _ _)); (case hl => exact rfl))) | (first | ((with_reducible apply XOp.loadN); (case hg | ht | hk | hx => exact rfl); (case hc => exact Known.of_old (hQ.rawAt hi) (Mono.row _ _ _)); (case hl => exact rfl)) | ((with_reducible apply XP.loadN); (case ho | hg | ht | hk | hx => exact rfl); (case hc => exact Known.of_old (hQ.rawAt hi) (Mono.row _ _ _)); (case hl => exact rfl))) | (first | (first | ((with_reducible apply XOp.pr); (case hg => exact rfl); (case hr => (with_reducible apply PR.eqArr (xs := [x.1, x.2]) (ys := [x.1, x.2])); (case hm => kernel_rfl); (case ht => exact rfl); (case hk => exact rfl); (case he => exact rfl); (case hek => exact rfl); (case hes => exact rfl); (case hl => exact ⟨rfl, rfl⟩); (case hx => exact rfl); (case hy => exact rfl))) | ((with_reducible apply XP.pr); (case ho => exact rfl); (case hg => exact rfl); (case hr => (with_reducible apply PR.eqArr (xs := [x.1, x.2]) (ys := [x.1, x.2])); (case hm => kernel_rfl); (case ht => exact rfl); (case hk => exact rfl); (case he => exact rfl); (case hek => exact rfl); (case hes => exact rfl); (case hl => exact ⟨rfl, rfl⟩); (case hx => exact rfl); (case hy => exact rfl)))) | (first | ((with_reducible apply XOp.pr); (case hg => exact rfl); (case hr => (with_reducible apply PR.neqArr (xs := [x.1, x.2]) (ys := [x.1, x.2])); (case hm => kernel_rfl); (case ht => exact rfl); (case hk => exact rfl); (case he => exact rfl); (case hek => exact rfl); (case hes => exact rfl); (case hl => exact ⟨rfl, rfl⟩); (case hx => exact rfl); (case hy => exact rfl))) | ((with_reducible apply XP.pr); (case ho => exact rfl); (case hg => exact rfl); (case hr => (with_reducible apply PR.neqArr (xs := [x.1, x.2]) (ys := [x.1, x.2])); (case hm => kernel_rfl); (case ht => exact rfl); (case hk => exact rfl); (case he => exact rfl); (case hek => exact rfl); (case hes => exact rfl); (case hl => exact ⟨rfl, rfl⟩); (case hx => exact rfl); (case hy => exact rfl)))))))
    rw [pdt (rfl : [x.1, x.2] = [x.1, x.2])]
    (repeat (first | (with_reducible apply XL.op) | ((with_reducible apply XOp.p1); (case hg | hv => exact rfl)) | (with_reducible apply XL.nilT) | (with_reducible apply XC.region (Γ := Γ)) | (with_reducible apply XQ.skip) | (with_reducible apply XQ.nt) | (with_reducible apply XQ.nb) | ((with_reducible apply XC.condF); (case hc => exact rfl))))
    exact ⟨k - 1, by omega, _, .of (List.Sublist.refl _), i + 1, by omega, rfl, rfl, rfl, intS (m := Ps.length) (by omega) (by omega), trivial⟩
  (repeat (first | (with_reducible apply XL.op) | ((with_reducible apply XOp.p1); (case hg | hv => exact rfl)) | (with_reducible apply XL.nilT) | (with_reducible apply XC.seq) | (with_reducible apply XC.region (Γ := Γ)) | (with_reducible apply XQ.ret) | (with_reducible apply XQ.exit) | (with_reducible apply XQ.nt) | (with_reducible apply XQ.et) | ((with_reducible apply XQ.eb); (case hb => exact rfl))))
  ((with_reducible apply XQ.retE); (case hr => exact .t rfl .nil))
  rfl
set_option maxHeartbeats 16000000 in
theorem keptVocab_fn (x : LVo) (gb gp cb cp : Nat) : FC Tryz.prog 32 [.agg ⟨[.slice (some ⟨gb, 0, none⟩) x.B.1.length cb, .slice (some ⟨gp, 0, none⟩) x.P.1.length cp]⟩, .agg ⟨x.cells⟩] []
    (fun h => (SlA (Kd.int .u8) 1 h (x.B.1 ++ mB 64) (some ⟨gb, 0, none⟩) cb ∧ SlA turnK 16 h (x.P.1 ++ mP 64) (some ⟨gp, 0, none⟩) cp) ∧ voAt h x) (fun v L => v = .bool true ∧ L = []) := by
  refine FC.nil ?_
  obtain ⟨⟨B, ab, cb'⟩, ⟨Ps, ap, cp'⟩⟩ := x
  refine FC.intro Tryz.func32 rfl (by kernel_rfl) 56 [.tmp 4] rfl rfl rfl ?_
  rintro w0 ⟨⟨hB, hP⟩, ⟨hB', hP', _, _⟩⟩
  change SlA (Kd.int .u8) 1 _ B ab cb' at hB'
  change SlA turnK 16 _ Ps ap cp' at hP'
  change SlA (Kd.int .u8) 1 _ (B ++ mB 64) _ cb at hB
  change SlA turnK 16 _ (Ps ++ mP 64) _ cp at hP
  have h1 := hB.le
  have h2 := hP.le
  have b1 := hB.bytes
  have b2 := hP.bytes
  rw [List.length_append, mB_len] at h1 b1
  rw [List.length_append, mP_len] at h2 b2
  have e1 : IntKind.i64.wrap ((B.length : Int) + 64) = ((B.length + 64 : Nat) : Int) := by rw [wrap64_of (by omega) (by omega)]; rfl
  have e2 : IntKind.i64.wrap ((Ps.length : Int) + 64) = ((Ps.length + 64 : Nat) : Int) := by rw [wrap64_of (by omega) (by omega)]; rfl
  have kB := hB.takeS B.length
  have kP := hP.takeS Ps.length
  rw [List.take_left] at kB kP
  (repeat (first | (with_reducible apply XL.op) | (with_reducible apply XC.seq) | (with_reducible apply XC.region (Γ := Γ))))
  ((with_reducible apply XOp.box); (case hg | hx' => exact rfl); intro xb)
  (repeat ((with_reducible apply XL.op)))
  ((with_reducible apply XOp.box); (case hg | hx' => exact rfl); intro yb)
  (repeat (first | (with_reducible apply XL.op) | ((with_reducible apply XOp.p1); (case hg | hv => exact rfl)) | ((with_reducible apply XOp.loadO (i := 0)); (case hg | ht | hk | hx | hi | hc => exact rfl)) | ((with_reducible apply XOp.loadO (i := 1)); (case hg | ht | hk | hx | hi | hc => exact rfl)) | (with_reducible apply XL.nilT) | (with_reducible apply XC.seq) | (with_reducible apply XC.region (Γ := Γ))))
  ((with_reducible apply XOp.call (hF := eqVocabT_fn B Ps (some ⟨gb, 0, none⟩) ab (some ⟨gp, 0, none⟩) ap cb cb' cp cp')); (case hg => exact rfl); (case hc => exact rfl); (case ha => exact rfl); (case hL => exact (List.nil_append _).symm); try (case hA => exact Known.true))
  case hA => exact Known.of_old ⟨⟨kB, kP⟩, ⟨hB', hP'⟩⟩ (((Mono.sl _ _ _ _ _).and (Mono.sl _ _ _ _ _)).and ((Mono.sl _ _ _ _ _).and (Mono.sl _ _ _ _ _)))
  rintro _ _ ⟨rfl, rfl⟩
  (repeat (first | (with_reducible apply XL.op) | ((with_reducible apply XOp.p1); (case hg | hv => exact rfl)) | ((with_reducible apply XOp.load); (case hg | ht | hk | hx => exact rfl); (case hc => exact own_cell (i := 0) rfl rfl)) | ((with_reducible apply XOp.load); (case hg | ht | hk | hx => exact rfl); (case hc => exact own_cell (i := 1) rfl rfl)) | (with_reducible apply XL.nilT) | (with_reducible apply XC.seq) | (with_reducible apply XC.region (Γ := Γ)) | (with_reducible apply XQ.skip) | (with_reducible apply XQ.nt) | ((with_reducible apply XC.condF); (case hc => exact rfl))))
  rw [e1]
  (first | ((with_reducible apply XOp.pr); (case hg => exact rfl); (case hr => (with_reducible apply PR.sliceTo); (case ht => exact rfl); (case hk => exact rfl); (case he => exact rfl); (case hx => exact rfl); (case hh => exact rfl); (case hb => omega))) | ((with_reducible apply XP.pr); (case ho => exact rfl); (case hg => exact rfl); (case hr => (with_reducible apply PR.sliceTo); (case ht => exact rfl); (case hk => exact rfl); (case he => exact rfl); (case hx => exact rfl); (case hh => exact rfl); (case hb => omega))))
  (repeat (first | (with_reducible apply XL.op) | ((with_reducible apply XOp.p1); (case hg | hv => exact rfl)) | ((with_reducible apply XOp.load); (case hg | ht | hk | hx => exact rfl); (case hc => exact own_cell (i := 0) rfl rfl)) | ((with_reducible apply XOp.load); (case hg | ht | hk | hx => exact rfl); (case hc => exact own_cell (i := 1) rfl rfl)) | (with_reducible apply XL.nilT) | (with_reducible apply XC.seq) | (with_reducible apply XC.region (Γ := Γ))))
  rw [e2]
  (first | ((with_reducible apply XOp.pr); (case hg => exact rfl); (case hr => (with_reducible apply PR.sliceTo); (case ht => exact rfl); (case hk => exact rfl); (case he => exact rfl); (case hx => exact rfl); (case hh => exact rfl); (case hb => omega))) | ((with_reducible apply XP.pr); (case ho => exact rfl); (case hg => exact rfl); (case hr => (with_reducible apply PR.sliceTo); (case ht => exact rfl); (case hk => exact rfl); (case he => exact rfl); (case hx => exact rfl); (case hh => exact rfl); (case hb => omega))))
  (repeat (first | (with_reducible apply XL.op) | ((with_reducible apply XOp.p1); (case hg | hv => exact rfl)) | (with_reducible apply XL.nilT) | (with_reducible apply XC.seq) | (with_reducible apply XC.region (Γ := Γ)) | (with_reducible apply XC.block)))
  refine XC.loopP (fun k ρ L => ∃ (j : Nat), j + k = 64 ∧ L = [VoB yb (.slice ab B.length cb') (.slice ap Ps.length cp'), VoB xb (.slice (some ⟨gb, 0, none⟩) B.length cb) (.slice (some ⟨gp, 0, none⟩) Ps.length cp)] ∧
      Slots ρ [(2, .pointer (some ⟨xb, 0, none⟩)), (3, .pointer (some ⟨yb, 0, none⟩)), (5, .slice (some ⟨gb, 0, none⟩) (B.length + 64) cb), (6, .slice (some ⟨gp, 0, none⟩) (Ps.length + 64) cp), (7, .int .i64 j)])
    64 ⟨0, by simp, rfl, rfl, rfl, rfl, rfl, rfl, trivial⟩ ?_
  rintro k ρ L ⟨j, hjk, rfl, hs⟩
  refine XC.slots _ hs ?_
  (repeat (first | (with_reducible apply XL.op) | ((with_reducible apply XOp.p1); (case hg | hv => exact rfl)) | (with_reducible apply XL.nilT) | (with_reducible apply XC.seq) | (with_reducible apply XC.region (Γ := Γ))))
  ((with_reducible apply XC.cond); (case hc => exact rfl); all_goals (intro hb_; try simp only [pd_true, pd_false, Bool.not_eq_true', Bool.not_eq_false', Bool.and_eq_true, Bool.and_eq_false_iff, Bool.or_eq_true, Bool.or_eq_false_iff, not_true_eq_false, not_false_eq_true, Int.not_lt, Int.not_le] at hb_))
  · have f1 : IntKind.i64.wrap ((B.length : Int) + ((j : Nat) : Int)) = ((B.length + j : Nat) : Int) := by rw [wrap64_of (by omega) (by omega)]; rfl
    have f2 : IntKind.i64.wrap ((Ps.length : Int) + ((j : Nat) : Int)) = ((Ps.length + j : Nat) : Int) := by rw [wrap64_of (by omega) (by omega)]; rfl
    have f3 : IntKind.u8.wrap (IntKind.i64.wrap (200 - ((j : Nat) : Int))) = 200 - (j : Int) := by rw [wrap64_of (by omega) (by omega), u8_of (by omega)]
    have f4 : IntKind.i64.wrap (0 - ((j : Nat) : Int)) = -(j : Int) := by rw [wrap64_of (by omega) (by omega)]; omega
    have g1 : (B ++ mB 64)[B.length + j]? = some (200 - (j : Int)) := by rw [List.getElem?_append_right (by omega), Nat.add_sub_cancel_left, mB_at (by omega)]
    have g2 : (Ps ++ mP 64)[Ps.length + j]? = some (-71, -(j : Int)) := by rw [List.getElem?_append_right (by omega), Nat.add_sub_cancel_left, mP_at (by omega)]
    have d1 : (B ++ mB 64)[B.length + j]?.getD 0 = 200 - (j : Int) := by rw [g1]; rfl
    (repeat (first | (with_reducible apply XL.op) | ((with_reducible apply XOp.p1); (case hg | hv => exact rfl)) | ((with_reducible apply XOp.load); (case hg | ht | hk | hx => exact rfl); (case hc => exact own_cell (i := 0) rfl rfl)) | ((with_reducible apply XOp.pr); (case hg => exact rfl); (case hr => ((with_reducible apply PR.idx); (case ht | hk | he | hx | hi => exact rfl); (case hr => first | assumption | omega)))) | (with_reducible apply XC.seq) | (with_reducible apply XC.region (Γ := Γ)) | (with_reducible apply XQ.skip) | (with_reducible apply XQ.nt) | (with_reducible apply XC.block)))
    rw [f1]
    (repeat (first | (with_reducible apply XL.op) | ((with_reducible apply XOp.p1); (case hg | hv => exact rfl)) | (first | ((with_reducible apply XOp.load); (case hg | ht | hk | hx => exact rfl); (case hc => exact Known.of_old (hB.int (B.length + j) (by rw [List.length_append, mB_len]; omega)).1 (Mono.cell _ _))) | ((with_reducible apply XP.load); (case ho | hg | ht | hk | hx => exact rfl); (case hc => exact Known.of_old (hB.int (B.length + j) (by rw [List.length_append, mB_len]; omega)).1 (Mono.cell _ _))))))
    rw [d1, f3]
    (repeat (first | (with_reducible apply XL.op) | ((with_reducible apply XOp.p1); (case hg | hv => exact rfl)) | ((with_reducible apply XOp.load); (case hg | ht | hk | hx => exact rfl); (case hc => exact own_cell (i := 0) rfl rfl)) | ((with_reducible apply XOp.pr); (case hg => exact rfl); (case hr => ((with_reducible apply PR.idx); (case ht | hk | he | hx | hi => exact rfl); (case hr => first | assumption | omega)))) | (first | ((with_reducible apply XOp.split); (case hg | hj | hd | hb => exact rfl); (fail_if_success (case hf => exact fun h => Bool.noConfusion h)); (fail_if_success (case ht => exact fun h => Bool.noConfusion h)); (first | (case ht => intro hb_; try simp only [pd_true, pd_false, Bool.not_eq_true', Bool.not_eq_false', Bool.and_eq_true, Bool.and_eq_false_iff, Bool.or_eq_true, Bool.or_eq_false_iff, not_true_eq_false, not_false_eq_true, Int.not_lt, Int.not_le] at hb_; first | done | (exfalso; first | omega | contradiction)) | (case hf => intro hb_; try simp only [pd_true, pd_false, Bool.not_eq_true', Bool.not_eq_false', Bool.and_eq_true, Bool.and_eq_false_iff, Bool.or_eq_true, Bool.or_eq_false_iff, not_true_eq_false, not_false_eq_true, Int.not_lt, Int.not_le] at hb_; first | done | (exfalso; first | omega | contradiction))); intro hb_; try simp only [pd_true, pd_false, Bool.not_eq_true', Bool.not_eq_false', Bool.and_eq_true, Bool.and_eq_false_iff, Bool.or_eq_true, Bool.or_eq_false_iff, not_true_eq_false, not_false_eq_true, Int.not_lt, Int.not_le] at hb_) | ((with_reducible apply XP.split); (case ho | hg | hj | hd | hb => exact rfl); (fail_if_success (case hf => exact fun h => Bool.noConfusion h)); (fail_if_success (case ht => exact fun h => Bool.noConfusion h)); (first | (case ht => intro hb_; try simp only [pd_true, pd_false, Bool.not_eq_true', Bool.not_eq_false', Bool.and_eq_true, Bool.and_eq_false_iff, Bool.or_eq_true, Bool.or_eq_false_iff, not_true_eq_false, not_false_eq_true, Int.not_lt, Int.not_le] at hb_; first | done | (exfalso; first | omega | contradiction)) | (case hf => intro hb_; try simp only [pd_true, pd_false, Bool.not_eq_true', Bool.not_eq_false', Bool.and_eq_true, Bool.and_eq_false_iff, Bool.or_eq_true, Bool.or_eq_false_iff, not_true_eq_false, not_false_eq_true, Int.not_lt, Int.not_le] at hb_; first | done | (exfalso; first | omega | contradiction))); intro hb_; try simp only [pd_true, pd_false, Bool.not_eq_true', Bool.not_eq_false', Bool.and_eq_true, Bool.and_eq_false_iff, Bool.or_eq_true, Bool.or_eq_false_iff, not_true_eq_false, not_false_eq_true, Int.not_lt, Int.not_le] at hb_) | ((with_reducible apply XC.cond); (case hc => exact rfl); (first | (case ht => intro hb_; try simp only [pd_true, pd_false, Bool.not_eq_true', Bool.not_eq_false', Bool.and_eq_true, Bool.and_eq_false_iff, Bool.or_eq_true, Bool.or_eq_false_iff, not_true_eq_false, not_false_eq_true, Int.not_lt, Int.not_le] at hb_; first | done | (exfalso; first | omega | contradiction)) | (case hf => intro hb_; try simp only [pd_true, pd_false, Bool.not_eq_true', Bool.not_eq_false', Bool.and_eq_true, Bool.and_eq_false_iff, Bool.or_eq_true, Bool.or_eq_false_iff, not_true_eq_false, not_false_eq_true, Int.not_lt, Int.not_le] at hb_; first | done | (exfalso; first | omega | contradiction))); intro hb_; try simp only [pd_true, pd_false, Bool.not_eq_true', Bool.not_eq_false', Bool.and_eq_true, Bool.and_eq_false_iff, Bool.or_eq_true, Bool.or_eq_false_iff, not_true_eq_false, not_false_eq_true, Int.not_lt, Int.not_le] at hb_))))
    rw [f2]
    (repeat (first | (with_reducible apply XL.op) | ((with_reducible apply XOp.p1); (case hg | hv => exact rfl)) | (with_reducible apply XL.nilT) | (first | ((with_reducible apply XOp.loadN); (case hg | ht | hk | hx => exact rfl); (case hc => exact Known.of_old (hP.rawAt g2) (Mono.row _ _ _)); (case hl => exact rfl)) | ((with_reducible apply XP.loadN); (case ho | hg | ht | hk | hx => exact rfl); (case hc => exact Known.of_old (hP.rawAt g2) (Mono.row _ _ _)); (case hl => exact rfl))) | (first | ((with_reducible apply XOp.pr); (case hg => exact rfl); (case hr => (with_reducible apply PR.buildA); (case ht => exact rfl); (case hk => exact rfl); (case he => exact rfl); (case hz => exact rfl); (case hf => exact rfl))) | ((with_reducible apply XP.pr); (case ho => exact rfl); (case hg => exact rfl); (case hr => (with_reducible apply PR.buildA); (case ht => exact rfl); (case hk => exact rfl); (case he => exact rfl); (case hz => exact rfl); (case hf => exact rfl)))) | (first | (first | ((with_reducible apply XOp.pr); (case hg => exact rfl); (case hr => (with_reducible apply PR.eqArr (xs := [-71, -(j : Int)]) (ys := [-71, IntKind.i64.wrap (0 - ((j : Nat) : Int))])); (case hm => kernel_rfl); (case ht => exact rfl); (case hk => exact rfl); (case he => exact rfl); (case hek => exact rfl); (case hes => exact rfl); (case hl => exact ⟨rfl, rfl⟩); (case hx => exact rfl); (case hy => exact rfl))) | ((with_reducible apply XP.pr); (case ho => exact rfl); (case hg => exact rfl); (case hr => (with_reducible apply PR.eqArr (xs := [-71, -(j : Int)]) (ys := [-71, IntKind.i64.wrap (0 - ((j : Nat) : Int))])); (case hm => kernel_rfl); (case ht => exact rfl); (case hk => exact rfl); (case he => exact rfl); (case hek => exact rfl); (case hes => exact rfl); (case hl => exact ⟨rfl, rfl⟩); (case hx => exact rfl); (case hy => exact rfl)))) | (first | ((with_reducible apply XOp.pr); (case hg => exact rfl); (case hr => (with_reducible apply PR.neqArr (xs := [-71, -(j : Int)]) (ys := [-71, IntKind.i64.wrap (0 - ((j : Nat) : Int))])); (case hm => kernel_rfl); (case ht => exact rfl); (case hk => exact rfl); (case he => exact rfl); (case hek => exact rfl); (case hes => exact rfl); (case hl => exact ⟨rfl, rfl⟩); (case hx => exact rfl); (case hy => exact rfl))) | ((with_reducible apply XP.pr); (case ho => exact rfl); (case hg => exact rfl); (case hr => (with_reducible apply PR.neqArr (xs := [-71, -(j : Int)]) (ys := [-71, IntKind.i64.wrap (0 - ((j : Nat) : Int))])); (case hm => kernel_rfl); (case ht => exact rfl); (case hk => exact rfl); (case he => exact rfl); (case hek => exact rfl); (case hes => exact rfl); (case hl => exact ⟨rfl, rfl⟩); (case hx => exact rfl); (case hy => exact rfl)))))))
    rw [f4, pdt (rfl : [(-71 : Int), -(j : Int)] = [-71, -(j : Int)])]
    (repeat (first | (with_reducible apply XL.op) | ((with_reducible apply XOp.p1); (case hg | hv => exact rfl)) | (with_reducible apply XL.nilT) | (with_reducible apply XC.region (Γ := Γ)) | (with_reducible apply XQ.skip) | (with_reducible apply XQ.nt) | (with_reducible apply XQ.nb) | ((with_reducible apply XC.condF); (case hc => exact rfl))))
    exact ⟨k - 1, by omega, _, .of (List.Sublist.refl _), j + 1, by omega, rfl, rfl, rfl, rfl, rfl, intS (m := 64) (by omega) (by omega), trivial⟩
  (repeat (first | (with_reducible apply XL.op) | ((with_reducible apply XOp.p1); (case hg | hv => exact rfl)) | (with_reducible apply XL.nilT) | (with_reducible apply XC.seq) | (with_reducible apply XC.region (Γ := Γ)) | (with_reducible apply XQ.ret) | (with_reducible apply XQ.exit) | (with_reducible apply XQ.nt) | (with_reducible apply XQ.et) | ((with_reducible apply XQ.eb); (case hb => exact rfl))))
  ((with_reducible apply XQ.retE); (case hr => exact .t rfl .nil))
  rfl
end Go.Proofs.YtopdcegeffnelaaGreatDoorX
/- Bytes of one's own, as a list. -/
namespace Go.Proofs.YtopdcegeffnelaaGreatDoorX
open Go Go.SX
theorem own_u8 {e m : Nat} {a : Option Addr} {c : Nat} {xs : List Int} {F : HL} (h : OwnS e 1 (.slice a m c) m (xs.map (.int .u8)) F) (hk : ∀ x ∈ xs, inK .u8 x) (hb : xs.length * 1 ≤ 140737488355328) : SlA (Kd.int .u8) 1 (fv F) xs a c := by
  obtain ⟨a1, c1, he, _, hS⟩ := h.slA (by_ := 1) hk hb
  obtain ⟨rfl, -, rfl⟩ := Value.slice.inj he
  exact hS
end Go.Proofs.YtopdcegeffnelaaGreatDoorX
/- Which vocabularies may be: the program's (the tokens' pieces, put together). -/
namespace Go.Proofs.YtopdcegeffnelaaGreatDoorX
open Go Go.SX

theorem slA_nil {α : Type} {d : Kd α} {by_ : Nat} {h : HV} : SlA d by_ h [] none 0 := ⟨by simp, by simp, fun _ => rfl, fun h => absurd h (by simp), fun i x h => by simp at h⟩
def PcsR (V : Voc) (v : Value) (L : HL) : Prop :=
  (¬ vocOk V ∧ v = .slice none 0 0 ∧ L = []) ∨ (vocOk V ∧ ∃ g c, v = .slice (some ⟨g, 0, none⟩) V.size c ∧ L = [])
/-- Pieces that a call has made: their places lie in Fh. -/
def PcAt (l : List (LA Int)) (Fh : HL) : Prop := ∀ x ∈ l, ∃ F : HL, (∀ z ∈ F, z ∈ Fh) ∧ SlA (Kd.int .u8) 1 (fv F) x.1 x.2.1 x.2.2
abbrev laC (x : LA Int) : List Value := [sla x]
theorem PcAt.mono {l : List (LA Int)} {F G : HL} (h : PcAt l F) (s : ∀ z ∈ F, z ∈ G) : PcAt l G := fun x hx => by
  obtain ⟨A, hA, hS⟩ := h x hx
  exact ⟨A, fun z hz => s z (hA z hz), hS⟩
theorem PcAt.snoc {l : List (LA Int)} {x : LA Int} {F A : HL} (h : PcAt l F) (hs : SlA (Kd.int .u8) 1 (fv A) x.1 x.2.1 x.2.2) : PcAt (l ++ [x]) (A ++ F) := fun y hy => by
  rcases List.mem_append.1 hy with hy | hy
  · obtain ⟨B, hB, hS⟩ := h y hy
    exact ⟨B, fun z hz => List.mem_append_right _ (hB z hz), hS⟩
  · rw [List.mem_singleton.1 hy]
    exact ⟨A, fun z hz => List.mem_append_left _ hz, hs⟩
theorem flat_la (l : List (LA Int)) : l.flatMap laC = l.map sla := by
  induction l with
  | nil => rfl
  | cons y l ih => rw [List.flatMap_cons, ih]; rfl
def mapB (b : Nat) (ob : Obj) : Nat × Obj := (b, ob)
set_option maxHeartbeats 32000000 in
theorem pieces_fn (x : LVo) : FC Tryz.prog 60 [.agg ⟨x.cells⟩] [] (fun h => voAt h x) (fun v L => PcsR x.voc v L) := by
  refine FC.sub2 ?_
  obtain ⟨⟨B, ab, cb⟩, ⟨Ps, ap, cp⟩⟩ := x
  show FC _ _ _ _ _ (fun v L => ∃ L'', Sub2 L'' L ∧ PcsR ⟨B, Ps⟩ v L'')
  refine FC.intro Tryz.func60 rfl (by kernel_rfl) 131 [.tmp 2] rfl rfl rfl ?_
  intro w0 hA
  have hB := hA.b
  have hP := hA.p
  have hbs := hA.bs
  have hps := hA.ps
  change SlA (Kd.int .u8) 1 _ B ab cb at hB
  change SlA turnK 16 _ Ps ap cp at hP
  change B.length ≤ _ at hbs
  change Ps.length * 16 ≤ _ at hps
  have hat := hP.at_
  have ew : IntKind.i64.wrap (IntKind.i64.wrap (1 + (B.length : Int)) + (Ps.length : Int)) = ((1 + B.length + Ps.length : Nat) : Int) := by rw [wrap64_of (x := 1 + (B.length : Int)) (by omega) (by omega), wrap64_of (by omega) (by omega)]; omega
  (repeat (first | (with_reducible apply XL.op) | (with_reducible apply XC.seq) | (with_reducible apply XC.region (Γ := Γ))))
  ((with_reducible apply XOp.box); (case hg | hx' => exact rfl); intro ub)
  (repeat (first | (with_reducible apply XL.op) | ((with_reducible apply XOp.p1); (case hg | hv => exact rfl)) | ((with_reducible apply XOp.load); (case hg | ht | hk | hx => exact rfl); (case hc => exact own_cell (i := 0) rfl rfl)) | (with_reducible apply XL.nilT) | (with_reducible apply XC.seq) | (with_reducible apply XC.region (Γ := Γ))))
  rw [ew]
  by_cases hz : (1 ≤ B.length ∧ B.length ≤ 48) ∧ 1 + B.length + Ps.length ≤ 64
  rotate_left
  · rcases (by omega : B.length < 1 ∨ (1 ≤ B.length ∧ 48 < B.length) ∨ (1 ≤ B.length ∧ B.length ≤ 48 ∧ 64 < 1 + B.length + Ps.length)) with h1 | ⟨h1, h2⟩ | ⟨h1, h2, h3⟩
    all_goals ((repeat (first | (with_reducible apply XL.op) | ((with_reducible apply XOp.p1); (case hg | hv => exact rfl)) | ((with_reducible apply XOp.p0); (case hg => exact rfl)) | ((with_reducible apply XOp.load); (case hg | ht | hk | hx => exact rfl); (case hc => exact own_cell (i := 0) rfl rfl)) | (with_reducible apply XL.nilT) | (with_reducible apply XC.seq) | (with_reducible apply XC.region (Γ := Γ)) | (with_reducible apply XQ.ret) | (with_reducible apply XQ.rt) | ((with_reducible apply XC.condT); (case hc => exact rfl)) | (first | ((with_reducible apply XOp.split); (case hg | hj | hd | hb => exact rfl); (fail_if_success (case hf => exact fun h => Bool.noConfusion h)); (fail_if_success (case ht => exact fun h => Bool.noConfusion h)); (first | (case ht => intro hb_; try simp only [pd_true, pd_false, Bool.not_eq_true', Bool.not_eq_false', Bool.and_eq_true, Bool.and_eq_false_iff, Bool.or_eq_true, Bool.or_eq_false_iff, not_true_eq_false, not_false_eq_true, Int.not_lt, Int.not_le] at hb_; first | done | (exfalso; first | omega | contradiction)) | (case hf => intro hb_; try simp only [pd_true, pd_false, Bool.not_eq_true', Bool.not_eq_false', Bool.and_eq_true, Bool.and_eq_false_iff, Bool.or_eq_true, Bool.or_eq_false_iff, not_true_eq_false, not_false_eq_true, Int.not_lt, Int.not_le] at hb_; first | done | (exfalso; first | omega | contradiction))); intro hb_; try simp only [pd_true, pd_false, Bool.not_eq_true', Bool.not_eq_false', Bool.and_eq_true, Bool.and_eq_false_iff, Bool.or_eq_true, Bool.or_eq_false_iff, not_true_eq_false, not_false_eq_true, Int.not_lt, Int.not_le] at hb_) | ((with_reducible apply XP.split); (case ho | hg | hj | hd | hb => exact rfl); (fail_if_success (case hf => exact fun h => Bool.noConfusion h)); (fail_if_success (case ht => exact fun h => Bool.noConfusion h)); (first | (case ht => intro hb_; try simp only [pd_true, pd_false, Bool.not_eq_true', Bool.not_eq_false', Bool.and_eq_true, Bool.and_eq_false_iff, Bool.or_eq_true, Bool.or_eq_false_iff, not_true_eq_false, not_false_eq_true, Int.not_lt, Int.not_le] at hb_; first | done | (exfalso; first | omega | contradiction)) | (case hf => intro hb_; try simp only [pd_true, pd_false, Bool.not_eq_true', Bool.not_eq_false', Bool.and_eq_true, Bool.and_eq_false_iff, Bool.or_eq_true, Bool.or_eq_false_iff, not_true_eq_false, not_false_eq_true, Int.not_lt, Int.not_le] at hb_; first | done | (exfalso; first | omega | contradiction))); intro hb_; try simp only [pd_true, pd_false, Bool.not_eq_true', Bool.not_eq_false', Bool.and_eq_true, Bool.and_eq_false_iff, Bool.or_eq_true, Bool.or_eq_false_iff, not_true_eq_false, not_false_eq_true, Int.not_lt, Int.not_le] at hb_) | ((with_reducible apply XC.cond); (case hc => exact rfl); (first | (case ht => intro hb_; try simp only [pd_true, pd_false, Bool.not_eq_true', Bool.not_eq_false', Bool.and_eq_true, Bool.and_eq_false_iff, Bool.or_eq_true, Bool.or_eq_false_iff, not_true_eq_false, not_false_eq_true, Int.not_lt, Int.not_le] at hb_; first | done | (exfalso; first | omega | contradiction)) | (case hf => intro hb_; try simp only [pd_true, pd_false, Bool.not_eq_true', Bool.not_eq_false', Bool.and_eq_true, Bool.and_eq_false_iff, Bool.or_eq_true, Bool.or_eq_false_iff, not_true_eq_false, not_false_eq_true, Int.not_lt, Int.not_le] at hb_; first | done | (exfalso; first | omega | contradiction))); intro hb_; try simp only [pd_true, pd_false, Bool.not_eq_true', Bool.not_eq_false', Bool.and_eq_true, Bool.and_eq_false_iff, Bool.or_eq_true, Bool.or_eq_false_iff, not_true_eq_false, not_false_eq_true, Int.not_lt, Int.not_le] at hb_)))))
    all_goals ((with_reducible apply XQ.retE); (case hr => exact .t rfl .nil))
    all_goals exact ⟨[], .of (List.nil_sublist _), .inl ⟨fun h => hz ⟨⟨h.1, h.2.1⟩, h.2.2.1⟩, rfl, rfl⟩⟩
  obtain ⟨⟨hz1, hz2⟩, hz3⟩ := hz
  (repeat (first | (with_reducible apply XL.op) | ((with_reducible apply XOp.p1); (case hg | hv => exact rfl)) | ((with_reducible apply XOp.load); (case hg | ht | hk | hx => exact rfl); (case hc => exact own_cell (i := 0) rfl rfl)) | (with_reducible apply XL.nilT) | (with_reducible apply XC.seq) | (with_reducible apply XC.region (Γ := Γ)) | (with_reducible apply XQ.skip) | (with_reducible apply XQ.nt) | (first | ((with_reducible apply XOp.split); (case hg | hj | hd | hb => exact rfl); (fail_if_success (case hf => exact fun h => Bool.noConfusion h)); (fail_if_success (case ht => exact fun h => Bool.noConfusion h)); (first | (case ht => intro hb_; try simp only [pd_true, pd_false, Bool.not_eq_true', Bool.not_eq_false', Bool.and_eq_true, Bool.and_eq_false_iff, Bool.or_eq_true, Bool.or_eq_false_iff, not_true_eq_false, not_false_eq_true, Int.not_lt, Int.not_le] at hb_; first | done | (exfalso; first | omega | contradiction)) | (case hf => intro hb_; try simp only [pd_true, pd_false, Bool.not_eq_true', Bool.not_eq_false', Bool.and_eq_true, Bool.and_eq_false_iff, Bool.or_eq_true, Bool.or_eq_false_iff, not_true_eq_false, not_false_eq_true, Int.not_lt, Int.not_le] at hb_; first | done | (exfalso; first | omega | contradiction))); intro hb_; try simp only [pd_true, pd_false, Bool.not_eq_true', Bool.not_eq_false', Bool.and_eq_true, Bool.and_eq_false_iff, Bool.or_eq_true, Bool.or_eq_false_iff, not_true_eq_false, not_false_eq_true, Int.not_lt, Int.not_le] at hb_) | ((with_reducible apply XP.split); (case ho | hg | hj | hd | hb => exact rfl); (fail_if_success (case hf => exact fun h => Bool.noConfusion h)); (fail_if_success (case ht => exact fun h => Bool.noConfusion h)); (first | (case ht => intro hb_; try simp only [pd_true, pd_false, Bool.not_eq_true', Bool.not_eq_false', Bool.and_eq_true, Bool.and_eq_false_iff, Bool.or_eq_true, Bool.or_eq_false_iff, not_true_eq_false, not_false_eq_true, Int.not_lt, Int.not_le] at hb_; first | done | (exfalso; first | omega | contradiction)) | (case hf => intro hb_; try simp only [pd_true, pd_false, Bool.not_eq_true', Bool.not_eq_false', Bool.and_eq_true, Bool.and_eq_false_iff, Bool.or_eq_true, Bool.or_eq_false_iff, not_true_eq_false, not_false_eq_true, Int.not_lt, Int.not_le] at hb_; first | done | (exfalso; first | omega | contradiction))); intro hb_; try simp only [pd_true, pd_false, Bool.not_eq_true', Bool.not_eq_false', Bool.and_eq_true, Bool.and_eq_false_iff, Bool.or_eq_true, Bool.or_eq_false_iff, not_true_eq_false, not_false_eq_true, Int.not_lt, Int.not_le] at hb_) | ((with_reducible apply XC.cond); (case hc => exact rfl); (first | (case ht => intro hb_; try simp only [pd_true, pd_false, Bool.not_eq_true', Bool.not_eq_false', Bool.and_eq_true, Bool.and_eq_false_iff, Bool.or_eq_true, Bool.or_eq_false_iff, not_true_eq_false, not_false_eq_true, Int.not_lt, Int.not_le] at hb_; first | done | (exfalso; first | omega | contradiction)) | (case hf => intro hb_; try simp only [pd_true, pd_false, Bool.not_eq_true', Bool.not_eq_false', Bool.and_eq_true, Bool.and_eq_false_iff, Bool.or_eq_true, Bool.or_eq_false_iff, not_true_eq_false, not_false_eq_true, Int.not_lt, Int.not_le] at hb_; first | done | (exfalso; first | omega | contradiction))); intro hb_; try simp only [pd_true, pd_false, Bool.not_eq_true', Bool.not_eq_false', Bool.and_eq_true, Bool.and_eq_false_iff, Bool.or_eq_true, Bool.or_eq_false_iff, not_true_eq_false, not_false_eq_true, Int.not_lt, Int.not_le] at hb_))))
  ((with_reducible apply XOp.make (k := 1) (c := 1 + B.length + Ps.length)); (case hg => exact rfl); (case ht => exact rfl); (case hk => exact rfl); (case he => exact rfl); (case hz => exact rfl); (case hzl => exact rfl); (case hx => exact rfl); (case hy => exact rfl); (case hkc => omega); (case hb => simp only []; omega); (case h63 => omega); intro ob)
  (repeat (first | (with_reducible apply XL.op) | ((with_reducible apply XOp.p1); (case hg | hv => exact rfl)) | (with_reducible apply XL.nilT) | (with_reducible apply XC.seq) | (with_reducible apply XC.region (Γ := Γ))))
  ((with_reducible apply XOp.makeMapG (Value.int .u8)); (case hg => exact rfl); intro kb kob hk0)
  (repeat (first | (with_reducible apply XL.op) | ((with_reducible apply XOp.p1); (case hg | hv => exact rfl)) | ((with_reducible apply XOp.load); (case hg | ht | hk | hx => exact rfl); (case hc => exact own_cell (i := 2) rfl rfl)) | (with_reducible apply XL.nilT) | (with_reducible apply XC.seq) | (with_reducible apply XC.region (Γ := Γ)) | (with_reducible apply XC.block)))
  have ez : zerosL [.slice none 0 0] (1 + B.length + Ps.length) = [.slice none 0 0] ++ zerosL [.slice none 0 0] (B.length + Ps.length) := by rw [show 1 + B.length + Ps.length = (B.length + Ps.length) + 1 by omega]; rfl
  rw [ez]
  refine XC.perm (L' := ([(kb, kob), VoB ub (.slice ab B.length cb) (.slice ap Ps.length cp)] ++ []) ++ [(ob, Obj.cells ⟨[.slice none 0 0] ++ zerosL [.slice none 0 0] (B.length + Ps.length)⟩ 32 (0, 0))]) ?_ (show List.Perm [(kb, kob), (ob, Obj.cells ⟨[.slice none 0 0] ++ zerosL [.slice none 0 0] (B.length + Ps.length)⟩ 32 (0, 0)), VoB ub (.slice ab B.length cb) (.slice ap Ps.length cp)] _ by (first | (with_reducible exact List.Perm.refl _) | refine perm_of_cnt fun p_ => ?_; simp only [List.countP_append, List.countP_cons, List.countP_nil]; omega))
  refine XC.loopP (fun k ρ L => ∃ (i : Nat) (v : Value) (l : List (LA Int)) (kob : Obj) (m : Int → Option Int) (Fo Fh : HL), i + k = B.length ∧ (B.take i).Nodup ∧ MapG (Value.int .u8) kob m ∧ (∀ y, m y ≠ none ↔ y ∈ B.take i) ∧
      OwnS 32 1 v (i + 1) (l.flatMap laC) Fo ∧ l.map (·.1) = [] :: (B.take i).map (fun b => [b]) ∧ PcAt l Fh ∧ L = ([(kb, kob), VoB ub (.slice ab B.length cb) (.slice ap Ps.length cp)] ++ Fh) ++ Fo ∧
      Slots ρ [(0, .agg ⟨[.slice ab B.length cb, .slice ap Ps.length cp]⟩), (1, .pointer (some ⟨ub, 0, none⟩)), (3, .int .i64 ((1 + B.length + Ps.length : Nat) : Int)), (4, v), (5, .map (some kb)), (43, .slice ab B.length cb), (44, .int .i64 B.length), (45, .int .i64 i)])
    B.length ⟨0, _, [([], none, 0)], kob, _, _, [], by simp, by simp, hk0, by simp, ⟨rfl, .inr ⟨ob, 1 + B.length + Ps.length, zerosL [.slice none 0 0] (B.length + Ps.length), rfl, rfl, by omega, by simp only [maxLen]; omega, by simp [zerosL_length]; omega⟩⟩, rfl, (fun x hx => by rw [List.mem_singleton.1 hx]; exact ⟨[], by simp, slA_nil⟩), rfl, rfl, rfl, rfl, rfl, rfl, rfl, rfl, rfl, trivial⟩ ?_
  rintro k ρ L ⟨i, v, l, kob, m, Fo, Fh, hik, hnd, hm, hmd, hown, hl, hpc, rfl, hs⟩
  obtain ⟨va, vc, rfl⟩ := hown.val
  refine XC.slots _ hs ?_
  (repeat (first | (with_reducible apply XL.op) | ((with_reducible apply XOp.p1); (case hg | hv => exact rfl)) | (with_reducible apply XL.nilT) | (with_reducible apply XC.seq) | (with_reducible apply XC.region (Γ := Γ))))
  ((with_reducible apply XC.cond); (case hc => exact rfl); all_goals (intro hb_; try simp only [pd_true, pd_false, Bool.not_eq_true', Bool.not_eq_false', Bool.and_eq_true, Bool.and_eq_false_iff, Bool.or_eq_true, Bool.or_eq_false_iff, not_true_eq_false, not_false_eq_true, Int.not_lt, Int.not_le] at hb_))
  · obtain ⟨z, hi⟩ : ∃ z, B[i]? = some z := ⟨_, List.getElem?_eq_getElem (by omega)⟩
    have hc := hB.int i (by omega)
    rw [hi] at hc
    change cellv _ _ = some (.int .u8 z) ∧ inK .u8 z at hc
    obtain ⟨hc, hzk⟩ := hc
    (repeat (first | (with_reducible apply XL.op) | ((with_reducible apply XOp.p1); (case hg | hv => exact rfl)) | ((with_reducible apply XOp.pr); (case hg => exact rfl); (case hr => ((with_reducible apply PR.idxA); (case ht | hk | he | hx | hi => exact rfl); (case hr => first | assumption | omega); (case ha => first | assumption | exact SlA.at_ (by assumption))))) | (with_reducible apply XL.nilT) | (with_reducible apply XC.seq) | (with_reducible apply XC.region (Γ := Γ)) | (with_reducible apply XQ.skip) | (with_reducible apply XQ.nt) | (with_reducible apply XC.block) | (first | ((with_reducible apply XOp.load); (case hg | ht | hk | hx => exact rfl); (case hc => exact Known.of_old hc (Mono.cell _ _))) | ((with_reducible apply XP.load); (case ho | hg | ht | hk | hx => exact rfl); (case hc => exact Known.of_old hc (Mono.cell _ _)))) | (first | ((with_reducible apply XOp.pr); (case hg => exact rfl); (case hr => (with_reducible apply PR.lookupG (i := 0) (kv := Value.int .u8) (k := z)); (case ht => exact rfl); (case hk => exact rfl); (case he => exact rfl); (case hz => exact rfl); (case hx => exact rfl); (case hi => exact rfl); (case hL => exact rfl); (case hK => exact Keys.int Tryz.underlying5); (case hm => exact hm))) | ((with_reducible apply XP.pr); (case ho => exact rfl); (case hg => exact rfl); (case hr => (with_reducible apply PR.lookupG (i := 0) (kv := Value.int .u8) (k := z)); (case ht => exact rfl); (case hk => exact rfl); (case he => exact rfl); (case hz => exact rfl); (case hx => exact rfl); (case hi => exact rfl); (case hL => exact rfl); (case hK => exact Keys.int Tryz.underlying5); (case hm => exact hm))))))
    ((with_reducible apply XC.cond); (case hc => exact rfl); all_goals (intro hb_; try simp only [pd_true, pd_false, Bool.not_eq_true', Bool.not_eq_false', Bool.and_eq_true, Bool.and_eq_false_iff, Bool.or_eq_true, Bool.or_eq_false_iff, not_true_eq_false, not_false_eq_true, Int.not_lt, Int.not_le] at hb_))
    · (repeat (first | (with_reducible apply XL.op) | ((with_reducible apply XOp.p1); (case hg | hv => exact rfl)) | (with_reducible apply XL.nilT) | (with_reducible apply XC.seq) | (with_reducible apply XC.region (Γ := Γ)) | (with_reducible apply XQ.ret) | (with_reducible apply XQ.rt) | (with_reducible apply XQ.rb)))
      ((with_reducible apply XQ.retE); (case hr => exact .t rfl .nil))
      exact ⟨[], .of (List.nil_sublist _), .inl ⟨fun h => ((nodup_take_succ hi).1 (nodup_take h.2.2.2.1 (i + 1))).2 ((hmd z).1 hb_), rfl, rfl⟩⟩
    have hmz : m z = none := Classical.not_not.1 hb_
    (repeat (first | (with_reducible apply XL.op) | ((with_reducible apply XOp.p1); (case hg | hv => exact rfl)) | (with_reducible apply XC.seq) | (with_reducible apply XC.region (Γ := Γ)) | (with_reducible apply XQ.skip) | (with_reducible apply XQ.nt)))
    ((with_reducible apply XOp.mapNewG (i := 0) (kv := Value.int .u8) (k := z)); (case hg => exact rfl); (case ht => exact rfl); (case hk => exact rfl); (case hx => exact rfl); (case hy => exact rfl); (case hz => exact rfl); (case hL => exact rfl); (case hK => exact Keys.int Tryz.underlying5); (case hm => exact hm); (case hn => exact hmz))
    intro kob2 hm2
    (repeat (first | (with_reducible apply XL.op) | ((with_reducible apply XOp.p1); (case hg | hv => exact rfl)) | (with_reducible apply XL.nilT) | (with_reducible apply XC.region (Γ := Γ))))
    ((with_reducible apply XOp.buildSlice); (case hg | ht | hk | he | hz | hzl | hf => exact rfl); intro pb)
    (repeat ((with_reducible apply XL.op)))
    ((with_reducible apply XOp.buildSlice); (case hg | ht | hk | he | hz | hzl | hf => exact rfl); intro qb)
    (repeat ((with_reducible apply XL.op)))
    (refine (show XOp _ _ _ _ _ _ _ _ ((qb, Obj.cells ⟨[.slice (some ⟨pb, 0, none⟩) 1 1]⟩ 32 (0, 0)) :: (pb, Obj.cells ⟨[.int .u8 z]⟩ 5 (0, 0)) :: (([(kb, kob2), VoB ub (.slice ab B.length cb) (.slice ap Ps.length cp)] ++ Fh) ++ Fo)) from XOp.perm (L' :=  (qb, Obj.cells ⟨[.slice (some ⟨pb, 0, none⟩) 1 1]⟩ 32 (0, 0)) :: (([(kb, kob2), VoB ub (.slice ab B.length cb) (.slice ap Ps.length cp)] ++ ((pb, Obj.cells ⟨[.int .u8 z]⟩ 5 (0, 0)) :: Fh)) ++ Fo)) rfl ?_ (by (first | (with_reducible exact List.Perm.refl _) | refine perm_of_cnt fun p_ => ?_; simp only [List.countP_append, List.countP_cons, List.countP_nil]; omega))))
    ((with_reducible apply XOp.append1R (R := [(kb, kob2), VoB ub (.slice ab B.length cb) (.slice ap Ps.length cp)] ++ ((pb, Obj.cells ⟨[.int .u8 z]⟩ 5 (0, 0)) :: Fh))); (case hg => exact rfl); (case ht => exact rfl); (case hk => exact rfl); (case he => exact rfl); (case hown => exact hown); (case hs => exact rfl); (case hx => exact rfl); (case hL => exact rfl); (case hl => exact rfl); (case h1 => exact rfl); (case hz => exact rfl); (case hsz => exact Nat.zero_lt_succ _); (case hk0 => exact Nat.zero_lt_succ _); (case h63 => simp only [maxLen]; omega); (case hb => simp only []; omega); intro v_ F_ hown_; obtain ⟨a_, c_, rfl⟩ := hown_.val)
    (repeat (first | (with_reducible apply XL.op) | ((with_reducible apply XOp.p1); (case hg | hv => exact rfl)) | (with_reducible apply XL.nilT) | (with_reducible apply XC.region (Γ := Γ)) | (with_reducible apply XL.nilQ) | (with_reducible apply XQ.nt) | (with_reducible apply XQ.nb)))
    refine ⟨k - 1, by omega, _, .of (List.Sublist.refl _), i + 1, _, l ++ [([z], some ⟨pb, 0, none⟩, 1)], kob2, _, F_, (pb, Obj.cells ⟨[.int .u8 z]⟩ 5 (0, 0)) :: Fh, by omega, (nodup_take_succ hi).2 ⟨hnd, fun hzm => (hmd z).2 hzm hmz⟩, hm2, ?_, hown_.conv rfl (by rw [List.flatMap_append]; simp [zerosL]), by rw [List.map_append, hl, take_snocD hi]; simp, hpc.snoc (A := [(pb, Obj.cells ⟨[.int .u8 z]⟩ 5 (0, 0))]) (own_u8 ⟨rfl, .inr ⟨pb, 1, [], rfl, rfl, Nat.le_refl _, by simp [maxLen], rfl⟩⟩ (by simpa using hzk) (by simp)), rfl, rfl, rfl, rfl, rfl, rfl, rfl, rfl, intS (m := B.length) (by omega) (by omega), trivial⟩
    intro y
    rw [take_snocD hi, List.mem_append, List.mem_singleton]
    by_cases hy : y = z
    · subst hy; simp
    · rw [if_neg hy]; rw [hmd y]; simp [hy]
  obtain rfl : i = B.length := by omega
  rw [List.take_length] at hl hnd
  clear hs hik hm hmd
  (repeat (first | (with_reducible apply XL.op) | (with_reducible apply XC.seq) | (with_reducible apply XC.region (Γ := Γ)) | (with_reducible apply XQ.exit) | (with_reducible apply XQ.nt) | (with_reducible apply XQ.et) | ((with_reducible apply XQ.eb); (case hb => exact rfl))))
  ((with_reducible apply XOp.makeMapG (pairV)); (case hg => exact rfl); intro pb pob hp0)
  (repeat (first | (with_reducible apply XL.op) | ((with_reducible apply XOp.p1); (case hg | hv => exact rfl)) | ((with_reducible apply XOp.load); (case hg | ht | hk | hx => exact rfl); (case hc => exact own_cell (i := 2) rfl rfl)) | (with_reducible apply XL.nilT) | (with_reducible apply XC.seq) | (with_reducible apply XC.region (Γ := Γ)) | (with_reducible apply XC.block)))
  refine XC.loopP (fun k ρ L => ∃ (j : Nat) (v : Value) (l : List (LA Int)) (pob : Obj) (m : Int × Int → Option Int) (Fo Fh : HL), j + k = Ps.length ∧ pairsOk B.length 16 (pre Ps j) ∧ MapG pairV pob m ∧ (∀ y, m y ≠ none ↔ y ∈ Ps.take j) ∧
      OwnS 32 1 v (B.length + 1 + j) (l.flatMap laC) Fo ∧ l.map (·.1) = pcs B (pre Ps j) ∧ PcAt l Fh ∧ L = ([(pb, pob), (kb, kob), VoB ub (.slice ab B.length cb) (.slice ap Ps.length cp)] ++ Fh) ++ Fo ∧
      Slots ρ [(0, .agg ⟨[.slice ab B.length cb, .slice ap Ps.length cp]⟩), (1, .pointer (some ⟨ub, 0, none⟩)), (3, .int .i64 ((1 + B.length + Ps.length : Nat) : Int)), (4, v), (10, .map (some pb)), (68, .slice ap Ps.length cp), (69, .int .i64 Ps.length), (70, .int .i64 j)])
    Ps.length ⟨0, _, l, pob, _, Fo, Fh, by simp, trivial, hp0, by simp, hown.conv (by omega) rfl, by rw [hl]; rfl, hpc, rfl, rfl, rfl, rfl, rfl, rfl, rfl, rfl, rfl, trivial⟩ ?_
  clear hown hl hpc hp0
  rintro k ρ L ⟨j, v, l, pob, m, Fo, Fh, hjk, hok, hm, hmd, hown, hl, hpc, rfl, hs⟩
  obtain ⟨va, vc, rfl⟩ := hown.val
  have hll : l.length = B.length + 1 + j := by
    have := congrArg List.length hl
    rw [List.length_map, pcs_len, pre_len (by omega)] at this; exact this
  refine XC.slots _ hs ?_
  (repeat (first | (with_reducible apply XL.op) | ((with_reducible apply XOp.p1); (case hg | hv => exact rfl)) | (with_reducible apply XL.nilT) | (with_reducible apply XC.seq) | (with_reducible apply XC.region (Γ := Γ))))
  ((with_reducible apply XC.cond); (case hc => exact rfl); all_goals (intro hb_; try simp only [pd_true, pd_false, Bool.not_eq_true', Bool.not_eq_false', Bool.and_eq_true, Bool.and_eq_false_iff, Bool.or_eq_true, Bool.or_eq_false_iff, not_true_eq_false, not_false_eq_true, Int.not_lt, Int.not_le] at hb_))
  rotate_left
  · obtain rfl : j = Ps.length := by omega
    rw [pre_all] at hok
    obtain ⟨g, c, sp, he, -, -, -, -⟩ := hown.blk2 (by omega)
    obtain ⟨rfl, -, rfl⟩ := Value.slice.inj he
    (repeat (first | (with_reducible apply XL.op) | ((with_reducible apply XOp.p1); (case hg | hv => exact rfl)) | (with_reducible apply XL.nilT) | (with_reducible apply XC.seq) | (with_reducible apply XC.region (Γ := Γ)) | (with_reducible apply XQ.ret) | (with_reducible apply XQ.exit) | (with_reducible apply XQ.nt) | (with_reducible apply XQ.et) | ((with_reducible apply XQ.eb); (case hb => exact rfl))))
    ((with_reducible apply XQ.retE); (case hr => exact .t rfl .nil))
    exact ⟨[], .of (List.nil_sublist _), .inr ⟨⟨hz1, hz2, hz3, hnd, hok⟩, g, vc, by show Value.slice _ _ _ = Value.slice _ _ _; rw [show B.length + 1 + Ps.length = Voc.size ⟨B, Ps⟩ by simp only [Voc.size]; omega], rfl⟩⟩
  obtain ⟨p, hj⟩ : ∃ p, Ps[j]? = some p := ⟨_, List.getElem?_eq_getElem (by omega)⟩
  have hbad : ¬ pairAt B.length 16 Ps j p → ¬ vocOk ⟨B, Ps⟩ := fun hn h => by
    have h5 := h.2.2.2.2
    change pairsOk B.length 16 Ps.reverse at h5
    rw [← pre_all] at h5
    exact hn ((pairs_succ hj).1 (pairs_mono (by omega) (Nat.le_refl _) h5)).2
  (repeat (first | (with_reducible apply XL.op) | ((with_reducible apply XOp.p1); (case hg | hv => exact rfl)) | ((with_reducible apply XOp.pr); (case hg => exact rfl); (case hr => ((with_reducible apply PR.idxA); (case ht | hk | he | hx | hi => exact rfl); (case hr => first | assumption | omega); (case ha => first | assumption | exact SlA.at_ (by assumption))))) | (with_reducible apply XC.seq) | (with_reducible apply XC.region (Γ := Γ)) | (with_reducible apply XQ.skip) | (with_reducible apply XQ.nt) | (with_reducible apply XC.block) | (first | ((with_reducible apply XOp.loadN); (case hg | ht | hk | hx => exact rfl); (case hc => exact Known.of_old (hP.rawAt hj) (Mono.row _ _ _)); (case hl => exact rfl)) | ((with_reducible apply XP.loadN); (case ho | hg | ht | hk | hx => exact rfl); (case hc => exact Known.of_old (hP.rawAt hj) (Mono.row _ _ _)); (case hl => exact rfl)))))
  ((with_reducible apply XOp.alloc); (case hg | ht | hx' => exact rfl); intro qb)
  (repeat (first | (with_reducible apply XL.op) | ((with_reducible apply XOp.p1); (case hg | hv => exact rfl)) | ((with_reducible apply XOp.loadO (i := 0)); (case hg | ht | hk | hx | hi | hc => exact rfl)) | ((with_reducible apply XOp.storeN (i := 0)); (case hg | ht | hx | hv' | hk | h1 | hi | hs | ha => exact rfl)) | (with_reducible apply XL.nilT) | (with_reducible apply XC.seq) | (with_reducible apply XC.region (Γ := Γ)) | (first | ((with_reducible apply XOp.pr); (case hg => exact rfl); (case hr => (with_reducible apply PR.lookupG (i := 1) (kv := pairV) (k := p)); (case ht => exact rfl); (case hk => exact rfl); (case he => exact rfl); (case hz => exact rfl); (case hx => exact rfl); (case hi => exact rfl); (case hL => exact rfl); (case hK => exact Keys.pair (Γ := Γ) (t := 94) rfl rfl rfl rfl rfl); (case hm => exact hm))) | ((with_reducible apply XP.pr); (case ho => exact rfl); (case hg => exact rfl); (case hr => (with_reducible apply PR.lookupG (i := 1) (kv := pairV) (k := p)); (case ht => exact rfl); (case hk => exact rfl); (case he => exact rfl); (case hz => exact rfl); (case hx => exact rfl); (case hi => exact rfl); (case hL => exact rfl); (case hK => exact Keys.pair (Γ := Γ) (t := 94) rfl rfl rfl rfl rfl); (case hm => exact hm))))))
  by_cases hgo : (1 ≤ p.1 ∧ p.1 < B.length + 1 + j) ∧ (1 ≤ p.2 ∧ p.2 < B.length + 1 + j) ∧ m p = none
  rotate_left
  · have hret : ¬ vocOk ⟨B, Ps⟩ := hbad (fun h => hgo ⟨h.2.1, h.2.2.1, by
      cases hmp : m p with
      | none => rfl
      | some v => exact absurd ((hmd p).1 (by rw [hmp]; simp)) h.1⟩)
    by_cases h0 : m p = none
    rotate_left
    · rw [pdt h0]
      (repeat (first | (with_reducible apply XL.op) | ((with_reducible apply XOp.p1); (case hg | hv => exact rfl)) | ((with_reducible apply XOp.p0); (case hg => exact rfl)) | (with_reducible apply XL.nilT) | (with_reducible apply XC.seq) | (with_reducible apply XC.region (Γ := Γ)) | (with_reducible apply XQ.ret) | (with_reducible apply XQ.rt) | (with_reducible apply XQ.rb) | ((with_reducible apply XC.condT); (case hc => exact rfl))))
      ((with_reducible apply XQ.retE); (case hr => exact .t rfl .nil))
      exact ⟨[], .of (List.nil_sublist _), .inl ⟨hret, rfl, rfl⟩⟩
    rw [h0, pdf (fun h : (none : Option Int) ≠ none => h rfl)]
    by_cases h1 : p.1 < 1
    · (repeat (first | (with_reducible apply XL.op) | ((with_reducible apply XOp.p1); (case hg | hv => exact rfl)) | ((with_reducible apply XOp.p0); (case hg => exact rfl)) | ((with_reducible apply XOp.load); (case hg | ht | hk | hx => exact rfl); (case hc => exact own_cell (i := 0) rfl rfl)) | (with_reducible apply XL.nilT) | (with_reducible apply XC.seq) | (with_reducible apply XC.region (Γ := Γ)) | (with_reducible apply XQ.ret) | (with_reducible apply XQ.rt) | (with_reducible apply XQ.rb) | ((with_reducible apply XC.condT); (case hc => exact rfl)) | (first | ((with_reducible apply XOp.split); (case hg | hj | hd | hb => exact rfl); (fail_if_success (case hf => exact fun h => Bool.noConfusion h)); (fail_if_success (case ht => exact fun h => Bool.noConfusion h)); (first | (case ht => intro hb_; try simp only [pd_true, pd_false, Bool.not_eq_true', Bool.not_eq_false', Bool.and_eq_true, Bool.and_eq_false_iff, Bool.or_eq_true, Bool.or_eq_false_iff, not_true_eq_false, not_false_eq_true, Int.not_lt, Int.not_le] at hb_; first | done | (exfalso; first | omega | contradiction)) | (case hf => intro hb_; try simp only [pd_true, pd_false, Bool.not_eq_true', Bool.not_eq_false', Bool.and_eq_true, Bool.and_eq_false_iff, Bool.or_eq_true, Bool.or_eq_false_iff, not_true_eq_false, not_false_eq_true, Int.not_lt, Int.not_le] at hb_; first | done | (exfalso; first | omega | contradiction))); intro hb_; try simp only [pd_true, pd_false, Bool.not_eq_true', Bool.not_eq_false', Bool.and_eq_true, Bool.and_eq_false_iff, Bool.or_eq_true, Bool.or_eq_false_iff, not_true_eq_false, not_false_eq_true, Int.not_lt, Int.not_le] at hb_) | ((with_reducible apply XP.split); (case ho | hg | hj | hd | hb => exact rfl); (fail_if_success (case hf => exact fun h => Bool.noConfusion h)); (fail_if_success (case ht => exact fun h => Bool.noConfusion h)); (first | (case ht => intro hb_; try simp only [pd_true, pd_false, Bool.not_eq_true', Bool.not_eq_false', Bool.and_eq_true, Bool.and_eq_false_iff, Bool.or_eq_true, Bool.or_eq_false_iff, not_true_eq_false, not_false_eq_true, Int.not_lt, Int.not_le] at hb_; first | done | (exfalso; first | omega | contradiction)) | (case hf => intro hb_; try simp only [pd_true, pd_false, Bool.not_eq_true', Bool.not_eq_false', Bool.and_eq_true, Bool.and_eq_false_iff, Bool.or_eq_true, Bool.or_eq_false_iff, not_true_eq_false, not_false_eq_true, Int.not_lt, Int.not_le] at hb_; first | done | (exfalso; first | omega | contradiction))); intro hb_; try simp only [pd_true, pd_false, Bool.not_eq_true', Bool.not_eq_false', Bool.and_eq_true, Bool.and_eq_false_iff, Bool.or_eq_true, Bool.or_eq_false_iff, not_true_eq_false, not_false_eq_true, Int.not_lt, Int.not_le] at hb_) | ((with_reducible apply XC.cond); (case hc => exact rfl); (first | (case ht => intro hb_; try simp only [pd_true, pd_false, Bool.not_eq_true', Bool.not_eq_false', Bool.and_eq_true, Bool.and_eq_false_iff, Bool.or_eq_true, Bool.or_eq_false_iff, not_true_eq_false, not_false_eq_true, Int.not_lt, Int.not_le] at hb_; first | done | (exfalso; first | omega | contradiction)) | (case hf => intro hb_; try simp only [pd_true, pd_false, Bool.not_eq_true', Bool.not_eq_false', Bool.and_eq_true, Bool.and_eq_false_iff, Bool.or_eq_true, Bool.or_eq_false_iff, not_true_eq_false, not_false_eq_true, Int.not_lt, Int.not_le] at hb_; first | done | (exfalso; first | omega | contradiction))); intro hb_; try simp only [pd_true, pd_false, Bool.not_eq_true', Bool.not_eq_false', Bool.and_eq_true, Bool.and_eq_false_iff, Bool.or_eq_true, Bool.or_eq_false_iff, not_true_eq_false, not_false_eq_true, Int.not_lt, Int.not_le] at hb_))))
      ((with_reducible apply XQ.retE); (case hr => exact .t rfl .nil))
      exact ⟨[], .of (List.nil_sublist _), .inl ⟨hret, rfl, rfl⟩⟩
    by_cases h2 : p.2 < 1
    · (repeat (first | (with_reducible apply XL.op) | ((with_reducible apply XOp.p1); (case hg | hv => exact rfl)) | ((with_reducible apply XOp.p0); (case hg => exact rfl)) | ((with_reducible apply XOp.load); (case hg | ht | hk | hx => exact rfl); (case hc => exact own_cell (i := 0) rfl rfl)) | (with_reducible apply XL.nilT) | (with_reducible apply XC.seq) | (with_reducible apply XC.region (Γ := Γ)) | (with_reducible apply XQ.ret) | (with_reducible apply XQ.rt) | (with_reducible apply XQ.rb) | ((with_reducible apply XC.condT); (case hc => exact rfl)) | (first | ((with_reducible apply XOp.split); (case hg | hj | hd | hb => exact rfl); (fail_if_success (case hf => exact fun h => Bool.noConfusion h)); (fail_if_success (case ht => exact fun h => Bool.noConfusion h)); (first | (case ht => intro hb_; try simp only [pd_true, pd_false, Bool.not_eq_true', Bool.not_eq_false', Bool.and_eq_true, Bool.and_eq_false_iff, Bool.or_eq_true, Bool.or_eq_false_iff, not_true_eq_false, not_false_eq_true, Int.not_lt, Int.not_le] at hb_; first | done | (exfalso; first | omega | contradiction)) | (case hf => intro hb_; try simp only [pd_true, pd_false, Bool.not_eq_true', Bool.not_eq_false', Bool.and_eq_true, Bool.and_eq_false_iff, Bool.or_eq_true, Bool.or_eq_false_iff, not_true_eq_false, not_false_eq_true, Int.not_lt, Int.not_le] at hb_; first | done | (exfalso; first | omega | contradiction))); intro hb_; try simp only [pd_true, pd_false, Bool.not_eq_true', Bool.not_eq_false', Bool.and_eq_true, Bool.and_eq_false_iff, Bool.or_eq_true, Bool.or_eq_false_iff, not_true_eq_false, not_false_eq_true, Int.not_lt, Int.not_le] at hb_) | ((with_reducible apply XP.split); (case ho | hg | hj | hd | hb => exact rfl); (fail_if_success (case hf => exact fun h => Bool.noConfusion h)); (fail_if_success (case ht => exact fun h => Bool.noConfusion h)); (first | (case ht => intro hb_; try simp only [pd_true, pd_false, Bool.not_eq_true', Bool.not_eq_false', Bool.and_eq_true, Bool.and_eq_false_iff, Bool.or_eq_true, Bool.or_eq_false_iff, not_true_eq_false, not_false_eq_true, Int.not_lt, Int.not_le] at hb_; first | done | (exfalso; first | omega | contradiction)) | (case hf => intro hb_; try simp only [pd_true, pd_false, Bool.not_eq_true', Bool.not_eq_false', Bool.and_eq_true, Bool.and_eq_false_iff, Bool.or_eq_true, Bool.or_eq_false_iff, not_true_eq_false, not_false_eq_true, Int.not_lt, Int.not_le] at hb_; first | done | (exfalso; first | omega | contradiction))); intro hb_; try simp only [pd_true, pd_false, Bool.not_eq_true', Bool.not_eq_false', Bool.and_eq_true, Bool.and_eq_false_iff, Bool.or_eq_true, Bool.or_eq_false_iff, not_true_eq_false, not_false_eq_true, Int.not_lt, Int.not_le] at hb_) | ((with_reducible apply XC.cond); (case hc => exact rfl); (first | (case ht => intro hb_; try simp only [pd_true, pd_false, Bool.not_eq_true', Bool.not_eq_false', Bool.and_eq_true, Bool.and_eq_false_iff, Bool.or_eq_true, Bool.or_eq_false_iff, not_true_eq_false, not_false_eq_true, Int.not_lt, Int.not_le] at hb_; first | done | (exfalso; first | omega | contradiction)) | (case hf => intro hb_; try simp only [pd_true, pd_false, Bool.not_eq_true', Bool.not_eq_false', Bool.and_eq_true, Bool.and_eq_false_iff, Bool.or_eq_true, Bool.or_eq_false_iff, not_true_eq_false, not_false_eq_true, Int.not_lt, Int.not_le] at hb_; first | done | (exfalso; first | omega | contradiction))); intro hb_; try simp only [pd_true, pd_false, Bool.not_eq_true', Bool.not_eq_false', Bool.and_eq_true, Bool.and_eq_false_iff, Bool.or_eq_true, Bool.or_eq_false_iff, not_true_eq_false, not_false_eq_true, Int.not_lt, Int.not_le] at hb_))))
      ((with_reducible apply XQ.retE); (case hr => exact .t rfl .nil))
      exact ⟨[], .of (List.nil_sublist _), .inl ⟨hret, rfl, rfl⟩⟩
    by_cases h3 : ((B.length + 1 + j : Nat) : Int) ≤ p.1
    · (repeat (first | (with_reducible apply XL.op) | ((with_reducible apply XOp.p1); (case hg | hv => exact rfl)) | ((with_reducible apply XOp.p0); (case hg => exact rfl)) | ((with_reducible apply XOp.load); (case hg | ht | hk | hx => exact rfl); (case hc => exact own_cell (i := 0) rfl rfl)) | (with_reducible apply XL.nilT) | (with_reducible apply XC.seq) | (with_reducible apply XC.region (Γ := Γ)) | (with_reducible apply XQ.ret) | (with_reducible apply XQ.rt) | (with_reducible apply XQ.rb) | ((with_reducible apply XC.condT); (case hc => exact rfl)) | (first | ((with_reducible apply XOp.split); (case hg | hj | hd | hb => exact rfl); (fail_if_success (case hf => exact fun h => Bool.noConfusion h)); (fail_if_success (case ht => exact fun h => Bool.noConfusion h)); (first | (case ht => intro hb_; try simp only [pd_true, pd_false, Bool.not_eq_true', Bool.not_eq_false', Bool.and_eq_true, Bool.and_eq_false_iff, Bool.or_eq_true, Bool.or_eq_false_iff, not_true_eq_false, not_false_eq_true, Int.not_lt, Int.not_le] at hb_; first | done | (exfalso; first | omega | contradiction)) | (case hf => intro hb_; try simp only [pd_true, pd_false, Bool.not_eq_true', Bool.not_eq_false', Bool.and_eq_true, Bool.and_eq_false_iff, Bool.or_eq_true, Bool.or_eq_false_iff, not_true_eq_false, not_false_eq_true, Int.not_lt, Int.not_le] at hb_; first | done | (exfalso; first | omega | contradiction))); intro hb_; try simp only [pd_true, pd_false, Bool.not_eq_true', Bool.not_eq_false', Bool.and_eq_true, Bool.and_eq_false_iff, Bool.or_eq_true, Bool.or_eq_false_iff, not_true_eq_false, not_false_eq_true, Int.not_lt, Int.not_le] at hb_) | ((with_reducible apply XP.split); (case ho | hg | hj | hd | hb => exact rfl); (fail_if_success (case hf => exact fun h => Bool.noConfusion h)); (fail_if_success (case ht => exact fun h => Bool.noConfusion h)); (first | (case ht => intro hb_; try simp only [pd_true, pd_false, Bool.not_eq_true', Bool.not_eq_false', Bool.and_eq_true, Bool.and_eq_false_iff, Bool.or_eq_true, Bool.or_eq_false_iff, not_true_eq_false, not_false_eq_true, Int.not_lt, Int.not_le] at hb_; first | done | (exfalso; first | omega | contradiction)) | (case hf => intro hb_; try simp only [pd_true, pd_false, Bool.not_eq_true', Bool.not_eq_false', Bool.and_eq_true, Bool.and_eq_false_iff, Bool.or_eq_true, Bool.or_eq_false_iff, not_true_eq_false, not_false_eq_true, Int.not_lt, Int.not_le] at hb_; first | done | (exfalso; first | omega | contradiction))); intro hb_; try simp only [pd_true, pd_false, Bool.not_eq_true', Bool.not_eq_false', Bool.and_eq_true, Bool.and_eq_false_iff, Bool.or_eq_true, Bool.or_eq_false_iff, not_true_eq_false, not_false_eq_true, Int.not_lt, Int.not_le] at hb_) | ((with_reducible apply XC.cond); (case hc => exact rfl); (first | (case ht => intro hb_; try simp only [pd_true, pd_false, Bool.not_eq_true', Bool.not_eq_false', Bool.and_eq_true, Bool.and_eq_false_iff, Bool.or_eq_true, Bool.or_eq_false_iff, not_true_eq_false, not_false_eq_true, Int.not_lt, Int.not_le] at hb_; first | done | (exfalso; first | omega | contradiction)) | (case hf => intro hb_; try simp only [pd_true, pd_false, Bool.not_eq_true', Bool.not_eq_false', Bool.and_eq_true, Bool.and_eq_false_iff, Bool.or_eq_true, Bool.or_eq_false_iff, not_true_eq_false, not_false_eq_true, Int.not_lt, Int.not_le] at hb_; first | done | (exfalso; first | omega | contradiction))); intro hb_; try simp only [pd_true, pd_false, Bool.not_eq_true', Bool.not_eq_false', Bool.and_eq_true, Bool.and_eq_false_iff, Bool.or_eq_true, Bool.or_eq_false_iff, not_true_eq_false, not_false_eq_true, Int.not_lt, Int.not_le] at hb_))))
      ((with_reducible apply XQ.retE); (case hr => exact .t rfl .nil))
      exact ⟨[], .of (List.nil_sublist _), .inl ⟨hret, rfl, rfl⟩⟩
    by_cases h4 : ((B.length + 1 + j : Nat) : Int) ≤ p.2
    · (repeat (first | (with_reducible apply XL.op) | ((with_reducible apply XOp.p1); (case hg | hv => exact rfl)) | ((with_reducible apply XOp.load); (case hg | ht | hk | hx => exact rfl); (case hc => exact own_cell (i := 0) rfl rfl)) | (with_reducible apply XL.nilT) | (with_reducible apply XC.seq) | (with_reducible apply XC.region (Γ := Γ)) | (with_reducible apply XQ.ret) | (with_reducible apply XQ.rt) | (with_reducible apply XQ.rb) | (first | ((with_reducible apply XOp.split); (case hg | hj | hd | hb => exact rfl); (fail_if_success (case hf => exact fun h => Bool.noConfusion h)); (fail_if_success (case ht => exact fun h => Bool.noConfusion h)); (first | (case ht => intro hb_; try simp only [pd_true, pd_false, Bool.not_eq_true', Bool.not_eq_false', Bool.and_eq_true, Bool.and_eq_false_iff, Bool.or_eq_true, Bool.or_eq_false_iff, not_true_eq_false, not_false_eq_true, Int.not_lt, Int.not_le] at hb_; first | done | (exfalso; first | omega | contradiction)) | (case hf => intro hb_; try simp only [pd_true, pd_false, Bool.not_eq_true', Bool.not_eq_false', Bool.and_eq_true, Bool.and_eq_false_iff, Bool.or_eq_true, Bool.or_eq_false_iff, not_true_eq_false, not_false_eq_true, Int.not_lt, Int.not_le] at hb_; first | done | (exfalso; first | omega | contradiction))); intro hb_; try simp only [pd_true, pd_false, Bool.not_eq_true', Bool.not_eq_false', Bool.and_eq_true, Bool.and_eq_false_iff, Bool.or_eq_true, Bool.or_eq_false_iff, not_true_eq_false, not_false_eq_true, Int.not_lt, Int.not_le] at hb_) | ((with_reducible apply XP.split); (case ho | hg | hj | hd | hb => exact rfl); (fail_if_success (case hf => exact fun h => Bool.noConfusion h)); (fail_if_success (case ht => exact fun h => Bool.noConfusion h)); (first | (case ht => intro hb_; try simp only [pd_true, pd_false, Bool.not_eq_true', Bool.not_eq_false', Bool.and_eq_true, Bool.and_eq_false_iff, Bool.or_eq_true, Bool.or_eq_false_iff, not_true_eq_false, not_false_eq_true, Int.not_lt, Int.not_le] at hb_; first | done | (exfalso; first | omega | contradiction)) | (case hf => intro hb_; try simp only [pd_true, pd_false, Bool.not_eq_true', Bool.not_eq_false', Bool.and_eq_true, Bool.and_eq_false_iff, Bool.or_eq_true, Bool.or_eq_false_iff, not_true_eq_false, not_false_eq_true, Int.not_lt, Int.not_le] at hb_; first | done | (exfalso; first | omega | contradiction))); intro hb_; try simp only [pd_true, pd_false, Bool.not_eq_true', Bool.not_eq_false', Bool.and_eq_true, Bool.and_eq_false_iff, Bool.or_eq_true, Bool.or_eq_false_iff, not_true_eq_false, not_false_eq_true, Int.not_lt, Int.not_le] at hb_) | ((with_reducible apply XC.cond); (case hc => exact rfl); (first | (case ht => intro hb_; try simp only [pd_true, pd_false, Bool.not_eq_true', Bool.not_eq_false', Bool.and_eq_true, Bool.and_eq_false_iff, Bool.or_eq_true, Bool.or_eq_false_iff, not_true_eq_false, not_false_eq_true, Int.not_lt, Int.not_le] at hb_; first | done | (exfalso; first | omega | contradiction)) | (case hf => intro hb_; try simp only [pd_true, pd_false, Bool.not_eq_true', Bool.not_eq_false', Bool.and_eq_true, Bool.and_eq_false_iff, Bool.or_eq_true, Bool.or_eq_false_iff, not_true_eq_false, not_false_eq_true, Int.not_lt, Int.not_le] at hb_; first | done | (exfalso; first | omega | contradiction))); intro hb_; try simp only [pd_true, pd_false, Bool.not_eq_true', Bool.not_eq_false', Bool.and_eq_true, Bool.and_eq_false_iff, Bool.or_eq_true, Bool.or_eq_false_iff, not_true_eq_false, not_false_eq_true, Int.not_lt, Int.not_le] at hb_))))
      ((with_reducible apply XQ.retE); (case hr => exact .t rfl .nil))
      exact ⟨[], .of (List.nil_sublist _), .inl ⟨hret, rfl, rfl⟩⟩
    exact absurd ⟨⟨by omega, by omega⟩, ⟨by omega, by omega⟩, h0⟩ hgo
  obtain ⟨hp1, hp2, hpn⟩ := hgo
  rw [hpn, pdf (fun h : (none : Option Int) ≠ none => h rfl)]
  (repeat (first | (with_reducible apply XL.op) | ((with_reducible apply XOp.p1); (case hg | hv => exact rfl)) | ((with_reducible apply XOp.load); (case hg | ht | hk | hx => exact rfl); (case hc => exact own_cell (i := 0) rfl rfl)) | ((with_reducible apply XOp.loadO (i := 0)); (case hg | ht | hk | hx | hi | hc => exact rfl)) | (with_reducible apply XL.nilT) | (with_reducible apply XC.seq) | (with_reducible apply XC.region (Γ := Γ)) | (with_reducible apply XQ.skip) | (with_reducible apply XQ.nt) | (first | ((with_reducible apply XOp.split); (case hg | hj | hd | hb => exact rfl); (fail_if_success (case hf => exact fun h => Bool.noConfusion h)); (fail_if_success (case ht => exact fun h => Bool.noConfusion h)); (first | (case ht => intro hb_; try simp only [pd_true, pd_false, Bool.not_eq_true', Bool.not_eq_false', Bool.and_eq_true, Bool.and_eq_false_iff, Bool.or_eq_true, Bool.or_eq_false_iff, not_true_eq_false, not_false_eq_true, Int.not_lt, Int.not_le] at hb_; first | done | (exfalso; first | omega | contradiction)) | (case hf => intro hb_; try simp only [pd_true, pd_false, Bool.not_eq_true', Bool.not_eq_false', Bool.and_eq_true, Bool.and_eq_false_iff, Bool.or_eq_true, Bool.or_eq_false_iff, not_true_eq_false, not_false_eq_true, Int.not_lt, Int.not_le] at hb_; first | done | (exfalso; first | omega | contradiction))); intro hb_; try simp only [pd_true, pd_false, Bool.not_eq_true', Bool.not_eq_false', Bool.and_eq_true, Bool.and_eq_false_iff, Bool.or_eq_true, Bool.or_eq_false_iff, not_true_eq_false, not_false_eq_true, Int.not_lt, Int.not_le] at hb_) | ((with_reducible apply XP.split); (case ho | hg | hj | hd | hb => exact rfl); (fail_if_success (case hf => exact fun h => Bool.noConfusion h)); (fail_if_success (case ht => exact fun h => Bool.noConfusion h)); (first | (case ht => intro hb_; try simp only [pd_true, pd_false, Bool.not_eq_true', Bool.not_eq_false', Bool.and_eq_true, Bool.and_eq_false_iff, Bool.or_eq_true, Bool.or_eq_false_iff, not_true_eq_false, not_false_eq_true, Int.not_lt, Int.not_le] at hb_; first | done | (exfalso; first | omega | contradiction)) | (case hf => intro hb_; try simp only [pd_true, pd_false, Bool.not_eq_true', Bool.not_eq_false', Bool.and_eq_true, Bool.and_eq_false_iff, Bool.or_eq_true, Bool.or_eq_false_iff, not_true_eq_false, not_false_eq_true, Int.not_lt, Int.not_le] at hb_; first | done | (exfalso; first | omega | contradiction))); intro hb_; try simp only [pd_true, pd_false, Bool.not_eq_true', Bool.not_eq_false', Bool.and_eq_true, Bool.and_eq_false_iff, Bool.or_eq_true, Bool.or_eq_false_iff, not_true_eq_false, not_false_eq_true, Int.not_lt, Int.not_le] at hb_) | ((with_reducible apply XC.cond); (case hc => exact rfl); (first | (case ht => intro hb_; try simp only [pd_true, pd_false, Bool.not_eq_true', Bool.not_eq_false', Bool.and_eq_true, Bool.and_eq_false_iff, Bool.or_eq_true, Bool.or_eq_false_iff, not_true_eq_false, not_false_eq_true, Int.not_lt, Int.not_le] at hb_; first | done | (exfalso; first | omega | contradiction)) | (case hf => intro hb_; try simp only [pd_true, pd_false, Bool.not_eq_true', Bool.not_eq_false', Bool.and_eq_true, Bool.and_eq_false_iff, Bool.or_eq_true, Bool.or_eq_false_iff, not_true_eq_false, not_false_eq_true, Int.not_lt, Int.not_le] at hb_; first | done | (exfalso; first | omega | contradiction))); intro hb_; try simp only [pd_true, pd_false, Bool.not_eq_true', Bool.not_eq_false', Bool.and_eq_true, Bool.and_eq_false_iff, Bool.or_eq_true, Bool.or_eq_false_iff, not_true_eq_false, not_false_eq_true, Int.not_lt, Int.not_le] at hb_))))
  ((with_reducible apply XOp.mapNewG (i := 1) (kv := pairV) (k := p)); (case hg => exact rfl); (case ht => exact rfl); (case hk => exact rfl); (case hx => exact rfl); (case hy => exact rfl); (case hz => exact rfl); (case hL => exact rfl); (case hK => exact Keys.pair (Γ := Γ) (t := 94) rfl rfl rfl rfl rfl); (case hm => exact hm); (case hn => exact hpn))
  intro pob2 hm2
  (repeat (first | (with_reducible apply XL.nilT) | (with_reducible apply XC.seq)))
  have hgx : ∀ k, k < B.length + 1 + j → ∃ x, l[k]? = some x ∧ x ∈ l ∧ x.1.length = (szs B.length (pre Ps j))[k]?.getD 0 ∧ x.1 = (pcs B (pre Ps j))[k]?.getD [] := fun k hk => by
    have hx : l[k]? = some l[k] := List.getElem?_eq_getElem (by omega)
    have e : (pcs B (pre Ps j))[k]?.getD [] = l[k].1 := by rw [← hl, List.getElem?_map, hx]; rfl
    exact ⟨_, hx, List.getElem_mem _, by rw [← pcs_at, e], e.symm⟩
  obtain ⟨x1, hx1, hm1, hlen1, hval1⟩ := hgx p.1.toNat (by omega)
  obtain ⟨x2, hx2, hm2', hlen2, hval2⟩ := hgx p.2.toNat (by omega)
  have hs1 := szs_at_small (mx := 16) (by omega) hok p.1.toNat
  have hs2 := szs_at_small (mx := 16) (by omega) hok p.2.toNat
  obtain ⟨A1, hA1, hS1⟩ := hpc x1 hm1
  obtain ⟨A2, hA2, hS2⟩ := hpc x2 hm2'
  have hb1 := hS1.bytes
  have hb2 := hS2.bytes
  obtain ⟨g, gc, sp, hge, rfl, -, -, -⟩ := hown.blk2 (by omega)
  obtain ⟨rfl, -, rfl⟩ := Value.slice.inj hge
  have hcell : ∀ (k : Nat) (x : LA Int), l[k]? = some x → (l.flatMap laC ++ sp)[k]? = some (sla x) := fun k x hk => by
    have e := flat_la l
    have hkl := (List.getElem?_eq_some_iff.1 hk).1
    rw [e, List.getElem?_append_left (by simpa using hkl), List.getElem?_map, hk]; rfl
  have hcell1 := hcell _ _ hx1
  have hcell2 := hcell _ _ hx2
  refine XC.perm (L' := (qb, Obj.cells ⟨[.int .i64 p.1, .int .i64 p.2]⟩ 94 (0, 0)) :: (pb, pob2) :: (kb, kob) :: VoB ub (.slice ab B.length cb) (.slice ap Ps.length cp) :: (g, Obj.cells ⟨l.flatMap laC ++ sp⟩ 32 (0, 0)) :: Fh) ?_ (show List.Perm ((qb, Obj.cells ⟨[.int .i64 p.1, .int .i64 p.2]⟩ 94 (0, 0)) :: (pb, pob2) :: (kb, kob) :: VoB ub (.slice ab B.length cb) (.slice ap Ps.length cp) :: (Fh ++ [(g, Obj.cells ⟨l.flatMap laC ++ sp⟩ 32 (0, 0))])) _ by (first | (with_reducible exact List.Perm.refl _) | refine perm_of_cnt fun p_ => ?_; simp only [List.countP_append, List.countP_cons, List.countP_nil]; omega))
  ((with_reducible apply XC.regionL (Γ := Γ) mixed (.q 1 (.q 2 (.q 3 (.q 4 (.q 5 (.q 7 (.q 8 (.q 9 (.q 10 (.q 11 (.e 0 (.e 6 (.e 12 (.e 13 (.done))))))))))))))) [12] ([(qb, Obj.cells ⟨[.int .i64 p.1, .int .i64 p.2]⟩ 94 (0, 0)), (pb, pob2), (kb, kob), VoB ub (.slice ab B.length cb) (.slice ap Ps.length cp), (g, Obj.cells ⟨l.flatMap laC ++ sp⟩ 32 (0, 0))])); (case hc => kernel_rfl); (case hs => first | exact List.nil_sublist _ | exact List.Sublist.refl _ | exact List.sublist_append_right _ _ | (refine List.Sublist.cons_cons _ (List.nil_sublist _)) | (refine List.Sublist.cons_cons _ (List.Sublist.cons_cons _ (List.nil_sublist _))) | (refine List.Sublist.cons_cons _ (List.Sublist.cons_cons _ (List.Sublist.cons_cons _ (List.nil_sublist _)))) | (refine List.Sublist.cons_cons _ (List.Sublist.cons_cons _ (List.Sublist.cons_cons _ (List.Sublist.cons_cons _ (List.nil_sublist _))))) | ((try simp only [List.append_eq, List.cons_append, List.nil_append, List.append_assoc]); (repeat (first | exact List.Sublist.refl _ | exact List.nil_sublist _ | (with_reducible apply List.Sublist.cons_cons) | (with_reducible apply List.Sublist.cons))); done)))
  (repeat (first | ((with_reducible apply XP.p1); (case ho | hg | hv => exact rfl)) | ((with_reducible apply XP.load); (case ho | hg | ht | hk | hx => exact rfl); (case hc => exact own_cell (i := 0) rfl rfl)) | ((with_reducible apply XP.pr); (case ho => exact rfl); (case hg => exact rfl); (case hr => ((with_reducible apply PR.idx); (case ht | hk | he | hx | hi => exact rfl); (case hr => first | assumption | omega)))) | ((with_reducible apply XP.e); (first | ((with_reducible apply XE.d); (case ho => exact rfl); (case hd => exact rfl)) | ((with_reducible apply XE.e); (case ho => exact rfl)))) | (first | ((with_reducible apply XOp.load); (case hg | ht | hk | hx => exact rfl); (case hc => exact own_cell (i := 4) rfl (by rw [show 0 + p.1.toNat * 1 = p.1.toNat by omega]; exact hcell1))) | ((with_reducible apply XP.load); (case ho | hg | ht | hk | hx => exact rfl); (case hc => exact own_cell (i := 4) rfl (by rw [show 0 + p.1.toNat * 1 = p.1.toNat by omega]; exact hcell1)))) | (first | ((with_reducible apply XOp.load); (case hg | ht | hk | hx => exact rfl); (case hc => exact own_cell (i := 4) rfl (by rw [show 0 + p.2.toNat * 1 = p.2.toNat by omega]; exact hcell2))) | ((with_reducible apply XP.load); (case ho | hg | ht | hk | hx => exact rfl); (case hc => exact own_cell (i := 4) rfl (by rw [show 0 + p.2.toNat * 1 = p.2.toNat by omega]; exact hcell2))))))
  ((with_reducible apply XOp.buildSlice0); (case hg | ht | hk | he => exact rfl); intro eb)
  (refine ⟨fun y_ hy_ => (by (simp only [List.mem_cons, List.mem_append, List.not_mem_nil, or_false] at hy_ ⊢); (repeat' (rcases hy_ with hy_ | hy_)) <;> simp), ?_⟩)
  (repeat (((with_reducible apply XP.e); (first | ((with_reducible apply XE.d); (case ho => exact rfl); (case hd => exact rfl)) | ((with_reducible apply XE.e); (case ho => exact rfl))))))
  ((with_reducible apply XOp.appendG); (case hg => exact rfl); (case ht => exact rfl); (case hk => exact rfl); (case he => exact rfl); (case hs => exact rfl); (case hx => exact rfl); (case hown => exact OwnS.empty); (case hL => rfl); (case ha => exact hS1.at_); (case hc => exact fun _ => Known.of_frag (rowInts hS1) (Mono.row _ _ _) (fun z hz => by simp [hA1 z hz])); (case hl => exact by simp); (case h1 => exact List.all_eq_true.2 fun v hv => by obtain ⟨x, _, rfl⟩ := List.mem_map.1 hv; rfl); (case hz => exact rfl); (case hsz => exact Nat.zero_lt_succ _); (case h63 => simp only [maxLen]; omega); (case hb => simp only []; omega))
  intro v1 F1 ho1
  obtain ⟨a1, c1, rfl⟩ := ho1.val
  (refine ⟨fun y_ hy_ => (by (simp only [List.mem_cons, List.mem_append, List.not_mem_nil, or_false] at hy_ ⊢); (repeat' (rcases hy_ with hy_ | hy_)) <;> simp), ?_⟩)
  (repeat (((with_reducible apply XP.e); (first | ((with_reducible apply XE.d); (case ho => exact rfl); (case hd => exact rfl)) | ((with_reducible apply XE.e); (case ho => exact rfl))))))
  ((with_reducible apply XOp.appendG); (case hg => exact rfl); (case ht => exact rfl); (case hk => exact rfl); (case he => exact rfl); (case hs => exact rfl); (case hx => exact rfl); (case hown => exact ho1); (case hL => rfl); (case ha => exact hS2.at_); (case hc => exact fun _ => Known.of_frag (rowInts hS2) (Mono.row _ _ _) (fun z hz => by simp [hA2 z hz])); (case hl => exact by simp); (case h1 => exact List.all_eq_true.2 fun v hv => by obtain ⟨x, _, rfl⟩ := List.mem_map.1 hv; rfl); (case hz => exact rfl); (case hsz => exact Nat.zero_lt_succ _); (case h63 => simp only [maxLen]; omega); (case hb => simp only []; omega))
  intro v2 F2 ho2
  obtain ⟨a2, c2, rfl⟩ := ho2.val
  have hL : 0 + x1.1.length + x2.1.length = (x1.1 ++ x2.1).length := by simp
  have hL2 : (x1.1 ++ x2.1).length = x1.1.length + x2.1.length := List.length_append ..
  have ho3 := ho2.conv hL (show _ = (x1.1 ++ x2.1).map (.int .u8) by simp)
  rw [hL] at ho3 ⊢
  (repeat (first | (with_reducible apply XL.op) | ((with_reducible apply XOp.p1); (case hg | hv => exact rfl)) | (with_reducible apply XL.nilT) | (with_reducible apply XC.seq) | (with_reducible apply XC.region (Γ := Γ)) | (with_reducible apply XQ.nt) | (with_reducible apply XP.done) | ((with_reducible apply XP.e); (first | ((with_reducible apply XE.d); (case ho => exact rfl); (case hd => exact rfl)) | ((with_reducible apply XE.e); (case ho => exact rfl)))) | ((with_reducible apply XP.keep); (case hk => first | ((repeat' (first | exact List.forall_mem_nil _ | (with_reducible refine List.forall_mem_cons.2 ⟨?_, ?_⟩) | exact List.mem_cons_self .. | (with_reducible apply List.mem_cons_of_mem) | (with_reducible apply List.mem_append_right))); done) | (intro x hx; first | exact sel_in hx | exact List.mem_cons_of_mem _ (sel_in hx) | exact List.mem_append_right _ (sel_in hx) | exact hx | exact List.mem_cons_of_mem _ hx | exact List.mem_append_right _ hx | ((repeat (first | exact sel_in hx | exact hx | (with_reducible apply List.mem_cons_of_mem) | (with_reducible apply List.mem_append_right))); done) | (rw [List.mem_singleton.1 hx]; (simp; done)) | (rcases List.mem_cons.1 hx with rfl | hx; (simp; done); (rw [List.mem_singleton.1 hx]; (simp; done))) | cases hx)))))
  by_cases h16 : (x1.1 ++ x2.1).length ≤ 16
  rotate_left
  · (repeat (first | (with_reducible apply XL.op) | ((with_reducible apply XOp.p1); (case hg | hv => exact rfl)) | (with_reducible apply XL.nilT) | (with_reducible apply XC.seq) | (with_reducible apply XC.region (Γ := Γ)) | (with_reducible apply XQ.ret) | (with_reducible apply XQ.rt) | (with_reducible apply XQ.rb) | (first | ((with_reducible apply XOp.split); (case hg | hj | hd | hb => exact rfl); (fail_if_success (case hf => exact fun h => Bool.noConfusion h)); (fail_if_success (case ht => exact fun h => Bool.noConfusion h)); (first | (case ht => intro hb_; try simp only [pd_true, pd_false, Bool.not_eq_true', Bool.not_eq_false', Bool.and_eq_true, Bool.and_eq_false_iff, Bool.or_eq_true, Bool.or_eq_false_iff, not_true_eq_false, not_false_eq_true, Int.not_lt, Int.not_le] at hb_; first | done | (exfalso; first | omega | contradiction)) | (case hf => intro hb_; try simp only [pd_true, pd_false, Bool.not_eq_true', Bool.not_eq_false', Bool.and_eq_true, Bool.and_eq_false_iff, Bool.or_eq_true, Bool.or_eq_false_iff, not_true_eq_false, not_false_eq_true, Int.not_lt, Int.not_le] at hb_; first | done | (exfalso; first | omega | contradiction))); intro hb_; try simp only [pd_true, pd_false, Bool.not_eq_true', Bool.not_eq_false', Bool.and_eq_true, Bool.and_eq_false_iff, Bool.or_eq_true, Bool.or_eq_false_iff, not_true_eq_false, not_false_eq_true, Int.not_lt, Int.not_le] at hb_) | ((with_reducible apply XP.split); (case ho | hg | hj | hd | hb => exact rfl); (fail_if_success (case hf => exact fun h => Bool.noConfusion h)); (fail_if_success (case ht => exact fun h => Bool.noConfusion h)); (first | (case ht => intro hb_; try simp only [pd_true, pd_false, Bool.not_eq_true', Bool.not_eq_false', Bool.and_eq_true, Bool.and_eq_false_iff, Bool.or_eq_true, Bool.or_eq_false_iff, not_true_eq_false, not_false_eq_true, Int.not_lt, Int.not_le] at hb_; first | done | (exfalso; first | omega | contradiction)) | (case hf => intro hb_; try simp only [pd_true, pd_false, Bool.not_eq_true', Bool.not_eq_false', Bool.and_eq_true, Bool.and_eq_false_iff, Bool.or_eq_true, Bool.or_eq_false_iff, not_true_eq_false, not_false_eq_true, Int.not_lt, Int.not_le] at hb_; first | done | (exfalso; first | omega | contradiction))); intro hb_; try simp only [pd_true, pd_false, Bool.not_eq_true', Bool.not_eq_false', Bool.and_eq_true, Bool.and_eq_false_iff, Bool.or_eq_true, Bool.or_eq_false_iff, not_true_eq_false, not_false_eq_true, Int.not_lt, Int.not_le] at hb_) | ((with_reducible apply XC.cond); (case hc => exact rfl); (first | (case ht => intro hb_; try simp only [pd_true, pd_false, Bool.not_eq_true', Bool.not_eq_false', Bool.and_eq_true, Bool.and_eq_false_iff, Bool.or_eq_true, Bool.or_eq_false_iff, not_true_eq_false, not_false_eq_true, Int.not_lt, Int.not_le] at hb_; first | done | (exfalso; first | omega | contradiction)) | (case hf => intro hb_; try simp only [pd_true, pd_false, Bool.not_eq_true', Bool.not_eq_false', Bool.and_eq_true, Bool.and_eq_false_iff, Bool.or_eq_true, Bool.or_eq_false_iff, not_true_eq_false, not_false_eq_true, Int.not_lt, Int.not_le] at hb_; first | done | (exfalso; first | omega | contradiction))); intro hb_; try simp only [pd_true, pd_false, Bool.not_eq_true', Bool.not_eq_false', Bool.and_eq_true, Bool.and_eq_false_iff, Bool.or_eq_true, Bool.or_eq_false_iff, not_true_eq_false, not_false_eq_true, Int.not_lt, Int.not_le] at hb_))))
    ((with_reducible apply XQ.retE); (case hr => exact .t rfl .nil))
    exact ⟨[], .of (List.nil_sublist _), .inl ⟨hbad (fun h => by have := h.2.2.2; omega), rfl, rfl⟩⟩
  (repeat (first | (with_reducible apply XL.op) | ((with_reducible apply XOp.p1); (case hg | hv => exact rfl)) | (with_reducible apply XC.region (Γ := Γ)) | (with_reducible apply XQ.skip) | (with_reducible apply XQ.nt) | (first | ((with_reducible apply XOp.split); (case hg | hj | hd | hb => exact rfl); (fail_if_success (case hf => exact fun h => Bool.noConfusion h)); (fail_if_success (case ht => exact fun h => Bool.noConfusion h)); (first | (case ht => intro hb_; try simp only [pd_true, pd_false, Bool.not_eq_true', Bool.not_eq_false', Bool.and_eq_true, Bool.and_eq_false_iff, Bool.or_eq_true, Bool.or_eq_false_iff, not_true_eq_false, not_false_eq_true, Int.not_lt, Int.not_le] at hb_; first | done | (exfalso; first | omega | contradiction)) | (case hf => intro hb_; try simp only [pd_true, pd_false, Bool.not_eq_true', Bool.not_eq_false', Bool.and_eq_true, Bool.and_eq_false_iff, Bool.or_eq_true, Bool.or_eq_false_iff, not_true_eq_false, not_false_eq_true, Int.not_lt, Int.not_le] at hb_; first | done | (exfalso; first | omega | contradiction))); intro hb_; try simp only [pd_true, pd_false, Bool.not_eq_true', Bool.not_eq_false', Bool.and_eq_true, Bool.and_eq_false_iff, Bool.or_eq_true, Bool.or_eq_false_iff, not_true_eq_false, not_false_eq_true, Int.not_lt, Int.not_le] at hb_) | ((with_reducible apply XP.split); (case ho | hg | hj | hd | hb => exact rfl); (fail_if_success (case hf => exact fun h => Bool.noConfusion h)); (fail_if_success (case ht => exact fun h => Bool.noConfusion h)); (first | (case ht => intro hb_; try simp only [pd_true, pd_false, Bool.not_eq_true', Bool.not_eq_false', Bool.and_eq_true, Bool.and_eq_false_iff, Bool.or_eq_true, Bool.or_eq_false_iff, not_true_eq_false, not_false_eq_true, Int.not_lt, Int.not_le] at hb_; first | done | (exfalso; first | omega | contradiction)) | (case hf => intro hb_; try simp only [pd_true, pd_false, Bool.not_eq_true', Bool.not_eq_false', Bool.and_eq_true, Bool.and_eq_false_iff, Bool.or_eq_true, Bool.or_eq_false_iff, not_true_eq_false, not_false_eq_true, Int.not_lt, Int.not_le] at hb_; first | done | (exfalso; first | omega | contradiction))); intro hb_; try simp only [pd_true, pd_false, Bool.not_eq_true', Bool.not_eq_false', Bool.and_eq_true, Bool.and_eq_false_iff, Bool.or_eq_true, Bool.or_eq_false_iff, not_true_eq_false, not_false_eq_true, Int.not_lt, Int.not_le] at hb_) | ((with_reducible apply XC.cond); (case hc => exact rfl); (first | (case ht => intro hb_; try simp only [pd_true, pd_false, Bool.not_eq_true', Bool.not_eq_false', Bool.and_eq_true, Bool.and_eq_false_iff, Bool.or_eq_true, Bool.or_eq_false_iff, not_true_eq_false, not_false_eq_true, Int.not_lt, Int.not_le] at hb_; first | done | (exfalso; first | omega | contradiction)) | (case hf => intro hb_; try simp only [pd_true, pd_false, Bool.not_eq_true', Bool.not_eq_false', Bool.and_eq_true, Bool.and_eq_false_iff, Bool.or_eq_true, Bool.or_eq_false_iff, not_true_eq_false, not_false_eq_true, Int.not_lt, Int.not_le] at hb_; first | done | (exfalso; first | omega | contradiction))); intro hb_; try simp only [pd_true, pd_false, Bool.not_eq_true', Bool.not_eq_false', Bool.and_eq_true, Bool.and_eq_false_iff, Bool.or_eq_true, Bool.or_eq_false_iff, not_true_eq_false, not_false_eq_true, Int.not_lt, Int.not_le] at hb_))))
  ((with_reducible apply XOp.buildSlice); (case hg | ht | hk | he | hz | hzl | hf => exact rfl); intro rb)
  (repeat ((with_reducible apply XL.op)))
  (refine (show XOp _ _ _ _ _ _ _ _ ((rb, Obj.cells ⟨[.slice a2 (x1.1 ++ x2.1).length c2]⟩ 32 (0, 0)) :: (F2 ++ ((qb, Obj.cells ⟨[.int .i64 p.1, .int .i64 p.2]⟩ 94 (0, 0)) :: (pb, pob2) :: (kb, kob) :: VoB ub (.slice ab B.length cb) (.slice ap Ps.length cp) :: (g, Obj.cells ⟨l.flatMap laC ++ sp⟩ 32 (0, 0)) :: Fh))) from XOp.perm (L' :=  (rb, Obj.cells ⟨[.slice a2 (x1.1 ++ x2.1).length c2]⟩ 32 (0, 0)) :: (([(pb, pob2), (kb, kob), VoB ub (.slice ab B.length cb) (.slice ap Ps.length cp)] ++ (F2 ++ ((qb, Obj.cells ⟨[.int .i64 p.1, .int .i64 p.2]⟩ 94 (0, 0)) :: Fh))) ++ [(g, Obj.cells ⟨l.flatMap laC ++ sp⟩ 32 (0, 0))])) rfl ?_ (by (first | (with_reducible exact List.Perm.refl _) | refine perm_of_cnt fun p_ => ?_; simp only [List.countP_append, List.countP_cons, List.countP_nil]; omega))))
  ((with_reducible apply XOp.append1R (R := [(pb, pob2), (kb, kob), VoB ub (.slice ab B.length cb) (.slice ap Ps.length cp)] ++ (F2 ++ ((qb, Obj.cells ⟨[.int .i64 p.1, .int .i64 p.2]⟩ 94 (0, 0)) :: Fh)))); (case hg => exact rfl); (case ht => exact rfl); (case hk => exact rfl); (case he => exact rfl); (case hown => exact hown); (case hs => exact rfl); (case hx => exact rfl); (case hL => exact rfl); (case hl => exact rfl); (case h1 => exact rfl); (case hz => exact rfl); (case hsz => exact Nat.zero_lt_succ _); (case hk0 => exact Nat.zero_lt_succ _); (case h63 => simp only [maxLen]; omega); (case hb => simp only []; omega); intro v_ F_ hown_; obtain ⟨a_, c_, rfl⟩ := hown_.val)
  (repeat (first | (with_reducible apply XL.op) | ((with_reducible apply XOp.p1); (case hg | hv => exact rfl)) | (with_reducible apply XL.nilT) | (with_reducible apply XC.region (Γ := Γ)) | (with_reducible apply XL.nilQ) | (with_reducible apply XQ.nt) | (with_reducible apply XQ.nb)))
  refine ⟨k - 1, by omega, _, .of (List.Sublist.refl _), j + 1, _, l ++ [(x1.1 ++ x2.1, a2, c2)], pob2, _, F_, F2 ++ ((qb, Obj.cells ⟨[.int .i64 p.1, .int .i64 p.2]⟩ 94 (0, 0)) :: Fh), by omega, (pairs_succ hj).2 ⟨hok, ⟨fun hz => (hmd p).2 hz hpn, hp1, hp2, by omega⟩⟩, hm2, ?_, hown_.conv (by omega) (by rw [List.flatMap_append]; simp [zerosL]), by rw [List.map_append, hl, pcs_succ hj, ← hval1, ← hval2]; rfl, (hpc.mono (fun z hz => List.mem_cons_of_mem _ hz)).snoc (own_u8 ho3 (fun y hy => by
      rcases List.mem_append.1 hy with hy | hy
      · exact hS1.okAll y hy
      · exact hS2.okAll y hy) (by show (x1.1 ++ x2.1).length * 1 ≤ _; omega)), rfl, rfl, rfl, rfl, rfl, rfl, rfl, rfl, intS (m := Ps.length) (by omega) (by omega), trivial⟩
  intro y
  rw [take_snocD hj, List.mem_append, List.mem_singleton]
  by_cases hy : y = p
  · subst hy; simp
  · rw [if_neg hy]; rw [hmd y]; simp [hy]
end Go.Proofs.YtopdcegeffnelaaGreatDoorX
