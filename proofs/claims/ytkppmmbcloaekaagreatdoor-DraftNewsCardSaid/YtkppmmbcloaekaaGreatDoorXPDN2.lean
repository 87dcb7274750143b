/- The types of this seat's program that the proofs meet, as a table; written by genenv.py. -/
import Derived.Test.YtkppmmbcloaekaaGreatDoorProg
import Derived.Test.YtkppmmbcloaekaaGreatDoorXPDN1
set_option linter.unusedSimpArgs false
set_option linter.unusedVariables false
namespace Go.Proofs.YtkppmmbcloaekaaGreatDoorX
open Go Go.SX
def tab : List (Nat × TR) := [
  (0, ⟨.tuple, 1, 0, .tuple #[]⟩),
  (1, ⟨.func, 1, 8, .nilFunc⟩),
  (3, ⟨.int .i64, 1, 8, .int .i64 0⟩),
  (2, ⟨.int .i64, 1, 8, .int .i64 0⟩),
  (4, ⟨.bool, 1, 1, .bool false⟩),
  (49, ⟨.int .i64, 1, 8, .int .i64 0⟩),
  (5, ⟨.int .u8, 1, 1, .int .u8 0⟩),
  (31, ⟨.struct [(0, 8, 2), (8, 3, 2), (11, 1, 1), (12, 1, 1), (13, 1, 1), (14, 3, 2), (17, 1, 1)], 18, 240, .agg #[.int .i64 0, .int .i64 0, .int .i64 0, .int .i64 0, .int .i64 0, .int .i64 0, .int .i64 0, .int .i64 0, .int .i64 0, .int .i64 0, .slice none 0 0, .slice none 0 0, .slice none 0 0, .slice none 0 0, .int .i64 0, .int .i64 0, .slice none 0 0, .slice none 0 0]⟩),
  (23, ⟨.struct [(0, 1, 1), (1, 1, 1), (2, 1, 1), (3, 1, 1), (4, 1, 1), (5, 1, 1), (6, 1, 1), (7, 1, 1)], 8, 64, .agg #[.int .i64 0, .int .i64 0, .int .i64 0, .int .i64 0, .int .i64 0, .int .i64 0, .int .i64 0, .int .i64 0]⟩),
  (40, ⟨.slice 3, 1, 24, .slice none 0 0⟩),
  (26, ⟨.struct [(0, 1, 1), (1, 1, 1), (2, 1, 1)], 3, 40, .agg #[.int .i64 0, .int .i64 0, .slice none 0 0]⟩),
  (53, ⟨.ptr 98, 1, 8, .pointer none⟩),
  (81, ⟨.struct [(0, 1, 1), (1, 1, 1), (2, 3, 2), (5, 3, 2), (8, 3, 2), (11, 3, 2), (14, 3, 2), (17, 3, 2), (20, 3, 2), (23, 7, 2)], 30, 384, .agg #[.slice none 0 0, .slice none 0 0, .int .i64 0, .int .i64 0, .slice none 0 0, .int .i64 0, .int .i64 0, .slice none 0 0, .int .i64 0, .int .i64 0, .slice none 0 0, .int .i64 0, .int .i64 0, .slice none 0 0, .int .i64 0, .int .i64 0, .slice none 0 0, .int .i64 0, .int .i64 0, .slice none 0 0, .int .i64 0, .int .i64 0, .slice none 0 0, .int .i64 0, .int .i64 0, .int .i64 0, .int .i64 0, .int .i64 0, .int .i64 0, .int .i64 0]⟩),
  (7, ⟨.struct [(0, 1, 1), (1, 1, 1), (2, 1, 1), (3, 1, 1)], 4, 24, .agg #[.int .i64 0, .int .i64 0, .bool false, .int .u8 0]⟩),
  (24, ⟨.slice 127, 1, 24, .slice none 0 0⟩),
  (9, ⟨.string, 1, 16, .string ⟨#[]⟩⟩),
  (35, ⟨.struct [(0, 1, 1), (1, 1, 1)], 2, 48, .agg #[.slice none 0 0, .slice none 0 0]⟩),
  (37, ⟨.struct [(0, 1, 1), (1, 1, 1), (2, 1, 1), (3, 1, 1), (4, 1, 1)], 5, 40, .agg #[.int .i64 0, .int .i64 0, .int .i64 0, .int .i64 0, .int .i64 0]⟩),
  (65, ⟨.struct [(0, 1, 1), (1, 1, 1), (2, 1, 1)], 3, 56, .agg #[.slice none 0 0, .slice none 0 0, .int .i64 0]⟩),
  (142, ⟨.ptr 148, 1, 8, .pointer none⟩),
  (118, ⟨.struct [(0, 1, 1), (1, 1, 1)], 2, 16, .agg #[.int .i64 0, .int .i64 0]⟩),
  (48, ⟨.ptr 75, 1, 8, .pointer none⟩),
  (88, ⟨.ptr 132, 1, 8, .pointer none⟩),
  (27, ⟨.slice 118, 1, 24, .slice none 0 0⟩),
  (58, ⟨.ptr 102, 1, 8, .pointer none⟩),
  (32, ⟨.slice 5, 1, 24, .slice none 0 0⟩),
  (221, ⟨.struct [(0, 1, 1), (1, 1, 1), (2, 1, 1), (3, 1, 1), (4, 1, 1)], 5, 56, .agg #[.int .i64 0, .int .i64 0, .int .i64 0, .int .i64 0, .slice none 0 0]⟩),
  (68, ⟨.struct [(0, 1, 1), (1, 1, 1)], 2, 32, .agg #[.int .i64 0, .slice none 0 0]⟩),
  (168, ⟨.slice 221, 1, 24, .slice none 0 0⟩),
  (181, ⟨.slice 24, 1, 24, .slice none 0 0⟩),
  (13, ⟨.struct [(0, 1, 1), (1, 1, 1)], 2, 24, .agg #[.string ⟨#[]⟩, .int .u64 0]⟩),
  (125, ⟨.struct [(0, 1, 1), (1, 1, 1), (2, 1, 1)], 3, 24, .agg #[.nilFunc, .int .i64 0, .int .i64 0]⟩),
  (237, ⟨.struct [(0, 1, 1), (1, 1, 1), (2, 1, 1), (3, 1, 1)], 4, 48, .agg #[.int .i64 0, .int .i64 0, .int .i64 0, .slice none 0 0]⟩),
  (173, ⟨.ptr 176, 1, 8, .pointer none⟩),
  (12, ⟨.int .u64, 1, 8, .int .u64 0⟩),
  (98, ⟨.struct [(0, 1, 1), (1, 8, 2), (9, 2, 2), (11, 5, 2), (16, 1, 1), (17, 1, 1), (18, 1, 1)], 19, 200, .agg #[.pointer none, .int .i64 0, .int .i64 0, .int .i64 0, .int .i64 0, .int .i64 0, .int .i64 0, .int .i64 0, .int .i64 0, .slice none 0 0, .slice none 0 0, .int .i64 0, .int .i64 0, .int .i64 0, .int .i64 0, .int .i64 0, .pointer none, .pointer none, .slice none 0 0]⟩),
  (120, ⟨.ptr 81, 1, 8, .pointer none⟩),
  (148, ⟨.struct [(0, 9, 2), (9, 1, 1), (10, 1, 1), (11, 3, 2), (14, 1, 1), (15, 1, 1), (16, 1, 1), (17, 1, 1), (18, 1, 1), (19, 1, 1)], 20, 232, .agg #[.slice none 0 0, .int .i64 0, .int .i64 0, .int .i64 0, .int .i64 0, .int .i64 0, .int .u64 0, .int .i64 0, .string ⟨#[]⟩, .slice none 0 0, .int .i64 0, .int .i64 0, .int .i64 0, .int .i64 0, .pointer none, .int .i64 0, .pointer none, .int .i64 0, .slice none 0 0, .slice none 0 0]⟩),
  (215, ⟨.ptr 219, 1, 8, .pointer none⟩),
  (243, ⟨.ptr 246, 1, 8, .pointer none⟩),
  (20, ⟨.iface, 1, 16, .nilIface⟩),
  (47, ⟨.struct [(0, 1, 1), (1, 1, 1), (2, 5, 2), (7, 1, 1), (8, 1, 1)], 9, 96, .agg #[.slice none 0 0, .int .i64 0, .int .i64 0, .int .i64 0, .int .i64 0, .int .i64 0, .int .u64 0, .int .i64 0, .string ⟨#[]⟩]⟩),
  (93, ⟨.array 2 3, 2, 16, .agg #[.int .i64 0, .int .i64 0]⟩),
  (28, ⟨.slice 81, 1, 24, .slice none 0 0⟩),
  (130, ⟨.func, 1, 8, .nilFunc⟩),
  (33, ⟨.slice 93, 1, 24, .slice none 0 0⟩),
  (39, ⟨.slice 158, 1, 24, .slice none 0 0⟩),
  (42, ⟨.struct [(0, 18, 2), (18, 2, 2), (20, 5, 2), (25, 1, 1), (26, 1, 1), (27, 18, 2), (45, 1, 1)], 46, 640, .agg #[.int .i64 0, .int .i64 0, .int .i64 0, .int .i64 0, .int .i64 0, .int .i64 0, .int .i64 0, .int .i64 0, .int .i64 0, .int .i64 0, .slice none 0 0, .slice none 0 0, .slice none 0 0, .slice none 0 0, .int .i64 0, .int .i64 0, .slice none 0 0, .slice none 0 0, .slice none 0 0, .slice none 0 0, .int .i64 0, .int .i64 0, .int .i64 0, .int .i64 0, .int .i64 0, .slice none 0 0, .slice none 0 0, .int .i64 0, .int .i64 0, .int .i64 0, .int .i64 0, .int .i64 0, .int .i64 0, .int .i64 0, .int .i64 0, .int .i64 0, .int .i64 0, .slice none 0 0, .slice none 0 0, .slice none 0 0, .slice none 0 0, .int .i64 0, .int .i64 0, .slice none 0 0, .slice none 0 0, .slice none 0 0]⟩),
  (96, ⟨.slice 142, 1, 24, .slice none 0 0⟩),
  (128, ⟨.slice 32, 1, 24, .slice none 0 0⟩),
  (179, ⟨.slice 237, 1, 24, .slice none 0 0⟩),
  (21, ⟨.int .i32, 1, 4, .int .i32 0⟩),
  (29, ⟨.slice 26, 1, 24, .slice none 0 0⟩),
  (126, ⟨.ptr 26, 1, 8, .pointer none⟩),
  (238, ⟨.ptr 250, 1, 8, .pointer none⟩),
  (76, ⟨.func, 1, 8, .nilFunc⟩),
  (123, ⟨.func, 1, 8, .nilFunc⟩),
  (165, ⟨.struct [(0, 1, 1), (1, 1, 1)], 2, 48, .agg #[.slice none 0 0, .slice none 0 0]⟩),
  (171, ⟨.struct [(0, 1, 1), (1, 1, 1), (2, 1, 1)], 3, 24, .agg #[.int .i64 0, .int .i64 0, .int .i64 0]⟩),
  (217, ⟨.map 3 3, 1, 8, .map none⟩),
  (30, ⟨.struct [(0, 8, 2), (8, 3, 2), (11, 1, 1), (12, 1, 1), (13, 1, 1), (14, 3, 2), (17, 1, 1)], 18, 240, .agg #[.int .i64 0, .int .i64 0, .int .i64 0, .int .i64 0, .int .i64 0, .int .i64 0, .int .i64 0, .int .i64 0, .int .i64 0, .int .i64 0, .slice none 0 0, .slice none 0 0, .slice none 0 0, .slice none 0 0, .int .i64 0, .int .i64 0, .slice none 0 0, .slice none 0 0]⟩),
  (176, ⟨.struct [(0, 1, 1), (1, 1, 1), (2, 1, 1), (3, 1, 1), (4, 1, 1), (5, 1, 1)], 6, 80, .agg #[.pointer none, .int .i64 0, .int .i64 0, .slice none 0 0, .slice none 0 0, .int .i64 0]⟩),
  (154, ⟨.struct [(0, 1, 1), (1, 1, 1)], 2, 32, .agg #[.int .i64 0, .slice none 0 0]⟩),
  (83, ⟨.func, 1, 8, .nilFunc⟩),
  (127, ⟨.int .i8, 1, 1, .int .i8 0⟩),
  (155, ⟨.slice 154, 1, 24, .slice none 0 0⟩),
  (219, ⟨.struct [(0, 5, 2), (5, 1, 1), (6, 1, 1), (7, 1, 1), (8, 1, 1), (9, 1, 1), (10, 2, 2)], 12, 160, .agg #[.int .i64 0, .int .i64 0, .int .i64 0, .int .i64 0, .int .i64 0, .slice none 0 0, .map none, .slice none 0 0, .int .i64 0, .int .i64 0, .slice none 0 0, .slice none 0 0]⟩),
  (248, ⟨.slice 27, 1, 24, .slice none 0 0⟩),
  (74, ⟨.struct [(0, 18, 2)], 18, 240, .agg #[.int .i64 0, .int .i64 0, .int .i64 0, .int .i64 0, .int .i64 0, .int .i64 0, .int .i64 0, .int .i64 0, .int .i64 0, .int .i64 0, .slice none 0 0, .slice none 0 0, .slice none 0 0, .slice none 0 0, .int .i64 0, .int .i64 0, .slice none 0 0, .slice none 0 0]⟩),
  (102, ⟨.struct [(0, 1, 1), (1, 1, 1), (2, 1, 1), (3, 1, 1)], 4, 48, .agg #[.pointer none, .pointer none, .slice none 0 0, .map none]⟩),
  (112, ⟨.struct [(0, 1, 1), (1, 1, 1), (2, 1, 1), (3, 1, 1), (4, 1, 1)], 5, 56, .agg #[.int .i64 0, .int .i64 0, .int .i64 0, .int .i64 0, .slice none 0 0]⟩),
  (121, ⟨.slice 125, 1, 24, .slice none 0 0⟩),
  (254, ⟨.map 3 24, 1, 8, .map none⟩),
  (64, ⟨.struct [(0, 1, 1), (1, 1, 1), (2, 1, 1)], 3, 56, .agg #[.slice none 0 0, .slice none 0 0, .int .i64 0]⟩),
  (99, ⟨.func, 1, 8, .nilFunc⟩),
  (246, ⟨.struct [(0, 1, 1), (1, 30, 2), (31, 1, 1), (32, 1, 1), (33, 1, 1), (34, 1, 1), (35, 1, 1), (36, 1, 1)], 37, 520, .agg #[.pointer none, .slice none 0 0, .slice none 0 0, .int .i64 0, .int .i64 0, .slice none 0 0, .int .i64 0, .int .i64 0, .slice none 0 0, .int .i64 0, .int .i64 0, .slice none 0 0, .int .i64 0, .int .i64 0, .slice none 0 0, .int .i64 0, .int .i64 0, .slice none 0 0, .int .i64 0, .int .i64 0, .slice none 0 0, .int .i64 0, .int .i64 0, .slice none 0 0, .int .i64 0, .int .i64 0, .int .i64 0, .int .i64 0, .int .i64 0, .int .i64 0, .int .i64 0, .int .i64 0, .slice none 0 0, .slice none 0 0, .slice none 0 0, .slice none 0 0, .slice none 0 0]⟩),
  (25, ⟨.struct [(0, 1, 1), (1, 1, 1), (2, 1, 1)], 3, 40, .agg #[.int .i64 0, .int .i64 0, .slice none 0 0]⟩),
  (60, ⟨.func, 1, 8, .nilFunc⟩),
  (63, ⟨.slice 112, 1, 24, .slice none 0 0⟩),
  (70, ⟨.func, 1, 8, .nilFunc⟩),
  (71, ⟨.func, 1, 8, .nilFunc⟩),
  (132, ⟨.struct [(0, 1, 1), (1, 1, 1), (2, 1, 1), (3, 1, 1), (4, 1, 1), (5, 1, 1), (6, 1, 1), (7, 1, 1)], 8, 112, .agg #[.int .i64 0, .int .i64 0, .int .i64 0, .int .i64 0, .slice none 0 0, .int .i64 0, .slice none 0 0, .slice none 0 0]⟩),
  (143, ⟨.ptr 200, 1, 8, .pointer none⟩),
  (172, ⟨.slice 173, 1, 24, .slice none 0 0⟩),
  (250, ⟨.struct [(0, 18, 2), (18, 1, 1), (19, 1, 1)], 20, 272, .agg #[.int .i64 0, .int .i64 0, .int .i64 0, .int .i64 0, .int .i64 0, .int .i64 0, .int .i64 0, .int .i64 0, .int .i64 0, .int .i64 0, .slice none 0 0, .slice none 0 0, .slice none 0 0, .slice none 0 0, .int .i64 0, .int .i64 0, .slice none 0 0, .slice none 0 0, .int .i64 0, .slice none 0 0]⟩),
  (52, ⟨.func, 1, 8, .nilFunc⟩),
  (62, ⟨.func, 1, 8, .nilFunc⟩),
  (103, ⟨.func, 1, 8, .nilFunc⟩),
  (241, ⟨.slice 243, 1, 24, .slice none 0 0⟩),
  (22, ⟨.struct [(0, 1, 1), (1, 1, 1), (2, 1, 1), (3, 1, 1), (4, 1, 1), (5, 1, 1), (6, 1, 1), (7, 1, 1)], 8, 64, .agg #[.int .i64 0, .int .i64 0, .int .i64 0, .int .i64 0, .int .i64 0, .int .i64 0, .int .i64 0, .int .i64 0]⟩),
  (50, ⟨.tuple, 1, 0, .tuple #[.pointer none, .int .i64 0]⟩),
  (57, ⟨.func, 1, 8, .nilFunc⟩),
  (61, ⟨.tuple, 1, 0, .tuple #[.int .i64 0, .int .i64 0]⟩),
  (66, ⟨.func, 1, 8, .nilFunc⟩),
  (69, ⟨.tuple, 1, 0, .tuple #[.agg #[.int .i64 0, .slice none 0 0], .int .i64 0]⟩),
  (94, ⟨.ptr 138, 1, 8, .pointer none⟩),
  (242, ⟨.slice 40, 1, 24, .slice none 0 0⟩),
  (280, ⟨.slice 4, 1, 24, .slice none 0 0⟩),
  (41, ⟨.struct [(0, 18, 2), (18, 2, 2), (20, 5, 2), (25, 1, 1), (26, 1, 1), (27, 18, 2), (45, 1, 1)], 46, 640, .agg #[.int .i64 0, .int .i64 0, .int .i64 0, .int .i64 0, .int .i64 0, .int .i64 0, .int .i64 0, .int .i64 0, .int .i64 0, .int .i64 0, .slice none 0 0, .slice none 0 0, .slice none 0 0, .slice none 0 0, .int .i64 0, .int .i64 0, .slice none 0 0, .slice none 0 0, .slice none 0 0, .slice none 0 0, .int .i64 0, .int .i64 0, .int .i64 0, .int .i64 0, .int .i64 0, .slice none 0 0, .slice none 0 0, .int .i64 0, .int .i64 0, .int .i64 0, .int .i64 0, .int .i64 0, .int .i64 0, .int .i64 0, .int .i64 0, .int .i64 0, .int .i64 0, .slice none 0 0, .slice none 0 0, .slice none 0 0, .slice none 0 0, .int .i64 0, .int .i64 0, .slice none 0 0, .slice none 0 0, .slice none 0 0]⟩),
  (84, ⟨.func, 1, 8, .nilFunc⟩),
  (105, ⟨.func, 1, 8, .nilFunc⟩),
  (109, ⟨.func, 1, 8, .nilFunc⟩),
  (134, ⟨.func, 1, 8, .nilFunc⟩),
  (146, ⟨.struct [(0, 1, 1), (1, 1, 1), (2, 1, 1)], 3, 24, .agg #[.int .i64 0, .int .i64 0, .int .i64 0]⟩),
  (189, ⟨.struct [(0, 1, 1), (1, 1, 1)], 2, 16, .agg #[.int .i64 0, .int .i64 0]⟩),
  (367, ⟨.func, 1, 8, .nilFunc⟩),
  (46, ⟨.struct [(0, 1, 1), (1, 1, 1), (2, 5, 2), (7, 1, 1), (8, 1, 1)], 9, 96, .agg #[.slice none 0 0, .int .i64 0, .int .i64 0, .int .i64 0, .int .i64 0, .int .i64 0, .int .u64 0, .int .i64 0, .string ⟨#[]⟩]⟩),
  (55, ⟨.func, 1, 8, .nilFunc⟩),
  (73, ⟨.func, 1, 8, .nilFunc⟩),
  (75, ⟨.struct [(0, 18, 2)], 18, 240, .agg #[.int .i64 0, .int .i64 0, .int .i64 0, .int .i64 0, .int .i64 0, .int .i64 0, .int .i64 0, .int .i64 0, .int .i64 0, .int .i64 0, .slice none 0 0, .slice none 0 0, .slice none 0 0, .slice none 0 0, .int .i64 0, .int .i64 0, .slice none 0 0, .slice none 0 0]⟩),
  (77, ⟨.func, 1, 8, .nilFunc⟩),
  (80, ⟨.struct [(0, 1, 1), (1, 1, 1), (2, 3, 2), (5, 3, 2), (8, 3, 2), (11, 3, 2), (14, 3, 2), (17, 3, 2), (20, 3, 2), (23, 7, 2)], 30, 384, .agg #[.slice none 0 0, .slice none 0 0, .int .i64 0, .int .i64 0, .slice none 0 0, .int .i64 0, .int .i64 0, .slice none 0 0, .int .i64 0, .int .i64 0, .slice none 0 0, .int .i64 0, .int .i64 0, .slice none 0 0, .int .i64 0, .int .i64 0, .slice none 0 0, .int .i64 0, .int .i64 0, .slice none 0 0, .int .i64 0, .int .i64 0, .slice none 0 0, .int .i64 0, .int .i64 0, .int .i64 0, .int .i64 0, .int .i64 0, .int .i64 0, .int .i64 0]⟩),
  (82, ⟨.func, 1, 8, .nilFunc⟩),
  (91, ⟨.func, 1, 8, .nilFunc⟩),
  (92, ⟨.func, 1, 8, .nilFunc⟩),
  (100, ⟨.map 3 40, 1, 8, .map none⟩),
  (114, ⟨.func, 1, 8, .nilFunc⟩),
  (115, ⟨.func, 1, 8, .nilFunc⟩),
  (156, ⟨.func, 1, 8, .nilFunc⟩),
  (174, ⟨.slice 231, 1, 24, .slice none 0 0⟩),
  (188, ⟨.func, 1, 8, .nilFunc⟩),
  (191, ⟨.map 5 3, 1, 8, .map none⟩),
  (193, ⟨.map 93 3, 1, 8, .map none⟩),
  (204, ⟨.func, 1, 8, .nilFunc⟩),
  (287, ⟨.func, 1, 8, .nilFunc⟩),
  (45, ⟨.struct [(0, 1, 1), (1, 1, 1), (2, 1, 1), (3, 1, 1), (4, 1, 1)], 5, 40, .agg #[.int .i64 0, .int .i64 0, .int .i64 0, .int .i64 0, .int .u64 0]⟩),
  (51, ⟨.func, 1, 8, .nilFunc⟩),
  (59, ⟨.tuple, 1, 0, .tuple #[.pointer none, .int .i64 0]⟩),
  (72, ⟨.func, 1, 8, .nilFunc⟩),
  (87, ⟨.func, 1, 8, .nilFunc⟩),
  (89, ⟨.tuple, 1, 0, .tuple #[.pointer none, .int .i64 0]⟩),
  (95, ⟨.func, 1, 8, .nilFunc⟩),
  (107, ⟨.func, 1, 8, .nilFunc⟩),
  (108, ⟨.func, 1, 8, .nilFunc⟩),
  (113, ⟨.func, 1, 8, .nilFunc⟩),
  (119, ⟨.func, 1, 8, .nilFunc⟩),
  (122, ⟨.func, 1, 8, .nilFunc⟩),
  (129, ⟨.func, 1, 8, .nilFunc⟩),
  (139, ⟨.ptr 282, 1, 8, .pointer none⟩),
  (140, ⟨.tuple, 1, 0, .tuple #[.pointer none, .int .i64 0]⟩),
  (151, ⟨.func, 1, 8, .nilFunc⟩),
  (152, ⟨.func, 1, 8, .nilFunc⟩),
  (157, ⟨.struct [(0, 1, 1), (1, 1, 1)], 2, 16, .agg #[.int .i64 0, .int .i64 0]⟩),
  (159, ⟨.tuple, 1, 0, .tuple #[.pointer none, .int .i64 0]⟩),
  (160, ⟨.func, 1, 8, .nilFunc⟩),
  (161, ⟨.func, 1, 8, .nilFunc⟩),
  (162, ⟨.func, 1, 8, .nilFunc⟩),
  (202, ⟨.slice 209, 1, 24, .slice none 0 0⟩),
  (205, ⟨.slice 2, 1, 24, .slice none 0 0⟩),
  (262, ⟨.struct [(0, 1, 1)], 1, 8, .agg #[.nilFunc]⟩),
  (306, ⟨.func, 1, 8, .nilFunc⟩),
  (384, ⟨.func, 1, 8, .nilFunc⟩),
  (34, ⟨.struct [(0, 1, 1), (1, 1, 1)], 2, 48, .agg #[.slice none 0 0, .slice none 0 0]⟩),
  (43, ⟨.int .u64, 1, 8, .int .u64 0⟩),
  (44, ⟨.struct [(0, 1, 1), (1, 1, 1), (2, 1, 1), (3, 1, 1), (4, 1, 1)], 5, 40, .agg #[.int .i64 0, .int .i64 0, .int .i64 0, .int .i64 0, .int .u64 0]⟩),
  (54, ⟨.tuple, 1, 0, .tuple #[.pointer none, .int .i64 0]⟩),
  (56, ⟨.func, 1, 8, .nilFunc⟩),
  (85, ⟨.func, 1, 8, .nilFunc⟩),
  (90, ⟨.func, 1, 8, .nilFunc⟩),
  (106, ⟨.tuple, 1, 0, .tuple #[.slice none 0 0, .int .i64 0]⟩),
  (110, ⟨.func, 1, 8, .nilFunc⟩),
  (116, ⟨.func, 1, 8, .nilFunc⟩),
  (124, ⟨.struct [(0, 1, 1), (1, 1, 1), (2, 1, 1)], 3, 24, .agg #[.nilFunc, .int .i64 0, .int .i64 0]⟩),
  (133, ⟨.tuple, 1, 0, .tuple #[.int .i64 0, .int .i64 0, .int .i64 0, .int .i64 0]⟩),
  (137, ⟨.struct [(0, 1, 1), (1, 1, 1), (2, 1, 1), (3, 1, 1), (4, 1, 1), (5, 1, 1)], 6, 48, .agg #[.pointer none, .int .i64 0, .map none, .map none, .int .i64 0, .int .i64 0]⟩),
  (141, ⟨.func, 1, 8, .nilFunc⟩),
  (170, ⟨.struct [(0, 1, 1), (1, 1, 1), (2, 1, 1)], 3, 24, .agg #[.int .i64 0, .int .i64 0, .int .i64 0]⟩),
  (182, ⟨.tuple, 1, 0, .tuple #[.slice none 0 0, .int .i64 0]⟩),
  (187, ⟨.func, 1, 8, .nilFunc⟩),
  (192, ⟨.tuple, 1, 0, .tuple #[.int .i64 0, .bool false]⟩),
  (211, ⟨.func, 1, 8, .nilFunc⟩),
  (216, ⟨.func, 1, 8, .nilFunc⟩),
  (223, ⟨.func, 1, 8, .nilFunc⟩),
  (256, ⟨.tuple, 1, 0, .tuple #[.slice none 0 0, .slice none 0 0, .int .i64 0]⟩),
  (383, ⟨.func, 1, 8, .nilFunc⟩),
  (396, ⟨.func, 1, 8, .nilFunc⟩),
  (67, ⟨.struct [(0, 1, 1), (1, 1, 1)], 2, 32, .agg #[.int .i64 0, .slice none 0 0]⟩),
  (79, ⟨.array 7 3, 7, 56, .agg #[.int .i64 0, .int .i64 0, .int .i64 0, .int .i64 0, .int .i64 0, .int .i64 0, .int .i64 0]⟩),
  (86, ⟨.func, 1, 8, .nilFunc⟩),
  (111, ⟨.struct [(0, 1, 1), (1, 1, 1), (2, 1, 1), (3, 1, 1), (4, 1, 1)], 5, 56, .agg #[.int .i64 0, .int .i64 0, .int .i64 0, .int .i64 0, .slice none 0 0]⟩),
  (135, ⟨.map 299 295, 1, 8, .map none⟩),
  (136, ⟨.map 3 295, 1, 8, .map none⟩),
  (149, ⟨.tuple, 1, 0, .tuple #[.agg #[.int .i64 0, .int .i64 0, .int .i64 0], .int .i64 0]⟩),
  (150, ⟨.func, 1, 8, .nilFunc⟩),
  (153, ⟨.struct [(0, 1, 1), (1, 1, 1)], 2, 32, .agg #[.int .i64 0, .slice none 0 0]⟩),
  (158, ⟨.struct [(0, 1, 1), (1, 1, 1)], 2, 16, .agg #[.int .i64 0, .int .i64 0]⟩),
  (163, ⟨.slice 171, 1, 24, .slice none 0 0⟩),
  (166, ⟨.tuple, 1, 0, .tuple #[.agg #[.slice none 0 0, .slice none 0 0], .int .i64 0]⟩),
  (167, ⟨.func, 1, 8, .nilFunc⟩),
  (169, ⟨.func, 1, 8, .nilFunc⟩),
  (177, ⟨.func, 1, 8, .nilFunc⟩),
  (180, ⟨.func, 1, 8, .nilFunc⟩),
  (183, ⟨.func, 1, 8, .nilFunc⟩),
  (184, ⟨.func, 1, 8, .nilFunc⟩),
  (185, ⟨.func, 1, 8, .nilFunc⟩),
  (186, ⟨.func, 1, 8, .nilFunc⟩),
  (190, ⟨.array 7 189, 14, 112, .agg #[.int .i64 0, .int .i64 0, .int .i64 0, .int .i64 0, .int .i64 0, .int .i64 0, .int .i64 0, .int .i64 0, .int .i64 0, .int .i64 0, .int .i64 0, .int .i64 0, .int .i64 0, .int .i64 0]⟩),
  (198, ⟨.struct [(0, 1, 1)], 1, 24, .agg #[.slice none 0 0]⟩),
  (200, ⟨.struct [(0, 1, 2), (1, 1, 1)], 2, 32, .agg #[.slice none 0 0, .pointer none]⟩),
  (209, ⟨.struct [(0, 1, 1), (1, 1, 1), (2, 1, 1)], 3, 72, .agg #[.slice none 0 0, .slice none 0 0, .slice none 0 0]⟩),
  (214, ⟨.func, 1, 8, .nilFunc⟩),
  (222, ⟨.func, 1, 8, .nilFunc⟩),
  (232, ⟨.func, 1, 8, .nilFunc⟩),
  (234, ⟨.func, 1, 8, .nilFunc⟩),
  (239, ⟨.func, 1, 8, .nilFunc⟩),
  (240, ⟨.func, 1, 8, .nilFunc⟩),
  (249, ⟨.struct [(0, 18, 2), (18, 1, 1), (19, 1, 1)], 20, 272, .agg #[.int .i64 0, .int .i64 0, .int .i64 0, .int .i64 0, .int .i64 0, .int .i64 0, .int .i64 0, .int .i64 0, .int .i64 0, .int .i64 0, .slice none 0 0, .slice none 0 0, .slice none 0 0, .slice none 0 0, .int .i64 0, .int .i64 0, .slice none 0 0, .slice none 0 0, .int .i64 0, .slice none 0 0]⟩),
  (252, ⟨.func, 1, 8, .nilFunc⟩),
  (257, ⟨.func, 1, 8, .nilFunc⟩),
  (261, ⟨.struct [(0, 1, 1)], 1, 8, .agg #[.nilFunc]⟩),
  (263, ⟨.func, 1, 8, .nilFunc⟩),
  (286, ⟨.func, 1, 8, .nilFunc⟩),
  (290, ⟨.func, 1, 8, .nilFunc⟩),
  (304, ⟨.func, 1, 8, .nilFunc⟩),
  (305, ⟨.func, 1, 8, .nilFunc⟩),
  (317, ⟨.tuple, 1, 0, .tuple #[.slice none 0 0, .int .i64 0]⟩),
  (318, ⟨.func, 1, 8, .nilFunc⟩),
  (368, ⟨.func, 1, 8, .nilFunc⟩),
  (382, ⟨.tuple, 1, 0, .tuple #[.int .i64 0, .int .i64 0]⟩),
  (36, ⟨.struct [(0, 1, 1), (1, 1, 1), (2, 1, 1), (3, 1, 1), (4, 1, 1)], 5, 40, .agg #[.int .i64 0, .int .i64 0, .int .i64 0, .int .i64 0, .int .i64 0]⟩),
  (38, ⟨.slice 47, 1, 24, .slice none 0 0⟩),
  (78, ⟨.array 7 3, 7, 56, .agg #[.int .i64 0, .int .i64 0, .int .i64 0, .int .i64 0, .int .i64 0, .int .i64 0, .int .i64 0]⟩),
  (97, ⟨.struct [(0, 1, 1), (1, 8, 2), (9, 2, 2), (11, 5, 2), (16, 1, 1), (17, 1, 1), (18, 1, 1)], 19, 200, .agg #[.pointer none, .int .i64 0, .int .i64 0, .int .i64 0, .int .i64 0, .int .i64 0, .int .i64 0, .int .i64 0, .int .i64 0, .slice none 0 0, .slice none 0 0, .int .i64 0, .int .i64 0, .int .i64 0, .int .i64 0, .int .i64 0, .pointer none, .pointer none, .slice none 0 0]⟩),
  (104, ⟨.tuple, 1, 0, .tuple #[.slice none 0 0, .bool false]⟩),
  (117, ⟨.struct [(0, 1, 1), (1, 1, 1)], 2, 16, .agg #[.int .i64 0, .int .i64 0]⟩),
  (131, ⟨.struct [(0, 1, 1), (1, 1, 1), (2, 1, 1), (3, 1, 1), (4, 1, 1), (5, 1, 1), (6, 1, 1), (7, 1, 1)], 8, 112, .agg #[.int .i64 0, .int .i64 0, .int .i64 0, .int .i64 0, .slice none 0 0, .int .i64 0, .slice none 0 0, .slice none 0 0]⟩),
  (138, ⟨.struct [(0, 1, 1), (1, 1, 1), (2, 1, 1), (3, 1, 1), (4, 1, 1), (5, 1, 1)], 6, 48, .agg #[.pointer none, .int .i64 0, .map none, .map none, .int .i64 0, .int .i64 0]⟩),
  (144, ⟨.func, 1, 8, .nilFunc⟩),
  (164, ⟨.struct [(0, 1, 1), (1, 1, 1)], 2, 48, .agg #[.slice none 0 0, .slice none 0 0]⟩),
  (178, ⟨.func, 1, 8, .nilFunc⟩),
  (195, ⟨.tuple, 1, 0, .tuple #[.pointer none, .int .i64 0, .int .i64 0]⟩),
  (197, ⟨.struct [(0, 1, 1)], 1, 24, .agg #[.slice none 0 0]⟩),
  (201, ⟨.func, 1, 8, .nilFunc⟩),
  (203, ⟨.tuple, 1, 0, .tuple #[.slice none 0 0, .int .i64 0]⟩),
  (206, ⟨.tuple, 1, 0, .tuple #[.slice none 0 0, .int .i64 0]⟩),
  (207, ⟨.func, 1, 8, .nilFunc⟩),
  (212, ⟨.func, 1, 8, .nilFunc⟩),
  (213, ⟨.func, 1, 8, .nilFunc⟩),
  (228, ⟨.struct [(0, 1, 1)], 1, 8, .agg #[.nilFunc]⟩),
  (229, ⟨.func, 1, 8, .nilFunc⟩),
  (244, ⟨.func, 1, 8, .nilFunc⟩),
  (247, ⟨.func, 1, 8, .nilFunc⟩),
  (251, ⟨.tuple, 1, 0, .tuple #[.slice none 0 0, .slice none 0 0]⟩),
  (253, ⟨.func, 1, 8, .nilFunc⟩),
  (255, ⟨.tuple, 1, 0, .tuple #[.slice none 0 0, .bool false]⟩),
  (258, ⟨.slice 262, 1, 24, .slice none 0 0⟩),
  (259, ⟨.func, 1, 8, .nilFunc⟩),
  (260, ⟨.func, 1, 8, .nilFunc⟩),
  (264, ⟨.int .i64, 1, 8, .int .i64 0⟩),
  (269, ⟨.tuple, 1, 0, .tuple #[.slice none 0 0, .bool false, .int .i64 0]⟩),
  (271, ⟨.slice 330, 1, 24, .slice none 0 0⟩),
  (277, ⟨.ptr 351, 1, 8, .pointer none⟩),
  (279, ⟨.func, 1, 8, .nilFunc⟩),
  (288, ⟨.ptr 198, 1, 8, .pointer none⟩),
  (294, ⟨.func, 1, 8, .nilFunc⟩),
  (298, ⟨.struct [(0, 1, 1), (1, 16, 2)], 17, 136, .agg #[.int .i64 0, .int .i64 0, .int .i64 0, .int .i64 0, .int .i64 0, .int .i64 0, .int .i64 0, .int .i64 0, .int .i64 0, .int .i64 0, .int .i64 0, .int .i64 0, .int .i64 0, .int .i64 0, .int .i64 0, .int .i64 0, .int .i64 0]⟩),
  (302, ⟨.struct [(0, 17, 2), (17, 1, 1), (18, 1, 1), (19, 1, 1), (20, 1, 1)], 21, 168, .agg #[.int .i64 0, .int .i64 0, .int .i64 0, .int .i64 0, .int .i64 0, .int .i64 0, .int .i64 0, .int .i64 0, .int .i64 0, .int .i64 0, .int .i64 0, .int .i64 0, .int .i64 0, .int .i64 0, .int .i64 0, .int .i64 0, .int .i64 0, .int .i64 0, .int .i64 0, .int .i64 0, .int .i64 0]⟩),
  (308, ⟨.map 310 3, 1, 8, .map none⟩),
  (335, ⟨.tuple, 1, 0, .tuple #[.nilIface, .int .i64 0, .int .i64 0]⟩),
  (366, ⟨.func, 1, 8, .nilFunc⟩),
  (369, ⟨.func, 1, 8, .nilFunc⟩),
  (370, ⟨.int .u64, 1, 8, .int .u64 0⟩),
  (371, ⟨.func, 1, 8, .nilFunc⟩),
  (373, ⟨.struct [(0, 1, 1), (1, 1, 1)], 2, 16, .agg #[.nilFunc, .nilFunc]⟩),
  (377, ⟨.func, 1, 8, .nilFunc⟩),
  (385, ⟨.func, 1, 8, .nilFunc⟩),
  (386, ⟨.func, 1, 8, .nilFunc⟩),
  (387, ⟨.func, 1, 8, .nilFunc⟩),
  (388, ⟨.func, 1, 8, .nilFunc⟩),
  (389, ⟨.func, 1, 8, .nilFunc⟩),
  (390, ⟨.tuple, 1, 0, .tuple #[.int .i64 0, .int .i64 0]⟩),
  (392, ⟨.tuple, 1, 0, .tuple #[.slice none 0 0, .int .i64 0]⟩),
  (397, ⟨.slice 404, 1, 24, .slice none 0 0⟩),
  (398, ⟨.tuple, 1, 0, .tuple #[.slice none 0 0, .int .i64 0]⟩),
  (401, ⟨.func, 1, 8, .nilFunc⟩),
  (404, ⟨.struct [(0, 1, 1), (1, 1, 1)], 2, 16, .agg #[.int .i64 0, .int .i64 0]⟩),
  (405, ⟨.int .i64, 1, 8, .int .i64 0⟩),
  (408, ⟨.struct [(0, 1, 1), (1, 1, 1)], 2, 24, .agg #[.string ⟨#[]⟩, .int .i64 0]⟩),
  (412, ⟨.struct [(0, 4, 2)], 4, 32, .agg #[.int .u64 0, .int .u64 0, .int .u64 0, .int .u64 0]⟩),
  (417, ⟨.struct [(0, 1, 1)], 1, 24, .agg #[.slice none 0 0]⟩),
  (422, ⟨.func, 1, 8, .nilFunc⟩),
  (101, ⟨.struct [(0, 1, 1), (1, 1, 1), (2, 1, 1), (3, 1, 1)], 4, 48, .agg #[.pointer none, .pointer none, .slice none 0 0, .map none]⟩),
  (147, ⟨.struct [(0, 9, 2), (9, 1, 1), (10, 1, 1), (11, 3, 2), (14, 1, 1), (15, 1, 1), (16, 1, 1), (17, 1, 1), (18, 1, 1), (19, 1, 1)], 20, 232, .agg #[.slice none 0 0, .int .i64 0, .int .i64 0, .int .i64 0, .int .i64 0, .int .i64 0, .int .u64 0, .int .i64 0, .string ⟨#[]⟩, .slice none 0 0, .int .i64 0, .int .i64 0, .int .i64 0, .int .i64 0, .pointer none, .int .i64 0, .pointer none, .int .i64 0, .slice none 0 0, .slice none 0 0]⟩),
  (175, ⟨.struct [(0, 1, 1), (1, 1, 1), (2, 1, 1), (3, 1, 1), (4, 1, 1), (5, 1, 1)], 6, 80, .agg #[.pointer none, .int .i64 0, .int .i64 0, .slice none 0 0, .slice none 0 0, .int .i64 0]⟩),
  (199, ⟨.struct [(0, 1, 2), (1, 1, 1)], 2, 32, .agg #[.slice none 0 0, .pointer none]⟩),
  (208, ⟨.struct [(0, 1, 1), (1, 1, 1), (2, 1, 1)], 3, 72, .agg #[.slice none 0 0, .slice none 0 0, .slice none 0 0]⟩),
  (210, ⟨.func, 1, 8, .nilFunc⟩),
  (218, ⟨.struct [(0, 5, 2), (5, 1, 1), (6, 1, 1), (7, 1, 1), (8, 1, 1), (9, 1, 1), (10, 2, 2)], 12, 160, .agg #[.int .i64 0, .int .i64 0, .int .i64 0, .int .i64 0, .int .i64 0, .slice none 0 0, .map none, .slice none 0 0, .int .i64 0, .int .i64 0, .slice none 0 0, .slice none 0 0]⟩),
  (220, ⟨.struct [(0, 1, 1), (1, 1, 1), (2, 1, 1), (3, 1, 1), (4, 1, 1)], 5, 56, .agg #[.int .i64 0, .int .i64 0, .int .i64 0, .int .i64 0, .slice none 0 0]⟩),
  (226, ⟨.func, 1, 8, .nilFunc⟩),
  (227, ⟨.struct [(0, 1, 1)], 1, 8, .agg #[.nilFunc]⟩),
  (230, ⟨.struct [(0, 1, 1), (1, 1, 1), (2, 1, 1)], 3, 24, .agg #[.int .i64 0, .int .i64 0, .int .i64 0]⟩),
  (231, ⟨.struct [(0, 1, 1), (1, 1, 1), (2, 1, 1)], 3, 24, .agg #[.int .i64 0, .int .i64 0, .int .i64 0]⟩),
  (236, ⟨.struct [(0, 1, 1), (1, 1, 1), (2, 1, 1), (3, 1, 1)], 4, 48, .agg #[.int .i64 0, .int .i64 0, .int .i64 0, .slice none 0 0]⟩),
  (245, ⟨.struct [(0, 1, 1), (1, 30, 2), (31, 1, 1), (32, 1, 1), (33, 1, 1), (34, 1, 1), (35, 1, 1), (36, 1, 1)], 37, 520, .agg #[.pointer none, .slice none 0 0, .slice none 0 0, .int .i64 0, .int .i64 0, .slice none 0 0, .int .i64 0, .int .i64 0, .slice none 0 0, .int .i64 0, .int .i64 0, .slice none 0 0, .int .i64 0, .int .i64 0, .slice none 0 0, .int .i64 0, .int .i64 0, .slice none 0 0, .int .i64 0, .int .i64 0, .slice none 0 0, .int .i64 0, .int .i64 0, .slice none 0 0, .int .i64 0, .int .i64 0, .int .i64 0, .int .i64 0, .int .i64 0, .int .i64 0, .int .i64 0, .int .i64 0, .slice none 0 0, .slice none 0 0, .slice none 0 0, .slice none 0 0, .slice none 0 0]⟩),
  (281, ⟨.struct [(0, 1, 1), (1, 1, 1), (2, 1, 1), (3, 1, 1)], 4, 64, .agg #[.pointer none, .slice none 0 0, .slice none 0 0, .map none]⟩),
  (282, ⟨.struct [(0, 1, 1), (1, 1, 1), (2, 1, 1), (3, 1, 1)], 4, 64, .agg #[.pointer none, .slice none 0 0, .slice none 0 0, .map none]⟩),
  (295, ⟨.ptr 303, 1, 8, .pointer none⟩),
  (296, ⟨.array 16 3, 16, 128, .agg #[.int .i64 0, .int .i64 0, .int .i64 0, .int .i64 0, .int .i64 0, .int .i64 0, .int .i64 0, .int .i64 0, .int .i64 0, .int .i64 0, .int .i64 0, .int .i64 0, .int .i64 0, .int .i64 0, .int .i64 0, .int .i64 0]⟩),
  (297, ⟨.array 16 3, 16, 128, .agg #[.int .i64 0, .int .i64 0, .int .i64 0, .int .i64 0, .int .i64 0, .int .i64 0, .int .i64 0, .int .i64 0, .int .i64 0, .int .i64 0, .int .i64 0, .int .i64 0, .int .i64 0, .int .i64 0, .int .i64 0, .int .i64 0]⟩),
  (299, ⟨.struct [(0, 1, 1), (1, 16, 2)], 17, 136, .agg #[.int .i64 0, .int .i64 0, .int .i64 0, .int .i64 0, .int .i64 0, .int .i64 0, .int .i64 0, .int .i64 0, .int .i64 0, .int .i64 0, .int .i64 0, .int .i64 0, .int .i64 0, .int .i64 0, .int .i64 0, .int .i64 0, .int .i64 0]⟩),
  (303, ⟨.struct [(0, 17, 2), (17, 1, 1), (18, 1, 1), (19, 1, 1), (20, 1, 1)], 21, 168, .agg #[.int .i64 0, .int .i64 0, .int .i64 0, .int .i64 0, .int .i64 0, .int .i64 0, .int .i64 0, .int .i64 0, .int .i64 0, .int .i64 0, .int .i64 0, .int .i64 0, .int .i64 0, .int .i64 0, .int .i64 0, .int .i64 0, .int .i64 0, .int .i64 0, .int .i64 0, .int .i64 0, .int .i64 0]⟩),
  (309, ⟨.struct [(0, 1, 1), (1, 1, 1)], 2, 16, .agg #[.int .i64 0, .int .i64 0]⟩),
  (310, ⟨.struct [(0, 1, 1), (1, 1, 1)], 2, 16, .agg #[.int .i64 0, .int .i64 0]⟩),
  (329, ⟨.struct [(0, 1, 1), (1, 1, 1)], 2, 16, .agg #[.int .i64 0, .int .i64 0]⟩),
  (330, ⟨.struct [(0, 1, 1), (1, 1, 1)], 2, 16, .agg #[.int .i64 0, .int .i64 0]⟩),
  (333, ⟨.iface, 1, 16, .nilIface⟩),
  (334, ⟨.iface, 1, 16, .nilIface⟩),
  (349, ⟨.slice 352, 1, 24, .slice none 0 0⟩),
  (350, ⟨.struct [(0, 1, 1), (1, 1, 1)], 2, 48, .agg #[.slice none 0 0, .slice none 0 0]⟩),
  (351, ⟨.struct [(0, 1, 1), (1, 1, 1)], 2, 48, .agg #[.slice none 0 0, .slice none 0 0]⟩),
  (352, ⟨.array 256 3, 256, 2048, .agg #[.int .i64 0, .int .i64 0, .int .i64 0, .int .i64 0, .int .i64 0, .int .i64 0, .int .i64 0, .int .i64 0, .int .i64 0, .int .i64 0, .int .i64 0, .int .i64 0, .int .i64 0, .int .i64 0, .int .i64 0, .int .i64 0, .int .i64 0, .int .i64 0, .int .i64 0, .int .i64 0, .int .i64 0, .int .i64 0, .int .i64 0, .int .i64 0, .int .i64 0, .int .i64 0, .int .i64 0, .int .i64 0, .int .i64 0, .int .i64 0, .int .i64 0, .int .i64 0, .int .i64 0, .int .i64 0, .int .i64 0, .int .i64 0, .int .i64 0, .int .i64 0, .int .i64 0, .int .i64 0, .int .i64 0, .int .i64 0, .int .i64 0, .int .i64 0, .int .i64 0, .int .i64 0, .int .i64 0, .int .i64 0, .int .i64 0, .int .i64 0, .int .i64 0, .int .i64 0, .int .i64 0, .int .i64 0, .int .i64 0, .int .i64 0, .int .i64 0, .int .i64 0, .int .i64 0, .int .i64 0, .int .i64 0, .int .i64 0, .int .i64 0, .int .i64 0, .int .i64 0, .int .i64 0, .int .i64 0, .int .i64 0, .int .i64 0, .int .i64 0, .int .i64 0, .int .i64 0, .int .i64 0, .int .i64 0, .int .i64 0, .int .i64 0, .int .i64 0, .int .i64 0, .int .i64 0, .int .i64 0, .int .i64 0, .int .i64 0, .int .i64 0, .int .i64 0, .int .i64 0, .int .i64 0, .int .i64 0, .int .i64 0, .int .i64 0, .int .i64 0, .int .i64 0, .int .i64 0, .int .i64 0, .int .i64 0, .int .i64 0, .int .i64 0, .int .i64 0, .int .i64 0, .int .i64 0, .int .i64 0, .int .i64 0, .int .i64 0, .int .i64 0, .int .i64 0, .int .i64 0, .int .i64 0, .int .i64 0, .int .i64 0, .int .i64 0, .int .i64 0, .int .i64 0, .int .i64 0, .int .i64 0, .int .i64 0, .int .i64 0, .int .i64 0, .int .i64 0, .int .i64 0, .int .i64 0, .int .i64 0, .int .i64 0, .int .i64 0, .int .i64 0, .int .i64 0, .int .i64 0, .int .i64 0, .int .i64 0, .int .i64 0, .int .i64 0, .int .i64 0, .int .i64 0, .int .i64 0, .int .i64 0, .int .i64 0, .int .i64 0, .int .i64 0, .int .i64 0, .int .i64 0, .int .i64 0, .int .i64 0, .int .i64 0, .int .i64 0, .int .i64 0, .int .i64 0, .int .i64 0, .int .i64 0, .int .i64 0, .int .i64 0, .int .i64 0, .int .i64 0, .int .i64 0, .int .i64 0, .int .i64 0, .int .i64 0, .int .i64 0, .int .i64 0, .int .i64 0, .int .i64 0, .int .i64 0, .int .i64 0, .int .i64 0, .int .i64 0, .int .i64 0, .int .i64 0, .int .i64 0, .int .i64 0, .int .i64 0, .int .i64 0, .int .i64 0, .int .i64 0, .int .i64 0, .int .i64 0, .int .i64 0, .int .i64 0, .int .i64 0, .int .i64 0, .int .i64 0, .int .i64 0, .int .i64 0, .int .i64 0, .int .i64 0, .int .i64 0, .int .i64 0, .int .i64 0, .int .i64 0, .int .i64 0, .int .i64 0, .int .i64 0, .int .i64 0, .int .i64 0, .int .i64 0, .int .i64 0, .int .i64 0, .int .i64 0, .int .i64 0, .int .i64 0, .int .i64 0, .int .i64 0, .int .i64 0, .int .i64 0, .int .i64 0, .int .i64 0, .int .i64 0, .int .i64 0, .int .i64 0, .int .i64 0, .int .i64 0, .int .i64 0, .int .i64 0, .int .i64 0, .int .i64 0, .int .i64 0, .int .i64 0, .int .i64 0, .int .i64 0, .int .i64 0, .int .i64 0, .int .i64 0, .int .i64 0, .int .i64 0, .int .i64 0, .int .i64 0, .int .i64 0, .int .i64 0, .int .i64 0, .int .i64 0, .int .i64 0, .int .i64 0, .int .i64 0, .int .i64 0, .int .i64 0, .int .i64 0, .int .i64 0, .int .i64 0, .int .i64 0, .int .i64 0, .int .i64 0, .int .i64 0, .int .i64 0, .int .i64 0, .int .i64 0, .int .i64 0, .int .i64 0, .int .i64 0, .int .i64 0, .int .i64 0, .int .i64 0, .int .i64 0, .int .i64 0, .int .i64 0, .int .i64 0, .int .i64 0, .int .i64 0, .int .i64 0, .int .i64 0, .int .i64 0]⟩),
  (354, ⟨.array 4 43, 4, 32, .agg #[.int .u64 0, .int .u64 0, .int .u64 0, .int .u64 0]⟩),
  (355, ⟨.array 4 43, 4, 32, .agg #[.int .u64 0, .int .u64 0, .int .u64 0, .int .u64 0]⟩),
  (362, ⟨.other, 1, 8, .pointer none⟩),
  (372, ⟨.struct [(0, 1, 1), (1, 1, 1)], 2, 16, .agg #[.nilFunc, .nilFunc]⟩),
  (403, ⟨.struct [(0, 1, 1), (1, 1, 1)], 2, 16, .agg #[.int .i64 0, .int .i64 0]⟩),
  (411, ⟨.struct [(0, 4, 2)], 4, 32, .agg #[.int .u64 0, .int .u64 0, .int .u64 0, .int .u64 0]⟩),
  (413, ⟨.slice 334, 1, 24, .slice none 0 0⟩),
  (414, ⟨.struct [(0, 1, 1)], 1, 24, .agg #[.slice none 0 0]⟩),
  (427, ⟨.int .u32, 1, 4, .int .u32 0⟩),
  (500, ⟨.func, 1, 8, .nilFunc⟩),
  (501, ⟨.ptr 5, 1, 8, .pointer none⟩)]
theorem tab_ok : tab.map (fun x => SX.look Tryz.prog x.1) = tab.map (fun x => some x.2) := by kernel_rfl
noncomputable def Γ : Env Tryz.prog := ⟨tab, tab_ok⟩
theorem mixed : Tryz.prog.follows .mixedOrders = true := by kernel_rfl
end Go.Proofs.YtkppmmbcloaekaaGreatDoorX
/- Which measures may be (door seat): both functions come to the same number. -/
namespace Go.Proofs.YtkppmmbcloaekaaGreatDoorX
open Go Go.SX

def _root_.Go.SX.Cfg.cells (c : Cfg) : List Value := [.int .i64 c.Vocab, .int .i64 c.Width, .int .i64 c.Heads, .int .i64 c.KV, .int .i64 c.Layers, .int .i64 c.Hidden, .int .i64 c.Len, .int .i64 c.Medusa]
def _root_.Go.SX.Cfg.ok (c : Cfg) : Prop := inK .i64 c.Vocab ∧ inK .i64 c.Width ∧ inK .i64 c.Heads ∧ inK .i64 c.KV ∧ inK .i64 c.Layers ∧ inK .i64 c.Hidden ∧ inK .i64 c.Len ∧ inK .i64 c.Medusa
def cfgK : Kd Cfg := ⟨8, fun _ c cs => cs = c.cells ∧ c.ok, fun h => by rw [h.1]; rfl, fun _ h => h⟩
theorem len8 {α : Type} {l : List α} (h : l.length = 8) : ∃ a b c d e f g i, l = [a, b, c, d, e, f, g, i] := by
  match l, h with
  | [a, b, c, d, e, f, g, i], _ => exact ⟨a, b, c, d, e, f, g, i, rfl⟩
theorem rdrCfg {H : Type} (enc : TypeId × Value → H) (W : World) : Rdr enc Tryz.prog W 23 cfgK := fun fuel cs x h hw => by
  have hl := rdr_struct_len Tryz.underlying23 h
  have hc : Tryz.prog.cellsOf 23 = 8 := by kernel_rfl
  have h1 : Tryz.prog.cellsOf 3 = 1 := by kernel_rfl
  obtain ⟨a0, e0⟩ := rdr_field Tryz.underlying23 h hw (i := 0) rfl (rdr_int Tryz.underlying3) rfl h1
  obtain ⟨a1, e1⟩ := rdr_field Tryz.underlying23 h hw (i := 1) rfl (rdr_int Tryz.underlying3) rfl h1
  obtain ⟨a2, e2⟩ := rdr_field Tryz.underlying23 h hw (i := 2) rfl (rdr_int Tryz.underlying3) rfl h1
  obtain ⟨a3, e3⟩ := rdr_field Tryz.underlying23 h hw (i := 3) rfl (rdr_int Tryz.underlying3) rfl h1
  obtain ⟨a4, e4⟩ := rdr_field Tryz.underlying23 h hw (i := 4) rfl (rdr_int Tryz.underlying3) rfl h1
  obtain ⟨a5, e5⟩ := rdr_field Tryz.underlying23 h hw (i := 5) rfl (rdr_int Tryz.underlying3) rfl h1
  obtain ⟨a6, e6⟩ := rdr_field Tryz.underlying23 h hw (i := 6) rfl (rdr_int Tryz.underlying3) rfl h1
  obtain ⟨a7, e7⟩ := rdr_field Tryz.underlying23 h hw (i := 7) rfl (rdr_int Tryz.underlying3) rfl h1
  obtain ⟨c0, c1, c2, c3, c4, c5, c6, c7, rfl⟩ := len8 (hl.trans hc)
  simp [Kd.int] at e0 e1 e2 e3 e4 e5 e6 e7
  exact ⟨⟨a0, a1, a2, a3, a4, a5, a6, a7⟩, by simp [Cfg.cells, e0.1, e1.1, e2.1, e3.1, e4.1, e5.1, e6.1, e7.1], e0.2, e1.2, e2.2, e3.2, e4.2, e5.2, e6.2, e7.2⟩

theorem within_fn (a lo hi : Int) : FC Tryz.prog 74 [.int .i64 a, .int .i64 lo, .int .i64 hi] [] (fun _ => True)
    (fun v L => v = .bool (pd (lo ≤ a) && pd (a ≤ hi)) ∧ L = []) := by
  refine FC.intro Tryz.func74 rfl (by kernel_rfl) 15 [.tmp 6] rfl rfl rfl ?_
  intro w0 _
  (repeat' (first | (with_reducible apply XL.op) | ((with_reducible apply XOp.p1); (case hg | hv => exact rfl)) | ((with_reducible apply XOp.p0); (case hg => exact rfl)) | (with_reducible apply XL.nilT) | (with_reducible apply XC.seq) | (with_reducible apply XC.region (Γ := Γ)) | (with_reducible apply XQ.ret) | ((with_reducible apply XOp.split); (case hg | hj | hd | hb => exact rfl); (fail_if_success (case hf => exact fun h => Bool.noConfusion h)); (fail_if_success (case ht => exact fun h => Bool.noConfusion h)); all_goals (intro hb_; try simp only [pd_true, pd_false, Bool.not_eq_true', Bool.not_eq_false', Bool.and_eq_true, Bool.and_eq_false_iff, Bool.or_eq_true, Bool.or_eq_false_iff, not_true_eq_false, not_false_eq_true, Int.not_lt, Int.not_le] at hb_))))
  all_goals ((with_reducible apply XQ.retE); (case hr => exact .t rfl .nil))
  · simp [resV, pdt hb_]
  · simp [resV, pdf (show ¬ lo ≤ a by omega)]

noncomputable def _root_.Go.SX.Cfg.err (c : Cfg) : Int := if @decide c.may (Classical.propDecidable _) then 0 else 40
theorem err_ok {c : Cfg} (h : c.may) : Value.int .i64 0 = .int .i64 c.err := by unfold Go.SX.Cfg.err; simp [h]
theorem err_no {c : Cfg} (h : ¬ c.may) : Value.int .i64 40 = .int .i64 c.err := by unfold Go.SX.Cfg.err; simp [h]

theorem dims {w h : Int} (hw : 2 ≤ w ∧ w ≤ 32) (hh : 1 ≤ h ∧ h ≤ 4) : (w.tmod h = 0 ∧ (IntKind.i64.wrap (w.tdiv h)).tmod 2 = 0) ↔ w % (2 * h) = 0 := by
  have hd : 0 ≤ w.tdiv h ∧ w.tdiv h ≤ 32 := by
    rw [Int.tdiv_eq_ediv_of_nonneg (by omega)]
    rcases (by omega : h = 1 ∨ h = 2 ∨ h = 3 ∨ h = 4) with rfl | rfl | rfl | rfl <;> omega
  rw [wrap64_of (by omega) (by omega), Int.tmod_eq_emod_of_nonneg hd.1, Int.tmod_eq_emod_of_nonneg (by omega), Int.tdiv_eq_ediv_of_nonneg (by omega)]
  rcases (by omega : h = 1 ∨ h = 2 ∨ h = 3 ∨ h = 4) with rfl | rfl | rfl | rfl <;> omega

theorem check_fn (c : Cfg) : FC Tryz.prog 40 [.agg ⟨c.cells⟩] [] (fun _ => True)
    (fun v _ => v = .int .i64 c.err) := by
  refine FC.intro Tryz.func40 rfl (by kernel_rfl) 72 [.tmp 2] rfl rfl rfl ?_
  intro w0 _
  (repeat' (first | (with_reducible apply XL.op) | ((with_reducible apply XOp.p1); (case hg | hv => exact rfl)) | ((with_reducible apply XOp.p0); (case hg => exact rfl)) | ((with_reducible apply XOp.load); (case hg | ht | hk | hx => exact rfl); (case hc => exact own_cell (i := 0) rfl rfl)) | ((with_reducible apply XOp.pr); (case hg => exact rfl); (case hr => ((with_reducible apply PR.quo); (case hx | hy => exact rfl); (case hr => first | assumption | omega | (rw [wrap64_of (by omega) (by omega)]; omega))))) | ((with_reducible apply XOp.pr); (case hg => exact rfl); (case hr => ((with_reducible apply PR.rem); (case hx | hy => exact rfl); (case hr => first | assumption | omega | (rw [wrap64_of (by omega) (by omega)]; omega))))) | ((with_reducible apply XOp.box); (case hg | hx' => exact rfl); intro bx_) | (with_reducible apply XL.nilT) | (with_reducible apply XC.seq) | (with_reducible apply XC.region (Γ := Γ)) | (with_reducible apply XQ.skip) | (with_reducible apply XQ.ret) | (with_reducible apply XQ.nt) | (with_reducible apply XQ.rt) | ((with_reducible apply XC.condT); (case hc => exact rfl)) | (((with_reducible apply XOp.call (hF := within_fn _ _ _)); (case hg => exact rfl); (case hc => exact rfl); (case ha => exact rfl); (case hL => exact (List.nil_append _).symm); try (case hA => exact Known.true)); rintro _ _ ⟨rfl, rfl⟩) | ((with_reducible apply XOp.split); (case hg | hj | hd | hb => exact rfl); (fail_if_success (case hf => exact fun h => Bool.noConfusion h)); (fail_if_success (case ht => exact fun h => Bool.noConfusion h)); all_goals (intro hb_; try simp only [pd_true, pd_false, Bool.not_eq_true', Bool.not_eq_false', Bool.and_eq_true, Bool.and_eq_false_iff, Bool.or_eq_true, Bool.or_eq_false_iff, not_true_eq_false, not_false_eq_true, Int.not_lt, Int.not_le] at hb_)) | ((with_reducible apply XC.cond); (case hc => exact rfl); all_goals (intro hb_; try simp only [pd_true, pd_false, Bool.not_eq_true', Bool.not_eq_false', Bool.and_eq_true, Bool.and_eq_false_iff, Bool.or_eq_true, Bool.or_eq_false_iff, not_true_eq_false, not_false_eq_true, Int.not_lt, Int.not_le] at hb_))))
  all_goals ((with_reducible apply XQ.retE); (case hr => exact .t rfl .nil))
  all_goals first
    | (refine err_no fun h => ?_
       obtain ⟨h1, h2, h3, h4, h5, h6, h7, h8, h9, h10⟩ := h
       first
       | omega
       | exact absurd ((dims h2 h3).2 h8).1 (by assumption)
       | exact absurd ((dims h2 h3).2 h8).2 (by assumption)
       | (rw [Int.tmod_eq_emod_of_nonneg (by omega)] at *; omega))
    | exact err_ok ⟨by assumption, by assumption, by assumption, by assumption, by assumption, by assumption, by assumption, (dims (by assumption) (by assumption)).1 ⟨by assumption, by assumption⟩, by assumption, by
        rename_i h _; rw [← Int.tmod_eq_emod_of_nonneg (by omega)]; assumption⟩

end Go.Proofs.YtkppmmbcloaekaaGreatDoorX
/- Gains and matrices: do they fit? -/
namespace Go.Proofs.YtkppmmbcloaekaaGreatDoorX
open Go Go.SX

def gainsP (l : List Int) (n : Int) : Prop := (l.length : Int) = n ∧ ∀ x ∈ l, x ≠ -128
theorem take_snocD {α : Type} {l : List α} {i : Nat} {x : α} (h : l[i]? = some x) : l.take (i + 1) = l.take i ++ [x] := by
  obtain ⟨hl, rfl⟩ := List.getElem?_eq_some_iff.1 h
  rw [List.take_add_one, List.getElem?_eq_getElem hl]; rfl
theorem all_snoc {l : List Int} {i : Nat} {x : Int} (h : l[i]? = some x) (ha : ∀ y ∈ l.take i, y ≠ -128) (hx : x ≠ -128) : ∀ y ∈ l.take (i + 1), y ≠ -128 := fun y hy => by
  rw [take_snocD h] at hy
  rcases List.mem_append.1 hy with h2 | h2
  · exact ha y h2
  · rw [List.mem_singleton.1 h2]; exact hx
theorem gains_fn (l : List Int) (a : Option Addr) (cap : Nat) (n : Int) : FC Tryz.prog 42 [.slice a l.length cap, .int .i64 n] [] (fun h => SlA (Kd.int .i8) 1 h l a cap)
    (fun v L => v = .bool (pd (gainsP l n)) ∧ L = []) := by
  refine FC.nil ?_
  refine FC.intro Tryz.func42 rfl (by kernel_rfl) 20 [.tmp 4] rfl rfl rfl ?_
  intro w0 hA
  have hsm := hA.bytes
  (repeat (first | (with_reducible apply XL.op) | ((with_reducible apply XOp.p1); (case hg | hv => exact rfl)) | (with_reducible apply XL.nilT) | (with_reducible apply XC.seq) | (with_reducible apply XC.region (Γ := Γ)) | (with_reducible apply XC.block)))
  refine XC.loop (fun k ρ L => ∃ i : Nat, i + k = l.length ∧ L = [] ∧ (∀ y ∈ l.take i, y ≠ -128) ∧ Slots ρ [(0, .slice a l.length cap), (1, .int .i64 n), (7, .slice a l.length cap), (8, .int .i64 l.length), (9, .int .i64 i)])
    l.length ⟨0, by simp, rfl, by simp, rfl, rfl, rfl, rfl, rfl, trivial⟩ ?_
  rintro k ρ L ⟨i, hik, rfl, hq, hs⟩
  refine XC.slots _ hs ?_
  (repeat (first | (with_reducible apply XL.op) | ((with_reducible apply XOp.p1); (case hg | hv => exact rfl)) | (with_reducible apply XL.nilT) | (with_reducible apply XC.seq) | (with_reducible apply XC.region (Γ := Γ))))
  ((with_reducible apply XC.cond); (case hc => exact rfl); all_goals (intro hb_; try simp only [pd_true, pd_false, Bool.not_eq_true', Bool.not_eq_false', Bool.and_eq_true, Bool.and_eq_false_iff, Bool.or_eq_true, Bool.or_eq_false_iff, not_true_eq_false, not_false_eq_true, Int.not_lt, Int.not_le] at hb_))
  · obtain ⟨x, hi⟩ : ∃ x, l[i]? = some x := ⟨_, List.getElem?_eq_getElem (by omega)⟩
    have hc := (hA.int i (by omega)).1
    rw [hi] at hc
    (repeat (first | (with_reducible apply XL.op) | ((with_reducible apply XOp.p1); (case hg | hv => exact rfl)) | ((with_reducible apply XOp.pr); (case hg => exact rfl); (case hr => ((with_reducible apply PR.idxA); (case ht | hk | he | hx | hi => exact rfl); (case hr => first | assumption | omega); (case ha => first | assumption | exact SlA.at_ (by assumption))))) | (with_reducible apply XL.nilT) | (with_reducible apply XC.seq) | (with_reducible apply XC.region (Γ := Γ)) | (with_reducible apply XQ.skip) | (with_reducible apply XQ.nt) | (with_reducible apply XC.block) | (first | ((with_reducible apply XOp.load); (case hg | ht | hk | hx => exact rfl); (case hc => exact Known.of_old hc (Mono.cell _ _))) | ((with_reducible apply XP.load); (case ho | hg | ht | hk | hx => exact rfl); (case hc => exact Known.of_old hc (Mono.cell _ _))))))
    ((with_reducible apply XC.cond); (case hc => exact rfl); all_goals (intro hb_; try simp only [pd_true, pd_false, Bool.not_eq_true', Bool.not_eq_false', Bool.and_eq_true, Bool.and_eq_false_iff, Bool.or_eq_true, Bool.or_eq_false_iff, not_true_eq_false, not_false_eq_true, Int.not_lt, Int.not_le] at hb_))
    · (repeat (first | (with_reducible apply XL.op) | ((with_reducible apply XOp.p1); (case hg | hv => exact rfl)) | (with_reducible apply XL.nilT) | (with_reducible apply XC.seq) | (with_reducible apply XC.region (Γ := Γ)) | (with_reducible apply XQ.ret) | (with_reducible apply XQ.rt) | (with_reducible apply XQ.rb)))
      ((with_reducible apply XQ.retE); (case hr => exact .t rfl .nil))
      exact congrArg Value.bool (pdf (fun h => h.2 x (List.mem_of_getElem? hi) (by assumption))).symm
    · (repeat (first | (with_reducible apply XL.op) | ((with_reducible apply XOp.p1); (case hg | hv => exact rfl)) | (with_reducible apply XL.nilT) | (with_reducible apply XC.region (Γ := Γ)) | (with_reducible apply XQ.skip) | (with_reducible apply XQ.nt) | (with_reducible apply XQ.nb)))
      exact ⟨k - 1, by omega, i + 1, by omega, rfl, all_snoc hi hq (by assumption), rfl, rfl, rfl, rfl, intS (m := l.length) (by omega) (by omega), trivial⟩
  · obtain rfl : i = l.length := by omega
    rw [List.take_length] at hq
    (repeat (first | (with_reducible apply XL.op) | ((with_reducible apply XOp.p1); (case hg | hv => exact rfl)) | (with_reducible apply XL.nilT) | (with_reducible apply XC.seq) | (with_reducible apply XC.region (Γ := Γ)) | (with_reducible apply XQ.ret) | (with_reducible apply XQ.exit) | (with_reducible apply XQ.nt) | (with_reducible apply XQ.et) | ((with_reducible apply XQ.eb); (case hb => exact rfl))))
    ((with_reducible apply XQ.retE); (case hr => exact .t rfl .nil))
    by_cases h : (l.length : Int) = n
    · exact congrArg Value.bool ((pdt h).trans (pdt (show gainsP l n from ⟨h, hq⟩)).symm)
    · exact congrArg Value.bool ((pdf h).trans (pdf (show ¬ gainsP l n from fun h2 => h h2.1)).symm)
end Go.Proofs.YtkppmmbcloaekaaGreatDoorX
/- Matrices: are they well made? -/
namespace Go.Proofs.YtkppmmbcloaekaaGreatDoorX
open Go Go.SX

def matOk (m : Mat) : Prop := 1 ≤ m.Rows ∧ 1 ≤ m.Cols ∧ (m.Data.length : Int) = m.Rows * m.Cols ∧ ∀ x ∈ m.Data, x ≠ -128
noncomputable def errMat (m : Mat) : Int := if pd (matOk m) then 0 else 30
theorem errMat_ok {m : Mat} (h : matOk m) : errMat m = 0 := by unfold errMat; rw [pdt h]; rfl
theorem errMat_no {m : Mat} (h : ¬ matOk m) : errMat m = 30 := by unfold errMat; rw [pdf h]; rfl
theorem shape_iff {r c : Int} {n : Nat} (hc : 1 ≤ c) (hn : n ≤ 140737488355328) : ((n : Int).tmod c = 0 ∧ IntKind.i64.wrap ((n : Int).tdiv c) = r) ↔ (n : Int) = r * c := by
  have h0 : (0 : Int) ≤ n := Int.natCast_nonneg n
  have h1 := Int.mul_tdiv_add_tmod (n : Int) c
  have h2 : 0 ≤ (n : Int).tdiv c := Int.tdiv_nonneg h0 (by omega)
  have h3 : (n : Int).tdiv c ≤ n := by
    rw [Int.tdiv_eq_ediv_of_nonneg h0]; exact Int.ediv_le_self _ h0
  rw [wrap64_of (by omega) (by omega)]
  constructor
  · rintro ⟨h, rfl⟩
    rw [h, Int.add_zero] at h1; rw [Int.mul_comm] at h1; exact h1.symm
  · intro h
    rw [h]
    exact ⟨Int.mul_tmod_left _ _, Int.mul_tdiv_cancel _ (by omega)⟩
set_option maxHeartbeats 4000000 in
theorem matCheck_fn (m : Mat) (a : Option Addr) (cap : Nat) : FC Tryz.prog 75 [.agg ⟨[.int .i64 m.Rows, .int .i64 m.Cols, .slice a m.Data.length cap]⟩] [] (fun h => SlA (Kd.int .i8) 1 h m.Data a cap)
    (fun v L => v = .int .i64 (errMat m) ∧ L = []) := by
  refine FC.nil ?_
  refine FC.intro Tryz.func75 rfl (by kernel_rfl) 43 [.tmp 2] rfl rfl rfl ?_
  intro w0 hA
  have hsm := hA.bytes
  have hI8 := hA.okAll
  (repeat (first | (with_reducible apply XL.op) | (with_reducible apply XC.seq) | (with_reducible apply XC.region (Γ := Γ))))
  ((with_reducible apply XOp.box); (case hg | hx' => exact rfl); intro mb)
  (repeat (first | (with_reducible apply XL.op) | ((with_reducible apply XOp.p1); (case hg | hv => exact rfl)) | (with_reducible apply XL.nilT) | (with_reducible apply XC.seq)))
  ((with_reducible apply XC.regionD (Γ := Γ) mixed (.q 0 (.q 1 (.q 2 (.q 3 (.q 4 (.q 5 (.q 6 (.q 7 (.q 8 (.q 9 (.q 10 (.q 11 (.q 12 (.q 13 (.q 14 (.q 15 (.q 16 (.q 17 (.q 18 (.q 19 (.q 20 (.q 21 (.q 22 (.q 23 (.q 24 (.q 25 (.q 26 (.q 27 (.done))))))))))))))))))))))))))))) [] []); (case hc => kernel_rfl))
  (repeat' (first | (with_reducible apply XL.op) | ((with_reducible apply XOp.p1); (case hg | hv => exact rfl)) | ((with_reducible apply XOp.load); (case hg | ht | hk | hx => exact rfl); (case hc => exact own_cell (i := 0) rfl rfl)) | (with_reducible apply XL.nilT) | (with_reducible apply XC.seq) | (with_reducible apply XC.region (Γ := Γ)) | (with_reducible apply XQ.skip) | (with_reducible apply XQ.ret) | (with_reducible apply XQ.nt) | (with_reducible apply XQ.rt) | (with_reducible apply XC.block) | ((with_reducible apply XP.p1); (case ho | hg | hv => exact rfl)) | ((with_reducible apply XP.p0); (case ho | hg => exact rfl)) | ((with_reducible apply XP.load); (case ho | hg | ht | hk | hx => exact rfl); (case hc => exact own_cell (i := 0) rfl rfl)) | ((with_reducible apply XP.pr); (case ho => exact rfl); (case hg => exact rfl); (case hr => ((with_reducible apply PR.quo); (case hx | hy => exact rfl); (case hr => first | assumption | omega | (rw [wrap64_of (by omega) (by omega)]; omega))))) | ((with_reducible apply XP.pr); (case ho => exact rfl); (case hg => exact rfl); (case hr => ((with_reducible apply PR.rem); (case hx | hy => exact rfl); (case hr => first | assumption | omega | (rw [wrap64_of (by omega) (by omega)]; omega))))) | (with_reducible apply XP.done) | ((with_reducible apply XC.condT); (case hc => exact rfl)) | ((with_reducible apply XP.split); (case ho | hg | hj | hd | hb => exact rfl); (fail_if_success (case hf => exact fun h => Bool.noConfusion h)); (fail_if_success (case ht => exact fun h => Bool.noConfusion h)); all_goals (intro hb_; try simp only [pd_true, pd_false, Bool.not_eq_true', Bool.not_eq_false', Bool.and_eq_true, Bool.and_eq_false_iff, Bool.or_eq_true, Bool.or_eq_false_iff, not_true_eq_false, not_false_eq_true, Int.not_lt, Int.not_le] at hb_)) | ((with_reducible apply XC.cond); (case hc => exact rfl); all_goals (intro hb_; try simp only [pd_true, pd_false, Bool.not_eq_true', Bool.not_eq_false', Bool.and_eq_true, Bool.and_eq_false_iff, Bool.or_eq_true, Bool.or_eq_false_iff, not_true_eq_false, not_false_eq_true, Int.not_lt, Int.not_le] at hb_))))
  iterate 4
    (((with_reducible apply XQ.retE); (case hr => exact .t rfl .nil))
     refine congrArg (Value.int .i64) (errMat_no (fun h => ?_)).symm
     have hsh := (shape_iff (r := m.Rows) (c := m.Cols) h.2.1 (n := m.Data.length) (by omega)).2 h.2.2.1
     have h1 := h.1
     have h2 := h.2.1
     first | omega | exact hb_ hsh.1 | exact hb_ hsh.2)
  have hok : 1 ≤ m.Rows ∧ 1 ≤ m.Cols ∧ (m.Data.length : Int) = m.Rows * m.Cols := by
    have hc : 1 ≤ m.Cols := by omega
    exact ⟨by omega, hc, (shape_iff hc (by omega)).1 ⟨by assumption, by assumption⟩⟩
  refine XC.loop (fun k ρ L => ∃ i : Nat, i + k = m.Data.length ∧ L = [(mb, .cells ⟨[.int .i64 m.Rows, .int .i64 m.Cols, .slice a m.Data.length cap]⟩ 26 (0, 0))] ∧ (∀ y ∈ m.Data.take i, y ≠ -128) ∧ Slots ρ [(1, .pointer (some ⟨mb, 0, none⟩)), (34, .slice a m.Data.length cap), (35, .int .i64 m.Data.length), (36, .int .i64 i)])
    m.Data.length ⟨0, by simp, rfl, by simp, rfl, rfl, rfl, rfl, trivial⟩ ?_
  rintro k ρ L ⟨i, hik, rfl, hq, hs⟩
  refine XC.slots _ hs ?_
  (repeat (first | (with_reducible apply XL.op) | ((with_reducible apply XOp.p1); (case hg | hv => exact rfl)) | (with_reducible apply XL.nilT) | (with_reducible apply XC.seq) | (with_reducible apply XC.region (Γ := Γ))))
  ((with_reducible apply XC.cond); (case hc => exact rfl); all_goals (intro hb_; try simp only [pd_true, pd_false, Bool.not_eq_true', Bool.not_eq_false', Bool.and_eq_true, Bool.and_eq_false_iff, Bool.or_eq_true, Bool.or_eq_false_iff, not_true_eq_false, not_false_eq_true, Int.not_lt, Int.not_le] at hb_))
  · obtain ⟨x, hi⟩ : ∃ x, m.Data[i]? = some x := ⟨_, List.getElem?_eq_getElem (by omega)⟩
    have hc := (hA.int i (by omega)).1
    rw [hi] at hc
    change cellv _ _ = some (.int .i8 x) at hc
    (repeat (first | (with_reducible apply XL.op) | ((with_reducible apply XOp.p1); (case hg | hv => exact rfl)) | ((with_reducible apply XOp.pr); (case hg => exact rfl); (case hr => ((with_reducible apply PR.idxA); (case ht | hk | he | hx | hi => exact rfl); (case hr => first | assumption | omega); (case ha => first | assumption | exact SlA.at_ (by assumption))))) | (with_reducible apply XL.nilT) | (with_reducible apply XC.seq) | (with_reducible apply XC.region (Γ := Γ)) | (with_reducible apply XQ.skip) | (with_reducible apply XQ.nt) | (with_reducible apply XC.block) | (first | ((with_reducible apply XOp.load); (case hg | ht | hk | hx => exact rfl); (case hc => exact Known.of_old hc (Mono.cell _ _))) | ((with_reducible apply XP.load); (case ho | hg | ht | hk | hx => exact rfl); (case hc => exact Known.of_old hc (Mono.cell _ _))))))
    ((with_reducible apply XC.cond); (case hc => exact rfl); all_goals (intro hb_; try simp only [pd_true, pd_false, Bool.not_eq_true', Bool.not_eq_false', Bool.and_eq_true, Bool.and_eq_false_iff, Bool.or_eq_true, Bool.or_eq_false_iff, not_true_eq_false, not_false_eq_true, Int.not_lt, Int.not_le] at hb_))
    · (repeat (first | (with_reducible apply XL.op) | ((with_reducible apply XOp.p1); (case hg | hv => exact rfl)) | (with_reducible apply XL.nilT) | (with_reducible apply XC.seq) | (with_reducible apply XC.region (Γ := Γ)) | (with_reducible apply XQ.ret) | (with_reducible apply XQ.rt) | (with_reducible apply XQ.rb)))
      ((with_reducible apply XQ.retE); (case hr => exact .t rfl .nil))
      exact congrArg (Value.int .i64) (errMat_no (fun h => h.2.2.2 x (List.mem_of_getElem? hi) (by have := inK_i8.1 (hI8 x (List.mem_of_getElem? hi)); omega))).symm
    · (repeat (first | (with_reducible apply XL.op) | ((with_reducible apply XOp.p1); (case hg | hv => exact rfl)) | (with_reducible apply XL.nilT) | (with_reducible apply XC.region (Γ := Γ)) | (with_reducible apply XQ.skip) | (with_reducible apply XQ.nt) | (with_reducible apply XQ.nb)))
      exact ⟨k - 1, by omega, i + 1, by omega, rfl, all_snoc hi hq (by first | assumption | (have := inK_i8.1 (hI8 x (List.mem_of_getElem? hi)); omega)), rfl, rfl, rfl, intS (m := m.Data.length) (by omega) (by omega), trivial⟩
  · obtain rfl : i = m.Data.length := by omega
    rw [List.take_length] at hq
    (repeat (first | (with_reducible apply XL.op) | ((with_reducible apply XOp.p1); (case hg | hv => exact rfl)) | (with_reducible apply XL.nilT) | (with_reducible apply XC.seq) | (with_reducible apply XC.region (Γ := Γ)) | (with_reducible apply XQ.ret) | (with_reducible apply XQ.exit) | (with_reducible apply XQ.nt) | (with_reducible apply XQ.et) | ((with_reducible apply XQ.eb); (case hb => exact rfl))))
    ((with_reducible apply XQ.retE); (case hr => exact .t rfl .nil))
    exact congrArg (Value.int .i64) (errMat_ok ⟨hok.1, hok.2.1, hok.2.2, hq⟩).symm
end Go.Proofs.YtkppmmbcloaekaaGreatDoorX
/- Numbers as bytes; the digest. -/
namespace Go.Proofs.YtkppmmbcloaekaaGreatDoorX
open Go Go.SX

def digStep (h b : Int) : Int := IntKind.u64.wrap (bitsV .xor .u64 h (IntKind.u64.wrap b) * 1099511628211)
def digS (l : List Int) : Int := l.foldl digStep 14695981039346656037
end Go.Proofs.YtkppmmbcloaekaaGreatDoorX
/- Numbers as bytes: the program's. -/
namespace Go.Proofs.YtkppmmbcloaekaaGreatDoorX
open Go Go.SX

end Go.Proofs.YtkppmmbcloaekaaGreatDoorX
/- Sections and lists of small numbers behind some bytes: the reference's. -/
namespace Go.Proofs.YtkppmmbcloaekaaGreatDoorX
open Go Go.SX

end Go.Proofs.YtkppmmbcloaekaaGreatDoorX
/- Sections behind some bytes: the program's. -/
namespace Go.Proofs.YtkppmmbcloaekaaGreatDoorX
open Go Go.SX

theorem rowInts {h : HV} {l : List Int} {k : IntKind} {by_ : Nat} {a : Option Addr} {cap : Nat} (s : SlA (Kd.int k) by_ h l a cap) : rowv h (ablk a) (aoff a) (l.map (.int k)) := fun i v hv => by
  obtain ⟨hl, he⟩ := List.getElem?_eq_some_iff.1 hv
  rw [List.length_map] at hl
  have := (s.int i hl).1
  rw [List.getElem?_eq_getElem hl] at this
  rw [List.getElem_map] at he
  rw [← he]
  simpa using this
end Go.Proofs.YtkppmmbcloaekaaGreatDoorX
/- Lists of small numbers behind some bytes: the program's. -/
namespace Go.Proofs.YtkppmmbcloaekaaGreatDoorX
open Go Go.SX

/-- A list and where it lies. -/
abbrev LV := List Int × Option Addr × Nat
def lvx (x : LV) : List Value := [.slice x.2.1 x.1.length x.2.2]
def lvB (x : LV) : List Int := x.1.map toB
def sumL (ls : List LV) : Nat := (ls.flatMap lvB).length
end Go.Proofs.YtkppmmbcloaekaaGreatDoorX
/- Measures of a layer's matrices. -/
namespace Go.Proofs.YtkppmmbcloaekaaGreatDoorX
open Go Go.SX

theorem head_div {c : Cfg} (hc : c.may) : IntKind.i64.wrap (c.Width.tdiv c.Heads) = c.head := by
  obtain ⟨n1, n2, _, _⟩ := may_nn hc
  have hW := hc.2.1
  unfold Cfg.head at *
  rw [Int.tdiv_eq_ediv_of_nonneg (by omega), wrap64_of (by omega) (by omega)]
theorem head_fn (c : Cfg) (hc : c.may) : FC Tryz.prog 43 [.agg ⟨c.cells⟩] [] (fun _ => True) (fun v L => v = .int .i64 c.head ∧ L = []) := by
  refine FC.nil ?_
  refine FC.intro Tryz.func43 rfl (by kernel_rfl) 8 [.tmp 2] rfl rfl rfl ?_
  intro w0 _
  have hH := hc.2.2.1
  (repeat (first | (with_reducible apply XL.op) | (with_reducible apply XC.seq) | (with_reducible apply XC.region (Γ := Γ))))
  ((with_reducible apply XOp.box); (case hg | hx' => exact rfl); intro cb)
  (repeat (first | (with_reducible apply XL.op) | ((with_reducible apply XOp.p1); (case hg | hv => exact rfl)) | ((with_reducible apply XOp.load); (case hg | ht | hk | hx => exact rfl); (case hc => exact own_cell (i := 0) rfl rfl)) | ((with_reducible apply XOp.pr); (case hg => exact rfl); (case hr => ((with_reducible apply PR.quo); (case hx | hy => exact rfl); (case hr => first | assumption | omega | (rw [wrap64_of (by omega) (by omega)]; omega))))) | (with_reducible apply XL.nilT) | (with_reducible apply XC.seq) | (with_reducible apply XC.region (Γ := Γ)) | (with_reducible apply XQ.ret)))
  ((with_reducible apply XQ.retE); (case hr => exact .t rfl .nil))
  exact congrArg (Value.int .i64) (head_div hc)
def measS (c : Cfg) (s : Int) : Int := if s = 1 then c.keys else if s = 2 then c.Hidden else c.Width
theorem measure_fn (c : Cfg) (hc : c.may) (s : Int) : FC Tryz.prog 83 [.agg ⟨c.cells⟩, .int .i64 s] [] (fun _ => True) (fun v L => v = .int .i64 (measS c s) ∧ L = []) := by
  refine FC.nil ?_
  refine FC.intro Tryz.func83 rfl (by kernel_rfl) 19 [.tmp 4] rfl rfl rfl ?_
  intro w0 _
  obtain ⟨_, _, n1, n2⟩ := may_nn hc
  have ew : IntKind.i64.wrap (c.KV * c.head) = c.keys := by unfold Cfg.keys at *; exact wrap64_of (by omega) (by omega)
  (repeat (first | (with_reducible apply XL.op) | (with_reducible apply XC.seq) | (with_reducible apply XC.region (Γ := Γ))))
  ((with_reducible apply XOp.box); (case hg | hx' => exact rfl); intro cb)
  (repeat (first | (with_reducible apply XL.op) | ((with_reducible apply XOp.p1); (case hg | hv => exact rfl)) | (with_reducible apply XL.nilT) | (with_reducible apply XC.seq) | (with_reducible apply XC.region (Γ := Γ)) | (with_reducible apply XC.block)))
  ((with_reducible apply XC.cond); (case hc => exact rfl); all_goals (intro hb_; try simp only [pd_true, pd_false, Bool.not_eq_true', Bool.not_eq_false', Bool.and_eq_true, Bool.and_eq_false_iff, Bool.or_eq_true, Bool.or_eq_false_iff, not_true_eq_false, not_false_eq_true, Int.not_lt, Int.not_le] at hb_))
  · (repeat ((with_reducible apply XC.seq)))
    ((with_reducible apply XC.regionD (Γ := Γ) mixed (.q 0 (.q 1 (.q 2 (.e 3 (.q 4 (.q 5 (.done))))))) [] []); (case hc => kernel_rfl))
    (repeat (first | (with_reducible apply XQ.ret) | (with_reducible apply XQ.nt) | (with_reducible apply XQ.rt) | (with_reducible apply XQ.rb) | ((with_reducible apply XP.p1); (case ho | hg | hv => exact rfl)) | ((with_reducible apply XP.load); (case ho | hg | ht | hk | hx => exact rfl); (case hc => exact own_cell (i := 0) rfl rfl)) | ((with_reducible apply XP.loadO (j := 0)); (case ho | hg | ht | hk | hx | hi | hc => exact rfl)) | (with_reducible apply XP.done) | ((with_reducible apply XP.e); (first | ((with_reducible apply XE.d); (case ho => exact rfl); (case hd => exact rfl)) | ((with_reducible apply XE.e); (case ho => exact rfl)))) | ((with_reducible apply XP.keep); (case hk => first | ((repeat' (first | exact List.forall_mem_nil _ | (with_reducible refine List.forall_mem_cons.2 ⟨?_, ?_⟩) | exact List.mem_cons_self .. | (with_reducible apply List.mem_cons_of_mem) | (with_reducible apply List.mem_append_right))); done) | (intro x hx; first | exact sel_in hx | exact List.mem_cons_of_mem _ (sel_in hx) | exact List.mem_append_right _ (sel_in hx) | exact hx | exact List.mem_cons_of_mem _ hx | exact List.mem_append_right _ hx | ((repeat (first | exact sel_in hx | exact hx | (with_reducible apply List.mem_cons_of_mem) | (with_reducible apply List.mem_append_right))); done) | (rw [List.mem_singleton.1 hx]; (simp; done)) | (rcases List.mem_cons.1 hx with rfl | hx; (simp; done); (rw [List.mem_singleton.1 hx]; (simp; done))) | cases hx))) | (((with_reducible apply XOp.callQ (hF := head_fn c hc)); (case hg => exact rfl); (case hc => exact rfl); (case ha => exact rfl); try (case hA => exact Known.true)); rintro _ rfl)))
    ((with_reducible apply XQ.retE); (case hr => exact .t rfl .nil))
    exact congrArg (Value.int .i64) (ew.trans (by unfold measS; rw [if_pos (by assumption)]))
  · (repeat (first | (with_reducible apply XL.op) | ((with_reducible apply XOp.p1); (case hg | hv => exact rfl)) | (with_reducible apply XL.nilT) | (with_reducible apply XC.seq) | (with_reducible apply XC.region (Γ := Γ))))
    ((with_reducible apply XC.cond); (case hc => exact rfl); all_goals (intro hb_; try simp only [pd_true, pd_false, Bool.not_eq_true', Bool.not_eq_false', Bool.and_eq_true, Bool.and_eq_false_iff, Bool.or_eq_true, Bool.or_eq_false_iff, not_true_eq_false, not_false_eq_true, Int.not_lt, Int.not_le] at hb_))
    · (repeat (first | (with_reducible apply XL.op) | ((with_reducible apply XOp.p1); (case hg | hv => exact rfl)) | ((with_reducible apply XOp.load); (case hg | ht | hk | hx => exact rfl); (case hc => exact own_cell (i := 0) rfl rfl)) | (with_reducible apply XL.nilT) | (with_reducible apply XC.seq) | (with_reducible apply XC.region (Γ := Γ)) | (with_reducible apply XQ.ret) | (with_reducible apply XQ.rt) | (with_reducible apply XQ.rb)))
      ((with_reducible apply XQ.retE); (case hr => exact .t rfl .nil))
      exact congrArg (Value.int .i64) (by unfold measS; rw [if_neg (by assumption), if_pos (by assumption)])
    · (repeat (first | (with_reducible apply XL.op) | ((with_reducible apply XOp.p1); (case hg | hv => exact rfl)) | ((with_reducible apply XOp.load); (case hg | ht | hk | hx => exact rfl); (case hc => exact own_cell (i := 0) rfl rfl)) | (with_reducible apply XL.nilT) | (with_reducible apply XC.seq) | (with_reducible apply XC.region (Γ := Γ)) | (with_reducible apply XQ.skip) | (with_reducible apply XQ.ret) | (with_reducible apply XQ.nt) | (with_reducible apply XQ.nb)))
      ((with_reducible apply XQ.retE); (case hr => exact .t rfl .nil))
      exact congrArg (Value.int .i64) (by unfold measS; rw [if_neg (by assumption), if_neg (by assumption)])
end Go.Proofs.YtkppmmbcloaekaaGreatDoorX
/- Is it a matrix of that shape? -/
namespace Go.Proofs.YtkppmmbcloaekaaGreatDoorX
open Go Go.SX

def shpP (m : Mat) (r c : Int) : Prop := m.Rows = r ∧ m.Cols = c ∧ matOk m
theorem errMat_zero {m : Mat} (h : errMat m = 0) : matOk m := by
  by_cases h2 : matOk m
  · exact h2
  · rw [errMat_no h2] at h; omega
theorem shaped_fn (m : Mat) (a : Option Addr) (cap : Nat) (r c : Int) : FC Tryz.prog 41 [.agg ⟨[.int .i64 m.Rows, .int .i64 m.Cols, .slice a m.Data.length cap]⟩, .int .i64 r, .int .i64 c] [] (fun h => SlA (Kd.int .i8) 1 h m.Data a cap)
    (fun v L => v = .bool (pd (shpP m r c)) ∧ L = []) := by
  refine FC.nil ?_
  refine FC.intro Tryz.func41 rfl (by kernel_rfl) 22 [.tmp 6] rfl rfl rfl ?_
  intro w0 hA
  (repeat (first | (with_reducible apply XL.op) | (with_reducible apply XC.seq) | (with_reducible apply XC.region (Γ := Γ))))
  ((with_reducible apply XOp.box); (case hg | hx' => exact rfl); intro mb)
  (repeat' (first | (with_reducible apply XL.op) | ((with_reducible apply XOp.p1); (case hg | hv => exact rfl)) | ((with_reducible apply XOp.p0); (case hg => exact rfl)) | ((with_reducible apply XOp.load); (case hg | ht | hk | hx => exact rfl); (case hc => exact own_cell (i := 0) rfl rfl)) | ((with_reducible apply XOp.loadO (i := 0)); (case hg | ht | hk | hx | hi | hc => exact rfl)) | (with_reducible apply XL.nilT) | (with_reducible apply XC.seq) | (with_reducible apply XC.region (Γ := Γ)) | (with_reducible apply XQ.ret) | (((with_reducible apply XOp.callQ (hF := matCheck_fn m a cap)); (case hg => exact rfl); (case hc => exact rfl); (case ha => exact rfl); try (case hA => exact Known.true)); (case hA => exact Known.of_old hA (Mono.sl _ _ _ _ _)); rintro _ rfl) | ((with_reducible apply XOp.split); (case hg | hj | hd | hb => exact rfl); (fail_if_success (case hf => exact fun h => Bool.noConfusion h)); (fail_if_success (case ht => exact fun h => Bool.noConfusion h)); all_goals (intro hb_; try simp only [pd_true, pd_false, Bool.not_eq_true', Bool.not_eq_false', Bool.and_eq_true, Bool.and_eq_false_iff, Bool.or_eq_true, Bool.or_eq_false_iff, not_true_eq_false, not_false_eq_true, Int.not_lt, Int.not_le] at hb_))))
  all_goals ((with_reducible apply XQ.retE); (case hr => exact .t rfl .nil))
  all_goals refine congrArg Value.bool ?_
  all_goals by_cases hs : shpP m r c
  all_goals first
    | (rw [pdt hs]; done)
    | (rw [pdt hs]; exact pdt (errMat_ok hs.2.2))
    | (exfalso; exact hb_ hs.1)
    | (exfalso; exact hb_ hs.2.1)
    | (rw [pdf hs]; done)
    | (rw [pdf hs]; exact pdf (fun h => hs ⟨by assumption, by assumption, errMat_zero h⟩))
end Go.Proofs.YtkppmmbcloaekaaGreatDoorX
/- Lists of small numbers with marks behind them. -/
namespace Go.Proofs.YtkppmmbcloaekaaGreatDoorX
open Go Go.SX

theorem intS2 {i m : Nat} (h : i < m) (hm : m ≤ 4611686018427387904) : Value.int .i64 (IntKind.i64.wrap ((i : Int) + 1)) = .int .i64 ((i + 1 : Nat) : Int) := by rw [wrap64_of (by omega) (by omega)]; rfl
def mk64 : List Int := List.replicate 64 (-128)
def mkS (l : List Int) (i : Nat) : List Value := ((l ++ mk64).take i).map (.int .i8) ++ zerosL [.int .i8 0] (l.length + 64 - i)
end Go.Proofs.YtkppmmbcloaekaaGreatDoorX
/- The turns' bytes: the reference's. -/
namespace Go.Proofs.YtkppmmbcloaekaaGreatDoorX
open Go Go.SX

def turnV (x : Int × Int) : List Value := [.int .i64 x.1, .int .i64 x.2]
abbrev turnK : Kd (Int × Int) := Kd.raw turnV 2 (fun _ => rfl)
end Go.Proofs.YtkppmmbcloaekaaGreatDoorX
/- The measures' bytes: the reference's. -/
namespace Go.Proofs.YtkppmmbcloaekaaGreatDoorX
open Go Go.SX

end Go.Proofs.YtkppmmbcloaekaaGreatDoorX
/- Weights and where they lie. -/
namespace Go.Proofs.YtkppmmbcloaekaaGreatDoorX
open Go Go.SX

def Kd.loc {α : Type} (f : α → List Value) (k : Nat) (hk : ∀ x, (f x).length = k) (at_ : HV → α → Prop) (hm : ∀ x, Mono (fun h => at_ h x)) : Kd α :=
  ⟨k, fun h x cs => cs = f x ∧ at_ h x, fun {_ x _} h => by rw [h.1]; exact hk x, fun s h => ⟨h.1, hm _ _ _ s h.2⟩⟩
theorem _root_.Go.SX.SlA.locRaw {α : Type} {f : α → List Value} {k by_ : Nat} {hk : ∀ x, (f x).length = k} {at_ : HV → α → Prop} {hm : ∀ x, Mono (fun h => at_ h x)} {h : HV} {l : List α} {a : Option Addr} {cap : Nat}
    (s : SlA (Kd.loc f k hk at_ hm) by_ h l a cap) : SlA (Kd.raw f k hk) by_ h l a cap :=
  ⟨s.le, s.bytes, s.nil, s.at_, fun i x hx => by obtain ⟨c, hc, hr⟩ := s.row i x hx; exact ⟨c, hc.1, hr⟩⟩
theorem _root_.Go.SX.SlA.locAt {α : Type} {f : α → List Value} {k by_ : Nat} {hk : ∀ x, (f x).length = k} {at_ : HV → α → Prop} {hm : ∀ x, Mono (fun h => at_ h x)} {h : HV} {l : List α} {a : Option Addr} {cap : Nat}
    (s : SlA (Kd.loc f k hk at_ hm) by_ h l a cap) {x : α} (hx : x ∈ l) : at_ h x := by
  obtain ⟨i, hi⟩ := List.getElem?_of_mem hx
  obtain ⟨c, hc, _⟩ := s.row i x hi
  exact hc.2
theorem _root_.Go.SX.SlA.ofRaw {α : Type} {f : α → List Value} {k by_ : Nat} {hk : ∀ x, (f x).length = k} {at_ : HV → α → Prop} {hm : ∀ x, Mono (fun h => at_ h x)} {h : HV} {l : List α} {a : Option Addr} {cap : Nat}
    (s : SlA (Kd.raw f k hk) by_ h l a cap) (ha : ∀ x ∈ l, at_ h x) : SlA (Kd.loc f k hk at_ hm) by_ h l a cap :=
  ⟨s.le, s.bytes, s.nil, s.at_, fun i x hx => by obtain ⟨c, hc, hr⟩ := s.row i x hx; exact ⟨c, ⟨hc, ha x (List.mem_of_getElem? hx)⟩, hr⟩⟩

/-! ### The parts -/
abbrev lvAt (h : HV) (x : LV) : Prop := SlA (Kd.int .i8) 1 h x.1 x.2.1 x.2.2
abbrev slv (x : LV) : Value := .slice x.2.1 x.1.length x.2.2
theorem lv_mono (x : LV) : Mono (fun h => lvAt h x) := Mono.sl _ _ _ _ _
structure LM where
  (r c : Int)
  d : LV
def LM.mat (m : LM) : Mat := ⟨m.r, m.c, m.d.1⟩
def LM.cells (m : LM) : List Value := [.int .i64 m.r, .int .i64 m.c, slv m.d]
abbrev lmAt (h : HV) (m : LM) : Prop := lvAt h m.d
theorem lm_mono (x : LM) : Mono (fun h => lmAt h x) := lv_mono _
abbrev lmK : Kd LM := Kd.loc LM.cells 3 (fun _ => rfl) lmAt lm_mono
abbrev lmR : Kd LM := Kd.raw LM.cells 3 (fun _ => rfl)
structure LL where
  (n1 n2 : LV)
  (q k v o g u d : LM)
  (b0 b1 b2 b3 b4 b5 b6 : Int)
def LL.by_ (l : LL) : List Int := [l.b0, l.b1, l.b2, l.b3, l.b4, l.b5, l.b6]
def LL.lay (l : LL) : Lay := ⟨l.n1.1, l.n2.1, l.q.mat, l.k.mat, l.v.mat, l.o.mat, l.g.mat, l.u.mat, l.d.mat, l.by_⟩
def LL.cells (l : LL) : List Value := [slv l.n1, slv l.n2, .int .i64 l.q.r, .int .i64 l.q.c, slv l.q.d, .int .i64 l.k.r, .int .i64 l.k.c, slv l.k.d, .int .i64 l.v.r, .int .i64 l.v.c, slv l.v.d,
  .int .i64 l.o.r, .int .i64 l.o.c, slv l.o.d, .int .i64 l.g.r, .int .i64 l.g.c, slv l.g.d, .int .i64 l.u.r, .int .i64 l.u.c, slv l.u.d, .int .i64 l.d.r, .int .i64 l.d.c, slv l.d.d,
  .int .i64 l.b0, .int .i64 l.b1, .int .i64 l.b2, .int .i64 l.b3, .int .i64 l.b4, .int .i64 l.b5, .int .i64 l.b6]
structure llAt (h : HV) (l : LL) : Prop where
  n1 : lvAt h l.n1
  n2 : lvAt h l.n2
  q : lmAt h l.q
  k : lmAt h l.k
  v : lmAt h l.v
  o : lmAt h l.o
  g : lmAt h l.g
  u : lmAt h l.u
  d : lmAt h l.d
theorem ll_mono (x : LL) : Mono (fun h => llAt h x) := fun _ _ s h =>
  ⟨lv_mono _ _ _ s h.n1, lv_mono _ _ _ s h.n2, lm_mono _ _ _ s h.q, lm_mono _ _ _ s h.k, lm_mono _ _ _ s h.v, lm_mono _ _ _ s h.o, lm_mono _ _ _ s h.g, lm_mono _ _ _ s h.u, lm_mono _ _ _ s h.d⟩
abbrev llK : Kd LL := Kd.loc LL.cells 30 (fun _ => rfl) llAt ll_mono
abbrev llR : Kd LL := Kd.raw LL.cells 30 (fun _ => rfl)
/-- A list of α and where it lies. -/
abbrev LA (α : Type) := List α × Option Addr × Nat
abbrev sla {α : Type} (x : LA α) : Value := .slice x.2.1 x.1.length x.2.2
structure LW where
  C : Cfg
  E : LM
  T : LA (Int × Int)
  Ls : LA LL
  F : LV
  H : LM
  M : LA LM
def LW.w (x : LW) : Wts := ⟨x.C, x.E.mat, x.T.1, x.Ls.1.map LL.lay, x.F.1, x.H.mat, x.M.1.map LM.mat⟩
def LW.cells (x : LW) : List Value := [.int .i64 x.C.Vocab, .int .i64 x.C.Width, .int .i64 x.C.Heads, .int .i64 x.C.KV, .int .i64 x.C.Layers, .int .i64 x.C.Hidden, .int .i64 x.C.Len, .int .i64 x.C.Medusa,
  .int .i64 x.E.r, .int .i64 x.E.c, slv x.E.d, sla x.T, sla x.Ls, slv x.F, .int .i64 x.H.r, .int .i64 x.H.c, slv x.H.d, sla x.M]
structure lwAt (h : HV) (x : LW) : Prop where
  e : lmAt h x.E
  t : SlA turnK 16 h x.T.1 x.T.2.1 x.T.2.2
  l : SlA llK 384 h x.Ls.1 x.Ls.2.1 x.Ls.2.2
  f : lvAt h x.F
  hd : lmAt h x.H
  m : SlA lmK 40 h x.M.1 x.M.2.1 x.M.2.2
theorem lw_mono (x : LW) : Mono (fun h => lwAt h x) := fun _ _ s h =>
  ⟨lm_mono _ _ _ s h.e, h.t.mono s, h.l.mono s, lv_mono _ _ _ s h.f, lm_mono _ _ _ s h.hd, h.m.mono s⟩

/-! ### What fits, as the checks look at it -/
theorem lv_i8 {h : HV} {x : LV} (hx : lvAt h x) : ∀ y ∈ x.1, -128 ≤ y ∧ y ≤ 127 := fun y hy => inK_i8.1 (hx.okAll y hy)
theorem shp_iff {h : HV} {m : LM} (hm : lmAt h m) (r c : Int) : shpP m.mat r c ↔ isM m.mat r c := by
  constructor
  · rintro ⟨rfl, rfl, h1, h2, h3, h4⟩
    exact ⟨rfl, rfl, h1, h2, h3, fun x hx => by have := h4 x hx; have := lv_i8 hm x hx; omega⟩
  · rintro ⟨rfl, rfl, h1, h2, h3, h4⟩
    exact ⟨rfl, rfl, h1, h2, h3, fun x hx => by have := h4 x hx; omega⟩
theorem gains_iff {h : HV} {x : LV} (hx : lvAt h x) (n : Int) : gainsP x.1 n ↔ gainsS x.1 n := by
  constructor
  · rintro ⟨h1, h2⟩; exact ⟨h1, fun y hy => by have := h2 y hy; have := lv_i8 hx y hy; omega⟩
  · rintro ⟨h1, h2⟩; exact ⟨h1, fun y hy => by have := h2 y hy; omega⟩
end Go.Proofs.YtkppmmbcloaekaaGreatDoorX
/- Which measures may be: both functions come to the same number. -/
namespace Go.Proofs.YtkppmmbcloaekaaGreatDoorX
open Go Go.SX

def _root_.Go.SX.Srv.cells (c : Srv) : List Value := [.int .i64 c.Blocks, .int .i64 c.Block, .int .i64 c.Budget, .int .i64 c.Chunk, .int .i64 c.Tree]
def _root_.Go.SX.Srv.ok (c : Srv) : Prop := inK .i64 c.Blocks ∧ inK .i64 c.Block ∧ inK .i64 c.Budget ∧ inK .i64 c.Chunk ∧ inK .i64 c.Tree
def srvK : Kd Srv := ⟨5, fun _ c cs => cs = c.cells ∧ c.ok, fun h => by rw [h.1]; rfl, fun _ h => h⟩
theorem rdrSrv {H : Type} (enc : TypeId × Value → H) (W : World) : Rdr enc Tryz.prog W 37 srvK := fun fuel cs x h hw => by
  have hl := rdr_struct_len Tryz.underlying37 h
  have hc : Tryz.prog.cellsOf 37 = 5 := by kernel_rfl
  have h1 : Tryz.prog.cellsOf 3 = 1 := by kernel_rfl
  obtain ⟨a0, e0⟩ := rdr_field Tryz.underlying37 h hw (i := 0) rfl (rdr_int Tryz.underlying3) rfl h1
  obtain ⟨a1, e1⟩ := rdr_field Tryz.underlying37 h hw (i := 1) rfl (rdr_int Tryz.underlying3) rfl h1
  obtain ⟨a2, e2⟩ := rdr_field Tryz.underlying37 h hw (i := 2) rfl (rdr_int Tryz.underlying3) rfl h1
  obtain ⟨a3, e3⟩ := rdr_field Tryz.underlying37 h hw (i := 3) rfl (rdr_int Tryz.underlying3) rfl h1
  obtain ⟨a4, e4⟩ := rdr_field Tryz.underlying37 h hw (i := 4) rfl (rdr_int Tryz.underlying3) rfl h1
  obtain ⟨c0, c1, c2, c3, c4, rfl⟩ := len5 (hl.trans hc)
  simp [Kd.int] at e0 e1 e2 e3 e4
  exact ⟨⟨a0, a1, a2, a3, a4⟩, by simp [Go.SX.Srv.cells, e0.1, e1.1, e2.1, e3.1, e4.1], e0.2, e1.2, e2.2, e3.2, e4.2⟩

theorem swithin_fn (a lo hi : Int) : FC Tryz.prog 49 [.int .i64 a, .int .i64 lo, .int .i64 hi] [] (fun _ => True)
    (fun v L => v = .bool (pd (lo ≤ a) && pd (a ≤ hi)) ∧ L = []) := by
  refine FC.intro Tryz.func49 rfl (by kernel_rfl) 15 [.tmp 6] rfl rfl rfl ?_
  intro w0 _
  (repeat' (first | (with_reducible apply XL.op) | ((with_reducible apply XOp.p1); (case hg | hv => exact rfl)) | ((with_reducible apply XOp.p0); (case hg => exact rfl)) | (with_reducible apply XL.nilT) | (with_reducible apply XC.seq) | (with_reducible apply XC.region (Γ := Γ)) | (with_reducible apply XQ.ret) | ((with_reducible apply XOp.split); (case hg | hj | hd | hb => exact rfl); (fail_if_success (case hf => exact fun h => Bool.noConfusion h)); (fail_if_success (case ht => exact fun h => Bool.noConfusion h)); all_goals (intro hb_; try simp only [pd_true, pd_false, Bool.not_eq_true', Bool.not_eq_false', Bool.and_eq_true, Bool.and_eq_false_iff, Bool.or_eq_true, Bool.or_eq_false_iff, not_true_eq_false, not_false_eq_true, Int.not_lt, Int.not_le] at hb_))))
  all_goals ((with_reducible apply XQ.retE); (case hr => exact .t rfl .nil))
  · simp [resV, pdt hb_]
  · simp [resV, pdf (show ¬ lo ≤ a by omega)]

noncomputable def _root_.Go.SX.Srv.err (c : Srv) (l : Int) : Int := if @decide (c.okS l) (Classical.propDecidable _) then 0 else 200
theorem serr_ok {c : Srv} {l : Int} (h : c.okS l) : Value.int .i64 0 = .int .i64 (c.err l) := by unfold Go.SX.Srv.err; simp [h]
theorem serr_no {c : Srv} {l : Int} (h : ¬ c.okS l) : Value.int .i64 200 = .int .i64 (c.err l) := by unfold Go.SX.Srv.err; simp [h]
theorem small_mul {a b : Int} (ha : 1 ≤ a ∧ a ≤ 256) (hb : 1 ≤ b ∧ b ≤ 16) : IntKind.i64.wrap (a * b) = a * b := by
  have h1 : 0 ≤ a * b := Int.mul_nonneg (by omega) (by omega)
  have h2 : a * b ≤ 256 * 16 := Int.mul_le_mul ha.2 hb.2 (by omega) (by omega)
  exact wrap64_of (by omega) (by omega)

theorem scheck_fn (c : Srv) (l : Int) : FC Tryz.prog 23 [.agg ⟨c.cells⟩, .int .i64 l] [] (fun _ => True)
    (fun v L => v = .int .i64 (c.err l) ∧ L = []) := by
  refine FC.nil ?_
  refine FC.intro Tryz.func23 rfl (by kernel_rfl) 52 [.tmp 4] rfl rfl rfl ?_
  intro w0 _
  (repeat' (first | (with_reducible apply XL.op) | ((with_reducible apply XOp.p1); (case hg | hv => exact rfl)) | ((with_reducible apply XOp.p0); (case hg => exact rfl)) | ((with_reducible apply XOp.load); (case hg | ht | hk | hx => exact rfl); (case hc => exact own_cell (i := 0) rfl rfl)) | ((with_reducible apply XOp.box); (case hg | hx' => exact rfl); intro bx_) | (with_reducible apply XL.nilT) | (with_reducible apply XC.seq) | (with_reducible apply XC.region (Γ := Γ)) | (with_reducible apply XQ.skip) | (with_reducible apply XQ.ret) | (with_reducible apply XQ.nt) | (with_reducible apply XQ.rt) | ((with_reducible apply XC.condT); (case hc => exact rfl)) | (((with_reducible apply XOp.call (hF := swithin_fn _ _ _)); (case hg => exact rfl); (case hc => exact rfl); (case ha => exact rfl); (case hL => exact (List.nil_append _).symm); try (case hA => exact Known.true)); rintro _ _ ⟨rfl, rfl⟩) | ((with_reducible apply XOp.split); (case hg | hj | hd | hb => exact rfl); (fail_if_success (case hf => exact fun h => Bool.noConfusion h)); (fail_if_success (case ht => exact fun h => Bool.noConfusion h)); all_goals (intro hb_; try simp only [pd_true, pd_false, Bool.not_eq_true', Bool.not_eq_false', Bool.and_eq_true, Bool.and_eq_false_iff, Bool.or_eq_true, Bool.or_eq_false_iff, not_true_eq_false, not_false_eq_true, Int.not_lt, Int.not_le] at hb_)) | ((with_reducible apply XC.cond); (case hc => exact rfl); all_goals (intro hb_; try simp only [pd_true, pd_false, Bool.not_eq_true', Bool.not_eq_false', Bool.and_eq_true, Bool.and_eq_false_iff, Bool.or_eq_true, Bool.or_eq_false_iff, not_true_eq_false, not_false_eq_true, Int.not_lt, Int.not_le] at hb_))))
  all_goals ((with_reducible apply XQ.retE); (case hr => exact .t rfl .nil))
  all_goals first
    | (refine serr_no fun h => ?_
       obtain ⟨h1, h2, h3, h4, h5, h6, h7⟩ := h
       have := small_mul h2 h3
       omega)
    | (have hm := small_mul (a := c.Blocks) (b := c.Block) (by omega) (by omega)
       exact serr_ok ⟨by omega, by omega, by omega, by omega, by omega, by omega, by omega⟩)

end Go.Proofs.YtkppmmbcloaekaaGreatDoorX
/- Vocabularies and setups, and where they lie. -/
namespace Go.Proofs.YtkppmmbcloaekaaGreatDoorX
open Go Go.SX

structure LVo where
  B : LA Int
  P : LA (Int × Int)
def LVo.voc (x : LVo) : Voc := ⟨x.B.1, x.P.1⟩
def LVo.cells (x : LVo) : List Value := [sla x.B, sla x.P]
structure voAt (h : HV) (x : LVo) : Prop where
  b : SlA (Kd.int .u8) 1 h x.B.1 x.B.2.1 x.B.2.2
  p : SlA turnK 16 h x.P.1 x.P.2.1 x.P.2.2
  bs : x.B.1.length ≤ 140737488351232
  ps : x.P.1.length * 16 ≤ 140737488351232
theorem vo_mono (x : LVo) : Mono (fun h => voAt h x) := fun _ _ s h => ⟨h.b.mono s, h.p.mono s, h.bs, h.ps⟩
/-- A setup: weights, a vocabulary, an engine's measures. -/
structure LSt where
  w : LW
  v : LVo
  c : Srv
def LSt.cells (x : LSt) : List Value := x.w.cells ++ (x.v.cells ++ x.c.cells)
structure stAt (h : HV) (x : LSt) : Prop where
  w : lwAt h x.w
  v : voAt h x.v
theorem st_mono (x : LSt) : Mono (fun h => stAt h x) := fun _ _ s h => ⟨lw_mono _ _ _ s h.w, vo_mono _ _ _ s h.v⟩
/-- A request. -/
structure LAsk where
  P : LA Int
  (new temp topK topP pen seed prop : Int)
  guide : ByteArray
def LAsk.cells (x : LAsk) : List Value := [sla x.P, .int .i64 x.new, .int .i64 x.temp, .int .i64 x.topK, .int .i64 x.topP, .int .i64 x.pen, .int .u64 x.seed, .int .i64 x.prop, .string x.guide]
abbrev ints (h : HV) (x : LA Int) : Prop := SlA (Kd.int .i64) 8 h x.1 x.2.1 x.2.2
structure LLo where
  u : LSt
  ask : LAsk
  id : Int
  picks : LA Int
def LLo.cells (x : LLo) : List Value := x.u.cells ++ (x.ask.cells ++ [.int .i64 x.id, sla x.picks])
structure loAt (h : HV) (x : LLo) : Prop where
  u : stAt h x.u
  a : ints h x.ask.P
  p : ints h x.picks
theorem lo_mono (x : LLo) : Mono (fun h => loAt h x) := fun _ _ s h => ⟨st_mono _ _ _ s h.u, h.a.mono s, h.p.mono s⟩
end Go.Proofs.YtkppmmbcloaekaaGreatDoorX
/- Bytes: copied, held against others. -/
namespace Go.Proofs.YtkppmmbcloaekaaGreatDoorX
open Go Go.SX

theorem copyBytes_fn (xs : List Int) (a : Option Addr) (cap : Nat) : FC Tryz.prog 28 [.slice a xs.length cap] [] (fun h => SlA (Kd.int .u8) 1 h xs a cap)
    (fun v L => OwnS 5 1 v xs.length (xs.map (.int .u8)) L) := by
  refine FC.intro Tryz.func28 rfl (by kernel_rfl) 19 [.tmp 2] rfl rfl rfl ?_
  intro w0 hA
  have hsm := hA.bytes
  (repeat (first | (with_reducible apply XL.op) | ((with_reducible apply XOp.p1); (case hg | hv => exact rfl)) | (with_reducible apply XL.nilT) | (with_reducible apply XC.seq) | (with_reducible apply XC.region (Γ := Γ)) | (with_reducible apply XC.block)))
  refine XC.loop (fun k ρ L => ∃ (i : Nat) (v : Value) (F : HL), i + k = xs.length ∧ L = F ++ [] ∧ OwnS 5 1 v i ((xs.take i).map (.int .u8)) F ∧ Slots ρ [(0, .slice a xs.length cap), (3, v), (4, .int .i64 i)])
    xs.length ⟨0, _, [], by simp, rfl, OwnS.nil _ _, rfl, rfl, rfl, trivial⟩ ?_
  rintro k ρ L ⟨i, v, F, hik, rfl, hown, hs⟩
  obtain ⟨a', c', rfl⟩ := hown.val
  refine XC.slots _ hs ?_
  (repeat' (first | (with_reducible apply XL.op) | ((with_reducible apply XOp.p1); (case hg | hv => exact rfl)) | ((with_reducible apply XOp.pr); (case hg => exact rfl); (case hr => ((with_reducible apply PR.idxA); (case ht | hk | he | hx | hi => exact rfl); (case hr => first | assumption | omega); (case ha => first | assumption | exact SlA.at_ (by assumption))))) | ((with_reducible apply XOp.buildSlice); (case hg | ht | hk | he | hz | hzl | hf => exact rfl); intro bs_) | (with_reducible apply XL.nilT) | (with_reducible apply XC.seq) | (with_reducible apply XC.region (Γ := Γ)) | (with_reducible apply XL.nilQ) | (with_reducible apply XQ.skip) | (with_reducible apply XQ.ret) | (with_reducible apply XQ.exit) | (with_reducible apply XQ.nt) | (with_reducible apply XQ.nb) | (with_reducible apply XQ.et) | (with_reducible apply XC.block) | ((with_reducible apply XQ.eb); (case hb => exact rfl)) | (first | ((with_reducible apply XOp.load); (case hg | ht | hk | hx => exact rfl); (case hc => exact Known.of_old (hA.int i (by omega)).1 (Mono.cell _ _))) | ((with_reducible apply XP.load); (case ho | hg | ht | hk | hx => exact rfl); (case hc => exact Known.of_old (hA.int i (by omega)).1 (Mono.cell _ _)))) | ((with_reducible apply XOp.append1); (case hg => exact rfl); (case ht => exact rfl); (case hk => exact rfl); (case he => exact rfl); (case hown => exact hown); (case hs => exact rfl); (case hx => exact rfl); (case hL => exact rfl); (case hl => exact rfl); (case h1 => exact rfl); (case hz => exact rfl); (case hsz => exact Nat.zero_lt_succ _); (case hk0 => exact Nat.zero_lt_succ _); (case h63 => simp only [maxLen]; omega); (case hb => simp only []; omega); intro v_ F_ hown_; obtain ⟨a_, c_, rfl⟩ := hown_.val) | ((with_reducible apply XC.cond); (case hc => exact rfl); all_goals (intro hb_; try simp only [pd_true, pd_false, Bool.not_eq_true', Bool.not_eq_false', Bool.and_eq_true, Bool.and_eq_false_iff, Bool.or_eq_true, Bool.or_eq_false_iff, not_true_eq_false, not_false_eq_true, Int.not_lt, Int.not_le] at hb_))))
  · exact ⟨k - 1, by omega, i + 1, _, F_, by omega, rfl, by rw [take_map_snoc _ _ _ 0 (by omega)]; exact hown_, rfl, rfl, intS (m := xs.length) (by omega) (by omega), trivial⟩
  · ((with_reducible apply XQ.retE); (case hr => exact .t rfl .nil))
    obtain rfl : i = xs.length := by omega
    rw [List.append_nil]
    rw [List.take_length] at hown; exact hown

end Go.Proofs.YtkppmmbcloaekaaGreatDoorX
/- Vocabularies: copied, given spare room, held against others. -/
namespace Go.Proofs.YtkppmmbcloaekaaGreatDoorX
open Go Go.SX

theorem _root_.Go.SX.OwnS.blk2 {e sz m : Nat} {v : Value} {xs : List Value} {F : HL} (h : OwnS e sz v m xs F) (hp : 0 < m) : ∃ g cap sp, v = .slice (some ⟨g, 0, none⟩) m cap ∧ F = [(g, .cells ⟨xs ++ sp⟩ e (0, 0))] ∧ m ≤ cap ∧ cap ≤ maxLen ∧ (xs ++ sp).length = cap * sz := by
  rcases h.2 with ⟨_, h0, _⟩ | h
  · omega
  · exact h
def VoB (b : Nat) (bv pv : Value) : Nat × Obj := (b, Obj.cells ⟨[bv, pv]⟩ 35 (0, 0))
abbrev nilS : Value := .slice none 0 0
abbrev prS (l : List (Int × Int)) : List Value := l.flatMap turnV
def CopV (x : LVo) (v : Value) (L : HL) : Prop := ∃ bv pv Fb Fp, v = .agg ⟨[bv, pv]⟩ ∧ OwnS 5 1 bv x.B.1.length (x.B.1.map (.int .u8)) Fb ∧ OwnS 93 2 pv x.P.1.length (prS x.P.1) Fp ∧ L = Fb ++ Fp
set_option maxHeartbeats 8000000 in
theorem copyVocab_fn (x : LVo) : FC Tryz.prog 7 [.agg ⟨x.cells⟩] [] (fun h => voAt h x) (fun v L => CopV x v L) := by
  refine FC.sub2 ?_
  obtain ⟨⟨B, ab, cb⟩, ⟨Ps, ap, cp⟩⟩ := x
  refine FC.intro Tryz.func7 rfl (by kernel_rfl) 27 [.cell 2 35] rfl rfl rfl ?_
  rintro w0 ⟨hB, hP, _, hps⟩
  change SlA (Kd.int .u8) 1 _ B ab cb at hB
  change SlA turnK 16 _ Ps ap cp at hP
  change Ps.length * 16 ≤ _ at hps
  have hat := hP.at_
  (repeat (first | (with_reducible apply XL.op) | (with_reducible apply XC.seq) | (with_reducible apply XC.region (Γ := Γ))))
  ((with_reducible apply XOp.box); (case hg | hx' => exact rfl); intro ub)
  (repeat ((with_reducible apply XL.op)))
  ((with_reducible apply XOp.alloc); (case hg | ht | hx' => exact rfl); intro rb)
  (repeat (first | (with_reducible apply XL.op) | (with_reducible apply XL.nilT) | (with_reducible apply XC.seq) | (with_reducible apply XC.region (Γ := Γ))))
  ((with_reducible apply XOp.alloc); (case hg | ht | hx' => exact rfl); intro xb)
  (repeat (first | (with_reducible apply XL.op) | ((with_reducible apply XOp.p1); (case hg | hv => exact rfl)) | ((with_reducible apply XOp.load); (case hg | ht | hk | hx => exact rfl); (case hc => exact own_cell (i := 2) rfl rfl)) | (with_reducible apply XL.nilT) | (with_reducible apply XC.seq) | (with_reducible apply XC.region (Γ := Γ))))
  ((with_reducible apply XOp.callN (hF := copyBytes_fn B ab cb)); (case hg => exact rfl); (case hc => exact rfl); (case ha => exact rfl); try (case hA => exact Known.true))
  case hA => exact Known.of_old hB (Mono.sl _ _ _ _ _)
  intro bv Fb hb
  obtain ⟨ba, bc, rfl⟩ := hb.val
  (repeat (first | (with_reducible apply XL.op) | ((with_reducible apply XOp.p1); (case hg | hv => exact rfl)) | ((with_reducible apply XOp.store (i := 0)); (case hg | ht | hk | hx | hv | h1 | hi | hs | ha => exact rfl)) | (with_reducible apply XL.nilT) | (with_reducible apply XC.seq) | (with_reducible apply XC.region (Γ := Γ)) | (with_reducible apply XC.block)))
  refine XC.loopP (fun k ρ L => ∃ (i : Nat) (v : Value) (Fv : HL), i + k = Ps.length ∧ OwnS 93 2 v i (prS (Ps.take i)) Fv ∧ L = ([VoB xb (.slice ba B.length bc) v, VoB rb nilS nilS, VoB ub (.slice ab B.length cb) (.slice ap Ps.length cp)] ++ Fb) ++ Fv ∧ Slots ρ [(1, .pointer (some ⟨ub, 0, none⟩)), (2, .pointer (some ⟨rb, 0, none⟩)), (3, .pointer (some ⟨xb, 0, none⟩)), (4, .int .i64 i)])
    Ps.length ⟨0, _, [], by simp, OwnS.nil _ _, by simp only [List.append_nil]; rfl, rfl, rfl, rfl, rfl, trivial⟩ ?_
  rintro k ρ L ⟨i, v, Fv, hik, hown, rfl, hs⟩
  obtain ⟨a', c', rfl⟩ := hown.val
  refine XC.slots _ hs ?_
  (repeat (first | (with_reducible apply XL.op) | ((with_reducible apply XOp.p1); (case hg | hv => exact rfl)) | ((with_reducible apply XOp.load); (case hg | ht | hk | hx => exact rfl); (case hc => exact own_cell (i := 2) rfl rfl)) | (with_reducible apply XL.nilT) | (with_reducible apply XC.seq) | (with_reducible apply XC.region (Γ := Γ))))
  ((with_reducible apply XC.cond); (case hc => exact rfl); all_goals (intro hb_; try simp only [pd_true, pd_false, Bool.not_eq_true', Bool.not_eq_false', Bool.and_eq_true, Bool.and_eq_false_iff, Bool.or_eq_true, Bool.or_eq_false_iff, not_true_eq_false, not_false_eq_true, Int.not_lt, Int.not_le] at hb_))
  · obtain ⟨p, hi⟩ : ∃ p, Ps[i]? = some p := ⟨_, List.getElem?_eq_getElem (by omega)⟩
    (repeat (first | (with_reducible apply XC.seq) | (with_reducible apply XQ.skip) | (with_reducible apply XQ.nt) | (with_reducible apply XC.block)))
    ((with_reducible apply XC.regionL (Γ := Γ) mixed (.q 0 (.q 1 (.q 2 (.q 3 (.q 4 (.q 5 (.q 6 (.e 7 (.e 8 (.e 9 (.e 10 (.done)))))))))))) [8, 10] ([VoB xb (.slice ba B.length bc) (.slice a' i c'), VoB rb nilS nilS, VoB ub (.slice ab B.length cb) (.slice ap Ps.length cp)])); (case hc => kernel_rfl); (case hs => first | exact List.nil_sublist _ | exact List.Sublist.refl _ | exact List.sublist_append_right _ _ | (refine List.Sublist.cons_cons _ (List.nil_sublist _)) | (refine List.Sublist.cons_cons _ (List.Sublist.cons_cons _ (List.nil_sublist _))) | (refine List.Sublist.cons_cons _ (List.Sublist.cons_cons _ (List.Sublist.cons_cons _ (List.nil_sublist _)))) | (refine List.Sublist.cons_cons _ (List.Sublist.cons_cons _ (List.Sublist.cons_cons _ (List.Sublist.cons_cons _ (List.nil_sublist _))))) | ((try simp only [List.append_eq, List.cons_append, List.nil_append, List.append_assoc]); (repeat (first | exact List.Sublist.refl _ | exact List.nil_sublist _ | (with_reducible apply List.Sublist.cons_cons) | (with_reducible apply List.Sublist.cons))); done)))
    (repeat (first | ((with_reducible apply XP.p1); (case ho | hg | hv => exact rfl)) | ((with_reducible apply XP.load); (case ho | hg | ht | hk | hx => exact rfl); (case hc => exact own_cell (i := 0) rfl rfl)) | ((with_reducible apply XP.load); (case ho | hg | ht | hk | hx => exact rfl); (case hc => exact own_cell (i := 2) rfl rfl)) | ((with_reducible apply XP.pr); (case ho => exact rfl); (case hg => exact rfl); (case hr => ((with_reducible apply PR.idxA); (case ht | hk | he | hx | hi => exact rfl); (case hr => first | assumption | omega); (case ha => first | assumption | exact SlA.at_ (by assumption))))) | ((with_reducible apply XP.e); (first | ((with_reducible apply XE.d); (case ho => exact rfl); (case hd => exact rfl)) | ((with_reducible apply XE.e); (case ho => exact rfl)))) | (first | ((with_reducible apply XOp.loadN); (case hg | ht | hk | hx => exact rfl); (case hc => exact Known.of_old (hP.rawAt hi) (Mono.row _ _ _)); (case hl => exact rfl)) | ((with_reducible apply XP.loadN); (case ho | hg | ht | hk | hx => exact rfl); (case hc => exact Known.of_old (hP.rawAt hi) (Mono.row _ _ _)); (case hl => exact rfl)))))
    ((with_reducible apply XOp.buildSlice); (case hg | ht | hk | he | hz | hzl | hf => exact rfl); intro bb)
    (refine ⟨fun y_ hy_ => (by (simp only [List.mem_cons, List.mem_append, List.not_mem_nil, or_false] at hy_ ⊢); (repeat' (rcases hy_ with hy_ | hy_)) <;> simp), ?_⟩)
    (repeat (((with_reducible apply XP.e); (first | ((with_reducible apply XE.d); (case ho => exact rfl); (case hd => exact rfl)) | ((with_reducible apply XE.e); (case ho => exact rfl))))))
    ((with_reducible apply XOp.append1R (R := [VoB xb (.slice ba B.length bc) (.slice a' i c'), VoB rb nilS nilS, VoB ub (.slice ab B.length cb) (.slice ap Ps.length cp)] ++ Fb)); (case hg => exact rfl); (case ht => exact rfl); (case hk => exact rfl); (case he => exact rfl); (case hown => exact hown); (case hs => exact rfl); (case hx => exact rfl); (case hL => exact rfl); (case hl => exact rfl); (case h1 => exact rfl); (case hz => exact rfl); (case hsz => exact Nat.zero_lt_succ _); (case hk0 => exact Nat.zero_lt_succ _); (case h63 => simp only [maxLen]; omega); (case hb => simp only []; omega); intro v_ F_ hown_; obtain ⟨a_, c_, rfl⟩ := hown_.val)
    (repeat (first | ((with_reducible apply XOp.p1); (case hg | hv => exact rfl)) | ((with_reducible apply XP.e); (first | ((with_reducible apply XE.d); (case ho => exact rfl); (case hd => exact rfl)) | ((with_reducible apply XE.e); (case ho => exact rfl))))))
    (refine ⟨fun y_ hy_ => (by (simp only [List.mem_cons, List.mem_append, List.not_mem_nil, or_false] at hy_ ⊢); (repeat' (rcases hy_ with hy_ | hy_)) <;> simp), ?_⟩)
    (repeat (first | (with_reducible apply XL.op) | ((with_reducible apply XOp.p1); (case hg | hv => exact rfl)) | ((with_reducible apply XOp.store (i := 0)); (case hg | ht | hk | hx | hv | h1 | hi | hs | ha => exact rfl)) | (with_reducible apply XL.nilT) | (with_reducible apply XC.region (Γ := Γ)) | (with_reducible apply XQ.nt) | (with_reducible apply XQ.nb) | (with_reducible apply XP.done) | ((with_reducible apply XP.e); (first | ((with_reducible apply XE.d); (case ho => exact rfl); (case hd => exact rfl)) | ((with_reducible apply XE.e); (case ho => exact rfl))))))
    exact ⟨k - 1, by omega, _, .of (List.Sublist.refl _), i + 1, _, F_, by omega, hown_.conv rfl (by rw [take_snocD hi, prS, prS, List.flatMap_append]; simp [zerosL, turnV]), rfl, rfl, rfl, rfl, intS (m := Ps.length) (by omega) (by omega), trivial⟩
  obtain rfl : i = Ps.length := by omega
  rw [List.take_length] at hown
  (repeat (first | (with_reducible apply XL.op) | ((with_reducible apply XOp.loadO (i := 0)); (case hg | ht | hk | hx | hi | hc => exact rfl)) | ((with_reducible apply XOp.storeN (i := 1)); (case hg | ht | hx | hv' | hk | h1 | hi | hs | ha => exact rfl)) | (with_reducible apply XL.nilT) | (with_reducible apply XC.seq) | (with_reducible apply XC.region (Γ := Γ)) | (with_reducible apply XQ.ret) | (with_reducible apply XQ.exit) | (with_reducible apply XQ.nt) | (with_reducible apply XQ.et) | ((with_reducible apply XQ.eb); (case hb => exact rfl))))
  ((with_reducible apply XQ.retE); (case hr => exact .row rfl (by kernel_rfl) (by kernel_rfl) (own_row (i := 1) (m := 2) rfl rfl) .nil))
  exact ⟨Fb ++ Fv, .of (by ((try simp only [List.append_eq, List.cons_append, List.nil_append, List.append_assoc]); repeat (first | exact List.Sublist.refl _ | exact List.nil_sublist _ | (with_reducible apply List.Sublist.cons_cons) | (with_reducible apply List.Sublist.cons) | exact List.sublist_append_right _ _))), _, _, Fb, Fv, rfl, hb, hown, rfl⟩

def mB (j : Nat) : List Int := (List.range j).map fun (k : Nat) => 200 - (k : Int)
def mP (j : Nat) : List (Int × Int) := (List.range j).map fun (k : Nat) => (-71, -(k : Int))
def RoomR (x : LVo) (v : Value) (L : HL) : Prop :=
  ∃ gb cb gp cp Fb Fp, OwnS 5 1 (.slice (some ⟨gb, 0, none⟩) (x.B.1.length + 64) cb) (x.B.1.length + 64) ((x.B.1 ++ mB 64).map (.int .u8)) Fb ∧
    OwnS 93 2 (.slice (some ⟨gp, 0, none⟩) (x.P.1.length + 64) cp) (x.P.1.length + 64) (prS (x.P.1 ++ mP 64)) Fp ∧
    v = .agg ⟨[.slice (some ⟨gb, 0, none⟩) x.B.1.length cb, .slice (some ⟨gp, 0, none⟩) x.P.1.length cp]⟩ ∧ L = Fb ++ Fp
end Go.Proofs.YtkppmmbcloaekaaGreatDoorX
/- Bytes of one's own, as a list. -/
namespace Go.Proofs.YtkppmmbcloaekaaGreatDoorX
open Go Go.SX
theorem own_u8 {e m : Nat} {a : Option Addr} {c : Nat} {xs : List Int} {F : HL} (h : OwnS e 1 (.slice a m c) m (xs.map (.int .u8)) F) (hk : ∀ x ∈ xs, inK .u8 x) (hb : xs.length * 1 ≤ 140737488355328) : SlA (Kd.int .u8) 1 (fv F) xs a c := by
  obtain ⟨a1, c1, he, _, hS⟩ := h.slA (by_ := 1) hk hb
  obtain ⟨rfl, -, rfl⟩ := Value.slice.inj he
  exact hS
end Go.Proofs.YtkppmmbcloaekaaGreatDoorX
/- Which vocabularies may be: the program's (the tokens' pieces, put together). -/
namespace Go.Proofs.YtkppmmbcloaekaaGreatDoorX
open Go Go.SX

theorem slA_nil {α : Type} {d : Kd α} {by_ : Nat} {h : HV} : SlA d by_ h [] none 0 := ⟨by simp, by simp, fun _ => rfl, fun h => absurd h (by simp), fun i x h => by simp at h⟩
def PcsR (V : Voc) (v : Value) (L : HL) : Prop :=
  (¬ vocOk V ∧ v = .slice none 0 0 ∧ L = []) ∨ (vocOk V ∧ ∃ g c, v = .slice (some ⟨g, 0, none⟩) V.size c ∧ L = [])
/-- Pieces that a call has made: their places lie in Fh. -/
def PcAt (l : List (LA Int)) (Fh : HL) : Prop := ∀ x ∈ l, ∃ F : HL, (∀ z ∈ F, z ∈ Fh) ∧ SlA (Kd.int .u8) 1 (fv F) x.1 x.2.1 x.2.2
abbrev laC (x : LA Int) : List Value := [sla x]
theorem PcAt.mono {l : List (LA Int)} {F G : HL} (h : PcAt l F) (s : ∀ z ∈ F, z ∈ G) : PcAt l G := fun x hx => by
  obtain ⟨A, hA, hS⟩ := h x hx
  exact ⟨A, fun z hz => s z (hA z hz), hS⟩
theorem PcAt.snoc {l : List (LA Int)} {x : LA Int} {F A : HL} (h : PcAt l F) (hs : SlA (Kd.int .u8) 1 (fv A) x.1 x.2.1 x.2.2) : PcAt (l ++ [x]) (A ++ F) := fun y hy => by
  rcases List.mem_append.1 hy with hy | hy
  · obtain ⟨B, hB, hS⟩ := h y hy
    exact ⟨B, fun z hz => List.mem_append_right _ (hB z hz), hS⟩
  · rw [List.mem_singleton.1 hy]
    exact ⟨A, fun z hz => List.mem_append_left _ hz, hs⟩
theorem flat_la (l : List (LA Int)) : l.flatMap laC = l.map sla := by
  induction l with
  | nil => rfl
  | cons y l ih => rw [List.flatMap_cons, ih]; rfl
def mapB (b : Nat) (ob : Obj) : Nat × Obj := (b, ob)
set_option maxHeartbeats 32000000 in
theorem pieces_fn (x : LVo) : FC Tryz.prog 48 [.agg ⟨x.cells⟩] [] (fun h => voAt h x) (fun v L => PcsR x.voc v L) := by
  refine FC.sub2 ?_
  obtain ⟨⟨B, ab, cb⟩, ⟨Ps, ap, cp⟩⟩ := x
  show FC _ _ _ _ _ (fun v L => ∃ L'', Sub2 L'' L ∧ PcsR ⟨B, Ps⟩ v L'')
  refine FC.intro Tryz.func48 rfl (by kernel_rfl) 131 [.tmp 2] rfl rfl rfl ?_
  intro w0 hA
  have hB := hA.b
  have hP := hA.p
  have hbs := hA.bs
  have hps := hA.ps
  change SlA (Kd.int .u8) 1 _ B ab cb at hB
  change SlA turnK 16 _ Ps ap cp at hP
  change B.length ≤ _ at hbs
  change Ps.length * 16 ≤ _ at hps
  have hat := hP.at_
  have ew : IntKind.i64.wrap (IntKind.i64.wrap (1 + (B.length : Int)) + (Ps.length : Int)) = ((1 + B.length + Ps.length : Nat) : Int) := by rw [wrap64_of (x := 1 + (B.length : Int)) (by omega) (by omega), wrap64_of (by omega) (by omega)]; omega
  (repeat (first | (with_reducible apply XL.op) | (with_reducible apply XC.seq) | (with_reducible apply XC.region (Γ := Γ))))
  ((with_reducible apply XOp.box); (case hg | hx' => exact rfl); intro ub)
  (repeat (first | (with_reducible apply XL.op) | ((with_reducible apply XOp.p1); (case hg | hv => exact rfl)) | ((with_reducible apply XOp.load); (case hg | ht | hk | hx => exact rfl); (case hc => exact own_cell (i := 0) rfl rfl)) | (with_reducible apply XL.nilT) | (with_reducible apply XC.seq) | (with_reducible apply XC.region (Γ := Γ))))
  rw [ew]
  by_cases hz : (1 ≤ B.length ∧ B.length ≤ 48) ∧ 1 + B.length + Ps.length ≤ 64
  rotate_left
  · rcases (by omega : B.length < 1 ∨ (1 ≤ B.length ∧ 48 < B.length) ∨ (1 ≤ B.length ∧ B.length ≤ 48 ∧ 64 < 1 + B.length + Ps.length)) with h1 | ⟨h1, h2⟩ | ⟨h1, h2, h3⟩
    all_goals ((repeat (first | (with_reducible apply XL.op) | ((with_reducible apply XOp.p1); (case hg | hv => exact rfl)) | ((with_reducible apply XOp.p0); (case hg => exact rfl)) | ((with_reducible apply XOp.load); (case hg | ht | hk | hx => exact rfl); (case hc => exact own_cell (i := 0) rfl rfl)) | (with_reducible apply XL.nilT) | (with_reducible apply XC.seq) | (with_reducible apply XC.region (Γ := Γ)) | (with_reducible apply XQ.ret) | (with_reducible apply XQ.rt) | ((with_reducible apply XC.condT); (case hc => exact rfl)) | (first | ((with_reducible apply XOp.split); (case hg | hj | hd | hb => exact rfl); (fail_if_success (case hf => exact fun h => Bool.noConfusion h)); (fail_if_success (case ht => exact fun h => Bool.noConfusion h)); (first | (case ht => intro hb_; try simp only [pd_true, pd_false, Bool.not_eq_true', Bool.not_eq_false', Bool.and_eq_true, Bool.and_eq_false_iff, Bool.or_eq_true, Bool.or_eq_false_iff, not_true_eq_false, not_false_eq_true, Int.not_lt, Int.not_le] at hb_; first | done | (exfalso; first | omega | contradiction)) | (case hf => intro hb_; try simp only [pd_true, pd_false, Bool.not_eq_true', Bool.not_eq_false', Bool.and_eq_true, Bool.and_eq_false_iff, Bool.or_eq_true, Bool.or_eq_false_iff, not_true_eq_false, not_false_eq_true, Int.not_lt, Int.not_le] at hb_; first | done | (exfalso; first | omega | contradiction))); intro hb_; try simp only [pd_true, pd_false, Bool.not_eq_true', Bool.not_eq_false', Bool.and_eq_true, Bool.and_eq_false_iff, Bool.or_eq_true, Bool.or_eq_false_iff, not_true_eq_false, not_false_eq_true, Int.not_lt, Int.not_le] at hb_) | ((with_reducible apply XP.split); (case ho | hg | hj | hd | hb => exact rfl); (fail_if_success (case hf => exact fun h => Bool.noConfusion h)); (fail_if_success (case ht => exact fun h => Bool.noConfusion h)); (first | (case ht => intro hb_; try simp only [pd_true, pd_false, Bool.not_eq_true', Bool.not_eq_false', Bool.and_eq_true, Bool.and_eq_false_iff, Bool.or_eq_true, Bool.or_eq_false_iff, not_true_eq_false, not_false_eq_true, Int.not_lt, Int.not_le] at hb_; first | done | (exfalso; first | omega | contradiction)) | (case hf => intro hb_; try simp only [pd_true, pd_false, Bool.not_eq_true', Bool.not_eq_false', Bool.and_eq_true, Bool.and_eq_false_iff, Bool.or_eq_true, Bool.or_eq_false_iff, not_true_eq_false, not_false_eq_true, Int.not_lt, Int.not_le] at hb_; first | done | (exfalso; first | omega | contradiction))); intro hb_; try simp only [pd_true, pd_false, Bool.not_eq_true', Bool.not_eq_false', Bool.and_eq_true, Bool.and_eq_false_iff, Bool.or_eq_true, Bool.or_eq_false_iff, not_true_eq_false, not_false_eq_true, Int.not_lt, Int.not_le] at hb_) | ((with_reducible apply XC.cond); (case hc => exact rfl); (first | (case ht => intro hb_; try simp only [pd_true, pd_false, Bool.not_eq_true', Bool.not_eq_false', Bool.and_eq_true, Bool.and_eq_false_iff, Bool.or_eq_true, Bool.or_eq_false_iff, not_true_eq_false, not_false_eq_true, Int.not_lt, Int.not_le] at hb_; first | done | (exfalso; first | omega | contradiction)) | (case hf => intro hb_; try simp only [pd_true, pd_false, Bool.not_eq_true', Bool.not_eq_false', Bool.and_eq_true, Bool.and_eq_false_iff, Bool.or_eq_true, Bool.or_eq_false_iff, not_true_eq_false, not_false_eq_true, Int.not_lt, Int.not_le] at hb_; first | done | (exfalso; first | omega | contradiction))); intro hb_; try simp only [pd_true, pd_false, Bool.not_eq_true', Bool.not_eq_false', Bool.and_eq_true, Bool.and_eq_false_iff, Bool.or_eq_true, Bool.or_eq_false_iff, not_true_eq_false, not_false_eq_true, Int.not_lt, Int.not_le] at hb_)))))
    all_goals ((with_reducible apply XQ.retE); (case hr => exact .t rfl .nil))
    all_goals exact ⟨[], .of (List.nil_sublist _), .inl ⟨fun h => hz ⟨⟨h.1, h.2.1⟩, h.2.2.1⟩, rfl, rfl⟩⟩
  obtain ⟨⟨hz1, hz2⟩, hz3⟩ := hz
  (repeat (first | (with_reducible apply XL.op) | ((with_reducible apply XOp.p1); (case hg | hv => exact rfl)) | ((with_reducible apply XOp.load); (case hg | ht | hk | hx => exact rfl); (case hc => exact own_cell (i := 0) rfl rfl)) | (with_reducible apply XL.nilT) | (with_reducible apply XC.seq) | (with_reducible apply XC.region (Γ := Γ)) | (with_reducible apply XQ.skip) | (with_reducible apply XQ.nt) | (first | ((with_reducible apply XOp.split); (case hg | hj | hd | hb => exact rfl); (fail_if_success (case hf => exact fun h => Bool.noConfusion h)); (fail_if_success (case ht => exact fun h => Bool.noConfusion h)); (first | (case ht => intro hb_; try simp only [pd_true, pd_false, Bool.not_eq_true', Bool.not_eq_false', Bool.and_eq_true, Bool.and_eq_false_iff, Bool.or_eq_true, Bool.or_eq_false_iff, not_true_eq_false, not_false_eq_true, Int.not_lt, Int.not_le] at hb_; first | done | (exfalso; first | omega | contradiction)) | (case hf => intro hb_; try simp only [pd_true, pd_false, Bool.not_eq_true', Bool.not_eq_false', Bool.and_eq_true, Bool.and_eq_false_iff, Bool.or_eq_true, Bool.or_eq_false_iff, not_true_eq_false, not_false_eq_true, Int.not_lt, Int.not_le] at hb_; first | done | (exfalso; first | omega | contradiction))); intro hb_; try simp only [pd_true, pd_false, Bool.not_eq_true', Bool.not_eq_false', Bool.and_eq_true, Bool.and_eq_false_iff, Bool.or_eq_true, Bool.or_eq_false_iff, not_true_eq_false, not_false_eq_true, Int.not_lt, Int.not_le] at hb_) | ((with_reducible apply XP.split); (case ho | hg | hj | hd | hb => exact rfl); (fail_if_success (case hf => exact fun h => Bool.noConfusion h)); (fail_if_success (case ht => exact fun h => Bool.noConfusion h)); (first | (case ht => intro hb_; try simp only [pd_true, pd_false, Bool.not_eq_true', Bool.not_eq_false', Bool.and_eq_true, Bool.and_eq_false_iff, Bool.or_eq_true, Bool.or_eq_false_iff, not_true_eq_false, not_false_eq_true, Int.not_lt, Int.not_le] at hb_; first | done | (exfalso; first | omega | contradiction)) | (case hf => intro hb_; try simp only [pd_true, pd_false, Bool.not_eq_true', Bool.not_eq_false', Bool.and_eq_true, Bool.and_eq_false_iff, Bool.or_eq_true, Bool.or_eq_false_iff, not_true_eq_false, not_false_eq_true, Int.not_lt, Int.not_le] at hb_; first | done | (exfalso; first | omega | contradiction))); intro hb_; try simp only [pd_true, pd_false, Bool.not_eq_true', Bool.not_eq_false', Bool.and_eq_true, Bool.and_eq_false_iff, Bool.or_eq_true, Bool.or_eq_false_iff, not_true_eq_false, not_false_eq_true, Int.not_lt, Int.not_le] at hb_) | ((with_reducible apply XC.cond); (case hc => exact rfl); (first | (case ht => intro hb_; try simp only [pd_true, pd_false, Bool.not_eq_true', Bool.not_eq_false', Bool.and_eq_true, Bool.and_eq_false_iff, Bool.or_eq_true, Bool.or_eq_false_iff, not_true_eq_false, not_false_eq_true, Int.not_lt, Int.not_le] at hb_; first | done | (exfalso; first | omega | contradiction)) | (case hf => intro hb_; try simp only [pd_true, pd_false, Bool.not_eq_true', Bool.not_eq_false', Bool.and_eq_true, Bool.and_eq_false_iff, Bool.or_eq_true, Bool.or_eq_false_iff, not_true_eq_false, not_false_eq_true, Int.not_lt, Int.not_le] at hb_; first | done | (exfalso; first | omega | contradiction))); intro hb_; try simp only [pd_true, pd_false, Bool.not_eq_true', Bool.not_eq_false', Bool.and_eq_true, Bool.and_eq_false_iff, Bool.or_eq_true, Bool.or_eq_false_iff, not_true_eq_false, not_false_eq_true, Int.not_lt, Int.not_le] at hb_))))
  ((with_reducible apply XOp.make (k := 1) (c := 1 + B.length + Ps.length)); (case hg => exact rfl); (case ht => exact rfl); (case hk => exact rfl); (case he => exact rfl); (case hz => exact rfl); (case hzl => exact rfl); (case hx => exact rfl); (case hy => exact rfl); (case hkc => omega); (case hb => simp only []; omega); (case h63 => omega); intro ob)
  (repeat (first | (with_reducible apply XL.op) | ((with_reducible apply XOp.p1); (case hg | hv => exact rfl)) | (with_reducible apply XL.nilT) | (with_reducible apply XC.seq) | (with_reducible apply XC.region (Γ := Γ))))
  ((with_reducible apply XOp.makeMapG (Value.int .u8)); (case hg => exact rfl); intro kb kob hk0)
  (repeat (first | (with_reducible apply XL.op) | ((with_reducible apply XOp.p1); (case hg | hv => exact rfl)) | ((with_reducible apply XOp.load); (case hg | ht | hk | hx => exact rfl); (case hc => exact own_cell (i := 2) rfl rfl)) | (with_reducible apply XL.nilT) | (with_reducible apply XC.seq) | (with_reducible apply XC.region (Γ := Γ)) | (with_reducible apply XC.block)))
  have ez : zerosL [.slice none 0 0] (1 + B.length + Ps.length) = [.slice none 0 0] ++ zerosL [.slice none 0 0] (B.length + Ps.length) := by rw [show 1 + B.length + Ps.length = (B.length + Ps.length) + 1 by omega]; rfl
  rw [ez]
  refine XC.perm (L' := ([(kb, kob), VoB ub (.slice ab B.length cb) (.slice ap Ps.length cp)] ++ []) ++ [(ob, Obj.cells ⟨[.slice none 0 0] ++ zerosL [.slice none 0 0] (B.length + Ps.length)⟩ 32 (0, 0))]) ?_ (show List.Perm [(kb, kob), (ob, Obj.cells ⟨[.slice none 0 0] ++ zerosL [.slice none 0 0] (B.length + Ps.length)⟩ 32 (0, 0)), VoB ub (.slice ab B.length cb) (.slice ap Ps.length cp)] _ by (first | (with_reducible exact List.Perm.refl _) | refine perm_of_cnt fun p_ => ?_; simp only [List.countP_append, List.countP_cons, List.countP_nil]; omega))
  refine XC.loopP (fun k ρ L => ∃ (i : Nat) (v : Value) (l : List (LA Int)) (kob : Obj) (m : Int → Option Int) (Fo Fh : HL), i + k = B.length ∧ (B.take i).Nodup ∧ MapG (Value.int .u8) kob m ∧ (∀ y, m y ≠ none ↔ y ∈ B.take i) ∧
      OwnS 32 1 v (i + 1) (l.flatMap laC) Fo ∧ l.map (·.1) = [] :: (B.take i).map (fun b => [b]) ∧ PcAt l Fh ∧ L = ([(kb, kob), VoB ub (.slice ab B.length cb) (.slice ap Ps.length cp)] ++ Fh) ++ Fo ∧
      Slots ρ [(0, .agg ⟨[.slice ab B.length cb, .slice ap Ps.length cp]⟩), (1, .pointer (some ⟨ub, 0, none⟩)), (3, .int .i64 ((1 + B.length + Ps.length : Nat) : Int)), (4, v), (5, .map (some kb)), (43, .slice ab B.length cb), (44, .int .i64 B.length), (45, .int .i64 i)])
    B.length ⟨0, _, [([], none, 0)], kob, _, _, [], by simp, by simp, hk0, by simp, ⟨rfl, .inr ⟨ob, 1 + B.length + Ps.length, zerosL [.slice none 0 0] (B.length + Ps.length), rfl, rfl, by omega, by simp only [maxLen]; omega, by simp [zerosL_length]; omega⟩⟩, rfl, (fun x hx => by rw [List.mem_singleton.1 hx]; exact ⟨[], by simp, slA_nil⟩), rfl, rfl, rfl, rfl, rfl, rfl, rfl, rfl, rfl, trivial⟩ ?_
  rintro k ρ L ⟨i, v, l, kob, m, Fo, Fh, hik, hnd, hm, hmd, hown, hl, hpc, rfl, hs⟩
  obtain ⟨va, vc, rfl⟩ := hown.val
  refine XC.slots _ hs ?_
  (repeat (first | (with_reducible apply XL.op) | ((with_reducible apply XOp.p1); (case hg | hv => exact rfl)) | (with_reducible apply XL.nilT) | (with_reducible apply XC.seq) | (with_reducible apply XC.region (Γ := Γ))))
  ((with_reducible apply XC.cond); (case hc => exact rfl); all_goals (intro hb_; try simp only [pd_true, pd_false, Bool.not_eq_true', Bool.not_eq_false', Bool.and_eq_true, Bool.and_eq_false_iff, Bool.or_eq_true, Bool.or_eq_false_iff, not_true_eq_false, not_false_eq_true, Int.not_lt, Int.not_le] at hb_))
  · obtain ⟨z, hi⟩ : ∃ z, B[i]? = some z := ⟨_, List.getElem?_eq_getElem (by omega)⟩
    have hc := hB.int i (by omega)
    rw [hi] at hc
    change cellv _ _ = some (.int .u8 z) ∧ inK .u8 z at hc
    obtain ⟨hc, hzk⟩ := hc
    (repeat (first | (with_reducible apply XL.op) | ((with_reducible apply XOp.p1); (case hg | hv => exact rfl)) | ((with_reducible apply XOp.pr); (case hg => exact rfl); (case hr => ((with_reducible apply PR.idxA); (case ht | hk | he | hx | hi => exact rfl); (case hr => first | assumption | omega); (case ha => first | assumption | exact SlA.at_ (by assumption))))) | (with_reducible apply XL.nilT) | (with_reducible apply XC.seq) | (with_reducible apply XC.region (Γ := Γ)) | (with_reducible apply XQ.skip) | (with_reducible apply XQ.nt) | (with_reducible apply XC.block) | (first | ((with_reducible apply XOp.load); (case hg | ht | hk | hx => exact rfl); (case hc => exact Known.of_old hc (Mono.cell _ _))) | ((with_reducible apply XP.load); (case ho | hg | ht | hk | hx => exact rfl); (case hc => exact Known.of_old hc (Mono.cell _ _)))) | (first | ((with_reducible apply XOp.pr); (case hg => exact rfl); (case hr => (with_reducible apply PR.lookupG (i := 0) (kv := Value.int .u8) (k := z)); (case ht => exact rfl); (case hk => exact rfl); (case he => exact rfl); (case hz => exact rfl); (case hx => exact rfl); (case hi => exact rfl); (case hL => exact rfl); (case hK => exact Keys.int Tryz.underlying5); (case hm => exact hm))) | ((with_reducible apply XP.pr); (case ho => exact rfl); (case hg => exact rfl); (case hr => (with_reducible apply PR.lookupG (i := 0) (kv := Value.int .u8) (k := z)); (case ht => exact rfl); (case hk => exact rfl); (case he => exact rfl); (case hz => exact rfl); (case hx => exact rfl); (case hi => exact rfl); (case hL => exact rfl); (case hK => exact Keys.int Tryz.underlying5); (case hm => exact hm))))))
    ((with_reducible apply XC.cond); (case hc => exact rfl); all_goals (intro hb_; try simp only [pd_true, pd_false, Bool.not_eq_true', Bool.not_eq_false', Bool.and_eq_true, Bool.and_eq_false_iff, Bool.or_eq_true, Bool.or_eq_false_iff, not_true_eq_false, not_false_eq_true, Int.not_lt, Int.not_le] at hb_))
    · (repeat (first | (with_reducible apply XL.op) | ((with_reducible apply XOp.p1); (case hg | hv => exact rfl)) | (with_reducible apply XL.nilT) | (with_reducible apply XC.seq) | (with_reducible apply XC.region (Γ := Γ)) | (with_reducible apply XQ.ret) | (with_reducible apply XQ.rt) | (with_reducible apply XQ.rb)))
      ((with_reducible apply XQ.retE); (case hr => exact .t rfl .nil))
      exact ⟨[], .of (List.nil_sublist _), .inl ⟨fun h => ((nodup_take_succ hi).1 (nodup_take h.2.2.2.1 (i + 1))).2 ((hmd z).1 hb_), rfl, rfl⟩⟩
    have hmz : m z = none := Classical.not_not.1 hb_
    (repeat (first | (with_reducible apply XL.op) | ((with_reducible apply XOp.p1); (case hg | hv => exact rfl)) | (with_reducible apply XC.seq) | (with_reducible apply XC.region (Γ := Γ)) | (with_reducible apply XQ.skip) | (with_reducible apply XQ.nt)))
    ((with_reducible apply XOp.mapNewG (i := 0) (kv := Value.int .u8) (k := z)); (case hg => exact rfl); (case ht => exact rfl); (case hk => exact rfl); (case hx => exact rfl); (case hy => exact rfl); (case hz => exact rfl); (case hL => exact rfl); (case hK => exact Keys.int Tryz.underlying5); (case hm => exact hm); (case hn => exact hmz))
    intro kob2 hm2
    (repeat (first | (with_reducible apply XL.op) | ((with_reducible apply XOp.p1); (case hg | hv => exact rfl)) | (with_reducible apply XL.nilT) | (with_reducible apply XC.region (Γ := Γ))))
    ((with_reducible apply XOp.buildSlice); (case hg | ht | hk | he | hz | hzl | hf => exact rfl); intro pb)
    (repeat ((with_reducible apply XL.op)))
    ((with_reducible apply XOp.buildSlice); (case hg | ht | hk | he | hz | hzl | hf => exact rfl); intro qb)
    (repeat ((with_reducible apply XL.op)))
    (refine (show XOp _ _ _ _ _ _ _ _ ((qb, Obj.cells ⟨[.slice (some ⟨pb, 0, none⟩) 1 1]⟩ 32 (0, 0)) :: (pb, Obj.cells ⟨[.int .u8 z]⟩ 5 (0, 0)) :: (([(kb, kob2), VoB ub (.slice ab B.length cb) (.slice ap Ps.length cp)] ++ Fh) ++ Fo)) from XOp.perm (L' :=  (qb, Obj.cells ⟨[.slice (some ⟨pb, 0, none⟩) 1 1]⟩ 32 (0, 0)) :: (([(kb, kob2), VoB ub (.slice ab B.length cb) (.slice ap Ps.length cp)] ++ ((pb, Obj.cells ⟨[.int .u8 z]⟩ 5 (0, 0)) :: Fh)) ++ Fo)) rfl ?_ (by (first | (with_reducible exact List.Perm.refl _) | refine perm_of_cnt fun p_ => ?_; simp only [List.countP_append, List.countP_cons, List.countP_nil]; omega))))
    ((with_reducible apply XOp.append1R (R := [(kb, kob2), VoB ub (.slice ab B.length cb) (.slice ap Ps.length cp)] ++ ((pb, Obj.cells ⟨[.int .u8 z]⟩ 5 (0, 0)) :: Fh))); (case hg => exact rfl); (case ht => exact rfl); (case hk => exact rfl); (case he => exact rfl); (case hown => exact hown); (case hs => exact rfl); (case hx => exact rfl); (case hL => exact rfl); (case hl => exact rfl); (case h1 => exact rfl); (case hz => exact rfl); (case hsz => exact Nat.zero_lt_succ _); (case hk0 => exact Nat.zero_lt_succ _); (case h63 => simp only [maxLen]; omega); (case hb => simp only []; omega); intro v_ F_ hown_; obtain ⟨a_, c_, rfl⟩ := hown_.val)
    (repeat (first | (with_reducible apply XL.op) | ((with_reducible apply XOp.p1); (case hg | hv => exact rfl)) | (with_reducible apply XL.nilT) | (with_reducible apply XC.region (Γ := Γ)) | (with_reducible apply XL.nilQ) | (with_reducible apply XQ.nt) | (with_reducible apply XQ.nb)))
    refine ⟨k - 1, by omega, _, .of (List.Sublist.refl _), i + 1, _, l ++ [([z], some ⟨pb, 0, none⟩, 1)], kob2, _, F_, (pb, Obj.cells ⟨[.int .u8 z]⟩ 5 (0, 0)) :: Fh, by omega, (nodup_take_succ hi).2 ⟨hnd, fun hzm => (hmd z).2 hzm hmz⟩, hm2, ?_, hown_.conv rfl (by rw [List.flatMap_append]; simp [zerosL]), by rw [List.map_append, hl, take_snocD hi]; simp, hpc.snoc (A := [(pb, Obj.cells ⟨[.int .u8 z]⟩ 5 (0, 0))]) (own_u8 ⟨rfl, .inr ⟨pb, 1, [], rfl, rfl, Nat.le_refl _, by simp [maxLen], rfl⟩⟩ (by simpa using hzk) (by simp)), rfl, rfl, rfl, rfl, rfl, rfl, rfl, rfl, intS (m := B.length) (by omega) (by omega), trivial⟩
    intro y
    rw [take_snocD hi, List.mem_append, List.mem_singleton]
    by_cases hy : y = z
    · subst hy; simp
    · rw [if_neg hy]; rw [hmd y]; simp [hy]
  obtain rfl : i = B.length := by omega
  rw [List.take_length] at hl hnd
  clear hs hik hm hmd
  (repeat (first | (with_reducible apply XL.op) | (with_reducible apply XC.seq) | (with_reducible apply XC.region (Γ := Γ)) | (with_reducible apply XQ.exit) | (with_reducible apply XQ.nt) | (with_reducible apply XQ.et) | ((with_reducible apply XQ.eb); (case hb => exact rfl))))
  ((with_reducible apply XOp.makeMapG (pairV)); (case hg => exact rfl); intro pb pob hp0)
  (repeat (first | (with_reducible apply XL.op) | ((with_reducible apply XOp.p1); (case hg | hv => exact rfl)) | ((with_reducible apply XOp.load); (case hg | ht | hk | hx => exact rfl); (case hc => exact own_cell (i := 2) rfl rfl)) | (with_reducible apply XL.nilT) | (with_reducible apply XC.seq) | (with_reducible apply XC.region (Γ := Γ)) | (with_reducible apply XC.block)))
  refine XC.loopP (fun k ρ L => ∃ (j : Nat) (v : Value) (l : List (LA Int)) (pob : Obj) (m : Int × Int → Option Int) (Fo Fh : HL), j + k = Ps.length ∧ pairsOk B.length 16 (pre Ps j) ∧ MapG pairV pob m ∧ (∀ y, m y ≠ none ↔ y ∈ Ps.take j) ∧
      OwnS 32 1 v (B.length + 1 + j) (l.flatMap laC) Fo ∧ l.map (·.1) = pcs B (pre Ps j) ∧ PcAt l Fh ∧ L = ([(pb, pob), (kb, kob), VoB ub (.slice ab B.length cb) (.slice ap Ps.length cp)] ++ Fh) ++ Fo ∧
      Slots ρ [(0, .agg ⟨[.slice ab B.length cb, .slice ap Ps.length cp]⟩), (1, .pointer (some ⟨ub, 0, none⟩)), (3, .int .i64 ((1 + B.length + Ps.length : Nat) : Int)), (4, v), (10, .map (some pb)), (68, .slice ap Ps.length cp), (69, .int .i64 Ps.length), (70, .int .i64 j)])
    Ps.length ⟨0, _, l, pob, _, Fo, Fh, by simp, trivial, hp0, by simp, hown.conv (by omega) rfl, by rw [hl]; rfl, hpc, rfl, rfl, rfl, rfl, rfl, rfl, rfl, rfl, rfl, trivial⟩ ?_
  clear hown hl hpc hp0
  rintro k ρ L ⟨j, v, l, pob, m, Fo, Fh, hjk, hok, hm, hmd, hown, hl, hpc, rfl, hs⟩
  obtain ⟨va, vc, rfl⟩ := hown.val
  have hll : l.length = B.length + 1 + j := by
    have := congrArg List.length hl
    rw [List.length_map, pcs_len, pre_len (by omega)] at this; exact this
  refine XC.slots _ hs ?_
  (repeat (first | (with_reducible apply XL.op) | ((with_reducible apply XOp.p1); (case hg | hv => exact rfl)) | (with_reducible apply XL.nilT) | (with_reducible apply XC.seq) | (with_reducible apply XC.region (Γ := Γ))))
  ((with_reducible apply XC.cond); (case hc => exact rfl); all_goals (intro hb_; try simp only [pd_true, pd_false, Bool.not_eq_true', Bool.not_eq_false', Bool.and_eq_true, Bool.and_eq_false_iff, Bool.or_eq_true, Bool.or_eq_false_iff, not_true_eq_false, not_false_eq_true, Int.not_lt, Int.not_le] at hb_))
  rotate_left
  · obtain rfl : j = Ps.length := by omega
    rw [pre_all] at hok
    obtain ⟨g, c, sp, he, -, -, -, -⟩ := hown.blk2 (by omega)
    obtain ⟨rfl, -, rfl⟩ := Value.slice.inj he
    (repeat (first | (with_reducible apply XL.op) | ((with_reducible apply XOp.p1); (case hg | hv => exact rfl)) | (with_reducible apply XL.nilT) | (with_reducible apply XC.seq) | (with_reducible apply XC.region (Γ := Γ)) | (with_reducible apply XQ.ret) | (with_reducible apply XQ.exit) | (with_reducible apply XQ.nt) | (with_reducible apply XQ.et) | ((with_reducible apply XQ.eb); (case hb => exact rfl))))
    ((with_reducible apply XQ.retE); (case hr => exact .t rfl .nil))
    exact ⟨[], .of (List.nil_sublist _), .inr ⟨⟨hz1, hz2, hz3, hnd, hok⟩, g, vc, by show Value.slice _ _ _ = Value.slice _ _ _; rw [show B.length + 1 + Ps.length = Voc.size ⟨B, Ps⟩ by simp only [Voc.size]; omega], rfl⟩⟩
  obtain ⟨p, hj⟩ : ∃ p, Ps[j]? = some p := ⟨_, List.getElem?_eq_getElem (by omega)⟩
  have hbad : ¬ pairAt B.length 16 Ps j p → ¬ vocOk ⟨B, Ps⟩ := fun hn h => by
    have h5 := h.2.2.2.2
    change pairsOk B.length 16 Ps.reverse at h5
    rw [← pre_all] at h5
    exact hn ((pairs_succ hj).1 (pairs_mono (by omega) (Nat.le_refl _) h5)).2
  (repeat (first | (with_reducible apply XL.op) | ((with_reducible apply XOp.p1); (case hg | hv => exact rfl)) | ((with_reducible apply XOp.pr); (case hg => exact rfl); (case hr => ((with_reducible apply PR.idxA); (case ht | hk | he | hx | hi => exact rfl); (case hr => first | assumption | omega); (case ha => first | assumption | exact SlA.at_ (by assumption))))) | (with_reducible apply XC.seq) | (with_reducible apply XC.region (Γ := Γ)) | (with_reducible apply XQ.skip) | (with_reducible apply XQ.nt) | (with_reducible apply XC.block) | (first | ((with_reducible apply XOp.loadN); (case hg | ht | hk | hx => exact rfl); (case hc => exact Known.of_old (hP.rawAt hj) (Mono.row _ _ _)); (case hl => exact rfl)) | ((with_reducible apply XP.loadN); (case ho | hg | ht | hk | hx => exact rfl); (case hc => exact Known.of_old (hP.rawAt hj) (Mono.row _ _ _)); (case hl => exact rfl)))))
  ((with_reducible apply XOp.alloc); (case hg | ht | hx' => exact rfl); intro qb)
  (repeat (first | (with_reducible apply XL.op) | ((with_reducible apply XOp.p1); (case hg | hv => exact rfl)) | ((with_reducible apply XOp.loadO (i := 0)); (case hg | ht | hk | hx | hi | hc => exact rfl)) | ((with_reducible apply XOp.storeN (i := 0)); (case hg | ht | hx | hv' | hk | h1 | hi | hs | ha => exact rfl)) | (with_reducible apply XL.nilT) | (with_reducible apply XC.seq) | (with_reducible apply XC.region (Γ := Γ)) | (first | ((with_reducible apply XOp.pr); (case hg => exact rfl); (case hr => (with_reducible apply PR.lookupG (i := 1) (kv := pairV) (k := p)); (case ht => exact rfl); (case hk => exact rfl); (case he => exact rfl); (case hz => exact rfl); (case hx => exact rfl); (case hi => exact rfl); (case hL => exact rfl); (case hK => exact Keys.pair (Γ := Γ) (t := 93) rfl rfl rfl rfl rfl); (case hm => exact hm))) | ((with_reducible apply XP.pr); (case ho => exact rfl); (case hg => exact rfl); (case hr => (with_reducible apply PR.lookupG (i := 1) (kv := pairV) (k := p)); (case ht => exact rfl); (case hk => exact rfl); (case he => exact rfl); (case hz => exact rfl); (case hx => exact rfl); (case hi => exact rfl); (case hL => exact rfl); (case hK => exact Keys.pair (Γ := Γ) (t := 93) rfl rfl rfl rfl rfl); (case hm => exact hm))))))
  by_cases hgo : (1 ≤ p.1 ∧ p.1 < B.length + 1 + j) ∧ (1 ≤ p.2 ∧ p.2 < B.length + 1 + j) ∧ m p = none
  rotate_left
  · have hret : ¬ vocOk ⟨B, Ps⟩ := hbad (fun h => hgo ⟨h.2.1, h.2.2.1, by
      cases hmp : m p with
      | none => rfl
      | some v => exact absurd ((hmd p).1 (by rw [hmp]; simp)) h.1⟩)
    by_cases h0 : m p = none
    rotate_left
    · rw [pdt h0]
      (repeat (first | (with_reducible apply XL.op) | ((with_reducible apply XOp.p1); (case hg | hv => exact rfl)) | ((with_reducible apply XOp.p0); (case hg => exact rfl)) | (with_reducible apply XL.nilT) | (with_reducible apply XC.seq) | (with_reducible apply XC.region (Γ := Γ)) | (with_reducible apply XQ.ret) | (with_reducible apply XQ.rt) | (with_reducible apply XQ.rb) | ((with_reducible apply XC.condT); (case hc => exact rfl))))
      ((with_reducible apply XQ.retE); (case hr => exact .t rfl .nil))
      exact ⟨[], .of (List.nil_sublist _), .inl ⟨hret, rfl, rfl⟩⟩
    rw [h0, pdf (fun h : (none : Option Int) ≠ none => h rfl)]
    by_cases h1 : p.1 < 1
    · (repeat (first | (with_reducible apply XL.op) | ((with_reducible apply XOp.p1); (case hg | hv => exact rfl)) | ((with_reducible apply XOp.p0); (case hg => exact rfl)) | ((with_reducible apply XOp.load); (case hg | ht | hk | hx => exact rfl); (case hc => exact own_cell (i := 0) rfl rfl)) | (with_reducible apply XL.nilT) | (with_reducible apply XC.seq) | (with_reducible apply XC.region (Γ := Γ)) | (with_reducible apply XQ.ret) | (with_reducible apply XQ.rt) | (with_reducible apply XQ.rb) | ((with_reducible apply XC.condT); (case hc => exact rfl)) | (first | ((with_reducible apply XOp.split); (case hg | hj | hd | hb => exact rfl); (fail_if_success (case hf => exact fun h => Bool.noConfusion h)); (fail_if_success (case ht => exact fun h => Bool.noConfusion h)); (first | (case ht => intro hb_; try simp only [pd_true, pd_false, Bool.not_eq_true', Bool.not_eq_false', Bool.and_eq_true, Bool.and_eq_false_iff, Bool.or_eq_true, Bool.or_eq_false_iff, not_true_eq_false, not_false_eq_true, Int.not_lt, Int.not_le] at hb_; first | done | (exfalso; first | omega | contradiction)) | (case hf => intro hb_; try simp only [pd_true, pd_false, Bool.not_eq_true', Bool.not_eq_false', Bool.and_eq_true, Bool.and_eq_false_iff, Bool.or_eq_true, Bool.or_eq_false_iff, not_true_eq_false, not_false_eq_true, Int.not_lt, Int.not_le] at hb_; first | done | (exfalso; first | omega | contradiction))); intro hb_; try simp only [pd_true, pd_false, Bool.not_eq_true', Bool.not_eq_false', Bool.and_eq_true, Bool.and_eq_false_iff, Bool.or_eq_true, Bool.or_eq_false_iff, not_true_eq_false, not_false_eq_true, Int.not_lt, Int.not_le] at hb_) | ((with_reducible apply XP.split); (case ho | hg | hj | hd | hb => exact rfl); (fail_if_success (case hf => exact fun h => Bool.noConfusion h)); (fail_if_success (case ht => exact fun h => Bool.noConfusion h)); (first | (case ht => intro hb_; try simp only [pd_true, pd_false, Bool.not_eq_true', Bool.not_eq_false', Bool.and_eq_true, Bool.and_eq_false_iff, Bool.or_eq_true, Bool.or_eq_false_iff, not_true_eq_false, not_false_eq_true, Int.not_lt, Int.not_le] at hb_; first | done | (exfalso; first | omega | contradiction)) | (case hf => intro hb_; try simp only [pd_true, pd_false, Bool.not_eq_true', Bool.not_eq_false', Bool.and_eq_true, Bool.and_eq_false_iff, Bool.or_eq_true, Bool.or_eq_false_iff, not_true_eq_false, not_false_eq_true, Int.not_lt, Int.not_le] at hb_; first | done | (exfalso; first | omega | contradiction))); intro hb_; try simp only [pd_true, pd_false, Bool.not_eq_true', Bool.not_eq_false', Bool.and_eq_true, Bool.and_eq_false_iff, Bool.or_eq_true, Bool.or_eq_false_iff, not_true_eq_false, not_false_eq_true, Int.not_lt, Int.not_le] at hb_) | ((with_reducible apply XC.cond); (case hc => exact rfl); (first | (case ht => intro hb_; try simp only [pd_true, pd_false, Bool.not_eq_true', Bool.not_eq_false', Bool.and_eq_true, Bool.and_eq_false_iff, Bool.or_eq_true, Bool.or_eq_false_iff, not_true_eq_false, not_false_eq_true, Int.not_lt, Int.not_le] at hb_; first | done | (exfalso; first | omega | contradiction)) | (case hf => intro hb_; try simp only [pd_true, pd_false, Bool.not_eq_true', Bool.not_eq_false', Bool.and_eq_true, Bool.and_eq_false_iff, Bool.or_eq_true, Bool.or_eq_false_iff, not_true_eq_false, not_false_eq_true, Int.not_lt, Int.not_le] at hb_; first | done | (exfalso; first | omega | contradiction))); intro hb_; try simp only [pd_true, pd_false, Bool.not_eq_true', Bool.not_eq_false', Bool.and_eq_true, Bool.and_eq_false_iff, Bool.or_eq_true, Bool.or_eq_false_iff, not_true_eq_false, not_false_eq_true, Int.not_lt, Int.not_le] at hb_))))
      ((with_reducible apply XQ.retE); (case hr => exact .t rfl .nil))
      exact ⟨[], .of (List.nil_sublist _), .inl ⟨hret, rfl, rfl⟩⟩
    by_cases h2 : p.2 < 1
    · (repeat (first | (with_reducible apply XL.op) | ((with_reducible apply XOp.p1); (case hg | hv => exact rfl)) | ((with_reducible apply XOp.p0); (case hg => exact rfl)) | ((with_reducible apply XOp.load); (case hg | ht | hk | hx => exact rfl); (case hc => exact own_cell (i := 0) rfl rfl)) | (with_reducible apply XL.nilT) | (with_reducible apply XC.seq) | (with_reducible apply XC.region (Γ := Γ)) | (with_reducible apply XQ.ret) | (with_reducible apply XQ.rt) | (with_reducible apply XQ.rb) | ((with_reducible apply XC.condT); (case hc => exact rfl)) | (first | ((with_reducible apply XOp.split); (case hg | hj | hd | hb => exact rfl); (fail_if_success (case hf => exact fun h => Bool.noConfusion h)); (fail_if_success (case ht => exact fun h => Bool.noConfusion h)); (first | (case ht => intro hb_; try simp only [pd_true, pd_false, Bool.not_eq_true', Bool.not_eq_false', Bool.and_eq_true, Bool.and_eq_false_iff, Bool.or_eq_true, Bool.or_eq_false_iff, not_true_eq_false, not_false_eq_true, Int.not_lt, Int.not_le] at hb_; first | done | (exfalso; first | omega | contradiction)) | (case hf => intro hb_; try simp only [pd_true, pd_false, Bool.not_eq_true', Bool.not_eq_false', Bool.and_eq_true, Bool.and_eq_false_iff, Bool.or_eq_true, Bool.or_eq_false_iff, not_true_eq_false, not_false_eq_true, Int.not_lt, Int.not_le] at hb_; first | done | (exfalso; first | omega | contradiction))); intro hb_; try simp only [pd_true, pd_false, Bool.not_eq_true', Bool.not_eq_false', Bool.and_eq_true, Bool.and_eq_false_iff, Bool.or_eq_true, Bool.or_eq_false_iff, not_true_eq_false, not_false_eq_true, Int.not_lt, Int.not_le] at hb_) | ((with_reducible apply XP.split); (case ho | hg | hj | hd | hb => exact rfl); (fail_if_success (case hf => exact fun h => Bool.noConfusion h)); (fail_if_success (case ht => exact fun h => Bool.noConfusion h)); (first | (case ht => intro hb_; try simp only [pd_true, pd_false, Bool.not_eq_true', Bool.not_eq_false', Bool.and_eq_true, Bool.and_eq_false_iff, Bool.or_eq_true, Bool.or_eq_false_iff, not_true_eq_false, not_false_eq_true, Int.not_lt, Int.not_le] at hb_; first | done | (exfalso; first | omega | contradiction)) | (case hf => intro hb_; try simp only [pd_true, pd_false, Bool.not_eq_true', Bool.not_eq_false', Bool.and_eq_true, Bool.and_eq_false_iff, Bool.or_eq_true, Bool.or_eq_false_iff, not_true_eq_false, not_false_eq_true, Int.not_lt, Int.not_le] at hb_; first | done | (exfalso; first | omega | contradiction))); intro hb_; try simp only [pd_true, pd_false, Bool.not_eq_true', Bool.not_eq_false', Bool.and_eq_true, Bool.and_eq_false_iff, Bool.or_eq_true, Bool.or_eq_false_iff, not_true_eq_false, not_false_eq_true, Int.not_lt, Int.not_le] at hb_) | ((with_reducible apply XC.cond); (case hc => exact rfl); (first | (case ht => intro hb_; try simp only [pd_true, pd_false, Bool.not_eq_true', Bool.not_eq_false', Bool.and_eq_true, Bool.and_eq_false_iff, Bool.or_eq_true, Bool.or_eq_false_iff, not_true_eq_false, not_false_eq_true, Int.not_lt, Int.not_le] at hb_; first | done | (exfalso; first | omega | contradiction)) | (case hf => intro hb_; try simp only [pd_true, pd_false, Bool.not_eq_true', Bool.not_eq_false', Bool.and_eq_true, Bool.and_eq_false_iff, Bool.or_eq_true, Bool.or_eq_false_iff, not_true_eq_false, not_false_eq_true, Int.not_lt, Int.not_le] at hb_; first | done | (exfalso; first | omega | contradiction))); intro hb_; try simp only [pd_true, pd_false, Bool.not_eq_true', Bool.not_eq_false', Bool.and_eq_true, Bool.and_eq_false_iff, Bool.or_eq_true, Bool.or_eq_false_iff, not_true_eq_false, not_false_eq_true, Int.not_lt, Int.not_le] at hb_))))
      ((with_reducible apply XQ.retE); (case hr => exact .t rfl .nil))
      exact ⟨[], .of (List.nil_sublist _), .inl ⟨hret, rfl, rfl⟩⟩
    by_cases h3 : ((B.length + 1 + j : Nat) : Int) ≤ p.1
    · (repeat (first | (with_reducible apply XL.op) | ((with_reducible apply XOp.p1); (case hg | hv => exact rfl)) | ((with_reducible apply XOp.p0); (case hg => exact rfl)) | ((with_reducible apply XOp.load); (case hg | ht | hk | hx => exact rfl); (case hc => exact own_cell (i := 0) rfl rfl)) | (with_reducible apply XL.nilT) | (with_reducible apply XC.seq) | (with_reducible apply XC.region (Γ := Γ)) | (with_reducible apply XQ.ret) | (with_reducible apply XQ.rt) | (with_reducible apply XQ.rb) | ((with_reducible apply XC.condT); (case hc => exact rfl)) | (first | ((with_reducible apply XOp.split); (case hg | hj | hd | hb => exact rfl); (fail_if_success (case hf => exact fun h => Bool.noConfusion h)); (fail_if_success (case ht => exact fun h => Bool.noConfusion h)); (first | (case ht => intro hb_; try simp only [pd_true, pd_false, Bool.not_eq_true', Bool.not_eq_false', Bool.and_eq_true, Bool.and_eq_false_iff, Bool.or_eq_true, Bool.or_eq_false_iff, not_true_eq_false, not_false_eq_true, Int.not_lt, Int.not_le] at hb_; first | done | (exfalso; first | omega | contradiction)) | (case hf => intro hb_; try simp only [pd_true, pd_false, Bool.not_eq_true', Bool.not_eq_false', Bool.and_eq_true, Bool.and_eq_false_iff, Bool.or_eq_true, Bool.or_eq_false_iff, not_true_eq_false, not_false_eq_true, Int.not_lt, Int.not_le] at hb_; first | done | (exfalso; first | omega | contradiction))); intro hb_; try simp only [pd_true, pd_false, Bool.not_eq_true', Bool.not_eq_false', Bool.and_eq_true, Bool.and_eq_false_iff, Bool.or_eq_true, Bool.or_eq_false_iff, not_true_eq_false, not_false_eq_true, Int.not_lt, Int.not_le] at hb_) | ((with_reducible apply XP.split); (case ho | hg | hj | hd | hb => exact rfl); (fail_if_success (case hf => exact fun h => Bool.noConfusion h)); (fail_if_success (case ht => exact fun h => Bool.noConfusion h)); (first | (case ht => intro hb_; try simp only [pd_true, pd_false, Bool.not_eq_true', Bool.not_eq_false', Bool.and_eq_true, Bool.and_eq_false_iff, Bool.or_eq_true, Bool.or_eq_false_iff, not_true_eq_false, not_false_eq_true, Int.not_lt, Int.not_le] at hb_; first | done | (exfalso; first | omega | contradiction)) | (case hf => intro hb_; try simp only [pd_true, pd_false, Bool.not_eq_true', Bool.not_eq_false', Bool.and_eq_true, Bool.and_eq_false_iff, Bool.or_eq_true, Bool.or_eq_false_iff, not_true_eq_false, not_false_eq_true, Int.not_lt, Int.not_le] at hb_; first | done | (exfalso; first | omega | contradiction))); intro hb_; try simp only [pd_true, pd_false, Bool.not_eq_true', Bool.not_eq_false', Bool.and_eq_true, Bool.and_eq_false_iff, Bool.or_eq_true, Bool.or_eq_false_iff, not_true_eq_false, not_false_eq_true, Int.not_lt, Int.not_le] at hb_) | ((with_reducible apply XC.cond); (case hc => exact rfl); (first | (case ht => intro hb_; try simp only [pd_true, pd_false, Bool.not_eq_true', Bool.not_eq_false', Bool.and_eq_true, Bool.and_eq_false_iff, Bool.or_eq_true, Bool.or_eq_false_iff, not_true_eq_false, not_false_eq_true, Int.not_lt, Int.not_le] at hb_; first | done | (exfalso; first | omega | contradiction)) | (case hf => intro hb_; try simp only [pd_true, pd_false, Bool.not_eq_true', Bool.not_eq_false', Bool.and_eq_true, Bool.and_eq_false_iff, Bool.or_eq_true, Bool.or_eq_false_iff, not_true_eq_false, not_false_eq_true, Int.not_lt, Int.not_le] at hb_; first | done | (exfalso; first | omega | contradiction))); intro hb_; try simp only [pd_true, pd_false, Bool.not_eq_true', Bool.not_eq_false', Bool.and_eq_true, Bool.and_eq_false_iff, Bool.or_eq_true, Bool.or_eq_false_iff, not_true_eq_false, not_false_eq_true, Int.not_lt, Int.not_le] at hb_))))
      ((with_reducible apply XQ.retE); (case hr => exact .t rfl .nil))
      exact ⟨[], .of (List.nil_sublist _), .inl ⟨hret, rfl, rfl⟩⟩
    by_cases h4 : ((B.length + 1 + j : Nat) : Int) ≤ p.2
    · (repeat (first | (with_reducible apply XL.op) | ((with_reducible apply XOp.p1); (case hg | hv => exact rfl)) | ((with_reducible apply XOp.load); (case hg | ht | hk | hx => exact rfl); (case hc => exact own_cell (i := 0) rfl rfl)) | (with_reducible apply XL.nilT) | (with_reducible apply XC.seq) | (with_reducible apply XC.region (Γ := Γ)) | (with_reducible apply XQ.ret) | (with_reducible apply XQ.rt) | (with_reducible apply XQ.rb) | (first | ((with_reducible apply XOp.split); (case hg | hj | hd | hb => exact rfl); (fail_if_success (case hf => exact fun h => Bool.noConfusion h)); (fail_if_success (case ht => exact fun h => Bool.noConfusion h)); (first | (case ht => intro hb_; try simp only [pd_true, pd_false, Bool.not_eq_true', Bool.not_eq_false', Bool.and_eq_true, Bool.and_eq_false_iff, Bool.or_eq_true, Bool.or_eq_false_iff, not_true_eq_false, not_false_eq_true, Int.not_lt, Int.not_le] at hb_; first | done | (exfalso; first | omega | contradiction)) | (case hf => intro hb_; try simp only [pd_true, pd_false, Bool.not_eq_true', Bool.not_eq_false', Bool.and_eq_true, Bool.and_eq_false_iff, Bool.or_eq_true, Bool.or_eq_false_iff, not_true_eq_false, not_false_eq_true, Int.not_lt, Int.not_le] at hb_; first | done | (exfalso; first | omega | contradiction))); intro hb_; try simp only [pd_true, pd_false, Bool.not_eq_true', Bool.not_eq_false', Bool.and_eq_true, Bool.and_eq_false_iff, Bool.or_eq_true, Bool.or_eq_false_iff, not_true_eq_false, not_false_eq_true, Int.not_lt, Int.not_le] at hb_) | ((with_reducible apply XP.split); (case ho | hg | hj | hd | hb => exact rfl); (fail_if_success (case hf => exact fun h => Bool.noConfusion h)); (fail_if_success (case ht => exact fun h => Bool.noConfusion h)); (first | (case ht => intro hb_; try simp only [pd_true, pd_false, Bool.not_eq_true', Bool.not_eq_false', Bool.and_eq_true, Bool.and_eq_false_iff, Bool.or_eq_true, Bool.or_eq_false_iff, not_true_eq_false, not_false_eq_true, Int.not_lt, Int.not_le] at hb_; first | done | (exfalso; first | omega | contradiction)) | (case hf => intro hb_; try simp only [pd_true, pd_false, Bool.not_eq_true', Bool.not_eq_false', Bool.and_eq_true, Bool.and_eq_false_iff, Bool.or_eq_true, Bool.or_eq_false_iff, not_true_eq_false, not_false_eq_true, Int.not_lt, Int.not_le] at hb_; first | done | (exfalso; first | omega | contradiction))); intro hb_; try simp only [pd_true, pd_false, Bool.not_eq_true', Bool.not_eq_false', Bool.and_eq_true, Bool.and_eq_false_iff, Bool.or_eq_true, Bool.or_eq_false_iff, not_true_eq_false, not_false_eq_true, Int.not_lt, Int.not_le] at hb_) | ((with_reducible apply XC.cond); (case hc => exact rfl); (first | (case ht => intro hb_; try simp only [pd_true, pd_false, Bool.not_eq_true', Bool.not_eq_false', Bool.and_eq_true, Bool.and_eq_false_iff, Bool.or_eq_true, Bool.or_eq_false_iff, not_true_eq_false, not_false_eq_true, Int.not_lt, Int.not_le] at hb_; first | done | (exfalso; first | omega | contradiction)) | (case hf => intro hb_; try simp only [pd_true, pd_false, Bool.not_eq_true', Bool.not_eq_false', Bool.and_eq_true, Bool.and_eq_false_iff, Bool.or_eq_true, Bool.or_eq_false_iff, not_true_eq_false, not_false_eq_true, Int.not_lt, Int.not_le] at hb_; first | done | (exfalso; first | omega | contradiction))); intro hb_; try simp only [pd_true, pd_false, Bool.not_eq_true', Bool.not_eq_false', Bool.and_eq_true, Bool.and_eq_false_iff, Bool.or_eq_true, Bool.or_eq_false_iff, not_true_eq_false, not_false_eq_true, Int.not_lt, Int.not_le] at hb_))))
      ((with_reducible apply XQ.retE); (case hr => exact .t rfl .nil))
      exact ⟨[], .of (List.nil_sublist _), .inl ⟨hret, rfl, rfl⟩⟩
    exact absurd ⟨⟨by omega, by omega⟩, ⟨by omega, by omega⟩, h0⟩ hgo
  obtain ⟨hp1, hp2, hpn⟩ := hgo
  rw [hpn, pdf (fun h : (none : Option Int) ≠ none => h rfl)]
  (repeat (first | (with_reducible apply XL.op) | ((with_reducible apply XOp.p1); (case hg | hv => exact rfl)) | ((with_reducible apply XOp.load); (case hg | ht | hk | hx => exact rfl); (case hc => exact own_cell (i := 0) rfl rfl)) | ((with_reducible apply XOp.loadO (i := 0)); (case hg | ht | hk | hx | hi | hc => exact rfl)) | (with_reducible apply XL.nilT) | (with_reducible apply XC.seq) | (with_reducible apply XC.region (Γ := Γ)) | (with_reducible apply XQ.skip) | (with_reducible apply XQ.nt) | (first | ((with_reducible apply XOp.split); (case hg | hj | hd | hb => exact rfl); (fail_if_success (case hf => exact fun h => Bool.noConfusion h)); (fail_if_success (case ht => exact fun h => Bool.noConfusion h)); (first | (case ht => intro hb_; try simp only [pd_true, pd_false, Bool.not_eq_true', Bool.not_eq_false', Bool.and_eq_true, Bool.and_eq_false_iff, Bool.or_eq_true, Bool.or_eq_false_iff, not_true_eq_false, not_false_eq_true, Int.not_lt, Int.not_le] at hb_; first | done | (exfalso; first | omega | contradiction)) | (case hf => intro hb_; try simp only [pd_true, pd_false, Bool.not_eq_true', Bool.not_eq_false', Bool.and_eq_true, Bool.and_eq_false_iff, Bool.or_eq_true, Bool.or_eq_false_iff, not_true_eq_false, not_false_eq_true, Int.not_lt, Int.not_le] at hb_; first | done | (exfalso; first | omega | contradiction))); intro hb_; try simp only [pd_true, pd_false, Bool.not_eq_true', Bool.not_eq_false', Bool.and_eq_true, Bool.and_eq_false_iff, Bool.or_eq_true, Bool.or_eq_false_iff, not_true_eq_false, not_false_eq_true, Int.not_lt, Int.not_le] at hb_) | ((with_reducible apply XP.split); (case ho | hg | hj | hd | hb => exact rfl); (fail_if_success (case hf => exact fun h => Bool.noConfusion h)); (fail_if_success (case ht => exact fun h => Bool.noConfusion h)); (first | (case ht => intro hb_; try simp only [pd_true, pd_false, Bool.not_eq_true', Bool.not_eq_false', Bool.and_eq_true, Bool.and_eq_false_iff, Bool.or_eq_true, Bool.or_eq_false_iff, not_true_eq_false, not_false_eq_true, Int.not_lt, Int.not_le] at hb_; first | done | (exfalso; first | omega | contradiction)) | (case hf => intro hb_; try simp only [pd_true, pd_false, Bool.not_eq_true', Bool.not_eq_false', Bool.and_eq_true, Bool.and_eq_false_iff, Bool.or_eq_true, Bool.or_eq_false_iff, not_true_eq_false, not_false_eq_true, Int.not_lt, Int.not_le] at hb_; first | done | (exfalso; first | omega | contradiction))); intro hb_; try simp only [pd_true, pd_false, Bool.not_eq_true', Bool.not_eq_false', Bool.and_eq_true, Bool.and_eq_false_iff, Bool.or_eq_true, Bool.or_eq_false_iff, not_true_eq_false, not_false_eq_true, Int.not_lt, Int.not_le] at hb_) | ((with_reducible apply XC.cond); (case hc => exact rfl); (first | (case ht => intro hb_; try simp only [pd_true, pd_false, Bool.not_eq_true', Bool.not_eq_false', Bool.and_eq_true, Bool.and_eq_false_iff, Bool.or_eq_true, Bool.or_eq_false_iff, not_true_eq_false, not_false_eq_true, Int.not_lt, Int.not_le] at hb_; first | done | (exfalso; first | omega | contradiction)) | (case hf => intro hb_; try simp only [pd_true, pd_false, Bool.not_eq_true', Bool.not_eq_false', Bool.and_eq_true, Bool.and_eq_false_iff, Bool.or_eq_true, Bool.or_eq_false_iff, not_true_eq_false, not_false_eq_true, Int.not_lt, Int.not_le] at hb_; first | done | (exfalso; first | omega | contradiction))); intro hb_; try simp only [pd_true, pd_false, Bool.not_eq_true', Bool.not_eq_false', Bool.and_eq_true, Bool.and_eq_false_iff, Bool.or_eq_true, Bool.or_eq_false_iff, not_true_eq_false, not_false_eq_true, Int.not_lt, Int.not_le] at hb_))))
  ((with_reducible apply XOp.mapNewG (i := 1) (kv := pairV) (k := p)); (case hg => exact rfl); (case ht => exact rfl); (case hk => exact rfl); (case hx => exact rfl); (case hy => exact rfl); (case hz => exact rfl); (case hL => exact rfl); (case hK => exact Keys.pair (Γ := Γ) (t := 93) rfl rfl rfl rfl rfl); (case hm => exact hm); (case hn => exact hpn))
  intro pob2 hm2
  (repeat (first | (with_reducible apply XL.nilT) | (with_reducible apply XC.seq)))
  have hgx : ∀ k, k < B.length + 1 + j → ∃ x, l[k]? = some x ∧ x ∈ l ∧ x.1.length = (szs B.length (pre Ps j))[k]?.getD 0 ∧ x.1 = (pcs B (pre Ps j))[k]?.getD [] := fun k hk => by
    have hx : l[k]? = some l[k] := List.getElem?_eq_getElem (by omega)
    have e : (pcs B (pre Ps j))[k]?.getD [] = l[k].1 := by rw [← hl, List.getElem?_map, hx]; rfl
    exact ⟨_, hx, List.getElem_mem _, by rw [← pcs_at, e], e.symm⟩
  obtain ⟨x1, hx1, hm1, hlen1, hval1⟩ := hgx p.1.toNat (by omega)
  obtain ⟨x2, hx2, hm2', hlen2, hval2⟩ := hgx p.2.toNat (by omega)
  have hs1 := szs_at_small (mx := 16) (by omega) hok p.1.toNat
  have hs2 := szs_at_small (mx := 16) (by omega) hok p.2.toNat
  obtain ⟨A1, hA1, hS1⟩ := hpc x1 hm1
  obtain ⟨A2, hA2, hS2⟩ := hpc x2 hm2'
  have hb1 := hS1.bytes
  have hb2 := hS2.bytes
  obtain ⟨g, gc, sp, hge, rfl, -, -, -⟩ := hown.blk2 (by omega)
  obtain ⟨rfl, -, rfl⟩ := Value.slice.inj hge
  have hcell : ∀ (k : Nat) (x : LA Int), l[k]? = some x → (l.flatMap laC ++ sp)[k]? = some (sla x) := fun k x hk => by
    have e := flat_la l
    have hkl := (List.getElem?_eq_some_iff.1 hk).1
    rw [e, List.getElem?_append_left (by simpa using hkl), List.getElem?_map, hk]; rfl
  have hcell1 := hcell _ _ hx1
  have hcell2 := hcell _ _ hx2
  refine XC.perm (L' := (qb, Obj.cells ⟨[.int .i64 p.1, .int .i64 p.2]⟩ 93 (0, 0)) :: (pb, pob2) :: (kb, kob) :: VoB ub (.slice ab B.length cb) (.slice ap Ps.length cp) :: (g, Obj.cells ⟨l.flatMap laC ++ sp⟩ 32 (0, 0)) :: Fh) ?_ (show List.Perm ((qb, Obj.cells ⟨[.int .i64 p.1, .int .i64 p.2]⟩ 93 (0, 0)) :: (pb, pob2) :: (kb, kob) :: VoB ub (.slice ab B.length cb) (.slice ap Ps.length cp) :: (Fh ++ [(g, Obj.cells ⟨l.flatMap laC ++ sp⟩ 32 (0, 0))])) _ by (first | (with_reducible exact List.Perm.refl _) | refine perm_of_cnt fun p_ => ?_; simp only [List.countP_append, List.countP_cons, List.countP_nil]; omega))
  ((with_reducible apply XC.regionL (Γ := Γ) mixed (.q 1 (.q 2 (.q 3 (.q 4 (.q 5 (.q 7 (.q 8 (.q 9 (.q 10 (.q 11 (.e 0 (.e 6 (.e 12 (.e 13 (.done))))))))))))))) [12] ([(qb, Obj.cells ⟨[.int .i64 p.1, .int .i64 p.2]⟩ 93 (0, 0)), (pb, pob2), (kb, kob), VoB ub (.slice ab B.length cb) (.slice ap Ps.length cp), (g, Obj.cells ⟨l.flatMap laC ++ sp⟩ 32 (0, 0))])); (case hc => kernel_rfl); (case hs => first | exact List.nil_sublist _ | exact List.Sublist.refl _ | exact List.sublist_append_right _ _ | (refine List.Sublist.cons_cons _ (List.nil_sublist _)) | (refine List.Sublist.cons_cons _ (List.Sublist.cons_cons _ (List.nil_sublist _))) | (refine List.Sublist.cons_cons _ (List.Sublist.cons_cons _ (List.Sublist.cons_cons _ (List.nil_sublist _)))) | (refine List.Sublist.cons_cons _ (List.Sublist.cons_cons _ (List.Sublist.cons_cons _ (List.Sublist.cons_cons _ (List.nil_sublist _))))) | ((try simp only [List.append_eq, List.cons_append, List.nil_append, List.append_assoc]); (repeat (first | exact List.Sublist.refl _ | exact List.nil_sublist _ | (with_reducible apply List.Sublist.cons_cons) | (with_reducible apply List.Sublist.cons))); done)))
  (repeat (first | ((with_reducible apply XP.p1); (case ho | hg | hv => exact rfl)) | ((with_reducible apply XP.load); (case ho | hg | ht | hk | hx => exact rfl); (case hc => exact own_cell (i := 0) rfl rfl)) | ((with_reducible apply XP.pr); (case ho => exact rfl); (case hg => exact rfl); (case hr => ((with_reducible apply PR.idx); (case ht | hk | he | hx | hi => exact rfl); (case hr => first | assumption | omega)))) | ((with_reducible apply XP.e); (first | ((with_reducible apply XE.d); (case ho => exact rfl); (case hd => exact rfl)) | ((with_reducible apply XE.e); (case ho => exact rfl)))) | (first | ((with_reducible apply XOp.load); (case hg | ht | hk | hx => exact rfl); (case hc => exact own_cell (i := 4) rfl (by rw [show 0 + p.1.toNat * 1 = p.1.toNat by omega]; exact hcell1))) | ((with_reducible apply XP.load); (case ho | hg | ht | hk | hx => exact rfl); (case hc => exact own_cell (i := 4) rfl (by rw [show 0 + p.1.toNat * 1 = p.1.toNat by omega]; exact hcell1)))) | (first | ((with_reducible apply XOp.load); (case hg | ht | hk | hx => exact rfl); (case hc => exact own_cell (i := 4) rfl (by rw [show 0 + p.2.toNat * 1 = p.2.toNat by omega]; exact hcell2))) | ((with_reducible apply XP.load); (case ho | hg | ht | hk | hx => exact rfl); (case hc => exact own_cell (i := 4) rfl (by rw [show 0 + p.2.toNat * 1 = p.2.toNat by omega]; exact hcell2))))))
  ((with_reducible apply XOp.buildSlice0); (case hg | ht | hk | he => exact rfl); intro eb)
  (refine ⟨fun y_ hy_ => (by (simp only [List.mem_cons, List.mem_append, List.not_mem_nil, or_false] at hy_ ⊢); (repeat' (rcases hy_ with hy_ | hy_)) <;> simp), ?_⟩)
  (repeat (((with_reducible apply XP.e); (first | ((with_reducible apply XE.d); (case ho => exact rfl); (case hd => exact rfl)) | ((with_reducible apply XE.e); (case ho => exact rfl))))))
  ((with_reducible apply XOp.appendG); (case hg => exact rfl); (case ht => exact rfl); (case hk => exact rfl); (case he => exact rfl); (case hs => exact rfl); (case hx => exact rfl); (case hown => exact OwnS.empty); (case hL => rfl); (case ha => exact hS1.at_); (case hc => exact fun _ => Known.of_frag (rowInts hS1) (Mono.row _ _ _) (fun z hz => by simp [hA1 z hz])); (case hl => exact by simp); (case h1 => exact List.all_eq_true.2 fun v hv => by obtain ⟨x, _, rfl⟩ := List.mem_map.1 hv; rfl); (case hz => exact rfl); (case hsz => exact Nat.zero_lt_succ _); (case h63 => simp only [maxLen]; omega); (case hb => simp only []; omega))
  intro v1 F1 ho1
  obtain ⟨a1, c1, rfl⟩ := ho1.val
  (refine ⟨fun y_ hy_ => (by (simp only [List.mem_cons, List.mem_append, List.not_mem_nil, or_false] at hy_ ⊢); (repeat' (rcases hy_ with hy_ | hy_)) <;> simp), ?_⟩)
  (repeat (((with_reducible apply XP.e); (first | ((with_reducible apply XE.d); (case ho => exact rfl); (case hd => exact rfl)) | ((with_reducible apply XE.e); (case ho => exact rfl))))))
  ((with_reducible apply XOp.appendG); (case hg => exact rfl); (case ht => exact rfl); (case hk => exact rfl); (case he => exact rfl); (case hs => exact rfl); (case hx => exact rfl); (case hown => exact ho1); (case hL => rfl); (case ha => exact hS2.at_); (case hc => exact fun _ => Known.of_frag (rowInts hS2) (Mono.row _ _ _) (fun z hz => by simp [hA2 z hz])); (case hl => exact by simp); (case h1 => exact List.all_eq_true.2 fun v hv => by obtain ⟨x, _, rfl⟩ := List.mem_map.1 hv; rfl); (case hz => exact rfl); (case hsz => exact Nat.zero_lt_succ _); (case h63 => simp only [maxLen]; omega); (case hb => simp only []; omega))
  intro v2 F2 ho2
  obtain ⟨a2, c2, rfl⟩ := ho2.val
  have hL : 0 + x1.1.length + x2.1.length = (x1.1 ++ x2.1).length := by simp
  have hL2 : (x1.1 ++ x2.1).length = x1.1.length + x2.1.length := List.length_append ..
  have ho3 := ho2.conv hL (show _ = (x1.1 ++ x2.1).map (.int .u8) by simp)
  rw [hL] at ho3 ⊢
  (repeat (first | (with_reducible apply XL.op) | ((with_reducible apply XOp.p1); (case hg | hv => exact rfl)) | (with_reducible apply XL.nilT) | (with_reducible apply XC.seq) | (with_reducible apply XC.region (Γ := Γ)) | (with_reducible apply XQ.nt) | (with_reducible apply XP.done) | ((with_reducible apply XP.e); (first | ((with_reducible apply XE.d); (case ho => exact rfl); (case hd => exact rfl)) | ((with_reducible apply XE.e); (case ho => exact rfl)))) | ((with_reducible apply XP.keep); (case hk => first | ((repeat' (first | exact List.forall_mem_nil _ | (with_reducible refine List.forall_mem_cons.2 ⟨?_, ?_⟩) | exact List.mem_cons_self .. | (with_reducible apply List.mem_cons_of_mem) | (with_reducible apply List.mem_append_right))); done) | (intro x hx; first | exact sel_in hx | exact List.mem_cons_of_mem _ (sel_in hx) | exact List.mem_append_right _ (sel_in hx) | exact hx | exact List.mem_cons_of_mem _ hx | exact List.mem_append_right _ hx | ((repeat (first | exact sel_in hx | exact hx | (with_reducible apply List.mem_cons_of_mem) | (with_reducible apply List.mem_append_right))); done) | (rw [List.mem_singleton.1 hx]; (simp; done)) | (rcases List.mem_cons.1 hx with rfl | hx; (simp; done); (rw [List.mem_singleton.1 hx]; (simp; done))) | cases hx)))))
  by_cases h16 : (x1.1 ++ x2.1).length ≤ 16
  rotate_left
  · (repeat (first | (with_reducible apply XL.op) | ((with_reducible apply XOp.p1); (case hg | hv => exact rfl)) | (with_reducible apply XL.nilT) | (with_reducible apply XC.seq) | (with_reducible apply XC.region (Γ := Γ)) | (with_reducible apply XQ.ret) | (with_reducible apply XQ.rt) | (with_reducible apply XQ.rb) | (first | ((with_reducible apply XOp.split); (case hg | hj | hd | hb => exact rfl); (fail_if_success (case hf => exact fun h => Bool.noConfusion h)); (fail_if_success (case ht => exact fun h => Bool.noConfusion h)); (first | (case ht => intro hb_; try simp only [pd_true, pd_false, Bool.not_eq_true', Bool.not_eq_false', Bool.and_eq_true, Bool.and_eq_false_iff, Bool.or_eq_true, Bool.or_eq_false_iff, not_true_eq_false, not_false_eq_true, Int.not_lt, Int.not_le] at hb_; first | done | (exfalso; first | omega | contradiction)) | (case hf => intro hb_; try simp only [pd_true, pd_false, Bool.not_eq_true', Bool.not_eq_false', Bool.and_eq_true, Bool.and_eq_false_iff, Bool.or_eq_true, Bool.or_eq_false_iff, not_true_eq_false, not_false_eq_true, Int.not_lt, Int.not_le] at hb_; first | done | (exfalso; first | omega | contradiction))); intro hb_; try simp only [pd_true, pd_false, Bool.not_eq_true', Bool.not_eq_false', Bool.and_eq_true, Bool.and_eq_false_iff, Bool.or_eq_true, Bool.or_eq_false_iff, not_true_eq_false, not_false_eq_true, Int.not_lt, Int.not_le] at hb_) | ((with_reducible apply XP.split); (case ho | hg | hj | hd | hb => exact rfl); (fail_if_success (case hf => exact fun h => Bool.noConfusion h)); (fail_if_success (case ht => exact fun h => Bool.noConfusion h)); (first | (case ht => intro hb_; try simp only [pd_true, pd_false, Bool.not_eq_true', Bool.not_eq_false', Bool.and_eq_true, Bool.and_eq_false_iff, Bool.or_eq_true, Bool.or_eq_false_iff, not_true_eq_false, not_false_eq_true, Int.not_lt, Int.not_le] at hb_; first | done | (exfalso; first | omega | contradiction)) | (case hf => intro hb_; try simp only [pd_true, pd_false, Bool.not_eq_true', Bool.not_eq_false', Bool.and_eq_true, Bool.and_eq_false_iff, Bool.or_eq_true, Bool.or_eq_false_iff, not_true_eq_false, not_false_eq_true, Int.not_lt, Int.not_le] at hb_; first | done | (exfalso; first | omega | contradiction))); intro hb_; try simp only [pd_true, pd_false, Bool.not_eq_true', Bool.not_eq_false', Bool.and_eq_true, Bool.and_eq_false_iff, Bool.or_eq_true, Bool.or_eq_false_iff, not_true_eq_false, not_false_eq_true, Int.not_lt, Int.not_le] at hb_) | ((with_reducible apply XC.cond); (case hc => exact rfl); (first | (case ht => intro hb_; try simp only [pd_true, pd_false, Bool.not_eq_true', Bool.not_eq_false', Bool.and_eq_true, Bool.and_eq_false_iff, Bool.or_eq_true, Bool.or_eq_false_iff, not_true_eq_false, not_false_eq_true, Int.not_lt, Int.not_le] at hb_; first | done | (exfalso; first | omega | contradiction)) | (case hf => intro hb_; try simp only [pd_true, pd_false, Bool.not_eq_true', Bool.not_eq_false', Bool.and_eq_true, Bool.and_eq_false_iff, Bool.or_eq_true, Bool.or_eq_false_iff, not_true_eq_false, not_false_eq_true, Int.not_lt, Int.not_le] at hb_; first | done | (exfalso; first | omega | contradiction))); intro hb_; try simp only [pd_true, pd_false, Bool.not_eq_true', Bool.not_eq_false', Bool.and_eq_true, Bool.and_eq_false_iff, Bool.or_eq_true, Bool.or_eq_false_iff, not_true_eq_false, not_false_eq_true, Int.not_lt, Int.not_le] at hb_))))
    ((with_reducible apply XQ.retE); (case hr => exact .t rfl .nil))
    exact ⟨[], .of (List.nil_sublist _), .inl ⟨hbad (fun h => by have := h.2.2.2; omega), rfl, rfl⟩⟩
  (repeat (first | (with_reducible apply XL.op) | ((with_reducible apply XOp.p1); (case hg | hv => exact rfl)) | (with_reducible apply XC.region (Γ := Γ)) | (with_reducible apply XQ.skip) | (with_reducible apply XQ.nt) | (first | ((with_reducible apply XOp.split); (case hg | hj | hd | hb => exact rfl); (fail_if_success (case hf => exact fun h => Bool.noConfusion h)); (fail_if_success (case ht => exact fun h => Bool.noConfusion h)); (first | (case ht => intro hb_; try simp only [pd_true, pd_false, Bool.not_eq_true', Bool.not_eq_false', Bool.and_eq_true, Bool.and_eq_false_iff, Bool.or_eq_true, Bool.or_eq_false_iff, not_true_eq_false, not_false_eq_true, Int.not_lt, Int.not_le] at hb_; first | done | (exfalso; first | omega | contradiction)) | (case hf => intro hb_; try simp only [pd_true, pd_false, Bool.not_eq_true', Bool.not_eq_false', Bool.and_eq_true, Bool.and_eq_false_iff, Bool.or_eq_true, Bool.or_eq_false_iff, not_true_eq_false, not_false_eq_true, Int.not_lt, Int.not_le] at hb_; first | done | (exfalso; first | omega | contradiction))); intro hb_; try simp only [pd_true, pd_false, Bool.not_eq_true', Bool.not_eq_false', Bool.and_eq_true, Bool.and_eq_false_iff, Bool.or_eq_true, Bool.or_eq_false_iff, not_true_eq_false, not_false_eq_true, Int.not_lt, Int.not_le] at hb_) | ((with_reducible apply XP.split); (case ho | hg | hj | hd | hb => exact rfl); (fail_if_success (case hf => exact fun h => Bool.noConfusion h)); (fail_if_success (case ht => exact fun h => Bool.noConfusion h)); (first | (case ht => intro hb_; try simp only [pd_true, pd_false, Bool.not_eq_true', Bool.not_eq_false', Bool.and_eq_true, Bool.and_eq_false_iff, Bool.or_eq_true, Bool.or_eq_false_iff, not_true_eq_false, not_false_eq_true, Int.not_lt, Int.not_le] at hb_; first | done | (exfalso; first | omega | contradiction)) | (case hf => intro hb_; try simp only [pd_true, pd_false, Bool.not_eq_true', Bool.not_eq_false', Bool.and_eq_true, Bool.and_eq_false_iff, Bool.or_eq_true, Bool.or_eq_false_iff, not_true_eq_false, not_false_eq_true, Int.not_lt, Int.not_le] at hb_; first | done | (exfalso; first | omega | contradiction))); intro hb_; try simp only [pd_true, pd_false, Bool.not_eq_true', Bool.not_eq_false', Bool.and_eq_true, Bool.and_eq_false_iff, Bool.or_eq_true, Bool.or_eq_false_iff, not_true_eq_false, not_false_eq_true, Int.not_lt, Int.not_le] at hb_) | ((with_reducible apply XC.cond); (case hc => exact rfl); (first | (case ht => intro hb_; try simp only [pd_true, pd_false, Bool.not_eq_true', Bool.not_eq_false', Bool.and_eq_true, Bool.and_eq_false_iff, Bool.or_eq_true, Bool.or_eq_false_iff, not_true_eq_false, not_false_eq_true, Int.not_lt, Int.not_le] at hb_; first | done | (exfalso; first | omega | contradiction)) | (case hf => intro hb_; try simp only [pd_true, pd_false, Bool.not_eq_true', Bool.not_eq_false', Bool.and_eq_true, Bool.and_eq_false_iff, Bool.or_eq_true, Bool.or_eq_false_iff, not_true_eq_false, not_false_eq_true, Int.not_lt, Int.not_le] at hb_; first | done | (exfalso; first | omega | contradiction))); intro hb_; try simp only [pd_true, pd_false, Bool.not_eq_true', Bool.not_eq_false', Bool.and_eq_true, Bool.and_eq_false_iff, Bool.or_eq_true, Bool.or_eq_false_iff, not_true_eq_false, not_false_eq_true, Int.not_lt, Int.not_le] at hb_))))
  ((with_reducible apply XOp.buildSlice); (case hg | ht | hk | he | hz | hzl | hf => exact rfl); intro rb)
  (repeat ((with_reducible apply XL.op)))
  (refine (show XOp _ _ _ _ _ _ _ _ ((rb, Obj.cells ⟨[.slice a2 (x1.1 ++ x2.1).length c2]⟩ 32 (0, 0)) :: (F2 ++ ((qb, Obj.cells ⟨[.int .i64 p.1, .int .i64 p.2]⟩ 93 (0, 0)) :: (pb, pob2) :: (kb, kob) :: VoB ub (.slice ab B.length cb) (.slice ap Ps.length cp) :: (g, Obj.cells ⟨l.flatMap laC ++ sp⟩ 32 (0, 0)) :: Fh))) from XOp.perm (L' :=  (rb, Obj.cells ⟨[.slice a2 (x1.1 ++ x2.1).length c2]⟩ 32 (0, 0)) :: (([(pb, pob2), (kb, kob), VoB ub (.slice ab B.length cb) (.slice ap Ps.length cp)] ++ (F2 ++ ((qb, Obj.cells ⟨[.int .i64 p.1, .int .i64 p.2]⟩ 93 (0, 0)) :: Fh))) ++ [(g, Obj.cells ⟨l.flatMap laC ++ sp⟩ 32 (0, 0))])) rfl ?_ (by (first | (with_reducible exact List.Perm.refl _) | refine perm_of_cnt fun p_ => ?_; simp only [List.countP_append, List.countP_cons, List.countP_nil]; omega))))
  ((with_reducible apply XOp.append1R (R := [(pb, pob2), (kb, kob), VoB ub (.slice ab B.length cb) (.slice ap Ps.length cp)] ++ (F2 ++ ((qb, Obj.cells ⟨[.int .i64 p.1, .int .i64 p.2]⟩ 93 (0, 0)) :: Fh)))); (case hg => exact rfl); (case ht => exact rfl); (case hk => exact rfl); (case he => exact rfl); (case hown => exact hown); (case hs => exact rfl); (case hx => exact rfl); (case hL => exact rfl); (case hl => exact rfl); (case h1 => exact rfl); (case hz => exact rfl); (case hsz => exact Nat.zero_lt_succ _); (case hk0 => exact Nat.zero_lt_succ _); (case h63 => simp only [maxLen]; omega); (case hb => simp only []; omega); intro v_ F_ hown_; obtain ⟨a_, c_, rfl⟩ := hown_.val)
  (repeat (first | (with_reducible apply XL.op) | ((with_reducible apply XOp.p1); (case hg | hv => exact rfl)) | (with_reducible apply XL.nilT) | (with_reducible apply XC.region (Γ := Γ)) | (with_reducible apply XL.nilQ) | (with_reducible apply XQ.nt) | (with_reducible apply XQ.nb)))
  refine ⟨k - 1, by omega, _, .of (List.Sublist.refl _), j + 1, _, l ++ [(x1.1 ++ x2.1, a2, c2)], pob2, _, F_, F2 ++ ((qb, Obj.cells ⟨[.int .i64 p.1, .int .i64 p.2]⟩ 93 (0, 0)) :: Fh), by omega, (pairs_succ hj).2 ⟨hok, ⟨fun hz => (hmd p).2 hz hpn, hp1, hp2, by omega⟩⟩, hm2, ?_, hown_.conv (by omega) (by rw [List.flatMap_append]; simp [zerosL]), by rw [List.map_append, hl, pcs_succ hj, ← hval1, ← hval2]; rfl, (hpc.mono (fun z hz => List.mem_cons_of_mem _ hz)).snoc (own_u8 ho3 (fun y hy => by
      rcases List.mem_append.1 hy with hy | hy
      · exact hS1.okAll y hy
      · exact hS2.okAll y hy) (by show (x1.1 ++ x2.1).length * 1 ≤ _; omega)), rfl, rfl, rfl, rfl, rfl, rfl, rfl, rfl, intS (m := Ps.length) (by omega) (by omega), trivial⟩
  intro y
  rw [take_snocD hj, List.mem_append, List.mem_singleton]
  by_cases hy : y = p
  · subst hy; simp
  · rw [if_neg hy]; rw [hmd y]; simp [hy]
end Go.Proofs.YtkppmmbcloaekaaGreatDoorX
/- Which vocabularies may be: the reference's. -/
namespace Go.Proofs.YtkppmmbcloaekaaGreatDoorX
open Go Go.SX

/-- The sizes' array. -/
def szL (l : List Nat) : List Value := (l ++ List.replicate (64 - l.length) 0).map fun (n : Nat) => .int .i64 (n : Int)
end Go.Proofs.YtkppmmbcloaekaaGreatDoorX
/- bpe.Check and Size, both sides; New's error. -/
namespace Go.Proofs.YtkppmmbcloaekaaGreatDoorX
open Go Go.SX

theorem bpeCheck_fn (x : LVo) : FC Tryz.prog 21 [.agg ⟨x.cells⟩] [] (fun h => voAt h x) (fun v L => v = .int .i64 (errV x.voc) ∧ L = []) := by
  refine FC.nil ?_
  refine FC.intro Tryz.func21 rfl (by kernel_rfl) 6 [.tmp 2] rfl rfl rfl ?_
  intro w0 hA
  (repeat (first | (with_reducible apply XL.op) | (with_reducible apply XC.seq) | (with_reducible apply XC.region (Γ := Γ))))
  ((with_reducible apply XOp.box); (case hg | hx' => exact rfl); intro ub)
  (repeat (first | (with_reducible apply XL.op) | ((with_reducible apply XOp.p1); (case hg | hv => exact rfl)) | ((with_reducible apply XOp.loadO (i := 0)); (case hg | ht | hk | hx | hi | hc => exact rfl)) | (with_reducible apply XL.nilT) | (with_reducible apply XC.seq) | (with_reducible apply XC.region (Γ := Γ))))
  ((with_reducible apply XOp.callN (hF := pieces_fn x)); (case hg => exact rfl); (case hc => exact rfl); (case ha => exact rfl); try (case hA => exact Known.true))
  case hA => exact Known.of_old hA (vo_mono _)
  rintro _ F (⟨hno, rfl, rfl⟩ | ⟨hok, g, c, rfl, rfl⟩)
  · (repeat (first | (with_reducible apply XL.op) | ((with_reducible apply XOp.p1); (case hg | hv => exact rfl)) | (with_reducible apply XL.nilT) | (with_reducible apply XC.seq) | (with_reducible apply XC.region (Γ := Γ)) | (with_reducible apply XQ.ret) | (with_reducible apply XQ.rt) | ((with_reducible apply XC.condT); (case hc => exact rfl)) | (first | ((with_reducible apply XOp.pr); (case hg => exact rfl); (case hr => (with_reducible apply PR.eqNilS); (case ht => exact rfl); (case hk => exact rfl); (case hx => exact rfl); (case hy => exact rfl))) | ((with_reducible apply XP.pr); (case ho => exact rfl); (case hg => exact rfl); (case hr => (with_reducible apply PR.eqNilS); (case ht => exact rfl); (case hk => exact rfl); (case hx => exact rfl); (case hy => exact rfl))))))
    ((with_reducible apply XQ.retE); (case hr => exact .t rfl .nil))
    rw [errV_no hno]; rfl
  · (repeat (first | (with_reducible apply XL.op) | ((with_reducible apply XOp.p1); (case hg | hv => exact rfl)) | (with_reducible apply XL.nilT) | (with_reducible apply XC.seq) | (with_reducible apply XC.region (Γ := Γ)) | (with_reducible apply XQ.skip) | (with_reducible apply XQ.ret) | (with_reducible apply XQ.nt) | ((with_reducible apply XC.condF); (case hc => exact rfl)) | (first | ((with_reducible apply XOp.pr); (case hg => exact rfl); (case hr => (with_reducible apply PR.eqNilS); (case ht => exact rfl); (case hk => exact rfl); (case hx => exact rfl); (case hy => exact rfl))) | ((with_reducible apply XP.pr); (case ho => exact rfl); (case hg => exact rfl); (case hr => (with_reducible apply PR.eqNilS); (case ht => exact rfl); (case hk => exact rfl); (case hx => exact rfl); (case hy => exact rfl))))))
    ((with_reducible apply XQ.retE); (case hr => exact .t rfl .nil))
    rw [errV_ok hok]; rfl
theorem bpeSize_fn (x : LVo) : FC Tryz.prog 22 [.agg ⟨x.cells⟩] [] (fun h => voAt h x) (fun v L => v = .int .i64 ((sizeV x.voc : Nat) : Int) ∧ L = []) := by
  refine FC.nil ?_
  refine FC.intro Tryz.func22 rfl (by kernel_rfl) 6 [.tmp 2] rfl rfl rfl ?_
  intro w0 hA
  (repeat (first | (with_reducible apply XL.op) | (with_reducible apply XC.seq) | (with_reducible apply XC.region (Γ := Γ))))
  ((with_reducible apply XOp.box); (case hg | hx' => exact rfl); intro ub)
  (repeat (first | (with_reducible apply XL.op) | ((with_reducible apply XOp.p1); (case hg | hv => exact rfl)) | ((with_reducible apply XOp.loadO (i := 0)); (case hg | ht | hk | hx | hi | hc => exact rfl)) | (with_reducible apply XL.nilT) | (with_reducible apply XC.seq) | (with_reducible apply XC.region (Γ := Γ))))
  ((with_reducible apply XOp.callN (hF := pieces_fn x)); (case hg => exact rfl); (case hc => exact rfl); (case ha => exact rfl); try (case hA => exact Known.true))
  case hA => exact Known.of_old hA (vo_mono _)
  rintro _ F (⟨hno, rfl, rfl⟩ | ⟨hok, g, c, rfl, rfl⟩)
  · (repeat (first | (with_reducible apply XL.op) | ((with_reducible apply XOp.p1); (case hg | hv => exact rfl)) | (with_reducible apply XL.nilT) | (with_reducible apply XQ.ret)))
    ((with_reducible apply XQ.retE); (case hr => exact .t rfl .nil))
    rw [sizeV_no hno]; rfl
  · (repeat (first | (with_reducible apply XL.op) | ((with_reducible apply XOp.p1); (case hg | hv => exact rfl)) | (with_reducible apply XL.nilT) | (with_reducible apply XQ.ret)))
    ((with_reducible apply XQ.retE); (case hr => exact .t rfl .nil))
    rw [sizeV_ok hok]; rfl
open Classical in
/-- New's error over a model of weights that fit. -/
noncomputable def errN (V : Voc) (C : Cfg) (c : Srv) : Int := if vocOk V ∧ (V.size : Int) = C.Vocab then c.err C.Len else 50
theorem errN_voc {V : Voc} {C : Cfg} {c : Srv} (h : ¬ vocOk V) : errN V C c = 50 := by unfold errN; rw [if_neg (fun g => h g.1)]
theorem errN_size {V : Voc} {C : Cfg} {c : Srv} (h : ¬ (V.size : Int) = C.Vocab) : errN V C c = 50 := by unfold errN; rw [if_neg (fun g => h g.2)]
theorem errN_srv {V : Voc} {C : Cfg} {c : Srv} (h : vocOk V) (h2 : (V.size : Int) = C.Vocab) : errN V C c = c.err C.Len := by unfold errN; rw [if_pos ⟨h, h2⟩]
theorem err_okS {c : Srv} {l : Int} (h : c.err l = 0) : c.okS l := by
  unfold Go.SX.Srv.err at h
  split at h
  · rename_i g; exact @of_decide_eq_true _ (Classical.propDecidable _) g
  · cases h
end Go.Proofs.YtkppmmbcloaekaaGreatDoorX
/- A new pool, a new cache of beginnings; the reference's. -/
namespace Go.Proofs.YtkppmmbcloaekaaGreatDoorX
open Go Go.SX

def poolC (l w b s : Int) (c k v : Value) : List Value := [.int .i64 l, .int .i64 w, .int .i64 b, .int .i64 s, c, .int .i64 b, k, v]
def PoolB (pb : Nat) (l w b s : Int) (c k v : Value) : Nat × Obj := (pb, Obj.cells ⟨poolC l w b s c k v⟩ 132 (0, 0))
/-- A new pool: its counts lie in a block of zeros. -/
def PoolR (l w b s : Int) (v : Value) (L : HL) : Prop := ∃ pb cb k u F, v = .tuple #[.pointer (some ⟨pb, 0, none⟩), .int .i64 0] ∧ L = PoolB pb l w b s (.slice (some ⟨cb, 0, none⟩) b.toNat b.toNat) k u :: F ∧ (cb, Obj.cells ⟨zerosL [.int .i64 0] b.toNat⟩ 3 (0, 0)) ∈ F
theorem prod4 {l w b s : Int} (hl : 1 ≤ l ∧ l ≤ 4) (hw : 1 ≤ w ∧ w ≤ 32) (hb : 1 ≤ b ∧ b ≤ 256) (hs : 1 ≤ s ∧ s ≤ 16) :
    ∃ N : Nat, IntKind.i64.wrap (IntKind.i64.wrap (IntKind.i64.wrap (l * w) * b) * s) = (N : Int) ∧ N ≤ 524288 := by
  have h1 : 0 ≤ l * w := Int.mul_nonneg (by omega) (by omega)
  have h2 : l * w ≤ 4 * 32 := Int.mul_le_mul hl.2 hw.2 (by omega) (by omega)
  have h3 : 0 ≤ l * w * b := Int.mul_nonneg (by omega) (by omega)
  have h4 : l * w * b ≤ 128 * 256 := Int.mul_le_mul (by omega) hb.2 (by omega) (by omega)
  have h5 : 0 ≤ l * w * b * s := Int.mul_nonneg (by omega) (by omega)
  have h6 : l * w * b * s ≤ 32768 * 16 := Int.mul_le_mul (by omega) hs.2 (by omega) (by omega)
  refine ⟨(l * w * b * s).toNat, ?_, by omega⟩
  rw [wrap64_of (x := l * w) (by omega) (by omega), wrap64_of (x := l * w * b) (by omega) (by omega), wrap64_of (by omega) (by omega)]
  omega
set_option maxRecDepth 20000 in
theorem shape_fn (pb : Nat) (l w b s : Int) (c k u : Value) : FC Tryz.prog 50 [.pointer (some ⟨pb, 0, none⟩)] [] (fun h => rowv h pb 0 (poolC l w b s c k u))
    (fun v L => v = .tuple #[.int .i64 l, .int .i64 w, .int .i64 b, .int .i64 s] ∧ L = []) := by
  refine FC.nil ?_
  refine FC.intro Tryz.func50 rfl (by kernel_rfl) 24 [.tmp 2, .tmp 3, .tmp 4, .tmp 5] rfl rfl rfl ?_
  intro w0 hR
  have c0 : cellv (oldv w0 (keys [])) ⟨pb, 0, none⟩ = some (.int .i64 l) := hR 0 _ rfl
  have c1 : cellv (oldv w0 (keys [])) ⟨pb, 1, none⟩ = some (.int .i64 w) := hR 1 _ rfl
  have c2 : cellv (oldv w0 (keys [])) ⟨pb, 2, none⟩ = some (.int .i64 b) := hR 2 _ rfl
  have c3 : cellv (oldv w0 (keys [])) ⟨pb, 3, none⟩ = some (.int .i64 s) := hR 3 _ rfl
  (repeat (first | (with_reducible apply XL.op) | ((with_reducible apply XOp.p1); (case hg | hv => exact rfl)) | (with_reducible apply XL.nilT) | (with_reducible apply XC.seq) | (with_reducible apply XC.region (Γ := Γ)) | (with_reducible apply XQ.skip) | (with_reducible apply XQ.nt) | ((with_reducible apply XC.condF); (case hc => exact rfl)) | (first | (first | ((with_reducible apply XOp.pr); (case hg => exact rfl); (case hr => (with_reducible apply PR.eqNilP); (case ht => exact rfl); (case hk => exact rfl); (case hx => exact rfl); (case hy => exact rfl))) | ((with_reducible apply XP.pr); (case ho => exact rfl); (case hg => exact rfl); (case hr => (with_reducible apply PR.eqNilP); (case ht => exact rfl); (case hk => exact rfl); (case hx => exact rfl); (case hy => exact rfl)))) | (first | ((with_reducible apply XOp.pr); (case hg => exact rfl); (case hr => (with_reducible apply PR.neNilP); (case ht => exact rfl); (case hk => exact rfl); (case hx => exact rfl); (case hy => exact rfl))) | ((with_reducible apply XP.pr); (case ho => exact rfl); (case hg => exact rfl); (case hr => (with_reducible apply PR.neNilP); (case ht => exact rfl); (case hk => exact rfl); (case hx => exact rfl); (case hy => exact rfl)))))))
  ((with_reducible apply XC.regionD (Γ := Γ) mixed (.q 0 (.q 1 (.q 2 (.q 3 (.q 4 (.q 5 (.q 6 (.q 7 (.q 8 (.q 9 (.q 10 (.q 11 (.q 12 (.q 13 (.q 14 (.q 15 (.q 16 (.q 17 (.q 18 (.q 19 (.done))))))))))))))))))))) [] []); (case hc => kernel_rfl))
  (repeat (first | (with_reducible apply XQ.ret) | (with_reducible apply XQ.nt) | ((with_reducible apply XP.p1); (case ho | hg | hv => exact rfl)) | (with_reducible apply XP.done) | (first | ((with_reducible apply XOp.load); (case hg | ht | hk | hx => exact rfl); (case hc => exact Known.of_old c0 (Mono.cell _ _))) | ((with_reducible apply XP.load); (case ho | hg | ht | hk | hx => exact rfl); (case hc => exact Known.of_old c0 (Mono.cell _ _)))) | (first | ((with_reducible apply XOp.load); (case hg | ht | hk | hx => exact rfl); (case hc => exact Known.of_old c1 (Mono.cell _ _))) | ((with_reducible apply XP.load); (case ho | hg | ht | hk | hx => exact rfl); (case hc => exact Known.of_old c1 (Mono.cell _ _)))) | (first | ((with_reducible apply XOp.load); (case hg | ht | hk | hx => exact rfl); (case hc => exact Known.of_old c2 (Mono.cell _ _))) | ((with_reducible apply XP.load); (case ho | hg | ht | hk | hx => exact rfl); (case hc => exact Known.of_old c2 (Mono.cell _ _)))) | (first | ((with_reducible apply XOp.load); (case hg | ht | hk | hx => exact rfl); (case hc => exact Known.of_old c3 (Mono.cell _ _))) | ((with_reducible apply XP.load); (case ho | hg | ht | hk | hx => exact rfl); (case hc => exact Known.of_old c3 (Mono.cell _ _))))))
  ((with_reducible apply XQ.retE); (case hr => exact .t rfl (.t rfl (.t rfl (.t rfl .nil)))))
  rfl
set_option maxRecDepth 100000 in
theorem newCache_fn (pb : Nat) (l w b s : Int) (c k u : Value) : FC Tryz.prog 27 [.pointer (some ⟨pb, 0, none⟩)] [] (fun h => rowv h pb 0 (poolC l w b s c k u))
    (fun v L => (∃ xb, v = .pointer (some ⟨xb, 0, none⟩)) ∧ L = []) := by
  refine FC.nil ?_
  refine FC.intro Tryz.func27 rfl (by kernel_rfl) 22 [.tmp 2] rfl rfl rfl ?_
  intro w0 hR
  (repeat (first | (with_reducible apply XL.op) | ((with_reducible apply XOp.p1); (case hg | hv => exact rfl)) | (with_reducible apply XL.nilT) | (with_reducible apply XC.seq) | (with_reducible apply XC.region (Γ := Γ)) | (with_reducible apply XQ.skip) | (with_reducible apply XQ.nt) | ((with_reducible apply XC.condF); (case hc => exact rfl)) | (first | (first | ((with_reducible apply XOp.pr); (case hg => exact rfl); (case hr => (with_reducible apply PR.eqNilP); (case ht => exact rfl); (case hk => exact rfl); (case hx => exact rfl); (case hy => exact rfl))) | ((with_reducible apply XP.pr); (case ho => exact rfl); (case hg => exact rfl); (case hr => (with_reducible apply PR.eqNilP); (case ht => exact rfl); (case hk => exact rfl); (case hx => exact rfl); (case hy => exact rfl)))) | (first | ((with_reducible apply XOp.pr); (case hg => exact rfl); (case hr => (with_reducible apply PR.neNilP); (case ht => exact rfl); (case hk => exact rfl); (case hx => exact rfl); (case hy => exact rfl))) | ((with_reducible apply XP.pr); (case ho => exact rfl); (case hg => exact rfl); (case hr => (with_reducible apply PR.neNilP); (case ht => exact rfl); (case hk => exact rfl); (case hx => exact rfl); (case hy => exact rfl)))))))
  ((with_reducible apply XOp.call (hF := shape_fn pb l w b s c k u)); (case hg => exact rfl); (case hc => exact rfl); (case ha => exact rfl); (case hL => exact (List.nil_append _).symm); try (case hA => exact Known.true))
  case hA => exact Known.of_old hR (Mono.row _ _ _)
  rintro _ _ ⟨rfl, rfl⟩
  (repeat (first | (with_reducible apply XL.op) | ((with_reducible apply XOp.p1); (case hg | hv => exact rfl)) | (with_reducible apply XL.nilT) | (with_reducible apply XC.seq) | (with_reducible apply XC.region (Γ := Γ))))
  ((with_reducible apply XOp.makeMap); (case hg => exact rfl); intro m1 o1 h1)
  (repeat ((with_reducible apply XL.op)))
  ((with_reducible apply XOp.makeMap); (case hg => exact rfl); intro m2 o2 h2)
  (repeat (first | (with_reducible apply XL.op) | ((with_reducible apply XOp.pr); (case hg => exact rfl); (case hr => ((with_reducible apply PR.build); (case ht | hk | hok | hz | hf => exact rfl))))))
  ((with_reducible apply XOp.box); (case hg | hx' => exact rfl); intro xb)
  (repeat (first | (with_reducible apply XL.op) | ((with_reducible apply XOp.p1); (case hg | hv => exact rfl)) | (with_reducible apply XL.nilT) | (with_reducible apply XQ.ret)))
  ((with_reducible apply XQ.retE); (case hr => exact .t rfl .nil))
  exact ⟨xb, rfl⟩
set_option maxRecDepth 20000 in
set_option maxHeartbeats 8000000 in
theorem newPool_fn (l w b s : Int) (hl : 1 ≤ l ∧ l ≤ 4) (hw : 1 ≤ w ∧ w ≤ 32) (hb : 1 ≤ b ∧ b ≤ 256) (hs : 1 ≤ s ∧ s ≤ 16) : FC Tryz.prog 24 [.int .i64 l, .int .i64 w, .int .i64 b, .int .i64 s] [] (fun _ => True)
    (fun v L => PoolR l w b s v L) := by
  refine FC.sub2 ?_
  obtain ⟨N, hN, hN2⟩ := prod4 hl hw hb hs
  refine FC.intro Tryz.func24 rfl (by kernel_rfl) 58 [.tmp 8, .tmp 9] rfl rfl rfl ?_
  intro w0 _
  (repeat (first | (with_reducible apply XL.op) | ((with_reducible apply XOp.p1); (case hg | hv => exact rfl)) | (with_reducible apply XL.nilT) | (with_reducible apply XC.seq) | (with_reducible apply XC.region (Γ := Γ)) | (first | ((with_reducible apply XOp.pr); (case hg => exact rfl); (case hr => (with_reducible apply PR.buildA); (case ht => exact rfl); (case hk => exact rfl); (case he => exact rfl); (case hz => exact rfl); (case hf => exact rfl))) | ((with_reducible apply XP.pr); (case ho => exact rfl); (case hg => exact rfl); (case hr => (with_reducible apply PR.buildA); (case ht => exact rfl); (case hk => exact rfl); (case he => exact rfl); (case hz => exact rfl); (case hf => exact rfl))))))
  ((with_reducible apply XOp.buildSlice); (case hg | ht | hk | he | hz | hzl | hf => exact rfl); intro qb)
  (repeat (first | (with_reducible apply XL.op) | ((with_reducible apply XOp.p1); (case hg | hv => exact rfl)) | (with_reducible apply XL.nilT) | (with_reducible apply XC.block)))
  refine XC.loopP (fun k ρ L => ∃ (i : Nat), i + k = 4 ∧ L = [(qb, Obj.cells ⟨[.int .i64 l, .int .i64 4, .int .i64 w, .int .i64 32, .int .i64 b, .int .i64 256, .int .i64 s, .int .i64 16]⟩ 93 (0, 0))] ∧
      Slots ρ [(0, .int .i64 l), (1, .int .i64 w), (2, .int .i64 b), (3, .int .i64 s), (21, .slice (some ⟨qb, 0, none⟩) 4 4), (22, .int .i64 4), (23, .int .i64 i)])
    4 ⟨0, by simp, rfl, rfl, rfl, rfl, rfl, rfl, rfl, rfl, trivial⟩ ?_
  rintro k ρ L ⟨i, hik, rfl, hs'⟩
  refine XC.slots _ hs' ?_
  (repeat (first | (with_reducible apply XL.op) | ((with_reducible apply XOp.p1); (case hg | hv => exact rfl)) | (with_reducible apply XL.nilT) | (with_reducible apply XC.seq) | (with_reducible apply XC.region (Γ := Γ))))
  ((with_reducible apply XC.cond); (case hc => exact rfl); all_goals (intro hb_; try simp only [pd_true, pd_false, Bool.not_eq_true', Bool.not_eq_false', Bool.and_eq_true, Bool.and_eq_false_iff, Bool.or_eq_true, Bool.or_eq_false_iff, not_true_eq_false, not_false_eq_true, Int.not_lt, Int.not_le] at hb_))
  · obtain ⟨x, y, hq, hx1, hx2⟩ : ∃ x y : Int, (([.int .i64 l, .int .i64 4, .int .i64 w, .int .i64 32, .int .i64 b, .int .i64 256, .int .i64 s, .int .i64 16] : List Value).drop (0 + ((i : Nat) : Int).toNat * 2)).take 2 = [.int .i64 x, .int .i64 y] ∧ 1 ≤ x ∧ x ≤ y := by
      have hi4 : i < 4 := by omega
      match i, hi4 with
      | 0, _ => exact ⟨l, 4, rfl, by omega, by omega⟩
      | 1, _ => exact ⟨w, 32, rfl, by omega, by omega⟩
      | 2, _ => exact ⟨b, 256, rfl, by omega, by omega⟩
      | 3, _ => exact ⟨s, 16, rfl, by omega, by omega⟩
    (repeat (first | (with_reducible apply XL.op) | ((with_reducible apply XOp.pr); (case hg => exact rfl); (case hr => ((with_reducible apply PR.idx); (case ht | hk | he | hx | hi => exact rfl); (case hr => first | assumption | omega)))) | (with_reducible apply XC.seq) | (with_reducible apply XC.region (Γ := Γ)) | (with_reducible apply XQ.skip) | (with_reducible apply XQ.nt) | (with_reducible apply XC.block) | (first | ((with_reducible apply XOp.loadN); (case hg | ht | hk | hx => exact rfl); (case hc => exact own_row (i := 0) rfl hq); (case hl => exact rfl)) | ((with_reducible apply XP.loadN); (case ho | hg | ht | hk | hx => exact rfl); (case hc => exact own_row (i := 0) rfl hq); (case hl => exact rfl)))))
    ((with_reducible apply XOp.alloc); (case hg | ht | hx' => exact rfl); intro zb)
    (repeat (first | (with_reducible apply XL.op) | ((with_reducible apply XOp.p1); (case hg | hv => exact rfl)) | ((with_reducible apply XOp.load); (case hg | ht | hk | hx => exact rfl); (case hc => exact own_cell (i := 0) rfl rfl)) | ((with_reducible apply XOp.storeN (i := 0)); (case hg | ht | hx | hv' | hk | h1 | hi | hs | ha => exact rfl)) | (with_reducible apply XL.nilT) | (with_reducible apply XC.seq) | (with_reducible apply XC.region (Γ := Γ)) | (with_reducible apply XQ.skip) | (with_reducible apply XQ.nt) | (with_reducible apply XQ.nb) | (first | ((with_reducible apply XOp.split); (case hg | hj | hd | hb => exact rfl); (fail_if_success (case hf => exact fun h => Bool.noConfusion h)); (fail_if_success (case ht => exact fun h => Bool.noConfusion h)); (first | (case ht => intro hb_; try simp only [pd_true, pd_false, Bool.not_eq_true', Bool.not_eq_false', Bool.and_eq_true, Bool.and_eq_false_iff, Bool.or_eq_true, Bool.or_eq_false_iff, not_true_eq_false, not_false_eq_true, Int.not_lt, Int.not_le] at hb_; first | done | (exfalso; first | omega | contradiction)) | (case hf => intro hb_; try simp only [pd_true, pd_false, Bool.not_eq_true', Bool.not_eq_false', Bool.and_eq_true, Bool.and_eq_false_iff, Bool.or_eq_true, Bool.or_eq_false_iff, not_true_eq_false, not_false_eq_true, Int.not_lt, Int.not_le] at hb_; first | done | (exfalso; first | omega | contradiction))); intro hb_; try simp only [pd_true, pd_false, Bool.not_eq_true', Bool.not_eq_false', Bool.and_eq_true, Bool.and_eq_false_iff, Bool.or_eq_true, Bool.or_eq_false_iff, not_true_eq_false, not_false_eq_true, Int.not_lt, Int.not_le] at hb_) | ((with_reducible apply XP.split); (case ho | hg | hj | hd | hb => exact rfl); (fail_if_success (case hf => exact fun h => Bool.noConfusion h)); (fail_if_success (case ht => exact fun h => Bool.noConfusion h)); (first | (case ht => intro hb_; try simp only [pd_true, pd_false, Bool.not_eq_true', Bool.not_eq_false', Bool.and_eq_true, Bool.and_eq_false_iff, Bool.or_eq_true, Bool.or_eq_false_iff, not_true_eq_false, not_false_eq_true, Int.not_lt, Int.not_le] at hb_; first | done | (exfalso; first | omega | contradiction)) | (case hf => intro hb_; try simp only [pd_true, pd_false, Bool.not_eq_true', Bool.not_eq_false', Bool.and_eq_true, Bool.and_eq_false_iff, Bool.or_eq_true, Bool.or_eq_false_iff, not_true_eq_false, not_false_eq_true, Int.not_lt, Int.not_le] at hb_; first | done | (exfalso; first | omega | contradiction))); intro hb_; try simp only [pd_true, pd_false, Bool.not_eq_true', Bool.not_eq_false', Bool.and_eq_true, Bool.and_eq_false_iff, Bool.or_eq_true, Bool.or_eq_false_iff, not_true_eq_false, not_false_eq_true, Int.not_lt, Int.not_le] at hb_) | ((with_reducible apply XC.cond); (case hc => exact rfl); (first | (case ht => intro hb_; try simp only [pd_true, pd_false, Bool.not_eq_true', Bool.not_eq_false', Bool.and_eq_true, Bool.and_eq_false_iff, Bool.or_eq_true, Bool.or_eq_false_iff, not_true_eq_false, not_false_eq_true, Int.not_lt, Int.not_le] at hb_; first | done | (exfalso; first | omega | contradiction)) | (case hf => intro hb_; try simp only [pd_true, pd_false, Bool.not_eq_true', Bool.not_eq_false', Bool.and_eq_true, Bool.and_eq_false_iff, Bool.or_eq_true, Bool.or_eq_false_iff, not_true_eq_false, not_false_eq_true, Int.not_lt, Int.not_le] at hb_; first | done | (exfalso; first | omega | contradiction))); intro hb_; try simp only [pd_true, pd_false, Bool.not_eq_true', Bool.not_eq_false', Bool.and_eq_true, Bool.and_eq_false_iff, Bool.or_eq_true, Bool.or_eq_false_iff, not_true_eq_false, not_false_eq_true, Int.not_lt, Int.not_le] at hb_))))
    exact ⟨k - 1, by omega, _, .of (List.sublist_cons_self _ _), i + 1, by omega, rfl, rfl, rfl, rfl, rfl, rfl, rfl, intS (m := 4) (by omega) (by omega), trivial⟩
  (repeat (first | (with_reducible apply XL.op) | ((with_reducible apply XOp.p1); (case hg | hv => exact rfl)) | (with_reducible apply XL.nilT) | (with_reducible apply XC.seq) | (with_reducible apply XC.region (Γ := Γ)) | (with_reducible apply XQ.exit) | (with_reducible apply XQ.nt) | (with_reducible apply XQ.et) | ((with_reducible apply XQ.eb); (case hb => exact rfl))))
  rw [hN]
  have hbn : Value.int .i64 b = .int .i64 ((b.toNat : Nat) : Int) := by rw [Int.toNat_of_nonneg (by omega)]
  skip
  ((with_reducible apply XC.regionL (Γ := Γ) mixed (.q 0 (.q 1 (.q 2 (.q 3 (.q 4 (.q 6 (.q 7 (.q 9 (.b [(5, .b [(8, .e 10 (.q 11 (.e 12 (.q 13 (.q 14 (.done)))))), (10, .e 8 (.q 11 (.e 12 (.q 13 (.q 14 (.done))))))]), (8, .b [(5, .e 10 (.q 11 (.e 12 (.q 13 (.q 14 (.done)))))), (10, .e 5 (.q 11 (.e 12 (.q 13 (.q 14 (.done))))))]), (10, .b [(5, .e 8 (.q 11 (.e 12 (.q 13 (.q 14 (.done)))))), (8, .e 5 (.q 11 (.e 12 (.q 13 (.q 14 (.done))))))])]))))))))) [] ([])); (case hc => kernel_rfl); (case hs => first | exact List.nil_sublist _ | exact List.Sublist.refl _ | exact List.sublist_append_right _ _ | (refine List.Sublist.cons_cons _ (List.nil_sublist _)) | (refine List.Sublist.cons_cons _ (List.Sublist.cons_cons _ (List.nil_sublist _))) | (refine List.Sublist.cons_cons _ (List.Sublist.cons_cons _ (List.Sublist.cons_cons _ (List.nil_sublist _)))) | (refine List.Sublist.cons_cons _ (List.Sublist.cons_cons _ (List.Sublist.cons_cons _ (List.Sublist.cons_cons _ (List.nil_sublist _))))) | ((try simp only [List.append_eq, List.cons_append, List.nil_append, List.append_assoc]); (repeat (first | exact List.Sublist.refl _ | exact List.nil_sublist _ | (with_reducible apply List.Sublist.cons_cons) | (with_reducible apply List.Sublist.cons))); done)))
  (repeat' (first | (with_reducible apply XQ.ret) | (with_reducible apply XQ.nt) | ((with_reducible apply XP.p1); (case ho | hg | hv => exact rfl)) | ((with_reducible apply XP.pr); (case ho => exact rfl); (case hg => exact rfl); (case hr => ((with_reducible apply PR.build); (case ht | hk | hok | hz | hf => exact rfl)))) | (with_reducible apply XP.done) | ((with_reducible apply XP.e); (first | ((with_reducible apply XE.d); (case ho => exact rfl); (case hd => exact rfl)) | ((with_reducible apply XE.e); (case ho => exact rfl)))) | ((with_reducible apply XP.keep); (case hk => first | ((repeat' (first | exact List.forall_mem_nil _ | (with_reducible refine List.forall_mem_cons.2 ⟨?_, ?_⟩) | exact List.mem_cons_self .. | (with_reducible apply List.mem_cons_of_mem) | (with_reducible apply List.mem_append_right))); done) | (intro x hx; first | exact sel_in hx | exact List.mem_cons_of_mem _ (sel_in hx) | exact List.mem_append_right _ (sel_in hx) | exact hx | exact List.mem_cons_of_mem _ hx | exact List.mem_append_right _ hx | ((repeat (first | exact sel_in hx | exact hx | (with_reducible apply List.mem_cons_of_mem) | (with_reducible apply List.mem_append_right))); done) | (rw [List.mem_singleton.1 hx]; (simp; done)) | (rcases List.mem_cons.1 hx with rfl | hx; (simp; done); (rw [List.mem_singleton.1 hx]; (simp; done))) | cases hx))) | (with_reducible apply XP.b) | (with_reducible apply XB.cons) | ((with_reducible apply XE.e); (case ho => exact rfl)) | (with_reducible apply XB.nil) | (with_reducible apply XP.b) | (with_reducible apply XB.cons) | (with_reducible exact XB.nil) | ((with_reducible apply XE.e); (case ho => exact rfl)) | ((with_reducible apply XOp.make (k := b.toNat) (c := b.toNat)); (case hg => exact rfl); (case ht => exact rfl); (case hk => exact rfl); (case he => exact rfl); (case hz => exact rfl); (case hzl => exact rfl); (case hx => exact hbn); (case hy => exact hbn); (case hkc => omega); (case hb => simp only []; omega); (case h63 => omega); intro cb) | ((with_reducible apply XOp.make (k := N) (c := N)); (case hg => exact rfl); (case ht => exact rfl); (case hk => exact rfl); (case he => exact rfl); (case hz => exact rfl); (case hzl => exact rfl); (case hx => exact rfl); (case hy => exact rfl); (case hkc => omega); (case hb => simp only []; omega); (case h63 => omega); intro kb) | ((with_reducible apply XOp.box); (case hg | hx' => exact rfl); intro pb)))
  all_goals ((with_reducible apply XQ.retE); (case hr => exact .t rfl (.t rfl .nil)))
  all_goals exact ⟨_, .of (List.Sublist.refl _), _, cb, _, _, _, rfl, rfl, by first | exact List.mem_cons_self .. | exact List.mem_cons_of_mem _ (List.mem_cons_self ..) | exact List.mem_cons_of_mem _ (List.mem_cons_of_mem _ (List.mem_cons_self ..))⟩
def rpC (l w b s : Int) (c k u : Value) : List Value := [.int .i64 l, .int .i64 w, .int .i64 b, .int .i64 s, c, k, u]
end Go.Proofs.YtkppmmbcloaekaaGreatDoorX
/- Turns and layers: do they fit? The reference's. -/
namespace Go.Proofs.YtkppmmbcloaekaaGreatDoorX
open Go Go.SX

def turnP (x : Int × Int) : Prop := (-16384 ≤ x.1 ∧ x.1 ≤ 16384) ∧ (-16384 ≤ x.2 ∧ x.2 ≤ 16384)
def turnsP (l : List (Int × Int)) (n : Int) : Prop := (l.length : Int) = n ∧ ∀ x ∈ l, turnP x
theorem by_all (l : LL) {p : Int → Prop} (h : ∀ j < 7, p (l.by_.getD j 0)) : ∀ x ∈ l.by_, p x := by
  intro x hx
  obtain ⟨i, hi⟩ := List.getElem?_of_mem hx
  have h7 : i < 7 := (List.getElem?_eq_some_iff.1 hi).1
  have := h i h7
  rwa [List.getD_eq_getElem?_getD, hi] at this
theorem by_mem (l : LL) {j : Nat} (h : j < 7) : l.by_.getD j 0 ∈ l.by_ := by
  have h2 : j < l.by_.length := h
  rw [List.getD_eq_getElem?_getD, List.getElem?_eq_getElem h2]; exact List.getElem_mem h2
structure layP (l : LL) (c : Cfg) : Prop where
  n1 : gainsP l.n1.1 c.Width
  n2 : gainsP l.n2.1 c.Width
  q : shpP l.q.mat c.Width c.Width
  k : shpP l.k.mat c.keys c.Width
  v : shpP l.v.mat c.keys c.Width
  o : shpP l.o.mat c.Width c.Width
  g : shpP l.g.mat c.Hidden c.Width
  u : shpP l.u.mat c.Hidden c.Width
  d : shpP l.d.mat c.Width c.Hidden
  by_ : ∀ j < 7, 0 ≤ l.by_.getD j 0 ∧ l.by_.getD j 0 ≤ 24
theorem layP_iff {h : HV} {l : LL} (hl : llAt h l) (c : Cfg) : layP l c ↔ okL l.lay c := by
  constructor
  · intro p
    exact ⟨(gains_iff hl.n1 _).1 p.n1, (gains_iff hl.n2 _).1 p.n2, (shp_iff hl.q _ _).1 p.q, (shp_iff hl.k _ _).1 p.k, (shp_iff hl.v _ _).1 p.v, (shp_iff hl.o _ _).1 p.o, (shp_iff hl.g _ _).1 p.g, (shp_iff hl.u _ _).1 p.u, (shp_iff hl.d _ _).1 p.d, rfl, by_all l p.by_⟩
  · intro p
    exact ⟨(gains_iff hl.n1 _).2 p.n1, (gains_iff hl.n2 _).2 p.n2, (shp_iff hl.q _ _).2 p.q, (shp_iff hl.k _ _).2 p.k, (shp_iff hl.v _ _).2 p.v, (shp_iff hl.o _ _).2 p.o, (shp_iff hl.g _ _).2 p.g, (shp_iff hl.u _ _).2 p.u, (shp_iff hl.d _ _).2 p.d, fun j hj => p.by_.2 _ (by_mem l hj)⟩
end Go.Proofs.YtkppmmbcloaekaaGreatDoorX
/- Do the weights fit? The reference's. -/
namespace Go.Proofs.YtkppmmbcloaekaaGreatDoorX
open Go Go.SX

structure okP (x : LW) : Prop where
  e : shpP x.E.mat x.C.Vocab x.C.Width
  h : shpP x.H.mat x.C.Vocab x.C.Width
  f : gainsP x.F.1 x.C.Width
  t : turnsP x.T.1 (x.C.head / 2)
  ll : (x.Ls.1.length : Int) = x.C.Layers
  ml : (x.M.1.length : Int) = x.C.Medusa
  l : ∀ l ∈ x.Ls.1, layP l x.C
  m : ∀ m ∈ x.M.1, shpP m.mat x.C.Vocab x.C.Width
theorem okP_iff {h : HV} {x : LW} (hx : lwAt h x) : (x.C.may ∧ okP x) ↔ okW x.w := by
  constructor
  · rintro ⟨c, p⟩
    refine ⟨c, (shp_iff hx.e _ _).1 p.e, p.t, ⟨by show ((x.Ls.1.map LL.lay).length : Int) = _; rw [List.length_map]; exact p.ll, fun l hl => ?_⟩, (gains_iff hx.f _).1 p.f, (shp_iff hx.hd _ _).1 p.h, by show ((x.M.1.map LM.mat).length : Int) = _; rw [List.length_map]; exact p.ml, fun m hm => ?_⟩
    · obtain ⟨y, hy, rfl⟩ := List.mem_map.1 hl
      exact (layP_iff (hx.l.locAt hy) _).1 (p.l y hy)
    · obtain ⟨y, hy, rfl⟩ := List.mem_map.1 hm
      exact (shp_iff (hx.m.locAt hy) _ _).1 (p.m y hy)
  · intro p
    have h1 := p.l.1
    have h2 := p.m.1
    change ((x.Ls.1.map LL.lay).length : Int) = _ at h1
    change ((x.M.1.map LM.mat).length : Int) = _ at h2
    rw [List.length_map] at h1 h2
    exact ⟨p.c, (shp_iff hx.e _ _).2 p.e, (shp_iff hx.hd _ _).2 p.h, (gains_iff hx.f _).2 p.f, p.t, h1, h2,
      fun l hl => (layP_iff (hx.l.locAt hl) _).2 (p.l.2 _ (List.mem_map.2 ⟨l, hl, rfl⟩)), fun m hm => (shp_iff (hx.m.locAt hm) _ _).2 (p.m.2 _ (List.mem_map.2 ⟨m, hm, rfl⟩))⟩
noncomputable def errW (w : Wts) : Int := if pd w.C.may then (if pd (okW w) then 0 else 41) else 40
theorem errW_c {w : Wts} (h : ¬ w.C.may) : errW w = 40 := by unfold errW; rw [pdf h]; rfl
theorem errW_no {w : Wts} (hc : w.C.may) (h : ¬ okW w) : errW w = 41 := by unfold errW; rw [pdt hc, pdf h]; rfl
theorem errW_ok {w : Wts} (h : okW w) : errW w = 0 := by unfold errW; rw [pdt h.c, pdt h]; rfl
theorem errW_zero {w : Wts} (h : errW w = 0) : okW w := by
  by_cases hc : w.C.may
  · by_cases h2 : okW w
    · exact h2
    · rw [errW_no hc h2] at h; omega
  · rw [errW_c hc] at h; omega
theorem cerr_iff (c : Cfg) : c.err = 0 ↔ c.may := by
  unfold Cfg.err; split
  · rename_i h; simp only [decide_eq_true_eq] at h; exact ⟨fun _ => h, fun _ => rfl⟩
  · rename_i h; simp only [decide_eq_true_eq] at h; exact ⟨fun h2 => by omega, fun h2 => absurd h2 h⟩
theorem cerr_no {c : Cfg} (h : ¬ c.may) : c.err = 40 := by unfold Cfg.err; rw [if_neg]; simpa using h
theorem half_wrap {c : Cfg} (hc : c.may) : IntKind.i64.wrap (c.head.tdiv 2) = c.head / 2 := by
  obtain ⟨n1, n2, _, _⟩ := may_nn hc
  rw [Int.tdiv_eq_ediv_of_nonneg n1]; exact wrap64_of (by omega) (by omega)
end Go.Proofs.YtkppmmbcloaekaaGreatDoorX
/- A layer's bytes: the reference's. -/
namespace Go.Proofs.YtkppmmbcloaekaaGreatDoorX
open Go Go.SX

end Go.Proofs.YtkppmmbcloaekaaGreatDoorX
/- How long the parts of weights that fit are. -/
namespace Go.Proofs.YtkppmmbcloaekaaGreatDoorX
open Go Go.SX

structure szW (w : Wts) : Prop where
  e : w.Embed.Data.length ≤ 2048
  t : w.Turns.length ≤ 16
  l : w.Layers.length ≤ 4
  lb : ∀ l ∈ w.Layers, (layBody l).length ≤ 30000
  f : w.Final.length ≤ 32
  h : w.Head.Data.length ≤ 2048
  m : w.Medusa.length ≤ 4
  mb : ∀ m ∈ w.Medusa, m.Data.length ≤ 2048
end Go.Proofs.YtkppmmbcloaekaaGreatDoorX
/- The file's bytes: the reference's. -/
namespace Go.Proofs.YtkppmmbcloaekaaGreatDoorX
open Go Go.SX

def secsL (x : LW) : List Int := beginB ++ secB 67 (x.C.list.map toB) ++ secB 69 (x.E.d.1.map toB) ++ secB 84 (x.T.1.flatMap turnB)
end Go.Proofs.YtkppmmbcloaekaaGreatDoorX
/- The reference's Encode. -/
namespace Go.Proofs.YtkppmmbcloaekaaGreatDoorX
open Go Go.SX

noncomputable def encS (w : Wts) : List Int := if pd (okW w) then fileOf digS w else []
def EncR (w : Wts) (v : Value) (L : HL) : Prop := ∃ u m, v = .tuple #[u, .int .i64 (errW w)] ∧ OwnS 5 1 u m ((encS w).map (.int .u8)) L ∧ m ≤ 1000000
end Go.Proofs.YtkppmmbcloaekaaGreatDoorX
/- The matrices of a layer: where each lies, and its measures. -/
namespace Go.Proofs.YtkppmmbcloaekaaGreatDoorX
open Go Go.SX

def sidesL : List Value := [.int .i64 0, .int .i64 0, .int .i64 1, .int .i64 0, .int .i64 1, .int .i64 0, .int .i64 0, .int .i64 0, .int .i64 2, .int .i64 0, .int .i64 2, .int .i64 0, .int .i64 0, .int .i64 2]
/-- The program's table of sides, as it is laid. -/
def sidesK (h : HV) : Prop := rowv h 0 0 sidesL
theorem sides_mono : Mono sidesK := Mono.row _ _ _
def zf (i j : Nat) (v : Int) : Value := match Nat.blt j i with | true => .int .i64 v | false => .int .i64 0
def shC (c : Cfg) (i : Nat) : List Value := [.func (.func 76) #[] #[], zf i 0 (measS c 0), zf i 0 (measS c 0), .func (.func 77) #[] #[], zf i 1 (measS c 1), zf i 1 (measS c 0), .func (.func 78) #[] #[], zf i 2 (measS c 1), zf i 2 (measS c 0),
  .func (.func 79) #[] #[], zf i 3 (measS c 0), zf i 3 (measS c 0), .func (.func 80) #[] #[], zf i 4 (measS c 2), zf i 4 (measS c 0), .func (.func 81) #[] #[], zf i 5 (measS c 2), zf i 5 (measS c 0), .func (.func 82) #[] #[], zf i 6 (measS c 0), zf i 6 (measS c 2)]
set_option maxHeartbeats 8000000 in
theorem shapes_fn (c : Cfg) (hc : c.may) : FC Tryz.prog 47 [.agg ⟨c.cells⟩] [] (fun h => sidesK h)
    (fun v L => ∃ b, v = .slice (some ⟨b, 0, none⟩) 7 7 ∧ L = [(b, .cells ⟨shC c 7⟩ 125 (0, 0))]) := by
  refine FC.sub2 ?_
  refine FC.intro Tryz.func47 rfl (by kernel_rfl) 40 [.tmp 2] rfl rfl rfl ?_
  intro w0 hA
  (repeat (first | (with_reducible apply XL.op) | (with_reducible apply XC.seq) | (with_reducible apply XC.region (Γ := Γ))))
  ((with_reducible apply XOp.box); (case hg | hx' => exact rfl); intro cb)
  (repeat (first | (with_reducible apply XL.op) | ((with_reducible apply XOp.p1); (case hg | hv => exact rfl)) | ((with_reducible apply XOp.pr); (case hg => exact rfl); (case hr => ((with_reducible apply PR.build); (case ht | hk | hok | hz | hf => exact rfl)))) | (with_reducible apply XL.nilT) | (with_reducible apply XC.seq) | (with_reducible apply XC.region (Γ := Γ))))
  ((with_reducible apply XOp.buildSlice); (case hg | ht | hk | he | hz | hzl | hf => exact rfl); intro b)
  (repeat (first | (with_reducible apply XL.op) | ((with_reducible apply XOp.p1); (case hg | hv => exact rfl)) | (with_reducible apply XL.nilT) | (with_reducible apply XC.seq) | (with_reducible apply XC.region (Γ := Γ)) | (with_reducible apply XC.block)))
  refine XC.loop (fun k ρ L => ∃ i : Nat, i + k = 7 ∧ L = [(b, .cells ⟨shC c i⟩ 125 (0, 0)), (cb, .cells ⟨c.cells⟩ 23 (0, 0))] ∧ Slots ρ [(1, .pointer (some ⟨cb, 0, none⟩)), (3, .slice (some ⟨b, 0, none⟩) 7 7), (14, .int .i64 7), (15, .int .i64 i)])
    7 ⟨0, by simp, rfl, rfl, rfl, rfl, rfl, trivial⟩ ?_
  rintro k ρ L ⟨i, hik, rfl, hs⟩
  refine XC.slots _ hs ?_
  (repeat (first | (with_reducible apply XL.op) | ((with_reducible apply XOp.p1); (case hg | hv => exact rfl)) | (with_reducible apply XL.nilT) | (with_reducible apply XC.seq) | (with_reducible apply XC.region (Γ := Γ))))
  ((with_reducible apply XC.cond); (case hc => exact rfl); all_goals (intro hb_; try simp only [pd_true, pd_false, Bool.not_eq_true', Bool.not_eq_false', Bool.and_eq_true, Bool.and_eq_false_iff, Bool.or_eq_true, Bool.or_eq_false_iff, not_true_eq_false, not_false_eq_true, Int.not_lt, Int.not_le] at hb_))
  · have hcA : cellv (oldv w0 (keys [])) ⟨0, 0 + i * 2 + 0, none⟩ = some ((sidesL[i * 2]?).getD undef) := by
      have := hA (i * 2) _ (List.getElem?_eq_getElem (by show i * 2 < 14; omega))
      rw [List.getElem?_eq_getElem (by show i * 2 < 14; omega)]; exact this
    have hcB : cellv (oldv w0 (keys [])) ⟨0, 0 + i * 2 + 1, none⟩ = some ((sidesL[i * 2 + 1]?).getD undef) := by
      have := hA (i * 2 + 1) _ (List.getElem?_eq_getElem (by show i * 2 + 1 < 14; omega))
      rw [List.getElem?_eq_getElem (by show i * 2 + 1 < 14; omega)]; exact this
    rcases (by omega : i = 0 ∨ i = 1 ∨ i = 2 ∨ i = 3 ∨ i = 4 ∨ i = 5 ∨ i = 6) with rfl | rfl | rfl | rfl | rfl | rfl | rfl
    all_goals (repeat (first | (with_reducible apply XL.op) | ((with_reducible apply XOp.p1); (case hg | hv => exact rfl)) | (with_reducible apply XL.nilT) | (with_reducible apply XC.seq) | (with_reducible apply XC.region (Γ := Γ)) | (with_reducible apply XQ.skip) | (with_reducible apply XQ.nt) | (with_reducible apply XC.block)))
    all_goals ((with_reducible apply XC.regionD (Γ := Γ) mixed (.q 0 (.q 1 (.q 2 (.q 3 (.q 4 (.q 5 (.q 6 (.q 7 (.q 8 (.q 10 (.q 11 (.q 12 (.q 13 (.q 14 (.e 9 (.e 15 (.q 16 (.q 17 (.e 18 (.q 19 (.q 20 (.e 21 (.done))))))))))))))))))))))) [] [false, true]); (case hc => kernel_rfl))
    all_goals (repeat (first | (with_reducible apply XL.op) | ((with_reducible apply XOp.p1); (case hg | hv => exact rfl)) | ((with_reducible apply XOp.store (i := 0)); (case hg | ht | hk | hx | hv | h1 | hi | hs | ha => exact rfl)) | (with_reducible apply XL.nilT) | (with_reducible apply XC.region (Γ := Γ)) | (with_reducible apply XQ.nt) | (with_reducible apply XQ.nb) | ((with_reducible apply XP.p1); (case ho | hg | hv => exact rfl)) | ((with_reducible apply XP.loadO (j := 0)); (case ho | hg | ht | hk | hx | hi | hc => exact rfl)) | (with_reducible apply XP.done) | ((with_reducible apply XP.e); (first | ((with_reducible apply XE.d); (case ho => exact rfl); (case hd => exact rfl)) | ((with_reducible apply XE.e); (case ho => exact rfl)))) | ((with_reducible apply XP.keep); (case hk => first | ((repeat' (first | exact List.forall_mem_nil _ | (with_reducible refine List.forall_mem_cons.2 ⟨?_, ?_⟩) | exact List.mem_cons_self .. | (with_reducible apply List.mem_cons_of_mem) | (with_reducible apply List.mem_append_right))); done) | (intro x hx; first | exact sel_in hx | exact List.mem_cons_of_mem _ (sel_in hx) | exact List.mem_append_right _ (sel_in hx) | exact hx | exact List.mem_cons_of_mem _ hx | exact List.mem_append_right _ hx | ((repeat (first | exact sel_in hx | exact hx | (with_reducible apply List.mem_cons_of_mem) | (with_reducible apply List.mem_append_right))); done) | (rw [List.mem_singleton.1 hx]; (simp; done)) | (rcases List.mem_cons.1 hx with rfl | hx; (simp; done); (rw [List.mem_singleton.1 hx]; (simp; done))) | cases hx))) | (first | ((with_reducible apply XOp.load); (case hg | ht | hk | hx => exact rfl); (case hc => exact Known.of_old hcA (Mono.cell _ _))) | ((with_reducible apply XP.load); (case ho | hg | ht | hk | hx => exact rfl); (case hc => exact Known.of_old hcA (Mono.cell _ _)))) | (first | ((with_reducible apply XOp.load); (case hg | ht | hk | hx => exact rfl); (case hc => exact Known.of_old hcB (Mono.cell _ _))) | ((with_reducible apply XP.load); (case ho | hg | ht | hk | hx => exact rfl); (case hc => exact Known.of_old hcB (Mono.cell _ _)))) | (((with_reducible apply XOp.callQ (hF := measure_fn c hc _)); (case hg => exact rfl); (case hc => exact rfl); (case ha => exact rfl); try (case hA => exact Known.true)); rintro _ rfl)))
    all_goals first | exact ⟨k - 1, by omega, 1, by omega, rfl, rfl, rfl, rfl, intS2 (i := 0) (m := 7) (by omega) (by omega), trivial⟩ | exact ⟨k - 1, by omega, 2, by omega, rfl, rfl, rfl, rfl, intS2 (i := 1) (m := 7) (by omega) (by omega), trivial⟩ | exact ⟨k - 1, by omega, 3, by omega, rfl, rfl, rfl, rfl, intS2 (i := 2) (m := 7) (by omega) (by omega), trivial⟩ | exact ⟨k - 1, by omega, 4, by omega, rfl, rfl, rfl, rfl, intS2 (i := 3) (m := 7) (by omega) (by omega), trivial⟩ | exact ⟨k - 1, by omega, 5, by omega, rfl, rfl, rfl, rfl, intS2 (i := 4) (m := 7) (by omega) (by omega), trivial⟩ | exact ⟨k - 1, by omega, 6, by omega, rfl, rfl, rfl, rfl, intS2 (i := 5) (m := 7) (by omega) (by omega), trivial⟩ | exact ⟨k - 1, by omega, 7, by omega, rfl, rfl, rfl, rfl, intS2 (i := 6) (m := 7) (by omega) (by omega), trivial⟩
  · obtain rfl : i = 7 := by omega
    (repeat (first | (with_reducible apply XL.op) | ((with_reducible apply XOp.p1); (case hg | hv => exact rfl)) | (with_reducible apply XL.nilT) | (with_reducible apply XC.seq) | (with_reducible apply XC.region (Γ := Γ)) | (with_reducible apply XQ.ret) | (with_reducible apply XQ.exit) | (with_reducible apply XQ.nt) | (with_reducible apply XQ.et) | ((with_reducible apply XQ.eb); (case hb => exact rfl))))
    ((with_reducible apply XQ.retE); (case hr => exact .t rfl .nil))
    exact ⟨_, .of (List.Sublist.cons_cons _ (List.nil_sublist _)), b, rfl, rfl⟩

theorem shape1_fn (lb off : Nat) : FC Tryz.prog 76 [.pointer (some ⟨lb, off, none⟩)] [] (fun _ => True) (fun v L => v = .pointer (some ⟨lb, off + 2, none⟩) ∧ L = []) := by
  refine FC.nil ?_
  refine FC.intro Tryz.func76 rfl (by kernel_rfl) 6 [.tmp 2] rfl rfl rfl ?_
  intro w0 _
  (repeat (first | (with_reducible apply XL.op) | ((with_reducible apply XOp.p1); (case hg | hv => exact rfl)) | (with_reducible apply XL.nilT) | (with_reducible apply XC.seq) | (with_reducible apply XC.region (Γ := Γ)) | (with_reducible apply XQ.ret)))
  ((with_reducible apply XQ.retE); (case hr => exact .t rfl .nil))
  rfl
theorem shape2_fn (lb off : Nat) : FC Tryz.prog 77 [.pointer (some ⟨lb, off, none⟩)] [] (fun _ => True) (fun v L => v = .pointer (some ⟨lb, off + 5, none⟩) ∧ L = []) := by
  refine FC.nil ?_
  refine FC.intro Tryz.func77 rfl (by kernel_rfl) 6 [.tmp 2] rfl rfl rfl ?_
  intro w0 _
  (repeat (first | (with_reducible apply XL.op) | ((with_reducible apply XOp.p1); (case hg | hv => exact rfl)) | (with_reducible apply XL.nilT) | (with_reducible apply XC.seq) | (with_reducible apply XC.region (Γ := Γ)) | (with_reducible apply XQ.ret)))
  ((with_reducible apply XQ.retE); (case hr => exact .t rfl .nil))
  rfl
theorem shape3_fn (lb off : Nat) : FC Tryz.prog 78 [.pointer (some ⟨lb, off, none⟩)] [] (fun _ => True) (fun v L => v = .pointer (some ⟨lb, off + 8, none⟩) ∧ L = []) := by
  refine FC.nil ?_
  refine FC.intro Tryz.func78 rfl (by kernel_rfl) 6 [.tmp 2] rfl rfl rfl ?_
  intro w0 _
  (repeat (first | (with_reducible apply XL.op) | ((with_reducible apply XOp.p1); (case hg | hv => exact rfl)) | (with_reducible apply XL.nilT) | (with_reducible apply XC.seq) | (with_reducible apply XC.region (Γ := Γ)) | (with_reducible apply XQ.ret)))
  ((with_reducible apply XQ.retE); (case hr => exact .t rfl .nil))
  rfl
theorem shape4_fn (lb off : Nat) : FC Tryz.prog 79 [.pointer (some ⟨lb, off, none⟩)] [] (fun _ => True) (fun v L => v = .pointer (some ⟨lb, off + 11, none⟩) ∧ L = []) := by
  refine FC.nil ?_
  refine FC.intro Tryz.func79 rfl (by kernel_rfl) 6 [.tmp 2] rfl rfl rfl ?_
  intro w0 _
  (repeat (first | (with_reducible apply XL.op) | ((with_reducible apply XOp.p1); (case hg | hv => exact rfl)) | (with_reducible apply XL.nilT) | (with_reducible apply XC.seq) | (with_reducible apply XC.region (Γ := Γ)) | (with_reducible apply XQ.ret)))
  ((with_reducible apply XQ.retE); (case hr => exact .t rfl .nil))
  rfl
theorem shape5_fn (lb off : Nat) : FC Tryz.prog 80 [.pointer (some ⟨lb, off, none⟩)] [] (fun _ => True) (fun v L => v = .pointer (some ⟨lb, off + 14, none⟩) ∧ L = []) := by
  refine FC.nil ?_
  refine FC.intro Tryz.func80 rfl (by kernel_rfl) 6 [.tmp 2] rfl rfl rfl ?_
  intro w0 _
  (repeat (first | (with_reducible apply XL.op) | ((with_reducible apply XOp.p1); (case hg | hv => exact rfl)) | (with_reducible apply XL.nilT) | (with_reducible apply XC.seq) | (with_reducible apply XC.region (Γ := Γ)) | (with_reducible apply XQ.ret)))
  ((with_reducible apply XQ.retE); (case hr => exact .t rfl .nil))
  rfl
theorem shape6_fn (lb off : Nat) : FC Tryz.prog 81 [.pointer (some ⟨lb, off, none⟩)] [] (fun _ => True) (fun v L => v = .pointer (some ⟨lb, off + 17, none⟩) ∧ L = []) := by
  refine FC.nil ?_
  refine FC.intro Tryz.func81 rfl (by kernel_rfl) 6 [.tmp 2] rfl rfl rfl ?_
  intro w0 _
  (repeat (first | (with_reducible apply XL.op) | ((with_reducible apply XOp.p1); (case hg | hv => exact rfl)) | (with_reducible apply XL.nilT) | (with_reducible apply XC.seq) | (with_reducible apply XC.region (Γ := Γ)) | (with_reducible apply XQ.ret)))
  ((with_reducible apply XQ.retE); (case hr => exact .t rfl .nil))
  rfl
theorem shape7_fn (lb off : Nat) : FC Tryz.prog 82 [.pointer (some ⟨lb, off, none⟩)] [] (fun _ => True) (fun v L => v = .pointer (some ⟨lb, off + 20, none⟩) ∧ L = []) := by
  refine FC.nil ?_
  refine FC.intro Tryz.func82 rfl (by kernel_rfl) 6 [.tmp 2] rfl rfl rfl ?_
  intro w0 _
  (repeat (first | (with_reducible apply XL.op) | ((with_reducible apply XOp.p1); (case hg | hv => exact rfl)) | (with_reducible apply XL.nilT) | (with_reducible apply XC.seq) | (with_reducible apply XC.region (Γ := Γ)) | (with_reducible apply XQ.ret)))
  ((with_reducible apply XQ.retE); (case hr => exact .t rfl .nil))
  rfl
end Go.Proofs.YtkppmmbcloaekaaGreatDoorX
/- Does a layer fit? The program's. -/
namespace Go.Proofs.YtkppmmbcloaekaaGreatDoorX
open Go Go.SX

theorem shapedL_fn (m : LM) (r c : Int) : FC Tryz.prog 41 [.agg ⟨m.cells⟩, .int .i64 r, .int .i64 c] [] (fun h => lmAt h m) (fun v L => v = .bool (pd (shpP m.mat r c)) ∧ L = []) :=
  shaped_fn m.mat m.d.2.1 m.d.2.2 r c
theorem gainsL_fn (x : LV) (n : Int) : FC Tryz.prog 42 [slv x, .int .i64 n] [] (fun h => lvAt h x) (fun v L => v = .bool (pd (gainsP x.1 n)) ∧ L = []) :=
  gains_fn x.1 x.2.1 x.2.2 n
theorem meas0 (c : Cfg) : measS c 0 = c.Width := by unfold measS; rw [if_neg (by omega), if_neg (by omega)]
theorem meas1 (c : Cfg) : measS c 1 = c.keys := by unfold measS; rw [if_pos rfl]
theorem meas2 (c : Cfg) : measS c 2 = c.Hidden := by unfold measS; rw [if_neg (by omega), if_pos rfl]
/-- The j-th matrix of a layer has its shape. -/
def matJ (l : LL) (c : Cfg) : Nat → Prop
  | 0 => shpP l.q.mat (measS c 0) (measS c 0)
  | 1 => shpP l.k.mat (measS c 1) (measS c 0)
  | 2 => shpP l.v.mat (measS c 1) (measS c 0)
  | 3 => shpP l.o.mat (measS c 0) (measS c 0)
  | 4 => shpP l.g.mat (measS c 2) (measS c 0)
  | 5 => shpP l.u.mat (measS c 2) (measS c 0)
  | 6 => shpP l.d.mat (measS c 0) (measS c 2)
  | _ => True
theorem layP_mats {l : LL} {c : Cfg} (h : layP l c) : ∀ j < 7, matJ l c j := by
  obtain ⟨_, _, h0, h1, h2, h3, h4, h5, h6, _⟩ := h
  rw [← meas0] at h0 h1 h2 h3 h4 h5 h6
  rw [← meas1] at h1 h2
  rw [← meas2] at h4 h5 h6
  intro j hj
  rcases (by omega : j = 0 ∨ j = 1 ∨ j = 2 ∨ j = 3 ∨ j = 4 ∨ j = 5 ∨ j = 6) with rfl | rfl | rfl | rfl | rfl | rfl | rfl <;> assumption
theorem mats_layP {l : LL} {c : Cfg} (h : ∀ j < 7, matJ l c j) (n1 : gainsP l.n1.1 c.Width) (n2 : gainsP l.n2.1 c.Width) (hb : ∀ j < 7, 0 ≤ l.by_.getD j 0 ∧ l.by_.getD j 0 ≤ 24) : layP l c := by
  have h0 := h 0 (by omega); have h1 := h 1 (by omega); have h2 := h 2 (by omega); have h3 := h 3 (by omega); have h4 := h 4 (by omega); have h5 := h 5 (by omega); have h6 := h 6 (by omega)
  simp only [matJ, meas0, meas1, meas2] at h0 h1 h2 h3 h4 h5 h6
  exact ⟨n1, n2, h0, h1, h2, h3, h4, h5, h6, hb⟩
theorem by_get (l : LL) {i : Nat} (h : i < 7) : (l.by_.map (Value.int .i64))[((i : Nat) : Int).toNat]? = some (.int .i64 (l.by_.getD i 0)) := by
  match i, h with
  | 0, _ => rfl
  | 1, _ => rfl
  | 2, _ => rfl
  | 3, _ => rfl
  | 4, _ => rfl
  | 5, _ => rfl
  | 6, _ => rfl
set_option maxHeartbeats 8000000 in
theorem fits_fn (l : LL) (lb off : Nat) (c : Cfg) (hc : c.may) : FC Tryz.prog 44 [.pointer (some ⟨lb, off, none⟩), .agg ⟨c.cells⟩] [] (fun h => sidesK h ∧ rowv h lb off l.cells ∧ llAt h l)
    (fun v L => v = .bool (pd (layP l c)) ∧ L = []) := by
  refine FC.nil ?_
  refine FC.intro Tryz.func44 rfl (by kernel_rfl) 56 [.tmp 4] rfl rfl rfl ?_
  rintro w0 ⟨hS, hR, hA⟩
  (repeat (first | (with_reducible apply XL.op) | (with_reducible apply XC.seq) | (with_reducible apply XC.region (Γ := Γ))))
  ((with_reducible apply XOp.box); (case hg | hx' => exact rfl); intro cb)
  (repeat (first | (with_reducible apply XL.op) | ((with_reducible apply XOp.p1); (case hg | hv => exact rfl)) | ((with_reducible apply XOp.loadO (i := 0)); (case hg | ht | hk | hx | hi | hc => exact rfl)) | (with_reducible apply XL.nilT) | (with_reducible apply XC.seq) | (with_reducible apply XC.region (Γ := Γ))))
  ((with_reducible apply XOp.callR (R := [_]) (F := []) (hF := shapes_fn c hc)); (case hg => exact rfl); (case hc => exact rfl); (case ha => exact rfl); (case hL => exact rfl); try (case hA => exact Known.true))
  case hA => exact Known.of_old hS sides_mono
  rintro _ _ ⟨b, rfl, rfl⟩
  (repeat (first | (with_reducible apply XL.op) | ((with_reducible apply XOp.p1); (case hg | hv => exact rfl)) | (with_reducible apply XL.nilT) | (with_reducible apply XC.block)))
  have hno : ∀ j < 7, ¬ matJ l c j → Value.bool false = Value.bool (pd (layP l c)) := fun j hj h => congrArg Value.bool (pdf (fun h2 => h (layP_mats h2 j hj))).symm
  refine XC.loopP (fun k ρ L => ∃ i : Nat, i + k = 7 ∧ L = [(cb, .cells ⟨c.cells⟩ 23 (0, 0)), (b, .cells ⟨shC c 7⟩ 125 (0, 0))] ∧ (∀ j < i, matJ l c j) ∧ Slots ρ [(0, .pointer (some ⟨lb, off, none⟩)), (3, .pointer (some ⟨cb, 0, none⟩)), (10, .slice (some ⟨b, 0, none⟩) 7 7), (11, .int .i64 7), (12, .int .i64 i)])
    7 ⟨0, by simp, rfl, by simp, rfl, rfl, rfl, rfl, rfl, trivial⟩ ?_
  rintro k ρ L ⟨i, hik, rfl, hq, hs⟩
  refine XC.slots _ hs ?_
  (repeat (first | (with_reducible apply XL.op) | ((with_reducible apply XOp.p1); (case hg | hv => exact rfl)) | (with_reducible apply XL.nilT) | (with_reducible apply XC.seq) | (with_reducible apply XC.region (Γ := Γ))))
  ((with_reducible apply XC.cond); (case hc => exact rfl); all_goals (intro hb_; try simp only [pd_true, pd_false, Bool.not_eq_true', Bool.not_eq_false', Bool.and_eq_true, Bool.and_eq_false_iff, Bool.or_eq_true, Bool.or_eq_false_iff, not_true_eq_false, not_false_eq_true, Int.not_lt, Int.not_le] at hb_))
  · have m0 : rowv (oldv w0 (keys [])) lb (off + 2) l.q.cells := rowv_sub hR 2 3
    have m1 : rowv (oldv w0 (keys [])) lb (off + 5) l.k.cells := rowv_sub hR 5 3
    have m2 : rowv (oldv w0 (keys [])) lb (off + 8) l.v.cells := rowv_sub hR 8 3
    have m3 : rowv (oldv w0 (keys [])) lb (off + 11) l.o.cells := rowv_sub hR 11 3
    have m4 : rowv (oldv w0 (keys [])) lb (off + 14) l.g.cells := rowv_sub hR 14 3
    have m5 : rowv (oldv w0 (keys [])) lb (off + 17) l.u.cells := rowv_sub hR 17 3
    have m6 : rowv (oldv w0 (keys [])) lb (off + 20) l.d.cells := rowv_sub hR 20 3
    rcases (by omega : i = 0 ∨ i = 1 ∨ i = 2 ∨ i = 3 ∨ i = 4 ∨ i = 5 ∨ i = 6) with rfl | rfl | rfl | rfl | rfl | rfl | rfl
    all_goals (repeat (first | (with_reducible apply XL.op) | ((with_reducible apply XOp.p1); (case hg | hv => exact rfl)) | ((with_reducible apply XOp.loadO (i := 1)); (case hg | ht | hk | hx | hi | hc => exact rfl)) | (with_reducible apply XC.seq) | (with_reducible apply XC.region (Γ := Γ)) | (with_reducible apply XQ.skip) | (with_reducible apply XQ.nt) | (with_reducible apply XC.block)))
    all_goals ((with_reducible apply XOp.alloc); (case hg | ht | hx' => exact rfl); intro sb)
    all_goals (repeat (first | (with_reducible apply XL.op) | ((with_reducible apply XOp.storeN (i := 0)); (case hg | ht | hx | hv' | hk | h1 | hi | hs | ha => exact rfl)) | (with_reducible apply XL.nilT) | (with_reducible apply XC.seq)))
    all_goals ((with_reducible apply XC.regionD (Γ := Γ) mixed (.q 0 (.q 1 (.q 2 (.q 6 (.q 7 (.q 8 (.q 9 (.e 3 (.q 4 (.q 5 (.e 10 (.q 11 (.done))))))))))))) [] []); (case hc => kernel_rfl))
    all_goals (repeat' (first | (with_reducible apply XL.op) | ((with_reducible apply XOp.p1); (case hg | hv => exact rfl)) | (with_reducible apply XL.nilT) | (with_reducible apply XC.seq) | (with_reducible apply XC.region (Γ := Γ)) | (with_reducible apply XQ.skip) | (with_reducible apply XQ.ret) | (with_reducible apply XQ.nt) | (with_reducible apply XQ.nb) | (with_reducible apply XQ.rt) | (with_reducible apply XQ.rb) | ((with_reducible apply XP.p1); (case ho | hg | hv => exact rfl)) | ((with_reducible apply XP.load); (case ho | hg | ht | hk | hx => exact rfl); (case hc => exact own_cell (i := 0) rfl rfl)) | (with_reducible apply XP.done) | ((with_reducible apply XP.e); (first | ((with_reducible apply XE.d); (case ho => exact rfl); (case hd => exact rfl)) | ((with_reducible apply XE.e); (case ho => exact rfl)))) | ((with_reducible apply XP.keep); (case hk => first | ((repeat' (first | exact List.forall_mem_nil _ | (with_reducible refine List.forall_mem_cons.2 ⟨?_, ?_⟩) | exact List.mem_cons_self .. | (with_reducible apply List.mem_cons_of_mem) | (with_reducible apply List.mem_append_right))); done) | (intro x hx; first | exact sel_in hx | exact List.mem_cons_of_mem _ (sel_in hx) | exact List.mem_append_right _ (sel_in hx) | exact hx | exact List.mem_cons_of_mem _ hx | exact List.mem_append_right _ hx | ((repeat (first | exact sel_in hx | exact hx | (with_reducible apply List.mem_cons_of_mem) | (with_reducible apply List.mem_append_right))); done) | (rw [List.mem_singleton.1 hx]; (simp; done)) | (rcases List.mem_cons.1 hx with rfl | hx; (simp; done); (rw [List.mem_singleton.1 hx]; (simp; done))) | cases hx))) | (((with_reducible apply XOp.callQ (hF := shape1_fn lb off)); (case hg => exact rfl); (case hc => exact rfl); (case ha => exact rfl); try (case hA => exact Known.true)); rintro _ rfl) | (((with_reducible apply XOp.callQ (hF := shape2_fn lb off)); (case hg => exact rfl); (case hc => exact rfl); (case ha => exact rfl); try (case hA => exact Known.true)); rintro _ rfl) | (((with_reducible apply XOp.callQ (hF := shape3_fn lb off)); (case hg => exact rfl); (case hc => exact rfl); (case ha => exact rfl); try (case hA => exact Known.true)); rintro _ rfl) | (((with_reducible apply XOp.callQ (hF := shape4_fn lb off)); (case hg => exact rfl); (case hc => exact rfl); (case ha => exact rfl); try (case hA => exact Known.true)); rintro _ rfl) | (((with_reducible apply XOp.callQ (hF := shape5_fn lb off)); (case hg => exact rfl); (case hc => exact rfl); (case ha => exact rfl); try (case hA => exact Known.true)); rintro _ rfl) | (((with_reducible apply XOp.callQ (hF := shape6_fn lb off)); (case hg => exact rfl); (case hc => exact rfl); (case ha => exact rfl); try (case hA => exact Known.true)); rintro _ rfl) | (((with_reducible apply XOp.callQ (hF := shape7_fn lb off)); (case hg => exact rfl); (case hc => exact rfl); (case ha => exact rfl); try (case hA => exact Known.true)); rintro _ rfl) | (first | ((with_reducible apply XOp.loadN); (case hg | ht | hk | hx => exact rfl); (case hc => exact Known.of_old m0 (Mono.row _ _ _)); (case hl => exact rfl)) | ((with_reducible apply XP.loadN); (case ho | hg | ht | hk | hx => exact rfl); (case hc => exact Known.of_old m0 (Mono.row _ _ _)); (case hl => exact rfl))) | (first | ((with_reducible apply XOp.loadN); (case hg | ht | hk | hx => exact rfl); (case hc => exact Known.of_old m1 (Mono.row _ _ _)); (case hl => exact rfl)) | ((with_reducible apply XP.loadN); (case ho | hg | ht | hk | hx => exact rfl); (case hc => exact Known.of_old m1 (Mono.row _ _ _)); (case hl => exact rfl))) | (first | ((with_reducible apply XOp.loadN); (case hg | ht | hk | hx => exact rfl); (case hc => exact Known.of_old m2 (Mono.row _ _ _)); (case hl => exact rfl)) | ((with_reducible apply XP.loadN); (case ho | hg | ht | hk | hx => exact rfl); (case hc => exact Known.of_old m2 (Mono.row _ _ _)); (case hl => exact rfl))) | (first | ((with_reducible apply XOp.loadN); (case hg | ht | hk | hx => exact rfl); (case hc => exact Known.of_old m3 (Mono.row _ _ _)); (case hl => exact rfl)) | ((with_reducible apply XP.loadN); (case ho | hg | ht | hk | hx => exact rfl); (case hc => exact Known.of_old m3 (Mono.row _ _ _)); (case hl => exact rfl))) | (first | ((with_reducible apply XOp.loadN); (case hg | ht | hk | hx => exact rfl); (case hc => exact Known.of_old m4 (Mono.row _ _ _)); (case hl => exact rfl)) | ((with_reducible apply XP.loadN); (case ho | hg | ht | hk | hx => exact rfl); (case hc => exact Known.of_old m4 (Mono.row _ _ _)); (case hl => exact rfl))) | (first | ((with_reducible apply XOp.loadN); (case hg | ht | hk | hx => exact rfl); (case hc => exact Known.of_old m5 (Mono.row _ _ _)); (case hl => exact rfl)) | ((with_reducible apply XP.loadN); (case ho | hg | ht | hk | hx => exact rfl); (case hc => exact Known.of_old m5 (Mono.row _ _ _)); (case hl => exact rfl))) | (first | ((with_reducible apply XOp.loadN); (case hg | ht | hk | hx => exact rfl); (case hc => exact Known.of_old m6 (Mono.row _ _ _)); (case hl => exact rfl)) | ((with_reducible apply XP.loadN); (case ho | hg | ht | hk | hx => exact rfl); (case hc => exact Known.of_old m6 (Mono.row _ _ _)); (case hl => exact rfl))) | (((with_reducible apply XOp.callQ (hF := shapedL_fn _ _ _)); (case hg => exact rfl); (case hc => exact rfl); (case ha => exact rfl); try (case hA => exact Known.true)); (case hA => first | exact Known.of_old hA.q (lm_mono _) | exact Known.of_old hA.k (lm_mono _) | exact Known.of_old hA.v (lm_mono _) | exact Known.of_old hA.o (lm_mono _) | exact Known.of_old hA.g (lm_mono _) | exact Known.of_old hA.u (lm_mono _) | exact Known.of_old hA.d (lm_mono _)); rintro _ rfl) | ((with_reducible apply XC.cond); (case hc => exact rfl); all_goals (intro hb_; try simp only [pd_true, pd_false, Bool.not_eq_true', Bool.not_eq_false', Bool.and_eq_true, Bool.and_eq_false_iff, Bool.or_eq_true, Bool.or_eq_false_iff, not_true_eq_false, not_false_eq_true, Int.not_lt, Int.not_le] at hb_))))
    all_goals first | (((with_reducible apply XQ.retE); (case hr => exact .t rfl .nil)); (first | exact hno 0 (by omega) hb_ | exact hno 1 (by omega) hb_ | exact hno 2 (by omega) hb_ | exact hno 3 (by omega) hb_ | exact hno 4 (by omega) hb_ | exact hno 5 (by omega) hb_ | exact hno 6 (by omega) hb_)) | exact ⟨k - 1, by omega, _, .of (List.sublist_cons_self _ _), 1, by omega, rfl, fun j hj => by rcases (by omega : j < 0 ∨ j = 0) with h | rfl; exact hq j h; first | assumption | exact hb_, rfl, rfl, rfl, rfl, intS2 (i := 0) (m := 7) (by omega) (by omega), trivial⟩ | exact ⟨k - 1, by omega, _, .of (List.sublist_cons_self _ _), 2, by omega, rfl, fun j hj => by rcases (by omega : j < 1 ∨ j = 1) with h | rfl; exact hq j h; first | assumption | exact hb_, rfl, rfl, rfl, rfl, intS2 (i := 1) (m := 7) (by omega) (by omega), trivial⟩ | exact ⟨k - 1, by omega, _, .of (List.sublist_cons_self _ _), 3, by omega, rfl, fun j hj => by rcases (by omega : j < 2 ∨ j = 2) with h | rfl; exact hq j h; first | assumption | exact hb_, rfl, rfl, rfl, rfl, intS2 (i := 2) (m := 7) (by omega) (by omega), trivial⟩ | exact ⟨k - 1, by omega, _, .of (List.sublist_cons_self _ _), 4, by omega, rfl, fun j hj => by rcases (by omega : j < 3 ∨ j = 3) with h | rfl; exact hq j h; first | assumption | exact hb_, rfl, rfl, rfl, rfl, intS2 (i := 3) (m := 7) (by omega) (by omega), trivial⟩ | exact ⟨k - 1, by omega, _, .of (List.sublist_cons_self _ _), 5, by omega, rfl, fun j hj => by rcases (by omega : j < 4 ∨ j = 4) with h | rfl; exact hq j h; first | assumption | exact hb_, rfl, rfl, rfl, rfl, intS2 (i := 4) (m := 7) (by omega) (by omega), trivial⟩ | exact ⟨k - 1, by omega, _, .of (List.sublist_cons_self _ _), 6, by omega, rfl, fun j hj => by rcases (by omega : j < 5 ∨ j = 5) with h | rfl; exact hq j h; first | assumption | exact hb_, rfl, rfl, rfl, rfl, intS2 (i := 5) (m := 7) (by omega) (by omega), trivial⟩ | exact ⟨k - 1, by omega, _, .of (List.sublist_cons_self _ _), 7, by omega, rfl, fun j hj => by rcases (by omega : j < 6 ∨ j = 6) with h | rfl; exact hq j h; first | assumption | exact hb_, rfl, rfl, rfl, rfl, intS2 (i := 6) (m := 7) (by omega) (by omega), trivial⟩
  obtain rfl : i = 7 := by omega
  have hB : rowv (oldv w0 (keys [])) lb (off + 23) (l.by_.map (Value.int .i64)) := rowv_sub hR 23 7
  (repeat (first | (with_reducible apply XL.op) | ((with_reducible apply XOp.p1); (case hg | hv => exact rfl)) | (with_reducible apply XL.nilT) | (with_reducible apply XC.seq) | (with_reducible apply XC.region (Γ := Γ)) | (with_reducible apply XQ.exit) | (with_reducible apply XQ.nt) | (with_reducible apply XQ.et) | (with_reducible apply XC.block) | ((with_reducible apply XQ.eb); (case hb => exact rfl)) | (first | ((with_reducible apply XOp.loadN); (case hg | ht | hk | hx => exact rfl); (case hc => exact Known.of_old hB (Mono.row _ _ _)); (case hl => exact rfl)) | ((with_reducible apply XP.loadN); (case ho | hg | ht | hk | hx => exact rfl); (case hc => exact Known.of_old hB (Mono.row _ _ _)); (case hl => exact rfl)))))
  refine XC.subl (L' := [(cb, .cells ⟨c.cells⟩ 23 (0, 0))]) (List.Sublist.cons_cons _ (List.nil_sublist _)) ?_
  refine XC.loop (fun k ρ L => ∃ i : Nat, i + k = 7 ∧ L = [(cb, .cells ⟨c.cells⟩ 23 (0, 0))] ∧ (∀ j < i, 0 ≤ l.by_.getD j 0 ∧ l.by_.getD j 0 ≤ 24) ∧ Slots ρ [(0, .pointer (some ⟨lb, off, none⟩)), (3, .pointer (some ⟨cb, 0, none⟩)), (32, .agg ⟨l.by_.map (Value.int .i64)⟩), (33, .int .i64 i)])
    7 ⟨0, by simp, rfl, by simp, rfl, rfl, rfl, rfl, trivial⟩ ?_
  rintro k ρ L ⟨i, hik, rfl, hq2, hs⟩
  refine XC.slots _ hs ?_
  (repeat (first | (with_reducible apply XL.op) | ((with_reducible apply XOp.p1); (case hg | hv => exact rfl)) | (with_reducible apply XL.nilT) | (with_reducible apply XC.seq) | (with_reducible apply XC.region (Γ := Γ))))
  ((with_reducible apply XC.cond); (case hc => exact rfl); all_goals (intro hb_; try simp only [pd_true, pd_false, Bool.not_eq_true', Bool.not_eq_false', Bool.and_eq_true, Bool.and_eq_false_iff, Bool.or_eq_true, Bool.or_eq_false_iff, not_true_eq_false, not_false_eq_true, Int.not_lt, Int.not_le] at hb_))
  · (repeat' (first | (with_reducible apply XL.op) | ((with_reducible apply XOp.p1); (case hg | hv => exact rfl)) | (with_reducible apply XL.nilT) | (with_reducible apply XC.seq) | (with_reducible apply XC.region (Γ := Γ)) | (with_reducible apply XQ.skip) | (with_reducible apply XQ.ret) | (with_reducible apply XQ.nt) | (with_reducible apply XQ.nb) | (with_reducible apply XQ.rt) | (with_reducible apply XQ.rb) | (with_reducible apply XC.block) | (first | ((with_reducible apply XOp.pr); (case hg => exact rfl); (case hr => (with_reducible apply PR.arr); (case ht => exact rfl); (case hk => exact rfl); (case he => exact rfl); (case hag => exact rfl); (case hs => exact rfl); (case hx => exact rfl); (case hi => exact rfl); (case hr => first | assumption | omega); (case hc => exact by_get l (i := i) (by omega)))) | ((with_reducible apply XP.pr); (case ho => exact rfl); (case hg => exact rfl); (case hr => (with_reducible apply PR.arr); (case ht => exact rfl); (case hk => exact rfl); (case he => exact rfl); (case hag => exact rfl); (case hs => exact rfl); (case hx => exact rfl); (case hi => exact rfl); (case hr => first | assumption | omega); (case hc => exact by_get l (i := i) (by omega))))) | (((with_reducible apply XOp.callQ (hF := within_fn _ _ _)); (case hg => exact rfl); (case hc => exact rfl); (case ha => exact rfl); try (case hA => exact Known.true)); rintro _ rfl) | ((with_reducible apply XC.cond); (case hc => exact rfl); all_goals (intro hb_; try simp only [pd_true, pd_false, Bool.not_eq_true', Bool.not_eq_false', Bool.and_eq_true, Bool.and_eq_false_iff, Bool.or_eq_true, Bool.or_eq_false_iff, not_true_eq_false, not_false_eq_true, Int.not_lt, Int.not_le] at hb_))))
    · ((with_reducible apply XQ.retE); (case hr => exact .t rfl .nil))
      exact congrArg Value.bool (pdf (fun h => by have := h.by_ i (by omega); omega)).symm
    · exact ⟨k - 1, by omega, i + 1, by omega, rfl, fun j hj => by
        rcases Nat.lt_or_ge j i with h | h
        · exact hq2 j h
        · obtain rfl : j = i := by omega
          omega, rfl, rfl, rfl, intS2 (m := 7) (by omega) (by omega), trivial⟩
  obtain rfl : i = 7 := by omega
  have hN0 : cellv (oldv w0 (keys [])) ⟨lb, off + 0, none⟩ = some (slv l.n1) := hR 0 _ rfl
  have hN1 : cellv (oldv w0 (keys [])) ⟨lb, off + 1, none⟩ = some (slv l.n2) := hR 1 _ rfl
  (repeat (first | (with_reducible apply XC.seq) | (with_reducible apply XQ.exit) | (with_reducible apply XQ.nt) | (with_reducible apply XQ.et) | ((with_reducible apply XQ.eb); (case hb => exact rfl))))
  ((with_reducible apply XC.regionD (Γ := Γ) mixed (.q 0 (.q 1 (.q 2 (.q 3 (.q 4 (.q 5 (.e 6 (.q 7 (.q 8 (.q 9 (.q 10 (.q 11 (.q 12 (.q 13 (.e 14 (.q 15 (.q 16 (.done)))))))))))))))))) [] []); (case hc => kernel_rfl))
  (repeat' (first | ((with_reducible apply XOp.p0); (case hg => exact rfl)) | (with_reducible apply XQ.ret) | (with_reducible apply XQ.nt) | ((with_reducible apply XP.p1); (case ho | hg | hv => exact rfl)) | ((with_reducible apply XP.p0); (case ho | hg => exact rfl)) | ((with_reducible apply XP.load); (case ho | hg | ht | hk | hx => exact rfl); (case hc => exact own_cell (i := 0) rfl rfl)) | (with_reducible apply XP.done) | ((with_reducible apply XP.e); (first | ((with_reducible apply XE.d); (case ho => exact rfl); (case hd => exact rfl)) | ((with_reducible apply XE.e); (case ho => exact rfl)))) | ((with_reducible apply XP.keep); (case hk => first | ((repeat' (first | exact List.forall_mem_nil _ | (with_reducible refine List.forall_mem_cons.2 ⟨?_, ?_⟩) | exact List.mem_cons_self .. | (with_reducible apply List.mem_cons_of_mem) | (with_reducible apply List.mem_append_right))); done) | (intro x hx; first | exact sel_in hx | exact List.mem_cons_of_mem _ (sel_in hx) | exact List.mem_append_right _ (sel_in hx) | exact hx | exact List.mem_cons_of_mem _ hx | exact List.mem_append_right _ hx | ((repeat (first | exact sel_in hx | exact hx | (with_reducible apply List.mem_cons_of_mem) | (with_reducible apply List.mem_append_right))); done) | (rw [List.mem_singleton.1 hx]; (simp; done)) | (rcases List.mem_cons.1 hx with rfl | hx; (simp; done); (rw [List.mem_singleton.1 hx]; (simp; done))) | cases hx))) | (first | ((with_reducible apply XOp.load); (case hg | ht | hk | hx => exact rfl); (case hc => exact Known.of_old hN0 (Mono.cell _ _))) | ((with_reducible apply XP.load); (case ho | hg | ht | hk | hx => exact rfl); (case hc => exact Known.of_old hN0 (Mono.cell _ _)))) | (first | ((with_reducible apply XOp.load); (case hg | ht | hk | hx => exact rfl); (case hc => exact Known.of_old hN1 (Mono.cell _ _))) | ((with_reducible apply XP.load); (case ho | hg | ht | hk | hx => exact rfl); (case hc => exact Known.of_old hN1 (Mono.cell _ _)))) | (((with_reducible apply XOp.callQ (hF := gainsL_fn _ _)); (case hg => exact rfl); (case hc => exact rfl); (case ha => exact rfl); try (case hA => exact Known.true)); (case hA => first | exact Known.of_old hA.n1 (lv_mono _) | exact Known.of_old hA.n2 (lv_mono _)); rintro _ rfl) | ((with_reducible apply XP.split); (case ho | hg | hj | hd | hb => exact rfl); (fail_if_success (case hf => exact fun h => Bool.noConfusion h)); (fail_if_success (case ht => exact fun h => Bool.noConfusion h)); all_goals (intro hb_; try simp only [pd_true, pd_false, Bool.not_eq_true', Bool.not_eq_false', Bool.and_eq_true, Bool.and_eq_false_iff, Bool.or_eq_true, Bool.or_eq_false_iff, not_true_eq_false, not_false_eq_true, Int.not_lt, Int.not_le] at hb_))))
  all_goals ((with_reducible apply XQ.retE); (case hr => exact .t rfl .nil))
  · refine congrArg Value.bool ?_
    by_cases h2 : gainsP l.n2.1 c.Width
    · rw [pdt h2, pdt (mats_layP hq hb_ h2 hq2)]
    · rw [pdf h2, pdf (fun h => h2 h.n2)]
  · exact congrArg Value.bool (pdf (fun h => hb_ h.n1)).symm
end Go.Proofs.YtkppmmbcloaekaaGreatDoorX
/- Do the weights fit? The program's. -/
namespace Go.Proofs.YtkppmmbcloaekaaGreatDoorX
open Go Go.SX

theorem pdc {p q : Prop} (h : p ↔ q) : pd p = pd q := by rw [propext h]
structure okP1 (x : LW) : Prop where
  e : shpP x.E.mat x.C.Vocab x.C.Width
  h : shpP x.H.mat x.C.Vocab x.C.Width
  f : gainsP x.F.1 x.C.Width
  t : (x.T.1.length : Int) = x.C.head / 2
  ll : (x.Ls.1.length : Int) = x.C.Layers
  ml : (x.M.1.length : Int) = x.C.Medusa
theorem max_le (a b n : Int) : (if b > a then b else a) ≤ n ↔ a ≤ n ∧ b ≤ n := by split <;> omega
theorem min_ge (a b n : Int) : n ≤ (if b < a then b else a) ↔ n ≤ a ∧ n ≤ b := by split <;> omega
theorem turn_iff (y : Int × Int) : ((if y.2 > y.1 then y.2 else y.1) ≤ 16384 ∧ -16384 ≤ (if y.2 < y.1 then y.2 else y.1)) ↔ turnP y := by
  rw [max_le, min_ge]; unfold turnP; omega
set_option maxHeartbeats 8000000 in
theorem checkW_fn (x : LW) : FC Tryz.prog 14 [.agg ⟨x.cells⟩] [] (fun h => sidesK h ∧ lwAt h x)
    (fun v L => v = .int .i64 (errW x.w) ∧ L = []) := by
  refine FC.nil ?_
  refine FC.intro Tryz.func14 rfl (by kernel_rfl) 126 [.tmp 2] rfl rfl rfl ?_
  rintro w0 ⟨hS, hA⟩
  (repeat (first | (with_reducible apply XL.op) | (with_reducible apply XC.seq) | (with_reducible apply XC.region (Γ := Γ))))
  ((with_reducible apply XOp.box); (case hg | hx' => exact rfl); intro wb)
  (repeat (first | (with_reducible apply XL.op) | ((with_reducible apply XOp.p1); (case hg | hv => exact rfl)) | ((with_reducible apply XOp.loadO (i := 0)); (case hg | ht | hk | hx | hi | hc => exact rfl)) | (with_reducible apply XL.nilT) | (with_reducible apply XC.seq) | (with_reducible apply XC.region (Γ := Γ))))
  ((with_reducible apply XOp.alloc); (case hg | ht | hx' => exact rfl); intro cb)
  (repeat (first | (with_reducible apply XL.op) | ((with_reducible apply XOp.loadO (i := 0)); (case hg | ht | hk | hx | hi | hc => exact rfl)) | ((with_reducible apply XOp.storeN (i := 0)); (case hg | ht | hx | hv' | hk | h1 | hi | hs | ha => exact rfl)) | (with_reducible apply XL.nilT) | (with_reducible apply XC.seq) | (with_reducible apply XC.region (Γ := Γ))))
  (repeat (first | (with_reducible apply XL.op) | ((with_reducible apply XOp.p1); (case hg | hv => exact rfl)) | (with_reducible apply XL.nilT) | (with_reducible apply XC.seq) | (with_reducible apply XC.region (Γ := Γ)) | (((with_reducible apply XOp.callQ (hF := FC.nil (check_fn x.C))); (case hg => exact rfl); (case hc => exact rfl); (case ha => exact rfl); try (case hA => exact Known.true)); rintro _ rfl)))
  ((with_reducible apply XC.cond); (case hc => exact rfl); all_goals (intro hb_; try simp only [pd_true, pd_false, Bool.not_eq_true', Bool.not_eq_false', Bool.and_eq_true, Bool.and_eq_false_iff, Bool.or_eq_true, Bool.or_eq_false_iff, not_true_eq_false, not_false_eq_true, Int.not_lt, Int.not_le] at hb_))
  · (repeat (first | (with_reducible apply XL.op) | ((with_reducible apply XOp.p1); (case hg | hv => exact rfl)) | (with_reducible apply XL.nilT) | (with_reducible apply XC.seq) | (with_reducible apply XC.region (Γ := Γ)) | (with_reducible apply XQ.ret) | (with_reducible apply XQ.rt)))
    ((with_reducible apply XQ.retE); (case hr => exact .t rfl .nil))
    exact congrArg (Value.int .i64) ((cerr_no (fun h => hb_ ((cerr_iff _).2 h))).trans (errW_c (w := x.w) (fun h => hb_ ((cerr_iff _).2 h))).symm)
  have hc : x.C.may := (cerr_iff _).1 (by first | assumption | exact Classical.not_not.1 hb_)
  (repeat (first | (with_reducible apply XC.seq) | (with_reducible apply XQ.skip) | (with_reducible apply XQ.nt)))
  refine XC.cut (fun ρ L => L = [(cb, .cells ⟨x.C.cells⟩ 23 (0, 0)), (wb, .cells ⟨x.cells⟩ 31 (0, 0))] ∧ Slots ρ [(1, .pointer (some ⟨wb, 0, none⟩)), (3, .pointer (some ⟨cb, 0, none⟩)), (5, .bool (pd (okP1 x)))]) _ ?_ ?_
  · ((with_reducible apply XC.regionD (Γ := Γ) mixed (.q 0 (.q 1 (.q 2 (.q 3 (.q 4 (.q 5 (.e 6 (.q 7 (.q 8 (.q 9 (.q 10 (.q 11 (.q 12 (.q 13 (.e 14 (.q 15 (.q 16 (.q 17 (.q 18 (.q 19 (.q 20 (.e 21 (.q 22 (.q 23 (.q 24 (.q 25 (.q 26 (.q 27 (.e 28 (.q 29 (.q 30 (.q 31 (.q 32 (.q 33 (.q 34 (.q 35 (.q 36 (.q 37 (.q 38 (.q 39 (.q 40 (.q 41 (.q 42 (.q 43 (.q 44 (.q 45 (.q 46 (.q 47 (.q 48 (.done)))))))))))))))))))))))))))))))))))))))))))))))))) [] []); (case hc => kernel_rfl))
    (repeat' (first | ((with_reducible apply XOp.p0); (case hg => exact rfl)) | (with_reducible apply XQ.nt) | ((with_reducible apply XP.p1); (case ho | hg | hv => exact rfl)) | ((with_reducible apply XP.p0); (case ho | hg => exact rfl)) | ((with_reducible apply XP.load); (case ho | hg | ht | hk | hx => exact rfl); (case hc => exact own_cell (i := 0) rfl rfl)) | ((with_reducible apply XP.load); (case ho | hg | ht | hk | hx => exact rfl); (case hc => exact own_cell (i := 1) rfl rfl)) | ((with_reducible apply XP.loadO (j := 0)); (case ho | hg | ht | hk | hx | hi | hc => exact rfl)) | ((with_reducible apply XP.loadO (j := 1)); (case ho | hg | ht | hk | hx | hi | hc => exact rfl)) | (with_reducible apply XP.done) | ((with_reducible apply XP.e); (first | ((with_reducible apply XE.d); (case ho => exact rfl); (case hd => exact rfl)) | ((with_reducible apply XE.e); (case ho => exact rfl)))) | ((with_reducible apply XP.keep); (case hk => first | ((repeat' (first | exact List.forall_mem_nil _ | (with_reducible refine List.forall_mem_cons.2 ⟨?_, ?_⟩) | exact List.mem_cons_self .. | (with_reducible apply List.mem_cons_of_mem) | (with_reducible apply List.mem_append_right))); done) | (intro x hx; first | exact sel_in hx | exact List.mem_cons_of_mem _ (sel_in hx) | exact List.mem_append_right _ (sel_in hx) | exact hx | exact List.mem_cons_of_mem _ hx | exact List.mem_append_right _ hx | ((repeat (first | exact sel_in hx | exact hx | (with_reducible apply List.mem_cons_of_mem) | (with_reducible apply List.mem_append_right))); done) | (rw [List.mem_singleton.1 hx]; (simp; done)) | (rcases List.mem_cons.1 hx with rfl | hx; (simp; done); (rw [List.mem_singleton.1 hx]; (simp; done))) | cases hx))) | (((with_reducible apply XOp.callQ (hF := gainsL_fn _ _)); (case hg => exact rfl); (case hc => exact rfl); (case ha => exact rfl); try (case hA => exact Known.true)); (case hA => exact Known.of_old hA.f (lv_mono _)); rintro _ rfl) | (((with_reducible apply XOp.callQ (hF := shapedL_fn _ _ _)); (case hg => exact rfl); (case hc => exact rfl); (case ha => exact rfl); try (case hA => exact Known.true)); (case hA => first | exact Known.of_old hA.e (lm_mono _) | exact Known.of_old hA.hd (lm_mono _)); rintro _ rfl) | (((with_reducible apply XOp.callQ (hF := head_fn x.C hc)); (case hg => exact rfl); (case hc => exact rfl); (case ha => exact rfl); try (case hA => exact Known.true)); rintro _ rfl) | ((with_reducible apply XP.split); (case ho | hg | hj | hd | hb => exact rfl); (fail_if_success (case hf => exact fun h => Bool.noConfusion h)); (fail_if_success (case ht => exact fun h => Bool.noConfusion h)); all_goals (intro hb_; try simp only [pd_true, pd_false, Bool.not_eq_true', Bool.not_eq_false', Bool.and_eq_true, Bool.and_eq_false_iff, Bool.or_eq_true, Bool.or_eq_false_iff, not_true_eq_false, not_false_eq_true, Int.not_lt, Int.not_le] at hb_))))
    all_goals refine ⟨rfl, rfl, rfl, ?_, trivial⟩
    all_goals refine congrArg Value.bool ?_
    all_goals try rw [half_wrap hc] at *
    · exact pdc ⟨fun h => ⟨by assumption, by assumption, by assumption, by assumption, by assumption, h⟩, fun h => h.ml⟩
    all_goals exact (pdf fun h => by first | exact hb_ h.ll | exact hb_ h.t | exact hb_ h.f | exact hb_ h.h | exact hb_ h.e).symm
  rintro ρ L ⟨rfl, hs⟩
  refine XC.slots _ hs ?_
  (repeat (first | (with_reducible apply XL.op) | ((with_reducible apply XOp.p1); (case hg | hv => exact rfl)) | ((with_reducible apply XOp.load); (case hg | ht | hk | hx => exact rfl); (case hc => exact own_cell (i := 1) rfl rfl)) | (with_reducible apply XL.nilT) | (with_reducible apply XC.seq) | (with_reducible apply XC.region (Γ := Γ)) | (with_reducible apply XC.block)))
  have hT := hA.t
  have hTa := hT.at_
  have hTb := hT.bytes
  have hL := hA.l.locRaw
  have hLa := hL.at_
  have hLb := hL.bytes
  have hM := hA.m.locRaw
  have hMa := hM.at_
  have hMb := hM.bytes
  refine XC.loopP (fun k ρ L => ∃ i : Nat, i + k = x.T.1.length ∧ L = [(cb, .cells ⟨x.C.cells⟩ 23 (0, 0)), (wb, .cells ⟨x.cells⟩ 31 (0, 0))] ∧ Slots ρ [(1, .pointer (some ⟨wb, 0, none⟩)), (3, .pointer (some ⟨cb, 0, none⟩)), (5, .bool (pd (okP1 x ∧ ∀ y ∈ x.T.1.take i, turnP y))), (67, sla x.T), (68, .int .i64 x.T.1.length), (69, .int .i64 i)])
    x.T.1.length ⟨0, by simp, rfl, rfl, rfl, ?_, rfl, rfl, rfl, trivial⟩ ?_
  · exact congrArg Value.bool (pdc ⟨fun h => ⟨h, by simp⟩, fun h => h.1⟩)
  · rintro k ρ L ⟨i, hik, rfl, hs⟩
    refine XC.slots _ hs ?_
    (repeat (first | (with_reducible apply XL.op) | ((with_reducible apply XOp.p1); (case hg | hv => exact rfl)) | (with_reducible apply XL.nilT) | (with_reducible apply XC.seq) | (with_reducible apply XC.region (Γ := Γ))))
    ((with_reducible apply XC.cond); (case hc => exact rfl); all_goals (intro hb_; try simp only [pd_true, pd_false, Bool.not_eq_true', Bool.not_eq_false', Bool.and_eq_true, Bool.and_eq_false_iff, Bool.or_eq_true, Bool.or_eq_false_iff, not_true_eq_false, not_false_eq_true, Int.not_lt, Int.not_le] at hb_))
    · obtain ⟨y, hi⟩ : ∃ y, x.T.1[i]? = some y := ⟨_, List.getElem?_eq_getElem (by omega)⟩
      have hn : (∀ z ∈ x.T.1.take (i + 1), turnP z) ↔ (∀ z ∈ x.T.1.take i, turnP z) ∧ turnP y := by
        rw [take_snocD hi]; simp only [List.forall_mem_append, List.forall_mem_singleton]
      (repeat (first | (with_reducible apply XL.op) | ((with_reducible apply XOp.pr); (case hg => exact rfl); (case hr => ((with_reducible apply PR.idxA); (case ht | hk | he | hx | hi => exact rfl); (case hr => first | assumption | omega); (case ha => first | assumption | exact SlA.at_ (by assumption))))) | (with_reducible apply XC.seq) | (with_reducible apply XC.region (Γ := Γ)) | (with_reducible apply XQ.skip) | (with_reducible apply XQ.nt) | (with_reducible apply XC.block) | (first | ((with_reducible apply XOp.loadN); (case hg | ht | hk | hx => exact rfl); (case hc => exact Known.of_old (hT.rawAt hi) (Mono.row _ _ _)); (case hl => exact rfl)) | ((with_reducible apply XP.loadN); (case ho | hg | ht | hk | hx => exact rfl); (case hc => exact Known.of_old (hT.rawAt hi) (Mono.row _ _ _)); (case hl => exact rfl)))))
      ((with_reducible apply XOp.alloc); (case hg | ht | hx' => exact rfl); intro tb)
      (repeat' (first | (with_reducible apply XL.op) | ((with_reducible apply XOp.p1); (case hg | hv => exact rfl)) | ((with_reducible apply XOp.p0); (case hg => exact rfl)) | ((with_reducible apply XOp.load); (case hg | ht | hk | hx => exact rfl); (case hc => exact own_cell (i := 0) rfl rfl)) | ((with_reducible apply XOp.storeN (i := 0)); (case hg | ht | hx | hv' | hk | h1 | hi | hs | ha => exact rfl)) | (with_reducible apply XL.nilT) | (with_reducible apply XC.region (Γ := Γ)) | (with_reducible apply XL.nilQ) | (with_reducible apply XQ.nt) | (with_reducible apply XQ.nb) | ((with_reducible apply XOp.split); (case hg | hj | hd | hb => exact rfl); (fail_if_success (case hf => exact fun h => Bool.noConfusion h)); (fail_if_success (case ht => exact fun h => Bool.noConfusion h)); all_goals (intro hb_; try simp only [pd_true, pd_false, Bool.not_eq_true', Bool.not_eq_false', Bool.and_eq_true, Bool.and_eq_false_iff, Bool.or_eq_true, Bool.or_eq_false_iff, not_true_eq_false, not_false_eq_true, Int.not_lt, Int.not_le] at hb_))))
      all_goals refine ⟨k - 1, by omega, _, .of (List.sublist_cons_self _ _), i + 1, by omega, rfl, rfl, rfl, ?_, rfl, rfl, intS2 (m := x.T.1.length) (by omega) (by omega), trivial⟩
      all_goals refine congrArg Value.bool ?_
      all_goals rw [hn]
      · rename_i hp
        exact pdc ⟨fun h => ⟨hp.1, hp.2, (turn_iff y).1 ⟨hb_, h⟩⟩, fun h => ((turn_iff y).2 h.2.2).2⟩
      · exact (pdf fun h => absurd ((turn_iff y).2 h.2.2).1 (Int.not_le.2 hb_)).symm
      · exact (pdf fun h => hb_ ⟨h.1, h.2.1⟩).symm
    obtain rfl : i = x.T.1.length := by omega
    rw [List.take_length]
    (repeat (first | (with_reducible apply XL.op) | ((with_reducible apply XOp.p1); (case hg | hv => exact rfl)) | ((with_reducible apply XOp.load); (case hg | ht | hk | hx => exact rfl); (case hc => exact own_cell (i := 1) rfl rfl)) | (with_reducible apply XL.nilT) | (with_reducible apply XC.seq) | (with_reducible apply XC.region (Γ := Γ)) | (with_reducible apply XQ.exit) | (with_reducible apply XQ.nt) | (with_reducible apply XQ.et) | (with_reducible apply XC.block) | ((with_reducible apply XQ.eb); (case hb => exact rfl))))
    refine XC.loopP (fun k ρ L => ∃ i : Nat, i + k = x.Ls.1.length ∧ L = [(cb, .cells ⟨x.C.cells⟩ 23 (0, 0)), (wb, .cells ⟨x.cells⟩ 31 (0, 0))] ∧ Slots ρ [(1, .pointer (some ⟨wb, 0, none⟩)), (3, .pointer (some ⟨cb, 0, none⟩)), (5, .bool (pd ((okP1 x ∧ ∀ y ∈ x.T.1, turnP y) ∧ ∀ l ∈ x.Ls.1.take i, layP l x.C))), (93, .int .i64 x.Ls.1.length), (94, .int .i64 i)])
      x.Ls.1.length ⟨0, by simp, rfl, rfl, rfl, ?_, rfl, rfl, trivial⟩ ?_
    · exact congrArg Value.bool (pdc ⟨fun h => ⟨h, by simp⟩, fun h => h.1⟩)
    rintro k ρ L ⟨i, hik, rfl, hs⟩
    refine XC.slots _ hs ?_
    (repeat (first | (with_reducible apply XL.op) | ((with_reducible apply XOp.p1); (case hg | hv => exact rfl)) | (with_reducible apply XL.nilT) | (with_reducible apply XC.seq) | (with_reducible apply XC.region (Γ := Γ))))
    ((with_reducible apply XC.cond); (case hc => exact rfl); all_goals (intro hb_; try simp only [pd_true, pd_false, Bool.not_eq_true', Bool.not_eq_false', Bool.and_eq_true, Bool.and_eq_false_iff, Bool.or_eq_true, Bool.or_eq_false_iff, not_true_eq_false, not_false_eq_true, Int.not_lt, Int.not_le] at hb_))
    · obtain ⟨l, hi⟩ : ∃ l, x.Ls.1[i]? = some l := ⟨_, List.getElem?_eq_getElem (by omega)⟩
      have hl := hA.l.locAt (List.mem_of_getElem? hi)
      have hn : (∀ z ∈ x.Ls.1.take (i + 1), layP z x.C) ↔ (∀ z ∈ x.Ls.1.take i, layP z x.C) ∧ layP l x.C := by
        rw [take_snocD hi]; simp only [List.forall_mem_append, List.forall_mem_singleton]
      (repeat (first | (with_reducible apply XL.op) | ((with_reducible apply XOp.p1); (case hg | hv => exact rfl)) | (with_reducible apply XL.nilT) | (with_reducible apply XC.seq) | (with_reducible apply XC.region (Γ := Γ)) | (with_reducible apply XQ.skip) | (with_reducible apply XQ.nt) | (with_reducible apply XC.block)))
      ((with_reducible apply XC.regionD (Γ := Γ) mixed (.q 0 (.q 1 (.q 2 (.q 3 (.q 4 (.q 5 (.q 6 (.e 7 (.q 8 (.q 9 (.done))))))))))) [] []); (case hc => kernel_rfl))
      (repeat' (first | (with_reducible apply XL.op) | ((with_reducible apply XOp.p1); (case hg | hv => exact rfl)) | ((with_reducible apply XOp.p0); (case hg => exact rfl)) | (with_reducible apply XL.nilT) | (with_reducible apply XC.region (Γ := Γ)) | (with_reducible apply XQ.nt) | (with_reducible apply XQ.nb) | ((with_reducible apply XP.p1); (case ho | hg | hv => exact rfl)) | ((with_reducible apply XP.p0); (case ho | hg => exact rfl)) | ((with_reducible apply XP.load); (case ho | hg | ht | hk | hx => exact rfl); (case hc => exact own_cell (i := 1) rfl rfl)) | ((with_reducible apply XP.loadO (j := 0)); (case ho | hg | ht | hk | hx | hi | hc => exact rfl)) | ((with_reducible apply XP.pr); (case ho => exact rfl); (case hg => exact rfl); (case hr => ((with_reducible apply PR.idxA); (case ht | hk | he | hx | hi => exact rfl); (case hr => first | assumption | omega); (case ha => first | assumption | exact SlA.at_ (by assumption))))) | (with_reducible apply XP.done) | ((with_reducible apply XP.e); (first | ((with_reducible apply XE.d); (case ho => exact rfl); (case hd => exact rfl)) | ((with_reducible apply XE.e); (case ho => exact rfl)))) | ((with_reducible apply XP.keep); (case hk => first | ((repeat' (first | exact List.forall_mem_nil _ | (with_reducible refine List.forall_mem_cons.2 ⟨?_, ?_⟩) | exact List.mem_cons_self .. | (with_reducible apply List.mem_cons_of_mem) | (with_reducible apply List.mem_append_right))); done) | (intro x hx; first | exact sel_in hx | exact List.mem_cons_of_mem _ (sel_in hx) | exact List.mem_append_right _ (sel_in hx) | exact hx | exact List.mem_cons_of_mem _ hx | exact List.mem_append_right _ hx | ((repeat (first | exact sel_in hx | exact hx | (with_reducible apply List.mem_cons_of_mem) | (with_reducible apply List.mem_append_right))); done) | (rw [List.mem_singleton.1 hx]; (simp; done)) | (rcases List.mem_cons.1 hx with rfl | hx; (simp; done); (rw [List.mem_singleton.1 hx]; (simp; done))) | cases hx))) | (((with_reducible apply XOp.callQ (hF := fits_fn l (ablk x.Ls.2.1) (aoff x.Ls.2.1 + ((i : Nat) : Int).toNat * 30) x.C hc)); (case hg => exact rfl); (case hc => exact rfl); (case ha => exact rfl); try (case hA => exact Known.true)); (case hA => exact Known.and (Known.of_old hS sides_mono) (Known.and (Known.of_old (hL.rawAt hi) (Mono.row _ _ _)) (Known.of_old hl (ll_mono _)))); rintro _ rfl) | ((with_reducible apply XP.split); (case ho | hg | hj | hd | hb => exact rfl); (fail_if_success (case hf => exact fun h => Bool.noConfusion h)); (fail_if_success (case ht => exact fun h => Bool.noConfusion h)); all_goals (intro hb_; try simp only [pd_true, pd_false, Bool.not_eq_true', Bool.not_eq_false', Bool.and_eq_true, Bool.and_eq_false_iff, Bool.or_eq_true, Bool.or_eq_false_iff, not_true_eq_false, not_false_eq_true, Int.not_lt, Int.not_le] at hb_))))
      all_goals refine ⟨k - 1, by omega, _, .of (List.Sublist.refl _), i + 1, by omega, rfl, rfl, rfl, ?_, rfl, intS2 (m := x.Ls.1.length) (by omega) (by omega), trivial⟩
      all_goals refine congrArg Value.bool ?_
      all_goals rw [hn]
      · exact pdc ⟨fun h => ⟨hb_.1, hb_.2, h⟩, fun h => h.2.2⟩
      · exact (pdf fun h => hb_ ⟨h.1, h.2.1⟩).symm
    obtain rfl : i = x.Ls.1.length := by omega
    rw [List.take_length]
    (repeat (first | (with_reducible apply XL.op) | ((with_reducible apply XOp.p1); (case hg | hv => exact rfl)) | ((with_reducible apply XOp.load); (case hg | ht | hk | hx => exact rfl); (case hc => exact own_cell (i := 1) rfl rfl)) | (with_reducible apply XL.nilT) | (with_reducible apply XC.seq) | (with_reducible apply XC.region (Γ := Γ)) | (with_reducible apply XQ.exit) | (with_reducible apply XQ.nt) | (with_reducible apply XQ.et) | (with_reducible apply XC.block) | ((with_reducible apply XQ.eb); (case hb => exact rfl))))
    refine XC.loopP (fun k ρ L => ∃ i : Nat, i + k = x.M.1.length ∧ L = [(cb, .cells ⟨x.C.cells⟩ 23 (0, 0)), (wb, .cells ⟨x.cells⟩ 31 (0, 0))] ∧ Slots ρ [(1, .pointer (some ⟨wb, 0, none⟩)), (3, .pointer (some ⟨cb, 0, none⟩)), (5, .bool (pd (((okP1 x ∧ ∀ y ∈ x.T.1, turnP y) ∧ ∀ l ∈ x.Ls.1, layP l x.C) ∧ ∀ m ∈ x.M.1.take i, shpP m.mat x.C.Vocab x.C.Width))), (108, sla x.M), (109, .int .i64 x.M.1.length), (110, .int .i64 i)])
      x.M.1.length ⟨0, by simp, rfl, rfl, rfl, ?_, rfl, rfl, rfl, trivial⟩ ?_
    · exact congrArg Value.bool (pdc ⟨fun h => ⟨h, by simp⟩, fun h => h.1⟩)
    rintro k ρ L ⟨i, hik, rfl, hs⟩
    refine XC.slots _ hs ?_
    (repeat (first | (with_reducible apply XL.op) | ((with_reducible apply XOp.p1); (case hg | hv => exact rfl)) | (with_reducible apply XL.nilT) | (with_reducible apply XC.seq) | (with_reducible apply XC.region (Γ := Γ))))
    ((with_reducible apply XC.cond); (case hc => exact rfl); all_goals (intro hb_; try simp only [pd_true, pd_false, Bool.not_eq_true', Bool.not_eq_false', Bool.and_eq_true, Bool.and_eq_false_iff, Bool.or_eq_true, Bool.or_eq_false_iff, not_true_eq_false, not_false_eq_true, Int.not_lt, Int.not_le] at hb_))
    · obtain ⟨l, hi⟩ : ∃ l, x.M.1[i]? = some l := ⟨_, List.getElem?_eq_getElem (by omega)⟩
      have hl := hA.m.locAt (List.mem_of_getElem? hi)
      have hn : (∀ z ∈ x.M.1.take (i + 1), shpP z.mat x.C.Vocab x.C.Width) ↔ (∀ z ∈ x.M.1.take i, shpP z.mat x.C.Vocab x.C.Width) ∧ shpP l.mat x.C.Vocab x.C.Width := by
        rw [take_snocD hi]; simp only [List.forall_mem_append, List.forall_mem_singleton]
      (repeat (first | (with_reducible apply XL.op) | ((with_reducible apply XOp.pr); (case hg => exact rfl); (case hr => ((with_reducible apply PR.idxA); (case ht | hk | he | hx | hi => exact rfl); (case hr => first | assumption | omega); (case ha => first | assumption | exact SlA.at_ (by assumption))))) | (with_reducible apply XC.seq) | (with_reducible apply XC.region (Γ := Γ)) | (with_reducible apply XQ.skip) | (with_reducible apply XQ.nt) | (with_reducible apply XC.block) | (first | ((with_reducible apply XOp.loadN); (case hg | ht | hk | hx => exact rfl); (case hc => exact Known.of_old (hM.rawAt hi) (Mono.row _ _ _)); (case hl => exact rfl)) | ((with_reducible apply XP.loadN); (case ho | hg | ht | hk | hx => exact rfl); (case hc => exact Known.of_old (hM.rawAt hi) (Mono.row _ _ _)); (case hl => exact rfl)))))
      ((with_reducible apply XOp.alloc); (case hg | ht | hx' => exact rfl); intro mb)
      (repeat' (first | (with_reducible apply XL.op) | ((with_reducible apply XOp.p1); (case hg | hv => exact rfl)) | ((with_reducible apply XOp.p0); (case hg => exact rfl)) | ((with_reducible apply XOp.load); (case hg | ht | hk | hx => exact rfl); (case hc => exact own_cell (i := 1) rfl rfl)) | ((with_reducible apply XOp.loadO (i := 0)); (case hg | ht | hk | hx | hi | hc => exact rfl)) | ((with_reducible apply XOp.storeN (i := 0)); (case hg | ht | hx | hv' | hk | h1 | hi | hs | ha => exact rfl)) | (with_reducible apply XL.nilT) | (with_reducible apply XC.region (Γ := Γ)) | (with_reducible apply XL.nilQ) | (with_reducible apply XQ.nt) | (with_reducible apply XQ.nb) | (((with_reducible apply XOp.callQ (hF := shapedL_fn l _ _)); (case hg => exact rfl); (case hc => exact rfl); (case ha => exact rfl); try (case hA => exact Known.true)); (case hA => exact Known.of_old hl (lm_mono _)); rintro _ rfl) | ((with_reducible apply XOp.split); (case hg | hj | hd | hb => exact rfl); (fail_if_success (case hf => exact fun h => Bool.noConfusion h)); (fail_if_success (case ht => exact fun h => Bool.noConfusion h)); all_goals (intro hb_; try simp only [pd_true, pd_false, Bool.not_eq_true', Bool.not_eq_false', Bool.and_eq_true, Bool.and_eq_false_iff, Bool.or_eq_true, Bool.or_eq_false_iff, not_true_eq_false, not_false_eq_true, Int.not_lt, Int.not_le] at hb_))))
      all_goals refine ⟨k - 1, by omega, _, .of (List.sublist_cons_self _ _), i + 1, by omega, rfl, rfl, rfl, ?_, rfl, rfl, intS2 (m := x.M.1.length) (by omega) (by omega), trivial⟩
      all_goals refine congrArg Value.bool ?_
      all_goals rw [hn]
      · exact pdc ⟨fun h => ⟨hb_.1, hb_.2, h⟩, fun h => h.2.2⟩
      · exact (pdf fun h => hb_ ⟨h.1, h.2.1⟩).symm
    obtain rfl : i = x.M.1.length := by omega
    rw [List.take_length]
    have hall : (((okP1 x ∧ ∀ y ∈ x.T.1, turnP y) ∧ ∀ l ∈ x.Ls.1, layP l x.C) ∧ ∀ m ∈ x.M.1, shpP m.mat x.C.Vocab x.C.Width) ↔ okW x.w := by
      rw [← okP_iff hA]
      constructor
      · rintro ⟨⟨⟨p, t⟩, l⟩, m⟩
        exact ⟨hc, p.e, p.h, p.f, ⟨p.t, t⟩, p.ll, p.ml, l, m⟩
      · rintro ⟨_, p⟩
        exact ⟨⟨⟨⟨p.e, p.h, p.f, p.t.1, p.ll, p.ml⟩, p.t.2⟩, p.l⟩, p.m⟩
    rw [pdc hall]
    (repeat' (first | (with_reducible apply XL.op) | ((with_reducible apply XOp.p1); (case hg | hv => exact rfl)) | (with_reducible apply XL.nilT) | (with_reducible apply XC.seq) | (with_reducible apply XC.region (Γ := Γ)) | (with_reducible apply XQ.skip) | (with_reducible apply XQ.ret) | (with_reducible apply XQ.exit) | (with_reducible apply XQ.nt) | (with_reducible apply XQ.rt) | (with_reducible apply XQ.et) | ((with_reducible apply XQ.eb); (case hb => exact rfl)) | ((with_reducible apply XC.cond); (case hc => exact rfl); all_goals (intro hb_; try simp only [pd_true, pd_false, Bool.not_eq_true', Bool.not_eq_false', Bool.and_eq_true, Bool.and_eq_false_iff, Bool.or_eq_true, Bool.or_eq_false_iff, not_true_eq_false, not_false_eq_true, Int.not_lt, Int.not_le] at hb_))))
    · ((with_reducible apply XQ.retE); (case hr => exact .t rfl .nil))
      exact congrArg (Value.int .i64) (errW_no hc hb_).symm
    · ((with_reducible apply XQ.retE); (case hr => exact .t rfl .nil))
      exact congrArg (Value.int .i64) (errW_ok hb_).symm
end Go.Proofs.YtkppmmbcloaekaaGreatDoorX
/- Pieces of the program's Encode: a section behind the file's beginning; one list's bytes, two lists' bytes. -/
namespace Go.Proofs.YtkppmmbcloaekaaGreatDoorX
open Go Go.SX

theorem _root_.Go.SX.FC.pre {f : Nat} {vs : List Value} {L0 : HL} {A A' : HV → Prop} {Post : Value → HL → Prop} (h : FC Tryz.prog f vs L0 A Post) (hA : ∀ h, A' h → A h) : FC Tryz.prog f vs L0 A' Post :=
  ⟨h.1, fun w h1 h2 h3 => h.2 w h1 h2 (fun h hh => hA _ (h3 h hh))⟩
end Go.Proofs.YtkppmmbcloaekaaGreatDoorX
/- The program's Encode. -/
namespace Go.Proofs.YtkppmmbcloaekaaGreatDoorX
open Go Go.SX

def mlist (l : LL) : List LV := [l.q.d, l.k.d, l.v.d, l.o.d, l.g.d, l.u.d, l.d.d]
end Go.Proofs.YtkppmmbcloaekaaGreatDoorX
/- Are two weights the same? -/
namespace Go.Proofs.YtkppmmbcloaekaaGreatDoorX
open Go Go.SX

theorem lay_eq (x y : LL) : x.lay = y.lay ↔ x.n1.1 = y.n1.1 ∧ x.n2.1 = y.n2.1 ∧ x.q.mat = y.q.mat ∧ x.k.mat = y.k.mat ∧ x.v.mat = y.v.mat ∧ x.o.mat = y.o.mat ∧ x.g.mat = y.g.mat ∧ x.u.mat = y.u.mat ∧ x.d.mat = y.d.mat ∧ x.by_ = y.by_ := by
  simp only [LL.lay, Lay.mk.injEq]
end Go.Proofs.YtkppmmbcloaekaaGreatDoorX
/- Are two weights the same? -/
namespace Go.Proofs.YtkppmmbcloaekaaGreatDoorX
open Go Go.SX

theorem w_eq (x y : LW) : x.w = y.w ↔ x.C = y.C ∧ x.E.mat = y.E.mat ∧ x.T.1 = y.T.1 ∧ x.Ls.1.map LL.lay = y.Ls.1.map LL.lay ∧ x.F.1 = y.F.1 ∧ x.H.mat = y.H.mat ∧ x.M.1.map LM.mat = y.M.1.map LM.mat := by
  simp only [LW.w, Wts.mk.injEq]
end Go.Proofs.YtkppmmbcloaekaaGreatDoorX
/- What some blocks show of themselves; a layer whose lists have marks behind them. -/
namespace Go.Proofs.YtkppmmbcloaekaaGreatDoorX
open Go Go.SX

/-- Whoever sees the blocks F sees A. -/
def Held (F : HL) (A : HV → Prop) : Prop := ∀ h : HV, (∀ x ∈ F, h x.1 = some x.2) → A h
theorem Held.known {F : HL} {A : HV → Prop} (a : Held F A) {w0 : World} {K : List Nat} {L : HL} (s : ∀ x ∈ F, x ∈ L) : Known w0 K L A := fun h e => a h fun x hx => e.1 x (s x hx)
theorem Held.sub {F G : HL} {A : HV → Prop} (a : Held F A) (s : ∀ x ∈ F, x ∈ G) : Held G A := fun h hh => a h fun x hx => hh x (s x hx)
theorem Held.and {F : HL} {A B : HV → Prop} (a : Held F A) (b : Held F B) : Held F (fun h => A h ∧ B h) := fun h hh => ⟨a h hh, b h hh⟩
theorem Held.imp {F : HL} {A B : HV → Prop} (a : Held F A) (f : ∀ h, A h → B h) : Held F B := fun h hh => f h (a h hh)
theorem Held.frag {F : HL} {B : HV → Prop} (hb : B (fv F)) (m : Mono B) : Held F B := fun h hh => m _ _ (fun b o ho => by
  unfold fv at ho
  obtain ⟨x, hx, rfl⟩ := Option.map_eq_some_iff.1 ho
  have h1 := List.mem_of_find?_eq_some hx
  have h2 : x.1 = b := by simpa using List.find?_some hx
  rw [← h2]; exact hh x h1) hb
theorem Held.nil {A : HV → Prop} (h : ∀ h, A h) : Held [] A := fun x _ => h x
theorem Held.row {b : Nat} {cs : List Value} {t : Nat} {fz : Nat × Nat} {F : HL} (hm : (b, Obj.cells ⟨cs⟩ t fz) ∈ F) : Held F (fun h => rowv h b 0 cs) := fun h hh i v hv => by
  have h1 := hh _ hm
  simp only at h1
  simp [cellv, h1, hv]

/-- A list with 64 marks behind it, in a block of its own. -/
structure mkLv (h : HV) (x : LV) : Prop where
  at_ : lvAt h x
  marks : ∃ b, x.2 = (some ⟨b, 0, none⟩, x.1.length + 64) ∧ rowv h b 0 ((x.1 ++ mk64).map (.int .i8))
structure wideL (h : HV) (l : LL) : Prop where
  n1 : mkLv h l.n1
  n2 : mkLv h l.n2
  q : mkLv h l.q.d
  k : mkLv h l.k.d
  v : mkLv h l.v.d
  o : mkLv h l.o.d
  g : mkLv h l.g.d
  u : mkLv h l.u.d
  d : mkLv h l.d.d
theorem wideL.at {h : HV} {l : LL} (p : wideL h l) : llAt h l := ⟨p.n1.at_, p.n2.at_, p.q.at_, p.k.at_, p.v.at_, p.o.at_, p.g.at_, p.u.at_, p.d.at_⟩
/-- The same list, at another place. -/
abbrev mvd (x : LV) (b : Nat) : LV := (x.1, some ⟨b, 0, none⟩, x.1.length + 64)
end Go.Proofs.YtkppmmbcloaekaaGreatDoorX
/- Weights of their own, each list with marks behind it. -/
namespace Go.Proofs.YtkppmmbcloaekaaGreatDoorX
open Go Go.SX

def zlv : LV := ([], none, 0)
def zmat : LM := ⟨0, 0, zlv⟩
def zeroM : List Value := zmat.cells
def zeroT : List Value := turnV (0, 0)
def zlay (v : LV) : LL := ⟨v, zlv, zmat, zmat, zmat, zmat, zmat, zmat, zmat, 0, 0, 0, 0, 0, 0, 0⟩
def zeroL : List Value := (zlay zlv).cells
def zeroW : List Value := (⟨⟨0, 0, 0, 0, 0, 0, 0, 0⟩, zmat, ([], none, 0), ([], none, 0), zlv, zmat, ([], none, 0)⟩ : LW).cells
/-- A layer behind the end: its first list is one mark. -/
def tailL (h : HV) (l : LL) : Prop := ∃ b, l = zlay ([-77], some ⟨b, 0, none⟩, 1) ∧ cellv h ⟨b, 0, none⟩ = some (.int .i8 (-77))
def tailM : LM := ⟨-77, 0, zlv⟩
def tk64 : List (Int × Int) := List.replicate 64 (-77, 0)
def xcells (x : LW) (eb fb hb : Nat) : List Value := [.int .i64 x.C.Vocab, .int .i64 x.C.Width, .int .i64 x.C.Heads, .int .i64 x.C.KV, .int .i64 x.C.Layers, .int .i64 x.C.Hidden, .int .i64 x.C.Len, .int .i64 x.C.Medusa,
  .int .i64 x.E.r, .int .i64 x.E.c, slv (mvd x.E.d eb), sla x.T, sla x.Ls, slv (mvd x.F fb), .int .i64 x.H.r, .int .i64 x.H.c, slv (mvd x.H.d hb), sla x.M]
theorem flat_len {α : Type} (f : α → List Value) (k : Nat) (hk : ∀ x, (f x).length = k) : ∀ l : List α, (l.flatMap f).length = l.length * k
  | [] => by simp
  | x :: l => by rw [List.flatMap_cons, List.length_append, hk, flat_len f k hk l, List.length_cons, Nat.succ_mul]; omega
/-- What the blocks of such weights show, but for the list Final. -/
structure wideR (h : HV) (x : LW) : Prop where
  e : mkLv h x.E.d
  hd : mkLv h x.H.d
  t : ∃ b, x.T.2 = (some ⟨b, 0, none⟩, x.T.1.length + 64) ∧ rowv h b 0 ((x.T.1 ++ tk64).flatMap turnV)
  l : ∃ b tl, x.Ls.2 = (some ⟨b, 0, none⟩, x.Ls.1.length + 8) ∧ tl.length = 8 ∧ rowv h b 0 ((x.Ls.1 ++ tl).flatMap LL.cells) ∧ ∀ l ∈ tl, tailL h l
  ll : ∀ l ∈ x.Ls.1, wideL h l
  m : ∃ b, x.M.2 = (some ⟨b, 0, none⟩, x.M.1.length + 8) ∧ rowv h b 0 ((x.M.1 ++ List.replicate 8 tailM).flatMap LM.cells)
  mm : ∀ m ∈ x.M.1, mkLv h m.d
/-- Where the lists of such weights lie. -/
structure formW (x : LW) : Prop where
  t : ∃ b, x.T.2 = (some ⟨b, 0, none⟩, x.T.1.length + 64)
  l : ∃ b, x.Ls.2 = (some ⟨b, 0, none⟩, x.Ls.1.length + 8)
  m : ∃ b, x.M.2 = (some ⟨b, 0, none⟩, x.M.1.length + 8)
end Go.Proofs.YtkppmmbcloaekaaGreatDoorX
/- Are such weights as they were made, with the marks? -/
namespace Go.Proofs.YtkppmmbcloaekaaGreatDoorX
open Go Go.SX

end Go.Proofs.YtkppmmbcloaekaaGreatDoorX
/- Lists in memory of their own. -/
namespace Go.Proofs.YtkppmmbcloaekaaGreatDoorX
open Go Go.SX
/-- A list of numbers in memory of its own. -/
def OwnV (x : LV) (F : HL) : Prop := OwnS 127 1 (slv x) x.1.length (x.1.map (.int .i8)) F ∧ x.1.length * 1 ≤ 140737488355328 ∧ ∀ y ∈ x.1, inK .i8 y
theorem OwnV.held {x : LV} {F : HL} (h : OwnV x F) : Held F (fun h => lvAt h x) := by
  obtain ⟨xs, a, c⟩ := x
  obtain ⟨h1, h2, h3⟩ := h
  obtain ⟨a2, c2, e2, _, s2⟩ := h1.slA (by_ := 1) h3 h2
  obtain ⟨rfl, _, rfl⟩ := Value.slice.inj e2
  exact Held.frag s2 (Mono.sl _ _ _ _ _)
/-- Lists of numbers, each in memory of its own. -/
def OwnAll : List LV → HL → Prop
  | [], L => L = []
  | x :: xs, L => ∃ F G, OwnV x F ∧ OwnAll xs G ∧ L = F ++ G
theorem OwnAll.nil : OwnAll [] [] := rfl
theorem OwnV.all {x : LV} {F : HL} (h : OwnV x F) : OwnAll [x] F := ⟨F, [], h, rfl, (List.append_nil F).symm⟩
theorem OwnAll.app {xs ys : List LV} {F G : HL} (h : OwnAll xs F) (h2 : OwnAll ys G) : OwnAll (xs ++ ys) (F ++ G) := by
  induction xs generalizing F with
  | nil => obtain rfl := h; exact h2
  | cons x xs ih =>
    obtain ⟨A, B, ha, hb, rfl⟩ := h
    exact ⟨A, B ++ G, ha, ih hb, List.append_assoc _ _ _⟩
theorem OwnAll.held {xs : List LV} {F : HL} (h : OwnAll xs F) : Held F (fun h => ∀ x ∈ xs, lvAt h x) := by
  induction xs generalizing F with
  | nil => exact fun _ _ x hx => by simp at hx
  | cons x xs ih =>
    obtain ⟨A, B, ha, hb, rfl⟩ := h
    intro h hh y hy
    rcases List.mem_cons.1 hy with rfl | hy
    · exact ha.held h fun z hz => hh z (List.mem_append_left _ hz)
    · exact ih hb h (fun z hz => hh z (List.mem_append_right _ hz)) y hy
def LL.nl (l : LL) : List LV := [l.n1, l.n2, l.q.d, l.k.d, l.v.d, l.o.d, l.g.d, l.u.d, l.d.d]
def LW.nl (x : LW) : List LV := [x.E.d, x.F, x.H.d] ++ (x.Ls.1.flatMap LL.nl ++ x.M.1.map (·.d))
/-- Weights whose lists lie each in memory of its own. -/
structure OwnW (x : LW) (L : HL) : Prop where
  bt : x.T.1.length * 16 ≤ 140737488355328
  bl : x.Ls.1.length * 384 ≤ 140737488355328
  bm : x.M.1.length * 40 ≤ 140737488355328
  lists : ∃ Fn Ft Fl Fm : HL, OwnAll x.nl Fn ∧ OwnS 118 2 (sla x.T) x.T.1.length (x.T.1.flatMap turnV) Ft ∧ OwnS 81 30 (sla x.Ls) x.Ls.1.length (x.Ls.1.flatMap LL.cells) Fl ∧ OwnS 26 3 (sla x.M) x.M.1.length (x.M.1.flatMap LM.cells) Fm ∧ L.Perm (Fn ++ (Ft ++ (Fl ++ Fm)))
theorem raw_at {α : Type} {f : α → List Value} {k : Nat} {hk : ∀ x, (f x).length = k} {by_ e : Nat} {xs : List α} {a : Option Addr} {c : Nat} {F : HL} (h : OwnS e k (.slice a xs.length c) xs.length (xs.flatMap f) F) (hb : xs.length * by_ ≤ 140737488355328) :
    Held F (fun h => SlA (Kd.raw f k hk) by_ h xs a c) := by
  obtain ⟨a2, c2, e2, s2⟩ := h.raw (f := f) (k := k) (hk := hk) (by_ := by_) rfl hb
  obtain ⟨rfl, _, rfl⟩ := Value.slice.inj e2
  exact Held.frag s2 (Mono.sl _ _ _ _ _)
theorem OwnW.held {x : LW} {L : HL} (h : OwnW x L) : Held L (fun h => lwAt h x) := by
  obtain ⟨bt, bl, bm, Fn, Ft, Fl, Fm, h1, h2, h3, h4, hp⟩ := h
  intro h hh
  have g : ∀ {A : HL}, (∀ y ∈ A, y ∈ Fn ++ (Ft ++ (Fl ++ Fm))) → ∀ y ∈ A, _ := fun s y hy => hh y (hp.mem_iff.2 (s y hy))
  have q1 := h1.held h (g (A := Fn) fun y hy => by simp [hy])
  have q2 := raw_at (f := turnV) (k := 2) (hk := fun _ => rfl) (a := x.T.2.1) (c := x.T.2.2) h2 bt h (g (A := Ft) fun y hy => by simp [hy])
  have q3 := raw_at (f := LL.cells) (k := 30) (hk := fun _ => rfl) (a := x.Ls.2.1) (c := x.Ls.2.2) h3 bl h (g (A := Fl) fun y hy => by simp [hy])
  have q4 := raw_at (f := LM.cells) (k := 3) (hk := fun _ => rfl) (a := x.M.2.1) (c := x.M.2.2) h4 bm h (g (A := Fm) fun y hy => by simp [hy])
  refine ⟨q1 _ (by simp [LW.nl]), q2, SlA.ofRaw q3 fun l hl => ?_, q1 _ (by simp [LW.nl]), q1 _ (by simp [LW.nl]), SlA.ofRaw q4 fun m hm => q1 _ ?_⟩
  · have hin : ∀ y ∈ l.nl, lvAt h y := fun y hy => q1 y (by
      unfold LW.nl
      exact List.mem_append_right _ (List.mem_append_left _ (List.mem_flatMap.2 ⟨l, hl, hy⟩)))
    exact ⟨hin _ (by simp [LL.nl]), hin _ (by simp [LL.nl]), hin _ (by simp [LL.nl]), hin _ (by simp [LL.nl]), hin _ (by simp [LL.nl]), hin _ (by simp [LL.nl]), hin _ (by simp [LL.nl]), hin _ (by simp [LL.nl]), hin _ (by simp [LL.nl])⟩
  · unfold LW.nl
    exact List.mem_append_right _ (List.mem_append_right _ (List.mem_map.2 ⟨m, hm, rfl⟩))
theorem OwnAll.cons {x : LV} {xs : List LV} {F G : HL} (h : OwnV x F) (g : OwnAll xs G) : OwnAll (x :: xs) (F ++ G) := ⟨F, G, h, g, rfl⟩
/-- The same, in any order. -/
def OwnP (xs : List LV) (L : HL) : Prop := ∃ F, OwnAll xs F ∧ L.Perm F
theorem OwnP.nil : OwnP [] [] := ⟨[], rfl, List.Perm.refl _⟩
theorem OwnP.one {x : LV} {F : HL} (h : OwnV x F) : OwnP [x] F := ⟨F, h.all, List.Perm.refl _⟩
theorem OwnP.app {xs ys : List LV} {F G : HL} (h : OwnP xs F) (g : OwnP ys G) : OwnP (xs ++ ys) (F ++ G) := by
  obtain ⟨A, ha, pa⟩ := h
  obtain ⟨B, hb, pb⟩ := g
  exact ⟨A ++ B, ha.app hb, pa.append pb⟩
theorem OwnP.perm {xs : List LV} {F G : HL} (h : OwnP xs F) (p : G.Perm F) : OwnP xs G := by
  obtain ⟨A, ha, pa⟩ := h
  exact ⟨A, ha, p.trans pa⟩
theorem OwnP.snoc {D : List LM} {m : LM} {F G : HL} (h : OwnP (D.map (·.d)) G) (g : OwnV m.d F) : OwnP ((D ++ [m]).map (·.d)) (F ++ G) := by
  rw [List.map_append]
  exact OwnP.perm (h.app (OwnP.one g)) List.perm_append_comm
/-- These blocks, the lists' own, and others that nobody looks at. -/
def OwnX (B : HL) (xs : List LV) (G : HL) : Prop := ∃ G0 J, OwnAll xs G0 ∧ G.Perm (B ++ (G0 ++ J))
theorem OwnX.nil (B : HL) : OwnX B [] B := ⟨[], [], rfl, by simp⟩
theorem OwnX.add {B : HL} {xs ys : List LV} {F G : HL} (h : OwnX B xs G) (g : OwnP ys F) : OwnX B (xs ++ ys) (F ++ G) := by
  obtain ⟨A, J, ha, pa⟩ := h
  obtain ⟨C, hc, pc⟩ := g
  refine ⟨A ++ C, J, ha.app hc, (pc.append pa).trans ?_⟩
  refine perm_of_cnt fun p_ => ?_
  simp only [List.countP_append]; omega
end Go.Proofs.YtkppmmbcloaekaaGreatDoorX
