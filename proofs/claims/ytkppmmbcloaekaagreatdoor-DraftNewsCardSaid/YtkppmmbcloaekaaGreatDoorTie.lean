/-
  DERIVED. GIVEN WITH THE SEED: THE PROGRAM's TIES (one call each: nine closed facts by the kernel) AND EACH ROW's TIE, after the 31st guide's Derived/Test/Toyas{Tie, Card}.lean. No idea stands in it: it is a product of the set-up. Laid BY PROGRAM, IN A SANDBOX (cutbox-door.mjs). By AI agents, Wed Nov 11 2026. No macro, syntax, notation, axiom, sorry.
-/
import Derived.Test.YtkppmmbcloaekaaGreatDoorRows
import Derived.LaidByTextLater
import Derived.SevenTiedAt
import Derived.LaidSub
import Derived.LaidOnce
namespace Go.Proofs.YtkppmmbcloaekaaGreatDoor
open Go
set_option maxRecDepth 100000
theorem seatTie1 : Tryz.prog.laidByTextLater [("augur/fix.terms", Rows.laid_augur_fix_terms), ("augur/model.sides", Rows.laid_augur_model_sides), ("math/bits.deBruijn64tab", Rows.laid_math_bits_deBruijn64tab), ("augur/draw.rounds", Rows.laid_augur_draw_rounds)] [.data, .data, .data, .data] true :=
  Program.laidByTextLater_by_one 39 8 65 (by kernel_rfl) (by kernel_rfl) (by kernel_rfl) (by kernel_rfl) (by kernel_rfl) (by kernel_rfl) (fun _ _ => by kernel_rfl)
theorem noOwnUnsafe : Tryz.pinned.checked.prog.headLifts.contains "ownunsafe" = false := by kernel_rfl
theorem tie : Tryz.prog.laidByTextLater [("augur/fix.terms", Rows.laid_augur_fix_terms), ("augur/model.sides", Rows.laid_augur_model_sides), ("math/bits.deBruijn64tab", Rows.laid_math_bits_deBruijn64tab), ("augur/draw.rounds", Rows.laid_augur_draw_rounds)] [.data, .data, .data, .data] true :=
  Program.laidByTextLater.sub seatTie1 ["augur/fix.terms", "augur/model.sides", "math/bits.deBruijn64tab", "augur/draw.rounds"] (by kernel_rfl) (by kernel_rfl)
theorem draftNews_row_tie : Rows.draftNewsRow.laidByTextAt .later Tryz.pinned [.data, .data, .data, .data] true :=
  OpenClaim.laidByTextAt_later rfl rfl tie noOwnUnsafe
theorem draftNewsUpto_row_tie : Rows.draftNewsUptoRow.laidByTextAt .later Tryz.pinned [.data, .data, .data, .data] true :=
  OpenClaim.laidByTextAt_later rfl rfl tie noOwnUnsafe
end Go.Proofs.YtkppmmbcloaekaaGreatDoor
