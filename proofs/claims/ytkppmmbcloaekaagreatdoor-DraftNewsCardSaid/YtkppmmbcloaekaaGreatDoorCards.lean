/-
  DERIVED. GIVEN WITH THE SEED: THE CARDS: each row of YtkppmmbcloaekaaGreatDoorRows.lean that lists a variable, with what it lists TIED to the program's text (the seventh form; the later family's looks); each row that meets fmt, with fmt's text TOLD by the authors' own Lean function (tested against real Go, not proved from fmt's source: count such statements apart). THE CARD IS WHAT COUNTS. Prove the row's statement (the work); the ties are given (YtkppmmbcloaekaaGreatDoorTie.lean); close each card by the builder's one call (the guide's Derived/Test/ToyasCard.lean, 'card_holds'). Laid BY PROGRAM, IN A SANDBOX (cutbox-door.mjs). By AI agents, Wed Nov 11 2026. No macro, syntax, notation, axiom, sorry.
-/
import Derived.Test.YtkppmmbcloaekaaGreatDoorRows
import GoSem.ClaimSeven
namespace Go.Proofs.YtkppmmbcloaekaaGreatDoor
namespace Rows

/-- THE TIED CARD OF 'augurlaw25.DraftNews'. -/
def draftNewsCard : Claim7 := { stood := { row := draftNewsRow, standIns := [], harness := (true, "7a19ec542959a2d149186379ea7b8d1b579d809c410e6419c704c640f6208814"), looks := true }, kinds := [], alts := [], laidByText := true, laidKinds := [.data, .data, .data, .data], laidTests := true, laidLooks := .later }
def DraftNewsCardSaid : Prop := Claim7.holds Tryz.pinned (.plain (OpenSpec.ofChange draftNewsSpec)) draftNewsCard

/-- THE SECOND FORM's CARD OF 'augurlaw25.DraftNews'. -/
def draftNewsUptoCard : Claim7 := { stood := { row := draftNewsUptoRow, standIns := [], harness := (true, "7a19ec542959a2d149186379ea7b8d1b579d809c410e6419c704c640f6208814"), looks := true }, kinds := [], alts := [], laidByText := true, laidKinds := [.data, .data, .data, .data], laidTests := true, laidLooks := .later }
def DraftNewsUptoCardSaid : Prop := Claim7.holds Tryz.pinned (.plain (OpenSpec.upto draftNewsSpec)) draftNewsUptoCard
end Rows
end Go.Proofs.YtkppmmbcloaekaaGreatDoor
