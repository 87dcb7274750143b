/-
  DERIVED. GIVEN WITH THE SEED: THE CARDS: each row of YtopdcegeffnelaaGreatDoorRows.lean that lists a variable, with what it lists TIED to the program's text (the seventh form; the later family's looks); each row that meets fmt, with fmt's text TOLD by the authors' own Lean function (tested against real Go, not proved from fmt's source: count such statements apart). THE CARD IS WHAT COUNTS. Prove the row's statement (the work); the ties are given (YtopdcegeffnelaaGreatDoorTie.lean); close each card by the builder's one call (the guide's Derived/Test/ToyasCard.lean, 'card_holds'). Laid BY PROGRAM, IN A SANDBOX (cutbox-door.mjs). By AI agents, Wed Nov 11 2026. No macro, syntax, notation, axiom, sorry.
-/
import Derived.Test.YtopdcegeffnelaaGreatDoorRows
import GoSem.ClaimSeven
namespace Go.Proofs.YtopdcegeffnelaaGreatDoor
namespace Rows

/-- THE TIED CARD OF 'augurlaw20.EngineNews'. -/
def engineNewsCard : Claim7 := { stood := { row := engineNewsRow, standIns := [], harness := (true, "f6b2782c45cce57181813ee402af6f34ffe4711ccea5ce817fa0911f2413a42d"), looks := true }, kinds := [], alts := [], laidByText := true, laidKinds := [.data, .data, .data], laidTests := true, laidLooks := .later }
def EngineNewsCardSaid : Prop := Claim7.holds Tryz.pinned (.plain (OpenSpec.ofChange engineNewsSpec)) engineNewsCard

/-- THE TIED CARD OF 'augurlaw20.EngineNil'. -/
def engineNilCard : Claim7 := { stood := { row := engineNilRow, standIns := [], harness := (true, "f6b2782c45cce57181813ee402af6f34ffe4711ccea5ce817fa0911f2413a42d"), looks := true }, kinds := [], alts := [], laidByText := true, laidKinds := [.data, .data, .data, .data], laidTests := true, laidLooks := .later }
def EngineNilCardSaid : Prop := Claim7.holds Tryz.pinned (.plain (OpenSpec.ofChange engineNilSpec)) engineNilCard

/-- THE SECOND FORM's CARD OF 'augurlaw20.EngineNews'. -/
def engineNewsUptoCard : Claim7 := { stood := { row := engineNewsUptoRow, standIns := [], harness := (true, "f6b2782c45cce57181813ee402af6f34ffe4711ccea5ce817fa0911f2413a42d"), looks := true }, kinds := [], alts := [], laidByText := true, laidKinds := [.data, .data, .data], laidTests := true, laidLooks := .later }
def EngineNewsUptoCardSaid : Prop := Claim7.holds Tryz.pinned (.plain (OpenSpec.upto engineNewsSpec)) engineNewsUptoCard

/-- THE SECOND FORM's CARD OF 'augurlaw20.EngineNil'. -/
def engineNilUptoCard : Claim7 := { stood := { row := engineNilUptoRow, standIns := [], harness := (true, "f6b2782c45cce57181813ee402af6f34ffe4711ccea5ce817fa0911f2413a42d"), looks := true }, kinds := [], alts := [], laidByText := true, laidKinds := [.data, .data, .data, .data], laidTests := true, laidLooks := .later }
def EngineNilUptoCardSaid : Prop := Claim7.holds Tryz.pinned (.plain (OpenSpec.upto engineNilSpec)) engineNilUptoCard
end Rows
end Go.Proofs.YtopdcegeffnelaaGreatDoor
