/-
  DERIVED. GIVEN WITH THE SEED: THE CARDS: each row of YtppggaiahkecoaaDoorRows.lean that lists a variable, with what it lists TIED to the program's text (the seventh form; the later family's looks); each row that meets fmt, with fmt's text TOLD by the authors' own Lean function (tested against real Go, not proved from fmt's source: count such statements apart). THE CARD IS WHAT COUNTS. Prove the row's statement (the work); the ties are given (YtppggaiahkecoaaDoorTie.lean); close each card by the builder's one call (the guide's Derived/Test/ToyasCard.lean, 'card_holds'). Laid BY PROGRAM, IN A SANDBOX (cutbox-door.mjs). By AI agents, Wed Nov 11 2026. No macro, syntax, notation, axiom, sorry.
-/
import Derived.Test.YtppggaiahkecoaaDoorRows
import GoSem.ClaimSeven
namespace Go.Proofs.YtppggaiahkecoaaDoor
namespace Rows

/-- THE TIED CARD OF 'augurlaw04.ModelEncodes'. -/
def modelEncodesCard : Claim7 := { stood := { row := modelEncodesRow, standIns := [], harness := (true, "9a4083864eeac005e8a1dad73c56ea8fc623e173200e1c562facc533ee269e31"), looks := false }, kinds := [], alts := [], laidByText := true, laidKinds := [.data], laidTests := true, laidLooks := .later }
def ModelEncodesCardSaid : Prop := Claim7.holds Tryd.pinned (.plain (OpenSpec.ofChange modelEncodesSpec)) modelEncodesCard

/-- THE TIED CARD OF 'augurlaw04.ModelLists'. -/
def modelListsCard : Claim7 := { stood := { row := modelListsRow, standIns := [], harness := (true, "9a4083864eeac005e8a1dad73c56ea8fc623e173200e1c562facc533ee269e31"), looks := false }, kinds := [], alts := [], laidByText := true, laidKinds := [.data], laidTests := true, laidLooks := .later }
def ModelListsCardSaid : Prop := Claim7.holds Tryd.pinned (.plain (OpenSpec.ofChange modelListsSpec)) modelListsCard

/-- THE TIED CARD OF 'augurlaw04.ModelTells'. -/
def modelTellsCard : Claim7 := { stood := { row := modelTellsRow, standIns := [], harness := (true, "9a4083864eeac005e8a1dad73c56ea8fc623e173200e1c562facc533ee269e31"), looks := false }, kinds := [], alts := [], laidByText := true, laidKinds := [.data], laidTests := true, laidLooks := .later }
def ModelTellsCardSaid : Prop := Claim7.holds Tryd.pinned (.plain (OpenSpec.ofChange modelTellsSpec)) modelTellsCard

/-- THE TIED CARD OF 'augurlaw04.ModelChecks'. -/
def modelChecksCard : Claim7 := { stood := { row := modelChecksRow, standIns := [], harness := (true, "9a4083864eeac005e8a1dad73c56ea8fc623e173200e1c562facc533ee269e31"), looks := false }, kinds := [], alts := [], laidByText := true, laidKinds := [.data], laidTests := true, laidLooks := .later }
def ModelChecksCardSaid : Prop := Claim7.holds Tryd.pinned (.plain (OpenSpec.ofChange modelChecksSpec)) modelChecksCard

/-- THE TIED CARD OF 'augurlaw04.ModelDecodes'. -/
def modelDecodesCard : Claim7 := { stood := { row := modelDecodesRow, standIns := [], harness := (true, "9a4083864eeac005e8a1dad73c56ea8fc623e173200e1c562facc533ee269e31"), looks := false }, kinds := [], alts := [], laidByText := true, laidKinds := [.data], laidTests := true, laidLooks := .later }
def ModelDecodesCardSaid : Prop := Claim7.holds Tryd.pinned (.plain (OpenSpec.ofChange modelDecodesSpec)) modelDecodesCard

/-- THE TIED CARD OF 'augurlaw04.ModelRounds'. -/
def modelRoundsCard : Claim7 := { stood := { row := modelRoundsRow, standIns := [], harness := (true, "9a4083864eeac005e8a1dad73c56ea8fc623e173200e1c562facc533ee269e31"), looks := false }, kinds := [], alts := [], laidByText := true, laidKinds := [.data], laidTests := true, laidLooks := .later }
def ModelRoundsCardSaid : Prop := Claim7.holds Tryd.pinned (.plain (OpenSpec.ofChange modelRoundsSpec)) modelRoundsCard

/-- THE SECOND FORM's CARD OF 'augurlaw04.ModelEncodes'. -/
def modelEncodesUptoCard : Claim7 := { stood := { row := modelEncodesUptoRow, standIns := [], harness := (true, "9a4083864eeac005e8a1dad73c56ea8fc623e173200e1c562facc533ee269e31"), looks := false }, kinds := [], alts := [], laidByText := true, laidKinds := [.data], laidTests := true, laidLooks := .later }
def ModelEncodesUptoCardSaid : Prop := Claim7.holds Tryd.pinned (.plain (OpenSpec.upto modelEncodesSpec)) modelEncodesUptoCard

/-- THE SECOND FORM's CARD OF 'augurlaw04.ModelLists'. -/
def modelListsUptoCard : Claim7 := { stood := { row := modelListsUptoRow, standIns := [], harness := (true, "9a4083864eeac005e8a1dad73c56ea8fc623e173200e1c562facc533ee269e31"), looks := false }, kinds := [], alts := [], laidByText := true, laidKinds := [.data], laidTests := true, laidLooks := .later }
def ModelListsUptoCardSaid : Prop := Claim7.holds Tryd.pinned (.plain (OpenSpec.upto modelListsSpec)) modelListsUptoCard

/-- THE SECOND FORM's CARD OF 'augurlaw04.ModelTells'. -/
def modelTellsUptoCard : Claim7 := { stood := { row := modelTellsUptoRow, standIns := [], harness := (true, "9a4083864eeac005e8a1dad73c56ea8fc623e173200e1c562facc533ee269e31"), looks := false }, kinds := [], alts := [], laidByText := true, laidKinds := [.data], laidTests := true, laidLooks := .later }
def ModelTellsUptoCardSaid : Prop := Claim7.holds Tryd.pinned (.plain (OpenSpec.upto modelTellsSpec)) modelTellsUptoCard

/-- THE SECOND FORM's CARD OF 'augurlaw04.ModelChecks'. -/
def modelChecksUptoCard : Claim7 := { stood := { row := modelChecksUptoRow, standIns := [], harness := (true, "9a4083864eeac005e8a1dad73c56ea8fc623e173200e1c562facc533ee269e31"), looks := false }, kinds := [], alts := [], laidByText := true, laidKinds := [.data], laidTests := true, laidLooks := .later }
def ModelChecksUptoCardSaid : Prop := Claim7.holds Tryd.pinned (.plain (OpenSpec.upto modelChecksSpec)) modelChecksUptoCard

/-- THE SECOND FORM's CARD OF 'augurlaw04.ModelDecodes'. -/
def modelDecodesUptoCard : Claim7 := { stood := { row := modelDecodesUptoRow, standIns := [], harness := (true, "9a4083864eeac005e8a1dad73c56ea8fc623e173200e1c562facc533ee269e31"), looks := false }, kinds := [], alts := [], laidByText := true, laidKinds := [.data], laidTests := true, laidLooks := .later }
def ModelDecodesUptoCardSaid : Prop := Claim7.holds Tryd.pinned (.plain (OpenSpec.upto modelDecodesSpec)) modelDecodesUptoCard

/-- THE SECOND FORM's CARD OF 'augurlaw04.ModelRounds'. -/
def modelRoundsUptoCard : Claim7 := { stood := { row := modelRoundsUptoRow, standIns := [], harness := (true, "9a4083864eeac005e8a1dad73c56ea8fc623e173200e1c562facc533ee269e31"), looks := false }, kinds := [], alts := [], laidByText := true, laidKinds := [.data], laidTests := true, laidLooks := .later }
def ModelRoundsUptoCardSaid : Prop := Claim7.holds Tryd.pinned (.plain (OpenSpec.upto modelRoundsSpec)) modelRoundsUptoCard
end Rows
end Go.Proofs.YtppggaiahkecoaaDoor
