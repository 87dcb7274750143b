/-
  NARROWER THAN 'FOR EVERY INPUT', by the rows' own cells (each row's printed sentence says how): ModelEncodes: laid · ModelLists: laid · ModelTells: laid · ModelChecks: laid · ModelDecodes: laid · ModelRounds: laid.
  DERIVED. THE GIVEN ROWS OF THIS SEAT. 6 by the template 'for every input the law returns true; each argument reads behind the call as it read before'; 0 by the template 'total and deterministic' (their statements: YtppggaiahkecoaaDoorTotals.lean).
  GIVEN WITH THE SEED: the statements are not yours to turn. If you find one false, say at which input.
  Laid BY PROGRAM, IN A SANDBOX (cutbox-rows.mjs): the forced cells as the released guide's own fill.sh prints them over the translation cf4acbaa62546c8e… (all of the seat's roots in one cut). By AI agents, Wed Nov 11 2026. No macro, syntax, notation, axiom, sorry.
-/
import Derived.Test.YtppggaiahkecoaaDoorChecked
import GoSem.Claim
import GoSem.ClaimJoined
import GoSem.ClaimMapViews
import Derived.JoinedTies
import Derived.KernelRfl
namespace Go.Proofs.YtppggaiahkecoaaDoor
/- THE CELL 'sum', in the pinned program and in every row, IS THE sha256 OF THE DUMP (.gsa) THAT YtppggaiahkecoaaDoorProg.lean LOADS. Nothing in Lean hashes anything: it is a label: what it is worth is what the hold of that sum in a sandbox is worth. -/
noncomputable def Tryd.pinned : Pinned := { name := "ytppggaiahkecoaadoor", sum := "cf4acbaa62546c8e17f03ec2f62e27971460827c7f06f781c3f718e67c983b45", checked := Tryd.checked }
namespace Rows
def none {H : Type} : Left H := { results := [], args := [] }

/- WHAT THE LISTED PACKAGE-LEVEL VARIABLES READ AS WHEN THE CALL BEGINS. Each datum BY PROGRAM (the guide's laid-datum.mjs) off the statement by which the dump's own 'gosem.cut.vars' lays the variable. In a bare row this is a premise. The card (YtppggaiahkecoaaDoorCards.lean) ties it to the program's text. -/
def laid_augur_model_sides {H : Type} : DataW H := .agg [.agg [.lit (.int .i64 0), .lit (.int .i64 0)], .agg [.lit (.int .i64 1), .lit (.int .i64 0)], .agg [.lit (.int .i64 1), .lit (.int .i64 0)], .agg [.lit (.int .i64 0), .lit (.int .i64 0)], .agg [.lit (.int .i64 2), .lit (.int .i64 0)], .agg [.lit (.int .i64 2), .lit (.int .i64 0)], .agg [.lit (.int .i64 0), .lit (.int .i64 2)]]

/-- 'augurlaw04.ModelEncodes': WHATEVER THE INPUT: true; the input reads as it did. -/
def modelEncodesSpec : ChangeSpec := { name := "modelEncodes", fn := fun _ => fun
  | [d] => { results := [.lit (.bool true)], args := [d] }
  | _ => none }
def modelEncodesRow : OpenClaim := { program := "ytppggaiahkecoaadoor", sum := "cf4acbaa62546c8e17f03ec2f62e27971460827c7f06f781c3f718e67c983b45", func := "augur/augurlaw04.ModelEncodes", spec := "modelEncodes", unfollowed := true, recurses := true, named := ["augur/model.sides"], apart := false, laid := [("augur/model.sides", laid_augur_model_sides)] }
def ModelEncodesSaid : Prop := modelEncodesRow.holds Tryd.pinned (OpenSpec.ofChange modelEncodesSpec)

/-- ITS FALSE NEIGHBOUR: 'it returns false'. Refute it at one input. -/
def modelEncodesWrong : ChangeSpec := { name := "modelEncodes", fn := fun _ => fun
  | [d] => { results := [.lit (.bool false)], args := [d] }
  | _ => none }
def ModelEncodesWrongFalsely : Prop := modelEncodesRow.holds Tryd.pinned (OpenSpec.ofChange modelEncodesWrong)

/-- 'augurlaw04.ModelLists': WHATEVER THE INPUT: true; the input reads as it did. -/
def modelListsSpec : ChangeSpec := { name := "modelLists", fn := fun _ => fun
  | [d] => { results := [.lit (.bool true)], args := [d] }
  | _ => none }
def modelListsRow : OpenClaim := { program := "ytppggaiahkecoaadoor", sum := "cf4acbaa62546c8e17f03ec2f62e27971460827c7f06f781c3f718e67c983b45", func := "augur/augurlaw04.ModelLists", spec := "modelLists", unfollowed := true, recurses := true, named := ["augur/model.sides"], apart := false, laid := [("augur/model.sides", laid_augur_model_sides)] }
def ModelListsSaid : Prop := modelListsRow.holds Tryd.pinned (OpenSpec.ofChange modelListsSpec)

/-- ITS FALSE NEIGHBOUR: 'it returns false'. Refute it at one input. -/
def modelListsWrong : ChangeSpec := { name := "modelLists", fn := fun _ => fun
  | [d] => { results := [.lit (.bool false)], args := [d] }
  | _ => none }
def ModelListsWrongFalsely : Prop := modelListsRow.holds Tryd.pinned (OpenSpec.ofChange modelListsWrong)

/-- 'augurlaw04.ModelTells': WHATEVER THE INPUT: true; the input reads as it did. -/
def modelTellsSpec : ChangeSpec := { name := "modelTells", fn := fun _ => fun
  | [d1, d2, d3, d4] => { results := [.lit (.bool true)], args := [d1, d2, d3, d4] }
  | _ => none }
def modelTellsRow : OpenClaim := { program := "ytppggaiahkecoaadoor", sum := "cf4acbaa62546c8e17f03ec2f62e27971460827c7f06f781c3f718e67c983b45", func := "augur/augurlaw04.ModelTells", spec := "modelTells", unfollowed := true, recurses := true, named := ["augur/model.sides"], apart := false, laid := [("augur/model.sides", laid_augur_model_sides)] }
def ModelTellsSaid : Prop := modelTellsRow.holds Tryd.pinned (OpenSpec.ofChange modelTellsSpec)

/-- ITS FALSE NEIGHBOUR: 'it returns false'. Refute it at one input. -/
def modelTellsWrong : ChangeSpec := { name := "modelTells", fn := fun _ => fun
  | [d1, d2, d3, d4] => { results := [.lit (.bool false)], args := [d1, d2, d3, d4] }
  | _ => none }
def ModelTellsWrongFalsely : Prop := modelTellsRow.holds Tryd.pinned (OpenSpec.ofChange modelTellsWrong)

/-- 'augurlaw04.ModelChecks': WHATEVER THE INPUT: true; the input reads as it did. -/
def modelChecksSpec : ChangeSpec := { name := "modelChecks", fn := fun _ => fun
  | [d] => { results := [.lit (.bool true)], args := [d] }
  | _ => none }
def modelChecksRow : OpenClaim := { program := "ytppggaiahkecoaadoor", sum := "cf4acbaa62546c8e17f03ec2f62e27971460827c7f06f781c3f718e67c983b45", func := "augur/augurlaw04.ModelChecks", spec := "modelChecks", unfollowed := true, recurses := true, named := ["augur/model.sides"], apart := false, laid := [("augur/model.sides", laid_augur_model_sides)] }
def ModelChecksSaid : Prop := modelChecksRow.holds Tryd.pinned (OpenSpec.ofChange modelChecksSpec)

/-- ITS FALSE NEIGHBOUR: 'it returns false'. Refute it at one input. -/
def modelChecksWrong : ChangeSpec := { name := "modelChecks", fn := fun _ => fun
  | [d] => { results := [.lit (.bool false)], args := [d] }
  | _ => none }
def ModelChecksWrongFalsely : Prop := modelChecksRow.holds Tryd.pinned (OpenSpec.ofChange modelChecksWrong)

/-- 'augurlaw04.ModelDecodes': WHATEVER THE INPUT: true; the input reads as it did. -/
def modelDecodesSpec : ChangeSpec := { name := "modelDecodes", fn := fun _ => fun
  | [d] => { results := [.lit (.bool true)], args := [d] }
  | _ => none }
def modelDecodesRow : OpenClaim := { program := "ytppggaiahkecoaadoor", sum := "cf4acbaa62546c8e17f03ec2f62e27971460827c7f06f781c3f718e67c983b45", func := "augur/augurlaw04.ModelDecodes", spec := "modelDecodes", unfollowed := true, recurses := true, named := ["augur/model.sides"], apart := false, laid := [("augur/model.sides", laid_augur_model_sides)] }
def ModelDecodesSaid : Prop := modelDecodesRow.holds Tryd.pinned (OpenSpec.ofChange modelDecodesSpec)

/-- ITS FALSE NEIGHBOUR: 'it returns false'. Refute it at one input. -/
def modelDecodesWrong : ChangeSpec := { name := "modelDecodes", fn := fun _ => fun
  | [d] => { results := [.lit (.bool false)], args := [d] }
  | _ => none }
def ModelDecodesWrongFalsely : Prop := modelDecodesRow.holds Tryd.pinned (OpenSpec.ofChange modelDecodesWrong)

/-- 'augurlaw04.ModelRounds': WHATEVER THE INPUT: true; the input reads as it did. -/
def modelRoundsSpec : ChangeSpec := { name := "modelRounds", fn := fun _ => fun
  | [d1, d2] => { results := [.lit (.bool true)], args := [d1, d2] }
  | _ => none }
def modelRoundsRow : OpenClaim := { program := "ytppggaiahkecoaadoor", sum := "cf4acbaa62546c8e17f03ec2f62e27971460827c7f06f781c3f718e67c983b45", func := "augur/augurlaw04.ModelRounds", spec := "modelRounds", unfollowed := true, recurses := true, named := ["augur/model.sides"], apart := false, laid := [("augur/model.sides", laid_augur_model_sides)] }
def ModelRoundsSaid : Prop := modelRoundsRow.holds Tryd.pinned (OpenSpec.ofChange modelRoundsSpec)

/-- ITS FALSE NEIGHBOUR: 'it returns false'. Refute it at one input. -/
def modelRoundsWrong : ChangeSpec := { name := "modelRounds", fn := fun _ => fun
  | [d1, d2] => { results := [.lit (.bool false)], args := [d1, d2] }
  | _ => none }
def ModelRoundsWrongFalsely : Prop := modelRoundsRow.holds Tryd.pinned (OpenSpec.ofChange modelRoundsWrong)

/- THE SECOND FORM. 'bulk': how many values and letters a reading holds, each counted each time it is reached (what is shared counts as often as it is met; a slice's spare places count too). A statement '..UptoSaid' is the law's where the arguments, and the package variables that the reading takes, are together of bulk at most 1048576: NARROWER than '..Said'. Prove '..Said' where nothing that the law and all that it calls make is longer than what came in: it says more and counts as full. Else prove '..UptoSaid'. A law counts once. -/
mutual
def uptoBulk {H : Type} : DataW H → Nat
  | .lit (.string bytes) => bytes.length + 1
  | .lit _ => 1
  | .nil => 1
  | .ptr d => uptoBulk d + 1
  | .slice elems spare => uptoBulkAll elems + uptoBulkAll spare + 1
  | .agg parts => uptoBulkAll parts + 1
  | .iface _ d => uptoBulk d + 1
  | .map entries => uptoBulkEntries entries + 1
  | .held _ => 1
def uptoBulkAll {H : Type} : List (DataW H) → Nat
  | [] => 0
  | d :: r => uptoBulk d + uptoBulkAll r
def uptoBulkEntries {H : Type} : List (Lit × DataW H) → Nat
  | [] => 0
  | x :: r => uptoBulkEntry x + uptoBulkEntries r
def uptoBulkEntry {H : Type} : Lit × DataW H → Nat
  | (.string bytes, d) => bytes.length + uptoBulk d + 1
  | (_, d) => uptoBulk d + 1
 end
def uptoSmall : (H : Type) → List (DataW H) → Bool := fun _ ds => decide (uptoBulkAll ds ≤ 1048576)
def OpenSpec.upto (s : _root_.Go.ChangeSpec) : _root_.Go.OpenSpec := { _root_.Go.OpenSpec.ofChange s with cond := some uptoSmall }

/-- 'augurlaw04.ModelEncodes', WHERE WHAT IT READS IS OF BULK AT MOST 1048576: true; the input reads as it did. -/
def modelEncodesUptoRow : OpenClaim := { program := "ytppggaiahkecoaadoor", sum := "cf4acbaa62546c8e17f03ec2f62e27971460827c7f06f781c3f718e67c983b45", func := "augur/augurlaw04.ModelEncodes", spec := "modelEncodes", unfollowed := true, recurses := true, named := ["augur/model.sides"], apart := false, laid := [("augur/model.sides", laid_augur_model_sides)], narrowed := true }
def ModelEncodesUptoSaid : Prop := modelEncodesUptoRow.holds Tryd.pinned (OpenSpec.upto modelEncodesSpec)

/-- 'augurlaw04.ModelLists', WHERE WHAT IT READS IS OF BULK AT MOST 1048576: true; the input reads as it did. -/
def modelListsUptoRow : OpenClaim := { program := "ytppggaiahkecoaadoor", sum := "cf4acbaa62546c8e17f03ec2f62e27971460827c7f06f781c3f718e67c983b45", func := "augur/augurlaw04.ModelLists", spec := "modelLists", unfollowed := true, recurses := true, named := ["augur/model.sides"], apart := false, laid := [("augur/model.sides", laid_augur_model_sides)], narrowed := true }
def ModelListsUptoSaid : Prop := modelListsUptoRow.holds Tryd.pinned (OpenSpec.upto modelListsSpec)

/-- 'augurlaw04.ModelTells', WHERE WHAT IT READS IS OF BULK AT MOST 1048576: true; the input reads as it did. -/
def modelTellsUptoRow : OpenClaim := { program := "ytppggaiahkecoaadoor", sum := "cf4acbaa62546c8e17f03ec2f62e27971460827c7f06f781c3f718e67c983b45", func := "augur/augurlaw04.ModelTells", spec := "modelTells", unfollowed := true, recurses := true, named := ["augur/model.sides"], apart := false, laid := [("augur/model.sides", laid_augur_model_sides)], narrowed := true }
def ModelTellsUptoSaid : Prop := modelTellsUptoRow.holds Tryd.pinned (OpenSpec.upto modelTellsSpec)

/-- 'augurlaw04.ModelChecks', WHERE WHAT IT READS IS OF BULK AT MOST 1048576: true; the input reads as it did. -/
def modelChecksUptoRow : OpenClaim := { program := "ytppggaiahkecoaadoor", sum := "cf4acbaa62546c8e17f03ec2f62e27971460827c7f06f781c3f718e67c983b45", func := "augur/augurlaw04.ModelChecks", spec := "modelChecks", unfollowed := true, recurses := true, named := ["augur/model.sides"], apart := false, laid := [("augur/model.sides", laid_augur_model_sides)], narrowed := true }
def ModelChecksUptoSaid : Prop := modelChecksUptoRow.holds Tryd.pinned (OpenSpec.upto modelChecksSpec)

/-- 'augurlaw04.ModelDecodes', WHERE WHAT IT READS IS OF BULK AT MOST 1048576: true; the input reads as it did. -/
def modelDecodesUptoRow : OpenClaim := { program := "ytppggaiahkecoaadoor", sum := "cf4acbaa62546c8e17f03ec2f62e27971460827c7f06f781c3f718e67c983b45", func := "augur/augurlaw04.ModelDecodes", spec := "modelDecodes", unfollowed := true, recurses := true, named := ["augur/model.sides"], apart := false, laid := [("augur/model.sides", laid_augur_model_sides)], narrowed := true }
def ModelDecodesUptoSaid : Prop := modelDecodesUptoRow.holds Tryd.pinned (OpenSpec.upto modelDecodesSpec)

/-- 'augurlaw04.ModelRounds', WHERE WHAT IT READS IS OF BULK AT MOST 1048576: true; the input reads as it did. -/
def modelRoundsUptoRow : OpenClaim := { program := "ytppggaiahkecoaadoor", sum := "cf4acbaa62546c8e17f03ec2f62e27971460827c7f06f781c3f718e67c983b45", func := "augur/augurlaw04.ModelRounds", spec := "modelRounds", unfollowed := true, recurses := true, named := ["augur/model.sides"], apart := false, laid := [("augur/model.sides", laid_augur_model_sides)], narrowed := true }
def ModelRoundsUptoSaid : Prop := modelRoundsUptoRow.holds Tryd.pinned (OpenSpec.upto modelRoundsSpec)

end Rows
end Go.Proofs.YtppggaiahkecoaaDoor
