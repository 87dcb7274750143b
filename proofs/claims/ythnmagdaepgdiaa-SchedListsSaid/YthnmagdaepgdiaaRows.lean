/-
  No cell of these rows narrows 'for every input' (looked for: loops, veiled, ifaces, maps, wideKeys, modest, calm, conditions, laid).
  DERIVED. THE GIVEN ROWS OF THIS SEAT. 9 by the template 'for every input the law returns true; each argument reads behind the call as it read before'; 0 by the template 'total and deterministic' (their statements: YthnmagdaepgdiaaTotals.lean).
  GIVEN WITH THE SEED: the statements are not yours to turn. If you find one false, say at which input.
  Laid BY PROGRAM, IN A SANDBOX (cutbox-rows.mjs): the forced cells as the released guide's own fill.sh prints them over the translation cbe58c65f96f4439… (all of the seat's roots in one cut). By AI agents, Wed Nov 11 2026. No macro, syntax, notation, axiom, sorry.
-/
import Derived.Test.YthnmagdaepgdiaaChecked
import GoSem.Claim
import GoSem.ClaimJoined
import GoSem.ClaimMapViews
import Derived.JoinedTies
import Derived.KernelRfl
namespace Go.Proofs.Ythnmagdaepgdiaa
/- THE CELL 'sum', in the pinned program and in every row, IS THE sha256 OF THE DUMP (.gsa) THAT YthnmagdaepgdiaaProg.lean LOADS. Nothing in Lean hashes anything: it is a label: what it is worth is what the hold of that sum in a sandbox is worth. -/
noncomputable def Try.pinned : Pinned := { name := "ythnmagdaepgdiaa", sum := "cbe58c65f96f443976b6924b2d044b06864a2a2fb88d2eabbee529748e1bdf7e", checked := Try.checked }
namespace Rows
def none {H : Type} : Left H := { results := [], args := [] }

/-- 'augurlaw19.SchedChecks': WHATEVER THE INPUT: true; the input reads as it did. -/
def schedChecksSpec : ChangeSpec := { name := "schedChecks", fn := fun _ => fun
  | [d1, d2] => { results := [.lit (.bool true)], args := [d1, d2] }
  | _ => none }
def schedChecksRow : OpenClaim := { program := "ythnmagdaepgdiaa", sum := "cbe58c65f96f443976b6924b2d044b06864a2a2fb88d2eabbee529748e1bdf7e", func := "augur/augurlaw19.SchedChecks", spec := "schedChecks", unfollowed := true, recurses := true, apart := false }
def SchedChecksSaid : Prop := schedChecksRow.holds Try.pinned (OpenSpec.ofChange schedChecksSpec)

/-- ITS FALSE NEIGHBOUR: 'it returns false'. Refute it at one input. -/
def schedChecksWrong : ChangeSpec := { name := "schedChecks", fn := fun _ => fun
  | [d1, d2] => { results := [.lit (.bool false)], args := [d1, d2] }
  | _ => none }
def SchedChecksWrongFalsely : Prop := schedChecksRow.holds Try.pinned (OpenSpec.ofChange schedChecksWrong)

/-- 'augurlaw19.SchedMakes': WHATEVER THE INPUT: true; the input reads as it did. -/
def schedMakesSpec : ChangeSpec := { name := "schedMakes", fn := fun _ => fun
  | [d1, d2, d3] => { results := [.lit (.bool true)], args := [d1, d2, d3] }
  | _ => none }
def schedMakesRow : OpenClaim := { program := "ythnmagdaepgdiaa", sum := "cbe58c65f96f443976b6924b2d044b06864a2a2fb88d2eabbee529748e1bdf7e", func := "augur/augurlaw19.SchedMakes", spec := "schedMakes", inPlace := ["internal/reflectlite.ValueOf", "internal/reflectlite.Swapper", "(internal/reflectlite.Value).Len"], unfollowed := true, recurses := true, apart := false }
def SchedMakesSaid : Prop := schedMakesRow.holds Try.pinned (OpenSpec.ofChange schedMakesSpec)

/-- ITS FALSE NEIGHBOUR: 'it returns false'. Refute it at one input. -/
def schedMakesWrong : ChangeSpec := { name := "schedMakes", fn := fun _ => fun
  | [d1, d2, d3] => { results := [.lit (.bool false)], args := [d1, d2, d3] }
  | _ => none }
def SchedMakesWrongFalsely : Prop := schedMakesRow.holds Try.pinned (OpenSpec.ofChange schedMakesWrong)

/-- 'augurlaw19.SchedLists': WHATEVER THE INPUT: true; the input reads as it did. -/
def schedListsSpec : ChangeSpec := { name := "schedLists", fn := fun _ => fun
  | [d1, d2, d3] => { results := [.lit (.bool true)], args := [d1, d2, d3] }
  | _ => none }
def schedListsRow : OpenClaim := { program := "ythnmagdaepgdiaa", sum := "cbe58c65f96f443976b6924b2d044b06864a2a2fb88d2eabbee529748e1bdf7e", func := "augur/augurlaw19.SchedLists", spec := "schedLists", inPlace := ["internal/reflectlite.ValueOf", "internal/reflectlite.Swapper", "(internal/reflectlite.Value).Len"], unfollowed := true, recurses := true, apart := false }
def SchedListsSaid : Prop := schedListsRow.holds Try.pinned (OpenSpec.ofChange schedListsSpec)

/-- ITS FALSE NEIGHBOUR: 'it returns false'. Refute it at one input. -/
def schedListsWrong : ChangeSpec := { name := "schedLists", fn := fun _ => fun
  | [d1, d2, d3] => { results := [.lit (.bool false)], args := [d1, d2, d3] }
  | _ => none }
def SchedListsWrongFalsely : Prop := schedListsRow.holds Try.pinned (OpenSpec.ofChange schedListsWrong)

/-- 'augurlaw19.SchedBudget': WHATEVER THE INPUT: true; the input reads as it did. -/
def schedBudgetSpec : ChangeSpec := { name := "schedBudget", fn := fun _ => fun
  | [d1, d2, d3] => { results := [.lit (.bool true)], args := [d1, d2, d3] }
  | _ => none }
def schedBudgetRow : OpenClaim := { program := "ythnmagdaepgdiaa", sum := "cbe58c65f96f443976b6924b2d044b06864a2a2fb88d2eabbee529748e1bdf7e", func := "augur/augurlaw19.SchedBudget", spec := "schedBudget", inPlace := ["internal/reflectlite.ValueOf", "internal/reflectlite.Swapper", "(internal/reflectlite.Value).Len"], unfollowed := true, recurses := true, apart := false }
def SchedBudgetSaid : Prop := schedBudgetRow.holds Try.pinned (OpenSpec.ofChange schedBudgetSpec)

/-- ITS FALSE NEIGHBOUR: 'it returns false'. Refute it at one input. -/
def schedBudgetWrong : ChangeSpec := { name := "schedBudget", fn := fun _ => fun
  | [d1, d2, d3] => { results := [.lit (.bool false)], args := [d1, d2, d3] }
  | _ => none }
def SchedBudgetWrongFalsely : Prop := schedBudgetRow.holds Try.pinned (OpenSpec.ofChange schedBudgetWrong)

/-- 'augurlaw19.SchedRoom': WHATEVER THE INPUT: true; the input reads as it did. -/
def schedRoomSpec : ChangeSpec := { name := "schedRoom", fn := fun _ => fun
  | [d1, d2, d3] => { results := [.lit (.bool true)], args := [d1, d2, d3] }
  | _ => none }
def schedRoomRow : OpenClaim := { program := "ythnmagdaepgdiaa", sum := "cbe58c65f96f443976b6924b2d044b06864a2a2fb88d2eabbee529748e1bdf7e", func := "augur/augurlaw19.SchedRoom", spec := "schedRoom", inPlace := ["internal/reflectlite.ValueOf", "internal/reflectlite.Swapper", "(internal/reflectlite.Value).Len"], unfollowed := true, recurses := true, apart := false }
def SchedRoomSaid : Prop := schedRoomRow.holds Try.pinned (OpenSpec.ofChange schedRoomSpec)

/-- ITS FALSE NEIGHBOUR: 'it returns false'. Refute it at one input. -/
def schedRoomWrong : ChangeSpec := { name := "schedRoom", fn := fun _ => fun
  | [d1, d2, d3] => { results := [.lit (.bool false)], args := [d1, d2, d3] }
  | _ => none }
def SchedRoomWrongFalsely : Prop := schedRoomRow.holds Try.pinned (OpenSpec.ofChange schedRoomWrong)

/-- 'augurlaw19.SchedOldest': WHATEVER THE INPUT: true; the input reads as it did. -/
def schedOldestSpec : ChangeSpec := { name := "schedOldest", fn := fun _ => fun
  | [d1, d2, d3] => { results := [.lit (.bool true)], args := [d1, d2, d3] }
  | _ => none }
def schedOldestRow : OpenClaim := { program := "ythnmagdaepgdiaa", sum := "cbe58c65f96f443976b6924b2d044b06864a2a2fb88d2eabbee529748e1bdf7e", func := "augur/augurlaw19.SchedOldest", spec := "schedOldest", inPlace := ["internal/reflectlite.ValueOf", "internal/reflectlite.Swapper", "(internal/reflectlite.Value).Len"], unfollowed := true, recurses := true, apart := false }
def SchedOldestSaid : Prop := schedOldestRow.holds Try.pinned (OpenSpec.ofChange schedOldestSpec)

/-- ITS FALSE NEIGHBOUR: 'it returns false'. Refute it at one input. -/
def schedOldestWrong : ChangeSpec := { name := "schedOldest", fn := fun _ => fun
  | [d1, d2, d3] => { results := [.lit (.bool false)], args := [d1, d2, d3] }
  | _ => none }
def SchedOldestWrongFalsely : Prop := schedOldestRow.holds Try.pinned (OpenSpec.ofChange schedOldestWrong)

/-- 'augurlaw19.SchedOuts': WHATEVER THE INPUT: true; the input reads as it did. -/
def schedOutsSpec : ChangeSpec := { name := "schedOuts", fn := fun _ => fun
  | [d1, d2, d3] => { results := [.lit (.bool true)], args := [d1, d2, d3] }
  | _ => none }
def schedOutsRow : OpenClaim := { program := "ythnmagdaepgdiaa", sum := "cbe58c65f96f443976b6924b2d044b06864a2a2fb88d2eabbee529748e1bdf7e", func := "augur/augurlaw19.SchedOuts", spec := "schedOuts", inPlace := ["internal/reflectlite.ValueOf", "internal/reflectlite.Swapper", "(internal/reflectlite.Value).Len"], unfollowed := true, recurses := true, apart := false }
def SchedOutsSaid : Prop := schedOutsRow.holds Try.pinned (OpenSpec.ofChange schedOutsSpec)

/-- ITS FALSE NEIGHBOUR: 'it returns false'. Refute it at one input. -/
def schedOutsWrong : ChangeSpec := { name := "schedOuts", fn := fun _ => fun
  | [d1, d2, d3] => { results := [.lit (.bool false)], args := [d1, d2, d3] }
  | _ => none }
def SchedOutsWrongFalsely : Prop := schedOutsRow.holds Try.pinned (OpenSpec.ofChange schedOutsWrong)

/-- 'augurlaw19.SchedPlenty': WHATEVER THE INPUT: true; the input reads as it did. -/
def schedPlentySpec : ChangeSpec := { name := "schedPlenty", fn := fun _ => fun
  | [d1, d2, d3] => { results := [.lit (.bool true)], args := [d1, d2, d3] }
  | _ => none }
def schedPlentyRow : OpenClaim := { program := "ythnmagdaepgdiaa", sum := "cbe58c65f96f443976b6924b2d044b06864a2a2fb88d2eabbee529748e1bdf7e", func := "augur/augurlaw19.SchedPlenty", spec := "schedPlenty", inPlace := ["internal/reflectlite.ValueOf", "internal/reflectlite.Swapper", "(internal/reflectlite.Value).Len"], unfollowed := true, recurses := true, apart := false }
def SchedPlentySaid : Prop := schedPlentyRow.holds Try.pinned (OpenSpec.ofChange schedPlentySpec)

/-- ITS FALSE NEIGHBOUR: 'it returns false'. Refute it at one input. -/
def schedPlentyWrong : ChangeSpec := { name := "schedPlenty", fn := fun _ => fun
  | [d1, d2, d3] => { results := [.lit (.bool false)], args := [d1, d2, d3] }
  | _ => none }
def SchedPlentyWrongFalsely : Prop := schedPlentyRow.holds Try.pinned (OpenSpec.ofChange schedPlentyWrong)

/-- 'augurlaw19.SchedPicks': WHATEVER THE INPUT: true; the input reads as it did. -/
def schedPicksSpec : ChangeSpec := { name := "schedPicks", fn := fun _ => fun
  | [d1, d2, d3] => { results := [.lit (.bool true)], args := [d1, d2, d3] }
  | _ => none }
def schedPicksRow : OpenClaim := { program := "ythnmagdaepgdiaa", sum := "cbe58c65f96f443976b6924b2d044b06864a2a2fb88d2eabbee529748e1bdf7e", func := "augur/augurlaw19.SchedPicks", spec := "schedPicks", inPlace := ["internal/reflectlite.ValueOf", "internal/reflectlite.Swapper", "(internal/reflectlite.Value).Len"], unfollowed := true, recurses := true, apart := false }
def SchedPicksSaid : Prop := schedPicksRow.holds Try.pinned (OpenSpec.ofChange schedPicksSpec)

/-- ITS FALSE NEIGHBOUR: 'it returns false'. Refute it at one input. -/
def schedPicksWrong : ChangeSpec := { name := "schedPicks", fn := fun _ => fun
  | [d1, d2, d3] => { results := [.lit (.bool false)], args := [d1, d2, d3] }
  | _ => none }
def SchedPicksWrongFalsely : Prop := schedPicksRow.holds Try.pinned (OpenSpec.ofChange schedPicksWrong)

/- THE SECOND FORM. 'bulk': how many values and letters a reading holds, each counted each time it is reached (what is shared counts as often as it is met; a slice's spare places count too). A statement '..UptoSaid' is the law's where the arguments, and the package variables that the reading takes, are together of bulk at most 1048576: NARROWER than '..Said'. Prove '..Said' where nothing that the law and all that it calls make is longer than what came in: it says more and counts as full. Else prove '..UptoSaid'. A law counts once. -/
mutual
def uptoBulk {H : Type} : DataW H → Nat
  | .lit (.string bytes) => bytes.length + 1
  | .lit _ => 1
  | .nil => 1
  | .ptr d => uptoBulk d + 1
  | .slice elems spare => uptoBulkAll elems + uptoBulkAll spare + 1
  | .agg parts => uptoBulkAll parts + 1
  | .iface _ d => uptoBulk d + 1
  | .map entries => uptoBulkEntries entries + 1
  | .held _ => 1
def uptoBulkAll {H : Type} : List (DataW H) → Nat
  | [] => 0
  | d :: r => uptoBulk d + uptoBulkAll r
def uptoBulkEntries {H : Type} : List (Lit × DataW H) → Nat
  | [] => 0
  | x :: r => uptoBulkEntry x + uptoBulkEntries r
def uptoBulkEntry {H : Type} : Lit × DataW H → Nat
  | (.string bytes, d) => bytes.length + uptoBulk d + 1
  | (_, d) => uptoBulk d + 1
 end
def uptoSmall : (H : Type) → List (DataW H) → Bool := fun _ ds => decide (uptoBulkAll ds ≤ 1048576)
def OpenSpec.upto (s : _root_.Go.ChangeSpec) : _root_.Go.OpenSpec := { _root_.Go.OpenSpec.ofChange s with cond := some uptoSmall }

/-- 'augurlaw19.SchedChecks', WHERE WHAT IT READS IS OF BULK AT MOST 1048576: true; the input reads as it did. -/
def schedChecksUptoRow : OpenClaim := { program := "ythnmagdaepgdiaa", sum := "cbe58c65f96f443976b6924b2d044b06864a2a2fb88d2eabbee529748e1bdf7e", func := "augur/augurlaw19.SchedChecks", spec := "schedChecks", unfollowed := true, recurses := true, apart := false, narrowed := true }
def SchedChecksUptoSaid : Prop := schedChecksUptoRow.holds Try.pinned (OpenSpec.upto schedChecksSpec)

/-- 'augurlaw19.SchedMakes', WHERE WHAT IT READS IS OF BULK AT MOST 1048576: true; the input reads as it did. -/
def schedMakesUptoRow : OpenClaim := { program := "ythnmagdaepgdiaa", sum := "cbe58c65f96f443976b6924b2d044b06864a2a2fb88d2eabbee529748e1bdf7e", func := "augur/augurlaw19.SchedMakes", spec := "schedMakes", inPlace := ["internal/reflectlite.ValueOf", "internal/reflectlite.Swapper", "(internal/reflectlite.Value).Len"], unfollowed := true, recurses := true, apart := false, narrowed := true }
def SchedMakesUptoSaid : Prop := schedMakesUptoRow.holds Try.pinned (OpenSpec.upto schedMakesSpec)

/-- 'augurlaw19.SchedLists', WHERE WHAT IT READS IS OF BULK AT MOST 1048576: true; the input reads as it did. -/
def schedListsUptoRow : OpenClaim := { program := "ythnmagdaepgdiaa", sum := "cbe58c65f96f443976b6924b2d044b06864a2a2fb88d2eabbee529748e1bdf7e", func := "augur/augurlaw19.SchedLists", spec := "schedLists", inPlace := ["internal/reflectlite.ValueOf", "internal/reflectlite.Swapper", "(internal/reflectlite.Value).Len"], unfollowed := true, recurses := true, apart := false, narrowed := true }
def SchedListsUptoSaid : Prop := schedListsUptoRow.holds Try.pinned (OpenSpec.upto schedListsSpec)

/-- 'augurlaw19.SchedBudget', WHERE WHAT IT READS IS OF BULK AT MOST 1048576: true; the input reads as it did. -/
def schedBudgetUptoRow : OpenClaim := { program := "ythnmagdaepgdiaa", sum := "cbe58c65f96f443976b6924b2d044b06864a2a2fb88d2eabbee529748e1bdf7e", func := "augur/augurlaw19.SchedBudget", spec := "schedBudget", inPlace := ["internal/reflectlite.ValueOf", "internal/reflectlite.Swapper", "(internal/reflectlite.Value).Len"], unfollowed := true, recurses := true, apart := false, narrowed := true }
def SchedBudgetUptoSaid : Prop := schedBudgetUptoRow.holds Try.pinned (OpenSpec.upto schedBudgetSpec)

/-- 'augurlaw19.SchedRoom', WHERE WHAT IT READS IS OF BULK AT MOST 1048576: true; the input reads as it did. -/
def schedRoomUptoRow : OpenClaim := { program := "ythnmagdaepgdiaa", sum := "cbe58c65f96f443976b6924b2d044b06864a2a2fb88d2eabbee529748e1bdf7e", func := "augur/augurlaw19.SchedRoom", spec := "schedRoom", inPlace := ["internal/reflectlite.ValueOf", "internal/reflectlite.Swapper", "(internal/reflectlite.Value).Len"], unfollowed := true, recurses := true, apart := false, narrowed := true }
def SchedRoomUptoSaid : Prop := schedRoomUptoRow.holds Try.pinned (OpenSpec.upto schedRoomSpec)

/-- 'augurlaw19.SchedOldest', WHERE WHAT IT READS IS OF BULK AT MOST 1048576: true; the input reads as it did. -/
def schedOldestUptoRow : OpenClaim := { program := "ythnmagdaepgdiaa", sum := "cbe58c65f96f443976b6924b2d044b06864a2a2fb88d2eabbee529748e1bdf7e", func := "augur/augurlaw19.SchedOldest", spec := "schedOldest", inPlace := ["internal/reflectlite.ValueOf", "internal/reflectlite.Swapper", "(internal/reflectlite.Value).Len"], unfollowed := true, recurses := true, apart := false, narrowed := true }
def SchedOldestUptoSaid : Prop := schedOldestUptoRow.holds Try.pinned (OpenSpec.upto schedOldestSpec)

/-- 'augurlaw19.SchedOuts', WHERE WHAT IT READS IS OF BULK AT MOST 1048576: true; the input reads as it did. -/
def schedOutsUptoRow : OpenClaim := { program := "ythnmagdaepgdiaa", sum := "cbe58c65f96f443976b6924b2d044b06864a2a2fb88d2eabbee529748e1bdf7e", func := "augur/augurlaw19.SchedOuts", spec := "schedOuts", inPlace := ["internal/reflectlite.ValueOf", "internal/reflectlite.Swapper", "(internal/reflectlite.Value).Len"], unfollowed := true, recurses := true, apart := false, narrowed := true }
def SchedOutsUptoSaid : Prop := schedOutsUptoRow.holds Try.pinned (OpenSpec.upto schedOutsSpec)

/-- 'augurlaw19.SchedPlenty', WHERE WHAT IT READS IS OF BULK AT MOST 1048576: true; the input reads as it did. -/
def schedPlentyUptoRow : OpenClaim := { program := "ythnmagdaepgdiaa", sum := "cbe58c65f96f443976b6924b2d044b06864a2a2fb88d2eabbee529748e1bdf7e", func := "augur/augurlaw19.SchedPlenty", spec := "schedPlenty", inPlace := ["internal/reflectlite.ValueOf", "internal/reflectlite.Swapper", "(internal/reflectlite.Value).Len"], unfollowed := true, recurses := true, apart := false, narrowed := true }
def SchedPlentyUptoSaid : Prop := schedPlentyUptoRow.holds Try.pinned (OpenSpec.upto schedPlentySpec)

/-- 'augurlaw19.SchedPicks', WHERE WHAT IT READS IS OF BULK AT MOST 1048576: true; the input reads as it did. -/
def schedPicksUptoRow : OpenClaim := { program := "ythnmagdaepgdiaa", sum := "cbe58c65f96f443976b6924b2d044b06864a2a2fb88d2eabbee529748e1bdf7e", func := "augur/augurlaw19.SchedPicks", spec := "schedPicks", inPlace := ["internal/reflectlite.ValueOf", "internal/reflectlite.Swapper", "(internal/reflectlite.Value).Len"], unfollowed := true, recurses := true, apart := false, narrowed := true }
def SchedPicksUptoSaid : Prop := schedPicksUptoRow.holds Try.pinned (OpenSpec.upto schedPicksSpec)

end Rows
end Go.Proofs.Ythnmagdaepgdiaa
