/-
  NARROWER THAN 'FOR EVERY INPUT', by the rows' own cells (each row's printed sentence says how): WireUnquotes: laid · WireParses: laid · WirePrints: laid · WireLists: laid · WireRounds: laid · WireHeads: laid · WireApart: laid.
  DERIVED. THE GIVEN ROWS OF THIS SEAT. 7 by the template 'for every input the law returns true; each argument reads behind the call as it read before'; 0 by the template 'total and deterministic' (their statements: YtepfnakabafhlaaDoorTotals.lean).
  GIVEN WITH THE SEED: the statements are not yours to turn. If you find one false, say at which input.
  Laid BY PROGRAM, IN A SANDBOX (cutbox-rows.mjs): the forced cells as the released guide's own fill.sh prints them over the translation 560582941ff32bcb… (all of the seat's roots in one cut). By AI agents, Wed Nov 11 2026. No macro, syntax, notation, axiom, sorry.
-/
import Derived.Test.YtepfnakabafhlaaDoorChecked
import GoSem.Claim
import GoSem.ClaimJoined
import GoSem.ClaimMapViews
import Derived.JoinedTies
import Derived.KernelRfl
namespace Go.Proofs.YtepfnakabafhlaaDoor
/- THE CELL 'sum', in the pinned program and in every row, IS THE sha256 OF THE DUMP (.gsa) THAT YtepfnakabafhlaaDoorProg.lean LOADS. Nothing in Lean hashes anything: it is a label: what it is worth is what the hold of that sum in a sandbox is worth. -/
noncomputable def Tryd.pinned : Pinned := { name := "ytepfnakabafhlaadoor", sum := "560582941ff32bcbec1f64c87e2c51b05ca7d41f4b4788acbafb587a2b98b5a8", checked := Tryd.checked }
namespace Rows
def none {H : Type} : Left H := { results := [], args := [] }

/- WHAT THE LISTED PACKAGE-LEVEL VARIABLES READ AS WHEN THE CALL BEGINS. Each datum BY PROGRAM (the guide's laid-datum.mjs) off the statement by which the dump's own 'gosem.cut.vars' lays the variable. In a bare row this is a premise. The card (YtepfnakabafhlaaDoorCards.lean) ties it to the program's text. -/
def laid_math_bits_deBruijn32tab {H : Type} : DataW H := .agg [.lit (.int .u8 0), .lit (.int .u8 1), .lit (.int .u8 28), .lit (.int .u8 2), .lit (.int .u8 29), .lit (.int .u8 14), .lit (.int .u8 24), .lit (.int .u8 3), .lit (.int .u8 30), .lit (.int .u8 22), .lit (.int .u8 20), .lit (.int .u8 15), .lit (.int .u8 25), .lit (.int .u8 17), .lit (.int .u8 4), .lit (.int .u8 8), .lit (.int .u8 31), .lit (.int .u8 27), .lit (.int .u8 13), .lit (.int .u8 23), .lit (.int .u8 21), .lit (.int .u8 19), .lit (.int .u8 16), .lit (.int .u8 7), .lit (.int .u8 26), .lit (.int .u8 12), .lit (.int .u8 18), .lit (.int .u8 6), .lit (.int .u8 11), .lit (.int .u8 5), .lit (.int .u8 10), .lit (.int .u8 9)]
def laid_math_bits_deBruijn64tab {H : Type} : DataW H := .agg [.lit (.int .u8 0), .lit (.int .u8 1), .lit (.int .u8 56), .lit (.int .u8 2), .lit (.int .u8 57), .lit (.int .u8 49), .lit (.int .u8 28), .lit (.int .u8 3), .lit (.int .u8 61), .lit (.int .u8 58), .lit (.int .u8 42), .lit (.int .u8 50), .lit (.int .u8 38), .lit (.int .u8 29), .lit (.int .u8 17), .lit (.int .u8 4), .lit (.int .u8 62), .lit (.int .u8 47), .lit (.int .u8 59), .lit (.int .u8 36), .lit (.int .u8 45), .lit (.int .u8 43), .lit (.int .u8 51), .lit (.int .u8 22), .lit (.int .u8 53), .lit (.int .u8 39), .lit (.int .u8 33), .lit (.int .u8 30), .lit (.int .u8 24), .lit (.int .u8 18), .lit (.int .u8 12), .lit (.int .u8 5), .lit (.int .u8 63), .lit (.int .u8 55), .lit (.int .u8 48), .lit (.int .u8 27), .lit (.int .u8 60), .lit (.int .u8 41), .lit (.int .u8 37), .lit (.int .u8 16), .lit (.int .u8 46), .lit (.int .u8 35), .lit (.int .u8 44), .lit (.int .u8 21), .lit (.int .u8 52), .lit (.int .u8 32), .lit (.int .u8 23), .lit (.int .u8 11), .lit (.int .u8 54), .lit (.int .u8 26), .lit (.int .u8 40), .lit (.int .u8 15), .lit (.int .u8 34), .lit (.int .u8 20), .lit (.int .u8 31), .lit (.int .u8 10), .lit (.int .u8 25), .lit (.int .u8 14), .lit (.int .u8 19), .lit (.int .u8 9), .lit (.int .u8 13), .lit (.int .u8 8), .lit (.int .u8 7), .lit (.int .u8 6)]
def laid_internal_strconv_uint64pow10 {H : Type} : DataW H := .agg [.lit (.int .u64 1), .lit (.int .u64 10), .lit (.int .u64 100), .lit (.int .u64 1000), .lit (.int .u64 10000), .lit (.int .u64 100000), .lit (.int .u64 1000000), .lit (.int .u64 10000000), .lit (.int .u64 100000000), .lit (.int .u64 1000000000), .lit (.int .u64 10000000000), .lit (.int .u64 100000000000), .lit (.int .u64 1000000000000), .lit (.int .u64 10000000000000), .lit (.int .u64 100000000000000), .lit (.int .u64 1000000000000000), .lit (.int .u64 10000000000000000), .lit (.int .u64 100000000000000000), .lit (.int .u64 1000000000000000000), .lit (.int .u64 10000000000000000000)]
def laid_strconv_ErrRange {H : Type} : DataW H := .iface "*errors.errorString" (.ptr (.agg [.lit (.string [118, 97, 108, 117, 101, 32, 111, 117, 116, 32, 111, 102, 32, 114, 97, 110, 103, 101])]))
def laid_strconv_ErrSyntax {H : Type} : DataW H := .iface "*errors.errorString" (.ptr (.agg [.lit (.string [105, 110, 118, 97, 108, 105, 100, 32, 115, 121, 110, 116, 97, 120])]))
def laid_augur_wire_words {H : Type} : DataW H := .agg [.agg [.lit (.string [97, 115, 107]), .lit (.int .i64 6)], .agg [.lit (.string [99, 97, 110, 99, 101, 108]), .lit (.int .i64 0)], .agg [.lit (.string [111, 107]), .lit (.int .i64 0)], .agg [.lit (.string [101, 114, 114, 111, 114]), .lit (.int .i64 1)], .agg [.lit (.string [116, 101, 120, 116]), .lit (.int .i64 0)], .agg [.lit (.string [101, 110, 100]), .lit (.int .i64 1)]]

/-- 'augurlaw22.WireUnquotes': WHATEVER THE INPUT: true; the input reads as it did. -/
def wireUnquotesSpec : ChangeSpec := { name := "wireUnquotes", fn := fun _ => fun
  | [d] => { results := [.lit (.bool true)], args := [d] }
  | _ => none }
def wireUnquotesRow : OpenClaim := { program := "ytepfnakabafhlaadoor", sum := "560582941ff32bcbec1f64c87e2c51b05ca7d41f4b4788acbafb587a2b98b5a8", func := "augur/augurlaw22.WireUnquotes", spec := "wireUnquotes", inPlace := ["internal/bytealg.IndexByteString"], unfollowed := true, recurses := true, named := ["augur/wire.words", "strconv.ErrSyntax", "strconv.ErrRange", "internal/strconv.uint64pow10", "math/bits.deBruijn32tab", "math/bits.deBruijn64tab"], apart := false, laid := [("math/bits.deBruijn32tab", laid_math_bits_deBruijn32tab), ("math/bits.deBruijn64tab", laid_math_bits_deBruijn64tab), ("internal/strconv.uint64pow10", laid_internal_strconv_uint64pow10), ("strconv.ErrRange", laid_strconv_ErrRange), ("strconv.ErrSyntax", laid_strconv_ErrSyntax), ("augur/wire.words", laid_augur_wire_words)] }
def WireUnquotesSaid : Prop := wireUnquotesRow.holds Tryd.pinned (OpenSpec.ofChange wireUnquotesSpec)

/-- ITS FALSE NEIGHBOUR: 'it returns false'. Refute it at one input. -/
def wireUnquotesWrong : ChangeSpec := { name := "wireUnquotes", fn := fun _ => fun
  | [d] => { results := [.lit (.bool false)], args := [d] }
  | _ => none }
def WireUnquotesWrongFalsely : Prop := wireUnquotesRow.holds Tryd.pinned (OpenSpec.ofChange wireUnquotesWrong)

/-- 'augurlaw22.WireParses': WHATEVER THE INPUT: true; the input reads as it did. -/
def wireParsesSpec : ChangeSpec := { name := "wireParses", fn := fun _ => fun
  | [d] => { results := [.lit (.bool true)], args := [d] }
  | _ => none }
def wireParsesRow : OpenClaim := { program := "ytepfnakabafhlaadoor", sum := "560582941ff32bcbec1f64c87e2c51b05ca7d41f4b4788acbafb587a2b98b5a8", func := "augur/augurlaw22.WireParses", spec := "wireParses", inPlace := ["internal/bytealg.IndexByteString"], unfollowed := true, recurses := true, named := ["augur/wire.words", "strconv.ErrSyntax", "strconv.ErrRange", "internal/strconv.uint64pow10", "math/bits.deBruijn32tab", "math/bits.deBruijn64tab"], apart := false, laid := [("math/bits.deBruijn32tab", laid_math_bits_deBruijn32tab), ("math/bits.deBruijn64tab", laid_math_bits_deBruijn64tab), ("internal/strconv.uint64pow10", laid_internal_strconv_uint64pow10), ("strconv.ErrRange", laid_strconv_ErrRange), ("strconv.ErrSyntax", laid_strconv_ErrSyntax), ("augur/wire.words", laid_augur_wire_words)] }
def WireParsesSaid : Prop := wireParsesRow.holds Tryd.pinned (OpenSpec.ofChange wireParsesSpec)

/-- ITS FALSE NEIGHBOUR: 'it returns false'. Refute it at one input. -/
def wireParsesWrong : ChangeSpec := { name := "wireParses", fn := fun _ => fun
  | [d] => { results := [.lit (.bool false)], args := [d] }
  | _ => none }
def WireParsesWrongFalsely : Prop := wireParsesRow.holds Tryd.pinned (OpenSpec.ofChange wireParsesWrong)

/-- 'augurlaw22.WirePrints': WHATEVER THE INPUT: true; the input reads as it did. -/
def wirePrintsSpec : ChangeSpec := { name := "wirePrints", fn := fun _ => fun
  | [d] => { results := [.lit (.bool true)], args := [d] }
  | _ => none }
def wirePrintsRow : OpenClaim := { program := "ytepfnakabafhlaadoor", sum := "560582941ff32bcbec1f64c87e2c51b05ca7d41f4b4788acbafb587a2b98b5a8", func := "augur/augurlaw22.WirePrints", spec := "wirePrints", inPlace := ["internal/bytealg.IndexByteString"], unfollowed := true, recurses := true, named := ["augur/wire.words", "strconv.ErrSyntax", "strconv.ErrRange", "internal/strconv.uint64pow10", "math/bits.deBruijn32tab", "math/bits.deBruijn64tab"], apart := false, laid := [("math/bits.deBruijn32tab", laid_math_bits_deBruijn32tab), ("math/bits.deBruijn64tab", laid_math_bits_deBruijn64tab), ("internal/strconv.uint64pow10", laid_internal_strconv_uint64pow10), ("strconv.ErrRange", laid_strconv_ErrRange), ("strconv.ErrSyntax", laid_strconv_ErrSyntax), ("augur/wire.words", laid_augur_wire_words)] }
def WirePrintsSaid : Prop := wirePrintsRow.holds Tryd.pinned (OpenSpec.ofChange wirePrintsSpec)

/-- ITS FALSE NEIGHBOUR: 'it returns false'. Refute it at one input. -/
def wirePrintsWrong : ChangeSpec := { name := "wirePrints", fn := fun _ => fun
  | [d] => { results := [.lit (.bool false)], args := [d] }
  | _ => none }
def WirePrintsWrongFalsely : Prop := wirePrintsRow.holds Tryd.pinned (OpenSpec.ofChange wirePrintsWrong)

/-- 'augurlaw22.WireLists': WHATEVER THE INPUT: true; the input reads as it did. -/
def wireListsSpec : ChangeSpec := { name := "wireLists", fn := fun _ => fun
  | [d] => { results := [.lit (.bool true)], args := [d] }
  | _ => none }
def wireListsRow : OpenClaim := { program := "ytepfnakabafhlaadoor", sum := "560582941ff32bcbec1f64c87e2c51b05ca7d41f4b4788acbafb587a2b98b5a8", func := "augur/augurlaw22.WireLists", spec := "wireLists", inPlace := ["internal/bytealg.IndexByteString"], unfollowed := true, recurses := true, named := ["augur/wire.words", "strconv.ErrSyntax", "strconv.ErrRange", "internal/strconv.uint64pow10", "math/bits.deBruijn32tab", "math/bits.deBruijn64tab"], apart := false, laid := [("math/bits.deBruijn32tab", laid_math_bits_deBruijn32tab), ("math/bits.deBruijn64tab", laid_math_bits_deBruijn64tab), ("internal/strconv.uint64pow10", laid_internal_strconv_uint64pow10), ("strconv.ErrRange", laid_strconv_ErrRange), ("strconv.ErrSyntax", laid_strconv_ErrSyntax), ("augur/wire.words", laid_augur_wire_words)] }
def WireListsSaid : Prop := wireListsRow.holds Tryd.pinned (OpenSpec.ofChange wireListsSpec)

/-- ITS FALSE NEIGHBOUR: 'it returns false'. Refute it at one input. -/
def wireListsWrong : ChangeSpec := { name := "wireLists", fn := fun _ => fun
  | [d] => { results := [.lit (.bool false)], args := [d] }
  | _ => none }
def WireListsWrongFalsely : Prop := wireListsRow.holds Tryd.pinned (OpenSpec.ofChange wireListsWrong)

/-- 'augurlaw22.WireRounds': WHATEVER THE INPUT: true; the input reads as it did. -/
def wireRoundsSpec : ChangeSpec := { name := "wireRounds", fn := fun _ => fun
  | [d1, d2] => { results := [.lit (.bool true)], args := [d1, d2] }
  | _ => none }
def wireRoundsRow : OpenClaim := { program := "ytepfnakabafhlaadoor", sum := "560582941ff32bcbec1f64c87e2c51b05ca7d41f4b4788acbafb587a2b98b5a8", func := "augur/augurlaw22.WireRounds", spec := "wireRounds", inPlace := ["internal/bytealg.IndexByteString"], unfollowed := true, recurses := true, named := ["augur/wire.words", "strconv.ErrSyntax", "strconv.ErrRange", "internal/strconv.uint64pow10", "math/bits.deBruijn32tab", "math/bits.deBruijn64tab"], apart := false, laid := [("math/bits.deBruijn32tab", laid_math_bits_deBruijn32tab), ("math/bits.deBruijn64tab", laid_math_bits_deBruijn64tab), ("internal/strconv.uint64pow10", laid_internal_strconv_uint64pow10), ("strconv.ErrRange", laid_strconv_ErrRange), ("strconv.ErrSyntax", laid_strconv_ErrSyntax), ("augur/wire.words", laid_augur_wire_words)] }
def WireRoundsSaid : Prop := wireRoundsRow.holds Tryd.pinned (OpenSpec.ofChange wireRoundsSpec)

/-- ITS FALSE NEIGHBOUR: 'it returns false'. Refute it at one input. -/
def wireRoundsWrong : ChangeSpec := { name := "wireRounds", fn := fun _ => fun
  | [d1, d2] => { results := [.lit (.bool false)], args := [d1, d2] }
  | _ => none }
def WireRoundsWrongFalsely : Prop := wireRoundsRow.holds Tryd.pinned (OpenSpec.ofChange wireRoundsWrong)

/-- 'augurlaw22.WireHeads': WHATEVER THE INPUT: true; the input reads as it did. -/
def wireHeadsSpec : ChangeSpec := { name := "wireHeads", fn := fun _ => fun
  | [d1, d2, d3] => { results := [.lit (.bool true)], args := [d1, d2, d3] }
  | _ => none }
def wireHeadsRow : OpenClaim := { program := "ytepfnakabafhlaadoor", sum := "560582941ff32bcbec1f64c87e2c51b05ca7d41f4b4788acbafb587a2b98b5a8", func := "augur/augurlaw22.WireHeads", spec := "wireHeads", inPlace := ["internal/bytealg.IndexByteString"], unfollowed := true, recurses := true, named := ["augur/wire.words", "strconv.ErrSyntax", "strconv.ErrRange", "internal/strconv.uint64pow10", "math/bits.deBruijn32tab", "math/bits.deBruijn64tab"], apart := false, laid := [("math/bits.deBruijn32tab", laid_math_bits_deBruijn32tab), ("math/bits.deBruijn64tab", laid_math_bits_deBruijn64tab), ("internal/strconv.uint64pow10", laid_internal_strconv_uint64pow10), ("strconv.ErrRange", laid_strconv_ErrRange), ("strconv.ErrSyntax", laid_strconv_ErrSyntax), ("augur/wire.words", laid_augur_wire_words)] }
def WireHeadsSaid : Prop := wireHeadsRow.holds Tryd.pinned (OpenSpec.ofChange wireHeadsSpec)

/-- ITS FALSE NEIGHBOUR: 'it returns false'. Refute it at one input. -/
def wireHeadsWrong : ChangeSpec := { name := "wireHeads", fn := fun _ => fun
  | [d1, d2, d3] => { results := [.lit (.bool false)], args := [d1, d2, d3] }
  | _ => none }
def WireHeadsWrongFalsely : Prop := wireHeadsRow.holds Tryd.pinned (OpenSpec.ofChange wireHeadsWrong)

/-- 'augurlaw22.WireApart': WHATEVER THE INPUT: true; the input reads as it did. -/
def wireApartSpec : ChangeSpec := { name := "wireApart", fn := fun _ => fun
  | [d] => { results := [.lit (.bool true)], args := [d] }
  | _ => none }
def wireApartRow : OpenClaim := { program := "ytepfnakabafhlaadoor", sum := "560582941ff32bcbec1f64c87e2c51b05ca7d41f4b4788acbafb587a2b98b5a8", func := "augur/augurlaw22.WireApart", spec := "wireApart", inPlace := ["internal/bytealg.IndexByteString"], unfollowed := true, recurses := true, named := ["augur/wire.words", "strconv.ErrSyntax", "strconv.ErrRange", "internal/strconv.uint64pow10", "math/bits.deBruijn32tab", "math/bits.deBruijn64tab"], apart := false, laid := [("math/bits.deBruijn32tab", laid_math_bits_deBruijn32tab), ("math/bits.deBruijn64tab", laid_math_bits_deBruijn64tab), ("internal/strconv.uint64pow10", laid_internal_strconv_uint64pow10), ("strconv.ErrRange", laid_strconv_ErrRange), ("strconv.ErrSyntax", laid_strconv_ErrSyntax), ("augur/wire.words", laid_augur_wire_words)] }
def WireApartSaid : Prop := wireApartRow.holds Tryd.pinned (OpenSpec.ofChange wireApartSpec)

/-- ITS FALSE NEIGHBOUR: 'it returns false'. Refute it at one input. -/
def wireApartWrong : ChangeSpec := { name := "wireApart", fn := fun _ => fun
  | [d] => { results := [.lit (.bool false)], args := [d] }
  | _ => none }
def WireApartWrongFalsely : Prop := wireApartRow.holds Tryd.pinned (OpenSpec.ofChange wireApartWrong)

/- THE SECOND FORM. 'bulk': how many values and letters a reading holds, each counted each time it is reached (what is shared counts as often as it is met; a slice's spare places count too). A statement '..UptoSaid' is the law's where the arguments, and the package variables that the reading takes, are together of bulk at most 1048576: NARROWER than '..Said'. Prove '..Said' where nothing that the law and all that it calls make is longer than what came in: it says more and counts as full. Else prove '..UptoSaid'. A law counts once. -/
mutual
def uptoBulk {H : Type} : DataW H → Nat
  | .lit (.string bytes) => bytes.length + 1
  | .lit _ => 1
  | .nil => 1
  | .ptr d => uptoBulk d + 1
  | .slice elems spare => uptoBulkAll elems + uptoBulkAll spare + 1
  | .agg parts => uptoBulkAll parts + 1
  | .iface _ d => uptoBulk d + 1
  | .map entries => uptoBulkEntries entries + 1
  | .held _ => 1
def uptoBulkAll {H : Type} : List (DataW H) → Nat
  | [] => 0
  | d :: r => uptoBulk d + uptoBulkAll r
def uptoBulkEntries {H : Type} : List (Lit × DataW H) → Nat
  | [] => 0
  | x :: r => uptoBulkEntry x + uptoBulkEntries r
def uptoBulkEntry {H : Type} : Lit × DataW H → Nat
  | (.string bytes, d) => bytes.length + uptoBulk d + 1
  | (_, d) => uptoBulk d + 1
 end
def uptoSmall : (H : Type) → List (DataW H) → Bool := fun _ ds => decide (uptoBulkAll ds ≤ 1048576)
def OpenSpec.upto (s : _root_.Go.ChangeSpec) : _root_.Go.OpenSpec := { _root_.Go.OpenSpec.ofChange s with cond := some uptoSmall }

/-- 'augurlaw22.WireUnquotes', WHERE WHAT IT READS IS OF BULK AT MOST 1048576: true; the input reads as it did. -/
def wireUnquotesUptoRow : OpenClaim := { program := "ytepfnakabafhlaadoor", sum := "560582941ff32bcbec1f64c87e2c51b05ca7d41f4b4788acbafb587a2b98b5a8", func := "augur/augurlaw22.WireUnquotes", spec := "wireUnquotes", inPlace := ["internal/bytealg.IndexByteString"], unfollowed := true, recurses := true, named := ["augur/wire.words", "strconv.ErrSyntax", "strconv.ErrRange", "internal/strconv.uint64pow10", "math/bits.deBruijn32tab", "math/bits.deBruijn64tab"], apart := false, laid := [("math/bits.deBruijn32tab", laid_math_bits_deBruijn32tab), ("math/bits.deBruijn64tab", laid_math_bits_deBruijn64tab), ("internal/strconv.uint64pow10", laid_internal_strconv_uint64pow10), ("strconv.ErrRange", laid_strconv_ErrRange), ("strconv.ErrSyntax", laid_strconv_ErrSyntax), ("augur/wire.words", laid_augur_wire_words)], narrowed := true }
def WireUnquotesUptoSaid : Prop := wireUnquotesUptoRow.holds Tryd.pinned (OpenSpec.upto wireUnquotesSpec)

/-- 'augurlaw22.WireParses', WHERE WHAT IT READS IS OF BULK AT MOST 1048576: true; the input reads as it did. -/
def wireParsesUptoRow : OpenClaim := { program := "ytepfnakabafhlaadoor", sum := "560582941ff32bcbec1f64c87e2c51b05ca7d41f4b4788acbafb587a2b98b5a8", func := "augur/augurlaw22.WireParses", spec := "wireParses", inPlace := ["internal/bytealg.IndexByteString"], unfollowed := true, recurses := true, named := ["augur/wire.words", "strconv.ErrSyntax", "strconv.ErrRange", "internal/strconv.uint64pow10", "math/bits.deBruijn32tab", "math/bits.deBruijn64tab"], apart := false, laid := [("math/bits.deBruijn32tab", laid_math_bits_deBruijn32tab), ("math/bits.deBruijn64tab", laid_math_bits_deBruijn64tab), ("internal/strconv.uint64pow10", laid_internal_strconv_uint64pow10), ("strconv.ErrRange", laid_strconv_ErrRange), ("strconv.ErrSyntax", laid_strconv_ErrSyntax), ("augur/wire.words", laid_augur_wire_words)], narrowed := true }
def WireParsesUptoSaid : Prop := wireParsesUptoRow.holds Tryd.pinned (OpenSpec.upto wireParsesSpec)

/-- 'augurlaw22.WirePrints', WHERE WHAT IT READS IS OF BULK AT MOST 1048576: true; the input reads as it did. -/
def wirePrintsUptoRow : OpenClaim := { program := "ytepfnakabafhlaadoor", sum := "560582941ff32bcbec1f64c87e2c51b05ca7d41f4b4788acbafb587a2b98b5a8", func := "augur/augurlaw22.WirePrints", spec := "wirePrints", inPlace := ["internal/bytealg.IndexByteString"], unfollowed := true, recurses := true, named := ["augur/wire.words", "strconv.ErrSyntax", "strconv.ErrRange", "internal/strconv.uint64pow10", "math/bits.deBruijn32tab", "math/bits.deBruijn64tab"], apart := false, laid := [("math/bits.deBruijn32tab", laid_math_bits_deBruijn32tab), ("math/bits.deBruijn64tab", laid_math_bits_deBruijn64tab), ("internal/strconv.uint64pow10", laid_internal_strconv_uint64pow10), ("strconv.ErrRange", laid_strconv_ErrRange), ("strconv.ErrSyntax", laid_strconv_ErrSyntax), ("augur/wire.words", laid_augur_wire_words)], narrowed := true }
def WirePrintsUptoSaid : Prop := wirePrintsUptoRow.holds Tryd.pinned (OpenSpec.upto wirePrintsSpec)

/-- 'augurlaw22.WireLists', WHERE WHAT IT READS IS OF BULK AT MOST 1048576: true; the input reads as it did. -/
def wireListsUptoRow : OpenClaim := { program := "ytepfnakabafhlaadoor", sum := "560582941ff32bcbec1f64c87e2c51b05ca7d41f4b4788acbafb587a2b98b5a8", func := "augur/augurlaw22.WireLists", spec := "wireLists", inPlace := ["internal/bytealg.IndexByteString"], unfollowed := true, recurses := true, named := ["augur/wire.words", "strconv.ErrSyntax", "strconv.ErrRange", "internal/strconv.uint64pow10", "math/bits.deBruijn32tab", "math/bits.deBruijn64tab"], apart := false, laid := [("math/bits.deBruijn32tab", laid_math_bits_deBruijn32tab), ("math/bits.deBruijn64tab", laid_math_bits_deBruijn64tab), ("internal/strconv.uint64pow10", laid_internal_strconv_uint64pow10), ("strconv.ErrRange", laid_strconv_ErrRange), ("strconv.ErrSyntax", laid_strconv_ErrSyntax), ("augur/wire.words", laid_augur_wire_words)], narrowed := true }
def WireListsUptoSaid : Prop := wireListsUptoRow.holds Tryd.pinned (OpenSpec.upto wireListsSpec)

/-- 'augurlaw22.WireRounds', WHERE WHAT IT READS IS OF BULK AT MOST 1048576: true; the input reads as it did. -/
def wireRoundsUptoRow : OpenClaim := { program := "ytepfnakabafhlaadoor", sum := "560582941ff32bcbec1f64c87e2c51b05ca7d41f4b4788acbafb587a2b98b5a8", func := "augur/augurlaw22.WireRounds", spec := "wireRounds", inPlace := ["internal/bytealg.IndexByteString"], unfollowed := true, recurses := true, named := ["augur/wire.words", "strconv.ErrSyntax", "strconv.ErrRange", "internal/strconv.uint64pow10", "math/bits.deBruijn32tab", "math/bits.deBruijn64tab"], apart := false, laid := [("math/bits.deBruijn32tab", laid_math_bits_deBruijn32tab), ("math/bits.deBruijn64tab", laid_math_bits_deBruijn64tab), ("internal/strconv.uint64pow10", laid_internal_strconv_uint64pow10), ("strconv.ErrRange", laid_strconv_ErrRange), ("strconv.ErrSyntax", laid_strconv_ErrSyntax), ("augur/wire.words", laid_augur_wire_words)], narrowed := true }
def WireRoundsUptoSaid : Prop := wireRoundsUptoRow.holds Tryd.pinned (OpenSpec.upto wireRoundsSpec)

/-- 'augurlaw22.WireHeads', WHERE WHAT IT READS IS OF BULK AT MOST 1048576: true; the input reads as it did. -/
def wireHeadsUptoRow : OpenClaim := { program := "ytepfnakabafhlaadoor", sum := "560582941ff32bcbec1f64c87e2c51b05ca7d41f4b4788acbafb587a2b98b5a8", func := "augur/augurlaw22.WireHeads", spec := "wireHeads", inPlace := ["internal/bytealg.IndexByteString"], unfollowed := true, recurses := true, named := ["augur/wire.words", "strconv.ErrSyntax", "strconv.ErrRange", "internal/strconv.uint64pow10", "math/bits.deBruijn32tab", "math/bits.deBruijn64tab"], apart := false, laid := [("math/bits.deBruijn32tab", laid_math_bits_deBruijn32tab), ("math/bits.deBruijn64tab", laid_math_bits_deBruijn64tab), ("internal/strconv.uint64pow10", laid_internal_strconv_uint64pow10), ("strconv.ErrRange", laid_strconv_ErrRange), ("strconv.ErrSyntax", laid_strconv_ErrSyntax), ("augur/wire.words", laid_augur_wire_words)], narrowed := true }
def WireHeadsUptoSaid : Prop := wireHeadsUptoRow.holds Tryd.pinned (OpenSpec.upto wireHeadsSpec)

/-- 'augurlaw22.WireApart', WHERE WHAT IT READS IS OF BULK AT MOST 1048576: true; the input reads as it did. -/
def wireApartUptoRow : OpenClaim := { program := "ytepfnakabafhlaadoor", sum := "560582941ff32bcbec1f64c87e2c51b05ca7d41f4b4788acbafb587a2b98b5a8", func := "augur/augurlaw22.WireApart", spec := "wireApart", inPlace := ["internal/bytealg.IndexByteString"], unfollowed := true, recurses := true, named := ["augur/wire.words", "strconv.ErrSyntax", "strconv.ErrRange", "internal/strconv.uint64pow10", "math/bits.deBruijn32tab", "math/bits.deBruijn64tab"], apart := false, laid := [("math/bits.deBruijn32tab", laid_math_bits_deBruijn32tab), ("math/bits.deBruijn64tab", laid_math_bits_deBruijn64tab), ("internal/strconv.uint64pow10", laid_internal_strconv_uint64pow10), ("strconv.ErrRange", laid_strconv_ErrRange), ("strconv.ErrSyntax", laid_strconv_ErrSyntax), ("augur/wire.words", laid_augur_wire_words)], narrowed := true }
def WireApartUptoSaid : Prop := wireApartUptoRow.holds Tryd.pinned (OpenSpec.upto wireApartSpec)

end Rows
end Go.Proofs.YtepfnakabafhlaaDoor
