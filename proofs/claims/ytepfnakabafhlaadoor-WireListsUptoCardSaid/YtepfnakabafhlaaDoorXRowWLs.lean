/- Rows.WireListsUptoCardSaid holds: the tied card of the law, out of its contract; written by roww.py. No condition but those of the statement. -/
import Derived.Test.YtepfnakabafhlaaDoorRows
import Derived.Test.YtepfnakabafhlaaDoorTie
import Derived.Test.YtepfnakabafhlaaDoorCards
import Derived.Test.YtepfnakabafhlaaDoorXPWLs3
import Derived.Test.YtepfnakabafhlaaDoorXPWLs7
import Derived.ProofKit
import Derived.OpenShut
import Derived.ChangeOld
import Derived.SizedLaws
import Derived.LaidMore
import Derived.LaidHandle
import Derived.Stop.Joined
import Derived.SevenTiedAt
import Derived.JoinedCond
import Derived.Deep.DeepHandedRow
import Derived.Deep.DeepWitnessRowRef
set_option linter.unusedSimpArgs false
set_option linter.unusedVariables false
namespace Go.Proofs.YtepfnakabafhlaaDoor.wireListsLaw
open Go Go.ChangeShapes Go.WideShapes Go.ChangeAt Go.RowKit Go.SX Go.Proofs.YtepfnakabafhlaaDoorX
set_option linter.unusedVariables false
theorem own : ownKnob Tryd.prog.godebug = none := by kernel_rfl
theorem laidOut : laidOutB Tryd.prog = true := by kernel_rfl
def laidL : List (String × DataW Unit) := [("math/bits.deBruijn32tab", Rows.laid_math_bits_deBruijn32tab), ("math/bits.deBruijn64tab", Rows.laid_math_bits_deBruijn64tab), ("internal/strconv.uint64pow10", Rows.laid_internal_strconv_uint64pow10), ("strconv.ErrRange", Rows.laid_strconv_ErrRange), ("strconv.ErrSyntax", Rows.laid_strconv_ErrSyntax), ("augur/wire.words", Rows.laid_augur_wire_words)]
theorem door_met (os : Os) (args : Array Value) : laidMetH Tryd.prog laidL ((World.doorLaid Tryd.prog 400 os).forCall (fun _ _ => 0) ⟨#[], args, []⟩).memory :=
  laidMetH_of_parts3 (fuel := 8) (laidMet_of_run' 8 (by kernel_rfl) (by kernel_rfl)) (by kernel_rfl) (by kernel_rfl)
theorem bulk_len {H : Type} : ∀ l : List (DataW H), l.length ≤ Rows.uptoBulkAll l
  | [] => Nat.le_refl _
  | d :: l => by
    have h1 := bulk_len l
    have h2 : 1 ≤ Rows.uptoBulk d := by
      cases d with
      | lit x => cases x <;> simp [Rows.uptoBulk]
      | _ => simp [Rows.uptoBulk]
    simp only [Rows.uptoBulkAll, List.length_cons]; omega
theorem str_bulk {H : Type} {enc : TypeId × Value → H} {W : World} {v : Value} {d : DataW H} {p : List MemPlace}
    (h : DataW.Trod enc Tryd.prog W 0 (fun _ => true) true 9 v d p) : ∃ s : ByteArray, v.cells.toList = [.string s] ∧ s.size + 1 ≤ Rows.uptoBulk d ∧ s.size ≤ maxLen := by
  obtain ⟨fuel, hf⟩ := h
  obtain ⟨s, h1, h2, h3⟩ := DataW.trod_string Tryd.underlying9 hf
  refine ⟨s, h1, ?_, h3⟩
  rw [show d = _ from congrArg Prod.fst h2]
  simp only [Rows.uptoBulk]
  show s.size + 1 ≤ s.data.toList.length + 1
  rw [Array.length_toList]; exact Nat.le_refl _
theorem sl_bulk {H : Type} {enc : TypeId × Value → H} {W : World} {v : Value} {d : DataW H} {p : List MemPlace} {α : Type} {K : Kd α} {b : Nat} {xs : List α}
    (h : DataW.Trod enc Tryd.prog W 0 (fun _ => true) true 23 v d p) (e : Go.SX.one (Kd.slice K b) (Go.SX.hv W) xs v) : xs.length ≤ Rows.uptoBulk d := by
  obtain ⟨fuel, hf⟩ := h
  obtain ⟨_, hv, a, cap, rfl, _⟩ := e
  obtain rfl := (List.cons.inj hv).1
  rcases DataW.trod_slice Tryd.underlying23 hf with ⟨h, _⟩ | ⟨a, len, cap, elems, rest, n, _, h, hx, _, hl, hc, hel, hat, hr, _⟩
  · have h1 := (List.cons.inj h).1
    simp only [Value.slice.injEq] at h1; omega
  · have h1 := (List.cons.inj h).1
    simp only [Value.slice.injEq] at h1
    have h2 : d = .slice (elems.map (·.1)) (rest.map (·.1)) := congrArg Prod.fst hx
    rw [h2]
    have := bulk_len (elems.map (·.1))
    simp only [Rows.uptoBulk]
    rw [List.length_map] at this
    omega
set_option maxRecDepth 100000 in
theorem contract (H : Type) (enc : TypeId × Value → H) (W : World) (base : Nat) (args : Array Value) (ds gs : List (DataW H)) (before : List MemPlace)
    (hval : ∀ (j : Nat) t v, Tryd.f6.params[j]? = some t → args[j]? = some v → Value.okWide Tryd.prog W .any base t v)
    (hW : DataW.Whole enc Tryd.prog Tryd.f6.params.toList Rows.wireListsSpec.vars false W args.toList ds gs before)
    (hk : Rows.uptoSmall H (ds ++ gs) = true)
    (hsz : (DataW.weightsEach Tryd.prog (Tryd.f6.params.toList ++ Rows.wireListsSpec.plain.varTypes Tryd.prog) (ds ++ gs)).all (· ≤ reachBytes) = true) (hL : laidMetH Tryd.prog laidL W) :
    Calls Tryd.prog 6 args W fun e W' => ∃ v, e = .returned v ∧ Rows.wireListsSpec.post enc Tryd.prog Tryd.f6 false true false false W args v W' := by
  have hW' := hW
  obtain ⟨p, q, hA0, hV, rfl, hfz, hnd⟩ := hW
  have hA : DataW.TrodAll enc Tryd.prog W 0 (fun _ => true) true Tryd.f6.params.toList args.toList ds p := hA0
  rw [Tryd.params6] at hA hval hsz
  obtain ⟨v0, vs0, d0, ds0, p0, q0, hargs, rfl, rfl, h0, r0⟩ := trodAll_cons hA
  obtain ⟨rfl, rfl, rfl⟩ := trodAll_nil r0
  obtain rfl : args = #[v0] := by cases args; simp_all
  obtain ⟨rfl, rfl⟩ := trodVars_none hV
  have hS := lib_of hL
  have k0 := h0
  have lt0 : ∀ x ∈ p0, x.block < W.heap.size := by obtain ⟨m, hm⟩ := k0; exact DataW.trod_lt m _ _ _ hm
  have s0 : v0.cells = #[v0] := by obtain ⟨_, h⟩ := okWide_string Tryd.underlying9 (hval 0 9 v0 rfl rfl); rw [h]; rfl
  have w0 : ∀ n ∈ d0.weights Tryd.prog 9, n ≤ reachBytes := fun n hn =>
    of_decide_eq_true (List.all_eq_true.1 hsz n (DataW.weights_mem_each (j := 0) (t := 9) (d := d0) rfl rfl n hn))
  obtain ⟨x0, e0, bl0, ml0⟩ := str_bulk k0
  obtain rfl : v0 = .string x0 := by rw [s0] at e0; simpa using e0
  obtain ⟨t0, rfl, tB0, tl0⟩ : ∃ t : List Int, x0 = Go.SX.strOf t ∧ Go.SX.isB t ∧ t.length = x0.size := ⟨Go.SX.numsOf x0, (Go.SX.strOf_nums x0).symm, fun y hy => Go.SX.inK_u8.1 (Go.SX.numsOf_ok x0 y hy), by rw [← Go.SX.strOf_size, Go.SX.strOf_nums]⟩
  refine (FC.law (wireLists_fn t0 tB0 (by have hk' := of_decide_eq_true hk; simp only [List.append_nil, List.nil_append, List.cons_append, Rows.uptoBulkAll] at hk'; omega)) ?_).mono fun e W' ⟨he, bel⟩ => ?_
  · exact fun h hs => lib_mono _ _ hs hS
  subst he
  exact ⟨_, rfl, _, _, _, [], _, [], hW', trodAll_mk1 (shut_bool Tryd.underlying4 _), (trodAll_cons_mk (Below.trod laidOut (by kernel_rfl) (of_decide_eq_true (by kernel_rfl)) k0 bel lt0) trodAll_mk0), rfl, bel.frame _, fun h => by cases h⟩
set_option maxRecDepth 100000 in
theorem witness (os : Os) (H : Type) (enc : TypeId × Value → H) : ∃ (w : World) (tape : Tape) (i : Input), w.os = os ∧ (w.forCall tape i).Shaped Tryd.checked.prog ∧ i.vars = [] ∧ Input.okWide Tryd.checked.prog (w.forCall tape i) .any w.heap.size 6 i ∧
      (Rows.OpenSpec.upto Rows.wireListsSpec).preRow enc Tryd.checked.prog Tryd.f6 [] false laidL (w.forCall tape i).memory i.args ∧ ({} : Assume).holds Tryd.checked.prog (lone (Frame.enter Tryd.checked.prog 6 i.args .normal) [] (w.forCall tape i)) :=
  witness_row_atRef (enc := enc) (C := Tryd.checked) (s := (Rows.OpenSpec.upto Rows.wireListsSpec)) (conds := []) (apart := false) (laid := laidL) false (World.doorLaid Tryd.prog 400 os) #[.string ⟨#[]⟩] rfl (by kernel_rfl) (by kernel_rfl) (by kernel_rfl)
    ⟨⟨(OpenSpec.pre_some (k := Rows.uptoSmall) rfl [] false _ _).2 ⟨[.lit (.string [])], [], [], DataW.Whole_of_whole (fuel := 8) (x := ([.lit (.string [])], [], [])) (by kernel_rfl), rfl, by kernel_rfl⟩, door_met os _⟩, sizedMet_of_sizedB (fuel := 8) (by kernel_rfl)⟩
set_option maxRecDepth 100000 in
theorem lifted (os : Os) (started : os.Started) (H : Type) (enc : TypeId × Value → H) (F : Stop.Interp) :
    ReturnsInHanded {} Tryd.checked os 6 .any ((Rows.OpenSpec.upto Rows.wireListsSpec).preRow enc Tryd.prog Tryd.f6 [] false laidL) (((Rows.OpenSpec.upto Rows.wireListsSpec).at F).post enc Tryd.prog Tryd.f6 false true false false) := by
  refine returnsInHanded_of_row (C := Tryd.checked) (s := (Rows.OpenSpec.upto Rows.wireListsSpec)) own started (by kernel_rfl) Tryd.func6 (witness os H enc) ?_
  intro W base args ds gs before hval hW _ hk hsz hL _ _
  exact contract H enc W base args ds gs before hval hW (hk _ rfl) hsz hL
theorem over : Rows.wireListsUptoRow.holds Tryd.pinned (Rows.OpenSpec.upto Rows.wireListsSpec) :=
  OpenClaim.holds_of_cond 6 Tryd.f6 rfl rfl rfl rfl rfl rfl rfl ⟨rfl, rfl, rfl, rfl, rfl⟩ rfl rfl rfl rfl rfl (by kernel_rfl) Tryd.func6 (by kernel_rfl)
    (of_decide_eq_true (by kernel_rfl)) (by unfold Func.isWrapper; first | (rw [if_pos (by decide +kernel)]; kernel_rfl) | (rw [if_neg (by decide +kernel)]; exact ⟨rfl, rfl⟩))
    (fun os started H enc _ F => by rw [OpenClaim.pre_eq_preRow]; exact lifted os started H enc F)
end Go.Proofs.YtepfnakabafhlaaDoor.wireListsLaw
namespace Go.Proofs.YtepfnakabafhlaaDoor
open Go
theorem wireLists_holds : Rows.WireListsUptoCardSaid :=
  Claim7.holds_tied_plain_at .later [] [.data, .data, .data, .sentinel, .sentinel, .data] true (true, "60c979f15b6e7c513ec4253134dd1b3218db4ffe43068d787ed04cd045b4426a") true
    wireListsLaw.over (fun _ h => by cases h) (by kernel_rfl) (fun _ h => by cases h) wireListsUpto_row_tie rfl ⟨rfl, rfl⟩ (by kernel_rfl) rfl
    (fun f fn hf hfn => by
      obtain rfl : f = 6 := Option.some.inj ((show Tryd.prog.funcNamed "augur/augurlaw22.WireLists" = some 6 by kernel_rfl).symm.trans hf) |>.symm
      obtain rfl : fn = Tryd.f6 := (Option.some.inj (Tryd.func6.symm.trans hfn)).symm
      exact ⟨by kernel_rfl, fun j t ht => by
        rw [Tryd.params6] at ht
        have hm : t ∈ [9] := by simpa using Array.mem_of_getElem? ht
        have hall : ([9].all fun u => !Tryd.prog.wantsStandIn u) = true := by kernel_rfl
        exact (show Tryd.prog.wantsStandIn t = false by simpa using List.all_eq_true.1 hall t hm)⟩)
    (by kernel_rfl)
#print axioms wireLists_holds
end Go.Proofs.YtepfnakabafhlaaDoor
