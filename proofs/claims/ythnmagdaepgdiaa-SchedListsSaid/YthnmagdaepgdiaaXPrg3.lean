/- Who holds which block, counted. -/
import Derived.Test.YthnmagdaepgdiaaXPrg2
import Derived.Test.YthnmagdaepgdiaaXScp
set_option linter.unusedSimpArgs false
set_option linter.unusedVariables false
namespace Go.Proofs.YthnmagdaepgdiaaX
open Go Go.SX

def hasB (out : List Int) (b : Int) (s : Seat) : Bool := !out.contains s.Id && s.Held.contains b
def cnt (T : List Seat) (out : List Int) (b : Int) : Nat := (T.filter (hasB out b)).length
def countsOf (c : Srv) (T : List Seat) (out : List Int) : List Int := (List.range c.Blocks.toNat).map fun b => ((cnt T out (b : Nat) : Nat) : Int)
theorem holds_cnt (T : List Seat) (out : List Int) (b : Int) : holds T out b = decide (0 < cnt T out b) := by
  unfold holds cnt
  rw [Bool.eq_iff_iff, List.any_eq_true, decide_eq_true_eq, List.length_pos_iff_exists_mem]
  exact ⟨fun ⟨s, hs, h⟩ => ⟨s, List.mem_filter.2 ⟨hs, h⟩⟩, fun ⟨s, h⟩ => ⟨s, (List.mem_filter.1 h).1, (List.mem_filter.1 h).2⟩⟩
theorem cnt_le (T : List Seat) (out : List Int) (b : Int) : cnt T out b ≤ T.length := List.length_filter_le _ _
theorem countsOf_length (c : Srv) (T : List Seat) (out : List Int) : (countsOf c T out).length = c.Blocks.toNat := by simp [countsOf]
theorem countsOf_get (c : Srv) (T : List Seat) (out : List Int) {b : Nat} (h : b < c.Blocks.toNat) : (countsOf c T out)[b]? = some ((cnt T out (b : Nat) : Nat) : Int) := by simp [countsOf, h]
/-- One seat goes out: it no longer counts. -/
theorem cnt_go {T : List Seat} (hT : Rising T) {out : List Int} {y : Seat} (hy : y ∈ T) (hn : y.Id ∉ out) (b : Int) : cnt T out b = cnt T (out ++ [y.Id]) b + (if b ∈ y.Held then 1 else 0) := by
  unfold cnt
  induction T with
  | nil => cases hy
  | cons x T ih =>
    unfold Rising at hT
    rw [List.pairwise_cons] at hT
    rcases List.mem_cons.1 hy with rfl | hy'
    · have e : T.filter (hasB out b) = T.filter (hasB (out ++ [y.Id]) b) := by
        refine List.filter_congr fun z hz => ?_
        have := hT.1 z hz
        unfold hasB
        have e2 : (out ++ [y.Id]).contains z.Id = out.contains z.Id := by
          rw [Bool.eq_iff_iff]; simp; intro h; omega
        rw [e2]
      have h1 : hasB (out ++ [y.Id]) b y = false := by unfold hasB; simp
      rw [List.filter_cons_of_neg (p := hasB (out ++ [y.Id]) b) (by simp [h1]), ← e]
      by_cases hb : b ∈ y.Held
      · rw [List.filter_cons_of_pos (by unfold hasB; simp [hn, hb]), if_pos hb]; rfl
      · rw [List.filter_cons_of_neg (by unfold hasB; simp [hb]), if_neg hb]; rfl
    · have hlt := hT.1 y hy'
      have e2 : hasB (out ++ [y.Id]) b x = hasB out b x := by
        unfold hasB
        have : (out ++ [y.Id]).contains x.Id = out.contains x.Id := by
          rw [Bool.eq_iff_iff]; simp; intro h; omega
        rw [this]
      have := ih hT.2 hy'
      cases h : hasB out b x
      · rw [List.filter_cons_of_neg (by simp [h]), List.filter_cons_of_neg (by simp [e2, h])]; exact this
      · rw [List.filter_cons_of_pos h, List.filter_cons_of_pos (by rw [e2, h]), List.length_cons, List.length_cons]; omega
theorem decs_go {c : Srv} {T : List Seat} (hT : Rising T) {out : List Int} {y : Seat} (hy : y ∈ T) (hn : y.Id ∉ out) : decs (countsOf c T out) y.Held = countsOf c T (out ++ [y.Id]) := by
  refine List.ext_getElem? fun i => ?_
  rw [decs_get]
  by_cases hi : i < c.Blocks.toNat
  · rw [countsOf_get c T out hi, countsOf_get c T _ hi]
    have := cnt_go hT hy hn (i : Int)
    simp only [Option.map_some, Option.some.injEq]
    split at this <;> rename_i h
    · rw [if_pos h]; omega
    · rw [if_neg h]; omega
  · rw [List.getElem?_eq_none (by rw [countsOf_length]; omega), List.getElem?_eq_none (by rw [countsOf_length]; omega)]; rfl
theorem incs_decs (counts held : List Int) : incs (decs counts held) held = counts := by
  refine List.ext_getElem? fun i => ?_
  rw [incs_get, decs_get]
  cases counts[i]? with
  | none => rfl
  | some x => simp only [Option.map_some]; congr 1; split <;> omega
end Go.Proofs.YthnmagdaepgdiaaX
