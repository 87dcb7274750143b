/- What follows for the oldest seat, and where there is plenty, in plain Lean. -/
import Derived.Test.YthnmagdaepgdiaaXPrg4
import Derived.Test.YthnmagdaepgdiaaXSLaw
set_option linter.unusedSimpArgs false
set_option linter.unusedVariables false
namespace Go.Proofs.YthnmagdaepgdiaaX
open Go Go.SX

theorem filter_len {α : Type} {p q : α → Bool} (h : ∀ a, p a = true → q a = true) : ∀ l : List α, (l.filter p).length ≤ (l.filter q).length
  | [] => by simp
  | a :: l => by
    have ih := filter_len h l
    cases hp : p a
    · rw [List.filter_cons_of_neg (by simp [hp])]
      cases hq : q a
      · rw [List.filter_cons_of_neg (by simp [hq])]; exact ih
      · rw [List.filter_cons_of_pos hq, List.length_cons]; omega
    · rw [List.filter_cons_of_pos hp, List.filter_cons_of_pos (h a hp), List.length_cons, List.length_cons]; omega
theorem held_count {c : Srv} (hc : c.okS 1) {l : List Int} (h : heldOk c l) : ((List.range c.Blocks.toNat).filter fun b : Nat => decide ((b : Int) ∈ l)).length = l.length := by
  have := held_range (fun _ => true) c.Blocks.toNat l h.2 (fun b hb => by have := h.1 b hb; have := hc.2.1; omega)
  simp only [Bool.and_true] at this
  rw [← this, List.filter_eq_self.2 (by simp)]
theorem held_le {c : Srv} (hc : c.okS 1) {l : List Int} (h : heldOk c l) : (l.length : Int) ≤ c.Blocks := by
  have h1 := held_count hc h
  have h2 := List.length_filter_le (fun b : Nat => decide ((b : Int) ∈ l)) (List.range c.Blocks.toNat)
  rw [List.length_range] at h2
  have := hc.2.1; omega
theorem used_old {c : Srv} (hc : c.okS 1) {T : List Seat} {s : Seat} (hT : Rising T) (hs : s ∈ T) (hh : heldOk c s.Held) (hmin : ∀ z ∈ T, s.Id ≤ z.Id) {out : List Int} (hno : ∀ z ∈ T, canGo s.Id out z = false) : used c T out ≤ s.Held.length := by
  rw [← held_count hc hh]
  unfold used
  refine filter_len (fun b hb => ?_) _
  unfold holds at hb
  rw [List.any_eq_true] at hb
  obtain ⟨z, hz, h⟩ := hb
  simp only [Bool.and_eq_true, Bool.not_eq_true', List.contains_iff_mem] at h
  have hzo : z.Id ∉ out := fun hm => by have := h.1; rw [List.contains_iff_mem.2 hm] at this; cases this
  have hle := hmin z hz
  have h1 := hno z hz
  rw [← Bool.not_eq_true, canGo_iff] at h1
  have hzl : 0 < z.Held.length := List.length_pos_of_mem h.2
  have : z = s := hT.inj hz hs (by
    rcases Int.lt_or_eq_of_le hle with h2 | h2
    · exact absurd ⟨h2, hzl, hzo⟩ h1
    · exact h2.symm)
  rw [this] at h
  simpa using h.2
theorem fits_old {c : Srv} (hc : c.okS 1) {T : List Seat} {s : Seat} (hT : Rising T) (hs : s ∈ T) (hso : seatOk c s) (hmin : ∀ z ∈ T, s.Id ≤ z.Id) (hk : s.Known ≤ c.Blocks * c.Block) {x : Int} (hx : s.Cached + x ≤ s.Known) :
    ∀ out, (∀ z ∈ T, canGo s.Id out z = false) → beyondS c s x ≤ freeS c T out 0 := fun out hno => by
  have h1 := used_old hc hT hs hso.2.2.2 hmin hno
  have h2 := held_le hc hso.2.2.2
  have h3 := need_le (n := s.Cached + x) (b := c.Block) (k := c.Blocks) hc.2.2.1.1 (by omega)
  unfold beyondS freeS; omega
theorem oldest_serve {c : Srv} (hc : c.okS 1) {T : List Seat} {s : Seat} (hT : Rising T) (hs : s ∈ T) (hso : seatOk c s) (hmin : ∀ z ∈ T, s.Id ≤ z.Id) (hk : s.Known ≤ c.Blocks * c.Block) :
    ∃ o n x, servedS c T [] 0 c.Budget s = some (o, n, x) ∧ x.Id = s.Id ∧ (restS s = 0 → 1 ≤ x.Nodes) ∧ (0 < restS s → x.Prefill = min (restS s) c.Chunk) := by
  have hch := hc.2.2.2.2.1
  have hbu := hc.2.2.2.2.2
  have hkn := hso.1
  have hca := hso.2.1
  have hrs : restS s = s.Known - 1 - s.Cached := rfl
  unfold servedS
  by_cases h : 0 < restS s
  · rw [if_pos h]
    obtain ⟨o, ho⟩ := made_some hT (fits_old hc hT hs hso hmin hk (x := min (min (restS s) c.Chunk) c.Budget) (by omega)) (T.length + 1) [] (Nat.lt_succ_of_le (goers_le _ _ _))
    rw [ho]
    exact ⟨o, _, _, rfl, rfl, fun h2 => by omega, fun _ => by simp only; omega⟩
  · rw [if_neg h]
    obtain ⟨o, ho⟩ := made_some hT (fits_old hc hT hs hso hmin hk (x := 1) (by omega)) (T.length + 1) [] (Nat.lt_succ_of_le (goers_le _ _ _))
    rw [ho]
    have h1 := fitN_pos (made_fits ho) (min (min (max s.Want 1) c.Tree) c.Budget).toNat (by omega)
    exact ⟨o, _, _, rfl, rfl, fun _ => by simp only; omega, fun h2 => absurd h2 h⟩
theorem oldest_first {c : Srv} (hc : c.okS 1) {T : List Seat} {picks : List Int} {s : Seat} (hT : Rising T) (hs : s ∈ T) (hso : seatOk c s) (hmin : ∀ z ∈ T, s.Id ≤ z.Id) (hk : s.Known ≤ c.Blocks * c.Block) (hp : s.Id ∈ picks) :
    ∃ x l, (planS c T picks).sl = x :: l ∧ x.Id = s.Id ∧ (restS s = 0 → 1 ≤ x.Nodes) ∧ (0 < restS s → x.Prefill = min (restS s) c.Chunk) := by
  obtain ⟨o, n, x, hsv, h1, h2, h3⟩ := oldest_serve hc hT hs hso hmin hk
  obtain ⟨y, B, hTe⟩ : ∃ y B, T = y :: B := by cases T with | nil => cases hs | cons y B => exact ⟨y, B, rfl⟩
  have hy : y = s := by
    rw [hTe] at hs
    rcases List.mem_cons.1 hs with h | h
    · exact h.symm
    · have hr := hT
      unfold Rising at hr
      rw [hTe, List.pairwise_cons] at hr
      have := hr.1 s h
      have := hmin y (by rw [hTe]; simp)
      omega
  have hbu := hc.2.2.2.2
  have ht : turn c T picks ⟨[], 0, c.Budget, []⟩ s = ⟨o, 0 + beyondS c s n, c.Budget - n, [] ++ [x]⟩ := by
    unfold turn serveS; rw [if_pos ⟨by simp only; omega, by simp, hp⟩, hsv]
  obtain ⟨l, hl⟩ := fold_sl (c := c) (T := T) (picks := picks) B ⟨o, 0 + beyondS c s n, c.Budget - n, [] ++ [x]⟩
  refine ⟨x, l, ?_, h1, h2, h3⟩
  have : planS c T picks = B.foldl (turn c T picks) ⟨o, 0 + beyondS c s n, c.Budget - n, [] ++ [x]⟩ := by
    rw [← ht]
    conv => lhs; unfold planS
    have e : ∀ f : St → Seat → St, ∀ st, T.foldl f st = B.foldl f (f st s) := fun f st => by rw [hTe, hy, List.foldl_cons]
    rw [e]
  rw [this, hl]; rfl
end Go.Proofs.YthnmagdaepgdiaaX
