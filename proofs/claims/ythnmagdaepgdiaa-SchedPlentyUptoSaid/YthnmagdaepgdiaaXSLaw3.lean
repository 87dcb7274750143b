/- What follows where there is plenty, in plain Lean. -/
import Derived.Test.YthnmagdaepgdiaaXSLaw2
import Derived.Test.YthnmagdaepgdiaaXLaw4
set_option linter.unusedSimpArgs false
set_option linter.unusedVariables false
namespace Go.Proofs.YthnmagdaepgdiaaX
open Go Go.SX

theorem filter_or_le {α : Type} {q r : α → Bool} : ∀ (l : List α), (l.filter fun a => q a || r a).length ≤ (l.filter q).length + (l.filter r).length
  | [] => by simp
  | a :: l => by
    have ih := filter_or_le (q := q) (r := r) l
    cases hq : q a <;> cases hr : r a
    · rw [List.filter_cons_of_neg (by simp [hq, hr]), List.filter_cons_of_neg (by simp [hq]), List.filter_cons_of_neg (by simp [hr])]; exact ih
    · rw [List.filter_cons_of_pos (by simp [hr]), List.filter_cons_of_neg (by simp [hq]), List.filter_cons_of_pos hr, List.length_cons, List.length_cons]; omega
    · rw [List.filter_cons_of_pos (by simp [hq]), List.filter_cons_of_pos hq, List.filter_cons_of_neg (by simp [hr]), List.length_cons, List.length_cons]; omega
    · rw [List.filter_cons_of_pos (by simp [hq]), List.filter_cons_of_pos hq, List.filter_cons_of_pos hr, List.length_cons, List.length_cons, List.length_cons]; omega
theorem used_sum {c : Srv} (hc : c.okS 1) : ∀ (T : List Seat), (∀ s ∈ T, heldOk c s.Held) → (used c T [] : Int) ≤ sumI (fun s => (s.Held.length : Int)) T
  | [], _ => by
    have : used c [] [] = 0 := by unfold used; rw [List.length_eq_zero_iff, List.filter_eq_nil_iff]; intro b _; simp [holds]
    rw [this]; simp [sumI]
  | s :: T, h => by
    have ih := used_sum hc T (fun z hz => h z (by simp [hz]))
    have h1 := held_count hc (h s (by simp))
    have h2 : used c (s :: T) [] ≤ s.Held.length + used c T [] := by
      rw [← h1]
      unfold used
      refine Nat.le_trans (Nat.le_of_eq ?_) (filter_or_le (q := fun b : Nat => decide ((b : Int) ∈ s.Held)) (r := fun b : Nat => holds T [] (b : Nat)) (List.range c.Blocks.toNat))
      congr 1
      refine List.filter_congr fun b _ => ?_
      unfold holds
      rw [List.any_cons]
      congr 1
      rw [Bool.eq_iff_iff]; simp
    unfold sumI; omega
noncomputable def tkS (c : Srv) (picks : List Int) (s : Seat) : Int := if pd (s.Id ∈ picks) then wantS c s else 0
noncomputable def gvS (c : Srv) (picks : List Int) (s : Seat) : Int := if pd (s.Id ∈ picks) then beyondS c s (wantS c s) else 0
theorem wantS_bnd {c : Srv} (hc : c.okS 1) {s : Seat} (hs : seatOk c s) : 1 ≤ wantS c s ∧ wantS c s ≤ 63 := by
  have hch := hc.2.2.2.2
  have hkn := hs.1
  have hca := hs.2.1
  have hrs : restS s = s.Known - 1 - s.Cached := rfl
  unfold wantS; split <;> omega
theorem beyond_mono {c : Srv} (hc : c.okS 1) {s : Seat} {x y : Int} (h : x ≤ y) : beyondS c s x ≤ beyondS c s y := by
  have := need_mono (b := c.Block) (n := s.Cached + x) (m := s.Cached + y) hc.2.2.1.1 (by omega)
  unfold beyondS; omega
structure Plenty (c : Srv) (T : List Seat) (picks : List Int) (A : List Seat) (st : St) : Prop where
  out : st.out = []
  given : st.given = sumI (gvS c picks) A
  left : st.left = c.Budget - sumI (tkS c picks) A
  len : (st.sl.length : Int) = sumI (fun s => if pd (s.Id ∈ picks) then 1 else 0) A
  all : ∀ x ∈ st.sl, ∃ s ∈ A, s.Id = x.Id ∧ x.amt = wantS c s
theorem Plenty.step {c : Srv} (hc : c.okS 1) {T : List Seat} {picks : List Int} (hs : ∀ s ∈ T, seatOk c s) (htok : sumI (tkS c picks) T ≤ c.Budget) (hblk : sumI (fun s => (s.Held.length : Int)) T + sumI (gvS c picks) T ≤ c.Blocks)
    {A B : List Seat} {s : Seat} (hAB : T = A ++ s :: B) {st : St} (h : Plenty c T picks A st) : Plenty c T picks (A ++ [s]) (turn c T picks st s) := by
  have hch := hc.2.2.2.2
  have hso := hs s (by rw [hAB]; simp)
  have hkn := hso.1
  have hca := hso.2.1
  have hrs : restS s = s.Known - 1 - s.Cached := rfl
  have hw := wantS_bnd hc hso
  have hby := beyond_le hc hso (x := wantS c s) (by omega)
  have htB : 0 ≤ sumI (tkS c picks) B := sumI_nonneg B (fun z hz => by have := wantS_bnd hc (hs z (by rw [hAB]; simp [hz])); unfold tkS; split <;> omega)
  have hgB : 0 ≤ sumI (gvS c picks) B := sumI_nonneg B (fun z hz => by have h1 := wantS_bnd hc (hs z (by rw [hAB]; simp [hz])); have := (beyond_le hc (hs z (by rw [hAB]; simp [hz])) (x := wantS c z) (by omega)).1; unfold gvS; split <;> omega)
  have htT : sumI (tkS c picks) T = sumI (tkS c picks) A + (tkS c picks s + sumI (tkS c picks) B) := by
    conv => lhs; rw [hAB]
    rw [sumI_append]; rfl
  have hgT : sumI (gvS c picks) T = sumI (gvS c picks) A + (gvS c picks s + sumI (gvS c picks) B) := by
    conv => lhs; rw [hAB]
    rw [sumI_append]; rfl
  have hus := used_sum hc T (fun z hz => (hs z hz).2.2.2)
  by_cases hp : s.Id ∈ picks
  · have et : tkS c picks s = wantS c s := by unfold tkS; rw [pdt hp]; rfl
    have eg : gvS c picks s = beyondS c s (wantS c s) := by unfold gvS; rw [pdt hp]; rfl
    have hl := h.left
    have hg := h.given
    have hfree : freeS c T [] st.given = c.Blocks - st.given - (used c T [] : Nat) := rfl
    have hfit : beyondS c s (wantS c s) ≤ freeS c T [] st.given := by omega
    have hsv : ∃ x : Slc, servedS c T [] st.given st.left s = some ([], wantS c s, x) ∧ x.Id = s.Id ∧ x.amt = wantS c s := by
      unfold servedS
      by_cases hr : 0 < restS s
      · have hx : min (min (restS s) c.Chunk) st.left = wantS c s := by unfold wantS at hl hw et ⊢; rw [if_pos hr] at *; omega
        rw [if_pos hr, hx, made, if_pos hfit]
        exact ⟨_, rfl, rfl, by simp [Slc.amt]⟩
      · have hx : min (min (max s.Want 1) c.Tree) st.left = wantS c s := by unfold wantS at hl hw et ⊢; rw [if_neg hr] at *; omega
        have h1 := beyond_mono hc (s := s) (x := 1) (y := wantS c s) hw.1
        rw [if_neg hr, hx, made, if_pos (by omega)]
        have e : ((wantS c s).toNat : Int) = wantS c s := by omega
        have hst := fitN_stop (c := c) (s := s) (free := freeS c T [] st.given) (a := (wantS c s).toNat) (by rw [e]; exact hfit)
        simp only [hst, e]
        exact ⟨_, rfl, rfl, by simp [Slc.amt]⟩
    obtain ⟨x, hx, hxi, hxa⟩ := hsv
    have ht : turn c T picks st s = ⟨[], st.given + beyondS c s (wantS c s), st.left - wantS c s, st.sl ++ [x]⟩ := by
      unfold turn serveS
      rw [if_pos ⟨by omega, by rw [h.out]; simp, hp⟩, h.out, hx]
    rw [ht]
    refine ⟨rfl, ?_, ?_, ?_, ?_⟩
    · simp only [sumI_append, sumI]; omega
    · simp only [sumI_append, sumI]; omega
    · have := h.len
      simp only [sumI_append, sumI, pdt hp, if_true, List.length_append, List.length_cons, List.length_nil]; omega
    · intro z hz
      rcases List.mem_append.1 hz with h1 | h1
      · obtain ⟨w, hw, h2⟩ := h.all z h1; exact ⟨w, List.mem_append_left _ hw, h2⟩
      · rw [List.mem_singleton.1 h1]; exact ⟨s, by simp, hxi.symm, hxa⟩
  · have et : tkS c picks s = 0 := by unfold tkS; rw [pdf hp]; rfl
    have eg : gvS c picks s = 0 := by unfold gvS; rw [pdf hp]; rfl
    have ht : turn c T picks st s = st := by unfold turn; rw [if_neg (fun h => hp h.2.2)]
    rw [ht]
    refine ⟨h.out, ?_, ?_, ?_, fun z hz => ?_⟩
    · have := h.given; simp only [sumI_append, sumI]; omega
    · have := h.left; simp only [sumI_append, sumI]; omega
    · have := h.len; simp only [sumI_append, sumI, pdf hp, Bool.false_eq_true, if_false]; omega
    · obtain ⟨w, hw, h2⟩ := h.all z hz; exact ⟨w, List.mem_append_left _ hw, h2⟩
theorem Plenty.fold {c : Srv} (hc : c.okS 1) {T : List Seat} {picks : List Int} (hs : ∀ s ∈ T, seatOk c s) (htok : sumI (tkS c picks) T ≤ c.Budget) (hblk : sumI (fun s => (s.Held.length : Int)) T + sumI (gvS c picks) T ≤ c.Blocks) :
    ∀ (B A : List Seat) (st : St), T = A ++ B → Plenty c T picks A st → Plenty c T picks T (B.foldl (turn c T picks) st)
  | [], A, st, e, h => by rw [List.append_nil] at e; subst e; exact h
  | s :: B, A, st, e, h => by
    rw [List.foldl_cons]
    exact Plenty.fold hc hs htok hblk B (A ++ [s]) _ (by rw [e]; simp) (h.step hc hs htok hblk e)
theorem plan_plenty {c : Srv} (hc : c.okS 1) {T : List Seat} {picks : List Int} (hs : ∀ s ∈ T, seatOk c s) (htok : sumI (tkS c picks) T ≤ c.Budget) (hblk : sumI (fun s => (s.Held.length : Int)) T + sumI (gvS c picks) T ≤ c.Blocks) : Plenty c T picks T (planS c T picks) :=
  Plenty.fold hc hs htok hblk T [] _ rfl ⟨rfl, by simp [sumI], by simp [sumI], by simp [sumI], by simp⟩
end Go.Proofs.YthnmagdaepgdiaaX
