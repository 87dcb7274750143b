/- The reference: the plan. -/
import Derived.Test.YthnmagdaepgdiaaXRef5
import Derived.Test.YthnmagdaepgdiaaXSPlan2
set_option linter.unusedSimpArgs false
set_option linter.unusedVariables false
namespace Go.Proofs.YthnmagdaepgdiaaX
open Go Go.SX

/-- Who comes next among those that are left. -/
def NextIs (seats : List Seat) (picks : List Int) (B : List Seat) (bk : Int) : Prop :=
  (bk = -1 ∧ ∀ z ∈ B, z.Id ∉ picks) ∨ ∃ (j : Nat) (y : Seat) (B1 B2 : List Seat), bk = j ∧ seats[j]? = some y ∧ B = B1 ++ y :: B2 ∧ (∀ z ∈ B1, z.Id ∉ picks) ∧ y.Id ∈ picks
theorem next_of {seats T A B : List Seat} {picks : List Int} {id : Int} {first : Bool} {bk : Int} (hT : Rising T) (hp : T.Perm seats) (hAB : T = A ++ B) (hsp : ∀ z ∈ T, (first = true ∨ id < z.Id) ↔ z ∈ B)
    (h : NS seats picks id first seats.length bk) : NextIs seats picks B bk := by
  unfold NS at h
  rw [List.take_length] at h
  rcases h with ⟨e, hno⟩ | ⟨j, y, e, hj, hy, h1, h2, h3⟩
  · refine .inl ⟨e, fun z hz hm => ?_⟩
    have hzT : z ∈ T := by rw [hAB]; exact List.mem_append_right _ hz
    exact hno z (hp.mem_iff.1 hzT) ⟨hm, (hsp z hzT).2 hz⟩
  · have hyT : y ∈ T := hp.mem_iff.2 h1
    have hyB : y ∈ B := (hsp y hyT).1 h2.2
    obtain ⟨B1, B2, hB⟩ := List.append_of_mem hyB
    refine .inr ⟨j, y, B1, B2, e, hy, hB, fun z hz hm => ?_, h2.1⟩
    have hzB : z ∈ B := by rw [hB]; exact List.mem_append_left _ hz
    have hzT : z ∈ T := by rw [hAB]; exact List.mem_append_right _ hzB
    have hle := h3 z (hp.mem_iff.1 hzT) ⟨hm, (hsp z hzT).2 hzB⟩
    unfold Rising at hT
    rw [hAB, hB, List.pairwise_append, List.pairwise_append] at hT
    have := hT.2.1.2.2 z hz y (by simp)
    omega
theorem split_after {T A B1 B2 : List Seat} {y : Seat} (hT : Rising T) (h : T = A ++ (B1 ++ y :: B2)) : ∀ z ∈ T, (false = true ∨ y.Id < z.Id) ↔ z ∈ B2 := by
  intro z hz
  have hr := hT
  unfold Rising at hr
  rw [h, List.pairwise_append, List.pairwise_append, List.pairwise_cons] at hr
  rw [h] at hz
  constructor
  · rintro (h1 | h1)
    · cases h1
    · rcases List.mem_append.1 hz with h2 | h2
      · have := hr.2.2 z h2 y (by simp); omega
      · rcases List.mem_append.1 h2 with h3 | h3
        · have := hr.2.1.2.2 z h3 y (by simp); omega
        · rcases List.mem_cons.1 h3 with rfl | h3
          · omega
          · exact h3
  · intro h1; exact .inr (hr.2.1.2.1.1 z h1)
end Go.Proofs.YthnmagdaepgdiaaX
