/- What a seat that goes out sets free. -/
import Derived.Test.YthnmagdaepgdiaaXPrg3
set_option linter.unusedSimpArgs false
set_option linter.unusedVariables false
namespace Go.Proofs.YthnmagdaepgdiaaX
open Go Go.SX

theorem filter_or {α : Type} {q r : α → Bool} : ∀ (l : List α), (∀ a ∈ l, ¬ (q a = true ∧ r a = true)) → (l.filter fun a => q a || r a).length = (l.filter q).length + (l.filter r).length
  | [], _ => rfl
  | a :: l, h => by
    have ih := filter_or (q := q) (r := r) l (fun x hx => h x (by simp [hx]))
    have ha := h a (by simp)
    cases hq : q a <;> cases hr : r a
    · rw [List.filter_cons_of_neg (by simp [hq, hr]), List.filter_cons_of_neg (by simp [hq]), List.filter_cons_of_neg (by simp [hr])]; exact ih
    · rw [List.filter_cons_of_pos (by simp [hr]), List.filter_cons_of_neg (by simp [hq]), List.filter_cons_of_pos hr, List.length_cons, List.length_cons]; omega
    · rw [List.filter_cons_of_pos (by simp [hq]), List.filter_cons_of_pos hq, List.filter_cons_of_neg (by simp [hr]), List.length_cons, List.length_cons]; omega
    · exact absurd ⟨hq, hr⟩ ha
theorem range_one (p : Nat → Bool) (x : Nat) : ∀ B, x < B → ((List.range B).filter fun b => decide (b = x) && p b).length = if p x then 1 else 0
  | 0, h => by omega
  | B + 1, h => by
    rw [List.range_succ, List.filter_append, List.length_append]
    by_cases hx : x = B
    · subst hx
      have : (List.range x).filter (fun b => decide (b = x) && p b) = [] := by
        rw [List.filter_eq_nil_iff]; intro a ha; have := List.mem_range.1 ha; simp; omega
      rw [this]
      by_cases hp : p x <;> simp [hp]
    · rw [range_one p x B (by omega)]
      have : ¬ B = x := fun e => hx e.symm
      simp [this]
theorem held_range (p : Nat → Bool) (B : Nat) : ∀ (l : List Int), l.Nodup → (∀ b ∈ l, 0 ≤ b ∧ b < B) → (l.filter fun b => p b.toNat).length = ((List.range B).filter fun b : Nat => decide ((b : Int) ∈ l) && p b).length
  | [], _, _ => by
    rw [List.filter_eq_nil_iff.2 (by simp), List.filter_eq_nil_iff.2 (by simp)]; rfl
  | x :: l, hn, hb => by
    rw [List.nodup_cons] at hn
    have hx := hb x (by simp)
    have ih := held_range p B l hn.2 (fun b h => hb b (by simp [h]))
    have e : ((List.range B).filter fun b : Nat => decide ((b : Int) ∈ x :: l) && p b) = (List.range B).filter fun b : Nat => (decide (b = x.toNat) && p b) || (decide ((b : Int) ∈ l) && p b) := by
      refine List.filter_congr fun b _ => ?_
      have : decide ((b : Int) ∈ x :: l) = (decide (b = x.toNat) || decide ((b : Int) ∈ l)) := by
        rw [Bool.eq_iff_iff]; simp; constructor
        · rintro (h | h); exact .inl (by omega); exact .inr h
        · rintro (h | h); exact .inl (by omega); exact .inr h
      rw [this, Bool.and_or_distrib_right]
    rw [e, filter_or _ (fun b _ => by
      simp; intro h1 _ h2; subst h1
      exact absurd (show x ∈ l by have : ((x.toNat : Nat) : Int) = x := by omega
                                  rw [this] at h2; exact h2) hn.1), range_one p x.toNat B (by omega), ← ih]
    by_cases hp : p x.toNat <;> simp [hp]; omega
theorem free_go {c : Srv} {T : List Seat} (hT : Rising T) {out : List Int} {given : Int} {y : Seat} (hy : y ∈ T) (hn : y.Id ∉ out) (hh : heldOk c y.Held) :
    freeS c T (out ++ [y.Id]) given = freeS c T out given + ones (countsOf c T out) y.Held := by
  have hB : ∀ b ∈ y.Held, 0 ≤ b ∧ b < ((c.Blocks.toNat : Nat) : Int) := fun b h => by have := hh.1 b h; omega
  have h1 : ones (countsOf c T out) y.Held = ((List.range c.Blocks.toNat).filter fun b : Nat => decide ((b : Int) ∈ y.Held) && decide (cnt T out (b : Nat) = 1)).length := by
    rw [← held_range (fun b => decide (cnt T out (b : Nat) = 1)) c.Blocks.toNat y.Held hh.2 hB]
    unfold ones
    congr 1
    refine List.filter_congr fun b hb => ?_
    have := hB b hb
    rw [countsOf_get c T out (b := b.toNat) (by omega)]
    simp only [Option.getD_some]
    congr 1
    simp only [eq_iff_iff]; omega
  have h2 : used c T out = used c T (out ++ [y.Id]) + ones (countsOf c T out) y.Held := by
    rw [h1]; unfold used
    have e : (List.range c.Blocks.toNat).filter (fun b : Nat => holds T out (b : Nat)) = (List.range c.Blocks.toNat).filter fun b : Nat => holds T (out ++ [y.Id]) (b : Nat) || (decide ((b : Int) ∈ y.Held) && decide (cnt T out (b : Nat) = 1)) := by
      refine List.filter_congr fun b _ => ?_
      rw [holds_cnt, holds_cnt, Bool.eq_iff_iff]
      have := cnt_go hT hy hn (b : Int)
      by_cases h : (b : Int) ∈ y.Held
      · rw [if_pos h] at this; simp [h]; omega
      · rw [if_neg h] at this; simp [h]; omega
    rw [e, filter_or]
    intro b _
    rw [holds_cnt]
    have := cnt_go hT hy hn (b : Int)
    by_cases h : (b : Int) ∈ y.Held
    · rw [if_pos h] at this; simp [h]; omega
    · simp [h]
  unfold freeS; omega
end Go.Proofs.YthnmagdaepgdiaaX
