/- Rows of elements of several cells; blocks in whatever order. -/
import Derived.Test.YthnmagdaepgdiaaXGrow2
set_option linter.unusedSimpArgs false
set_option linter.unusedVariables false
namespace Go.SX
open Go Go.RowKit
theorem flat_len {α : Type} (f : α → List Value) (k : Nat) (hk : ∀ x, (f x).length = k) : ∀ l : List α, (l.flatMap f).length = l.length * k
  | [] => by simp
  | x :: l => by rw [List.flatMap_cons, List.length_append, hk, flat_len f k hk l, List.length_cons, Nat.add_mul]; omega
theorem flat_get {α : Type} (f : α → List Value) (k : Nat) (hk : ∀ x, (f x).length = k) (sp : List Value) : ∀ (l : List α) (i j : Nat) (x : α), l[i]? = some x → j < k → (l.flatMap f ++ sp)[i * k + j]? = (f x)[j]?
  | [], _, _, _, h, _ => by simp at h
  | y :: l, 0, j, x, h, hj => by
    simp only [List.getElem?_cons_zero, Option.some.injEq] at h
    subst h
    rw [List.flatMap_cons, List.append_assoc, Nat.zero_mul, Nat.zero_add, List.getElem?_append_left (by rw [hk]; exact hj)]
  | y :: l, i + 1, j, x, h, hj => by
    simp only [List.getElem?_cons_succ] at h
    rw [List.flatMap_cons, List.append_assoc, List.getElem?_append_right (by rw [hk, Nat.add_mul]; omega), hk, show (i + 1) * k + j - k = i * k + j by rw [Nat.add_mul]; omega]
    exact flat_get f k hk sp l i j x h hj
theorem rows_flat {α : Type} (f : α → List Value) (k : Nat) (hk : ∀ x, (f x).length = k) {h : HV} {b : Nat} : ∀ (l : List α) (off : Nat), (∀ i x, l[i]? = some x → rowv h b (off + i * k) (f x)) → rowv h b off (l.flatMap f)
  | [], _, _ => fun i v hv => by simp at hv
  | x :: l, off, hr => fun i v hv => by
    rw [List.flatMap_cons] at hv
    by_cases hi : i < k
    · rw [List.getElem?_append_left (by rw [hk]; exact hi)] at hv
      have := hr 0 x rfl i v hv
      rwa [Nat.zero_mul, Nat.add_zero] at this
    · rw [List.getElem?_append_right (by rw [hk]; omega), hk] at hv
      have := rows_flat f k hk l (off + k) (fun j y hy => by
        have := hr (j + 1) y hy
        rwa [show off + (j + 1) * k = off + k + j * k by rw [Nat.add_mul]; omega] at this) (i - k) v hv
      rwa [show off + k + (i - k) = off + i by omega] at this

/-- Elements by their cells alone. -/
def Kd.raw {α : Type} (f : α → List Value) (k : Nat) (hk : ∀ x, (f x).length = k) : Kd α := ⟨k, fun _ x cs => cs = f x, fun {_ x _} h => by rw [h]; exact hk x, fun _ h => h⟩
theorem fv_one {b : Nat} {o : Obj} : fv [(b, o)] b = some o := by simp [fv]
/-- What a slice of the call's own leads to, element by element. -/
theorem OwnS.raw {α : Type} {f : α → List Value} {k by_ e m : Nat} {hk : ∀ x, (f x).length = k} {v : Value} {l : List α} {F : HL} (h : OwnS e k v m (l.flatMap f) F) (hm : m = l.length) (hb : l.length * by_ ≤ 140737488355328) :
    ∃ a cap, v = .slice a l.length cap ∧ SlA (Kd.raw f k hk) by_ (fv F) l a cap := by
  subst hm
  rcases h.2 with ⟨rfl, h0, rfl⟩ | ⟨g, cap, sp, rfl, rfl, hle, hmx, hcs⟩
  · have : l = [] := List.eq_nil_of_length_eq_zero h0
    subst this
    exact ⟨none, 0, rfl, by simp, by simp, fun _ => rfl, fun h => absurd h (by simp), fun i x h => by simp at h⟩
  · refine ⟨some ⟨g, 0, none⟩, cap, rfl, hle, hb, (fun h => by cases h), fun _ => rfl, fun i x hx => ⟨f x, rfl, fun j v hj => ?_⟩⟩
    have hjk : j < k := by have := (List.getElem?_eq_some_iff.1 hj).1; rwa [hk] at this
    have := flat_get f k hk sp l i j x hx hjk
    simp only [cellv, fv_one, ablk, aoff, Nat.zero_add, Option.isSome_none, Bool.false_eq_true, if_false, List.getElem?_toArray]
    show (l.flatMap f ++ sp)[i * k + j]? = some v
    rw [this, hj]
theorem SlA.rawAt {α : Type} {f : α → List Value} {k by_ : Nat} {hk : ∀ x, (f x).length = k} {h : HV} {l : List α} {a : Option Addr} {cap : Nat} (s : SlA (Kd.raw f k hk) by_ h l a cap) {i : Nat} {x : α} (hi : l[i]? = some x) : rowv h (ablk a) (aoff a + i * k) (f x) := by
  obtain ⟨c, rfl, hr⟩ := s.row i x hi
  exact hr
theorem perm_of_cnt {l m : HL} (h : ∀ p : (Nat × Obj) → Bool, l.countP p = m.countP p) : l.Perm m := by
  letI : DecidableEq (Nat × Obj) := fun a b => Classical.propDecidable (a = b)
  rw [List.perm_iff_count]
  intro a
  exact h _
end Go.SX
