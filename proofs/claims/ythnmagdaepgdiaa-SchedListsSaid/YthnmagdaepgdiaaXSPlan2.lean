/- The plan, said plainly: bounds, and how it goes on. -/
import Derived.Test.YthnmagdaepgdiaaXSPlan
set_option linter.unusedSimpArgs false
set_option linter.unusedVariables false
namespace Go.SX
theorem beyond_le {c : Srv} (hc : c.okS 1) {s : Seat} (hs : seatOk c s) {x : Int} (hx : 0 ≤ x ∧ x ≤ 1000) : 0 ≤ beyondS c s x ∧ beyondS c s x ≤ 1200 := by
  have hcb := hc.2.2.1
  have hca := hs.2.1
  have hkn := hs.1
  have e3 : needI (s.Cached + x) c.Block ≤ s.Cached + x + c.Block - 1 := Int.ediv_le_self _ (by omega)
  unfold beyondS; omega
theorem served_bnd {c : Srv} (hc : c.okS 1) {T : List Seat} {out : List Int} {given left : Int} {s : Seat} (hs : seatOk c s) (hl : 1 ≤ left ∧ left ≤ 1024) {o : List Int} {n : Int} {x : Slc}
    (h : servedS c T out given left s = some (o, n, x)) : o.length ≤ out.length + (T.length + 1) ∧ 1 ≤ n ∧ n ≤ left ∧ n ≤ 1000 ∧ x.Id = s.Id ∧ x.Prefill + x.Nodes = n ∧ 0 ≤ x.Prefill ∧ 0 ≤ x.Nodes := by
  have hch := hc.2.2.2.2.1
  have htr := hc.2.2.2.2.2.2
  have hkn := hs.1
  have hca := hs.2.1
  have hr : restS s ≤ 63 := by unfold restS; omega
  unfold servedS at h
  split at h
  · rename_i hr0
    split at h
    · cases h
    · rename_i o' ho
      simp only [Option.some.injEq, Prod.mk.injEq] at h
      obtain ⟨rfl, rfl, rfl⟩ := h
      exact ⟨made_len ho, by omega, by omega, by omega, rfl, by simp, by simp only; omega, by simp⟩
  · split at h
    · cases h
    · rename_i o' ho
      simp only [Option.some.injEq, Prod.mk.injEq] at h
      obtain ⟨rfl, rfl, rfl⟩ := h
      have h1 := fitN_pos (made_fits ho) (min (min (max s.Want 1) c.Tree) left).toNat (by omega)
      have h2 := fitN_le c s (freeS c T o' given) (min (min (max s.Want 1) c.Tree) left).toNat
      exact ⟨made_len ho, by omega, by omega, by omega, rfl, by simp, by simp, by simp⟩

/-- What bounds hold behind so many seats. -/
structure Bnd (st : St) (n : Nat) : Prop where
  out : st.out.length ≤ 17 * n
  given : 0 ≤ st.given ∧ st.given ≤ 1200 * n
  left : 0 ≤ st.left ∧ st.left ≤ 1024
  sl : st.sl.length ≤ n
theorem turn_bnd {c : Srv} (hc : c.okS 1) {T : List Seat} (hT : T.length ≤ 16) {picks : List Int} {st : St} {n : Nat} (hb : Bnd st n) {s : Seat} (hs : seatOk c s) : Bnd (turn c T picks st s) (n + 1) := by
  obtain ⟨b1, b2, b3, b4⟩ := hb
  unfold turn
  split
  · rename_i hl
    unfold serveS
    split
    · exact ⟨by omega, ⟨by omega, by omega⟩, b3, by omega⟩
    · rename_i o m x hx
      have h := served_bnd hc hs (by omega) hx
      have hy := beyond_le hc hs (x := m) (by omega)
      exact ⟨by simp only; omega, by simp only; omega, by simp only; omega, by simp only [List.length_append, List.length_cons, List.length_nil]; omega⟩
  · exact ⟨by omega, ⟨by omega, by omega⟩, b3, by omega⟩
theorem fold_bnd {c : Srv} (hc : c.okS 1) {T : List Seat} (hT : T.length ≤ 16) {picks : List Int} : ∀ (A : List Seat) {st : St} {n : Nat}, Bnd st n → (∀ s ∈ A, seatOk c s) → Bnd (A.foldl (turn c T picks) st) (n + A.length)
  | [], _, _, hb, _ => hb
  | s :: A, st, n, hb, hs => by
    have := fold_bnd hc hT (picks := picks) A (turn_bnd hc hT (picks := picks) hb (hs s (by simp))) (fun x hx => hs x (by simp [hx]))
    rw [List.foldl_cons, List.length_cons, show n + (A.length + 1) = n + 1 + A.length by omega]; exact this
theorem start_bnd {c : Srv} (hc : c.okS 1) : Bnd ⟨[], 0, c.Budget, []⟩ 0 := ⟨by simp, by simp, ⟨by have := hc.2.2.2.2.1; have := hc.2.2.2.2.2.1; simp only; omega, by have := hc.2.2.2.2.2.1; simp only; omega⟩, by simp⟩
/-- Nothing more happens where nothing is left, or nobody is picked. -/
theorem fold_stop {c : Srv} {T : List Seat} {picks : List Int} : ∀ (B : List Seat) {st : St}, st.left ≤ 0 → B.foldl (turn c T picks) st = st
  | [], _, _ => rfl
  | s :: B, st, h => by
    have : turn c T picks st s = st := by unfold turn; rw [if_neg (fun h' => by have := h'.1; omega)]
    rw [List.foldl_cons, this]; exact fold_stop B h
theorem fold_skip {c : Srv} {T : List Seat} {picks : List Int} : ∀ (B : List Seat) {st : St}, (∀ z ∈ B, z.Id ∉ picks) → B.foldl (turn c T picks) st = st
  | [], _, _ => rfl
  | s :: B, st, h => by
    have : turn c T picks st s = st := by unfold turn; rw [if_neg (fun h' => h s (by simp) h'.2.2)]
    rw [List.foldl_cons, this]; exact fold_skip B (fun z hz => h z (by simp [hz]))
end Go.SX
