/- Who is out, said by membership alone. -/
import Derived.Test.YthnmagdaepgdiaaXPrg8
set_option linter.unusedSimpArgs false
set_option linter.unusedVariables false
namespace Go.Proofs.YthnmagdaepgdiaaX
open Go Go.SX

theorem contains_mem {o1 o2 : List Int} (h : ∀ z, z ∈ o1 ↔ z ∈ o2) (z : Int) : o1.contains z = o2.contains z := by
  rw [Bool.eq_iff_iff, List.contains_iff_mem, List.contains_iff_mem]; exact h z
theorem hasB_mem {o1 o2 : List Int} (h : ∀ z, z ∈ o1 ↔ z ∈ o2) (b : Int) : hasB o1 b = hasB o2 b := by
  funext s; unfold hasB; rw [contains_mem h]
theorem counts_mem {c : Srv} {T : List Seat} {o1 o2 : List Int} (h : ∀ z, z ∈ o1 ↔ z ∈ o2) : countsOf c T o1 = countsOf c T o2 := by
  unfold countsOf cnt; simp only [hasB_mem h]
theorem free_mem {c : Srv} {T : List Seat} {given : Int} {o1 o2 : List Int} (h : ∀ z, z ∈ o1 ↔ z ∈ o2) : freeS c T o1 given = freeS c T o2 given := by
  unfold freeS used holds; simp only [contains_mem h]
theorem markM_mem {o1 o2 : List Int} (h : ∀ z, z ∈ o1 ↔ z ∈ o2) : markM o1 = markM o2 := by
  funext k; unfold markM; by_cases hk : k ∈ o1
  · rw [if_pos hk, if_pos ((h k).1 hk)]
  · rw [if_neg hk, if_neg (fun h2 => hk ((h k).2 h2))]
theorem markM_del {l : List Int} {b : Int} (h : b ∉ l) : (fun k => if k = b then none else markM (b :: l) k) = markM l := by
  funext k; unfold markM
  by_cases hk : k = b
  · subst hk; simp [h]
  · simp [hk]
theorem markM_zero {l : List Int} {b : Int} (h : (markM l b).getD 0 = 0) : b ∉ l := fun hm => by
  rw [markM_get, if_pos hm] at h; cases h
theorem markM_notin {l : List Int} {b : Int} (h : b ∉ l) : (markM l b).getD 0 = 0 := by rw [markM_get, if_neg h]
theorem zeros_decs {counts held : List Int} (hb : ∀ b ∈ held, 0 ≤ b ∧ b < counts.length) : zeros (decs counts held) held = ones counts held := by
  unfold zeros ones
  congr 1
  refine List.filter_congr fun b h => ?_
  have hbb := hb b h
  have e : ((b.toNat : Nat) : Int) = b := by omega
  have hx : counts[b.toNat]? = some counts[b.toNat] := List.getElem?_eq_getElem (by omega)
  rw [decs_get, hx]
  simp only [Option.map_some, Option.getD_some, e, if_pos h]
  congr 1
  simp only [eq_iff_iff]; omega
theorem counts_range {c : Srv} {T : List Seat} (hT : T.length ≤ 16) (out : List Int) : ∀ x ∈ countsOf c T out, -1000 ≤ x ∧ x ≤ 1000 := fun y hy => by
  unfold countsOf at hy
  obtain ⟨b, _, rfl⟩ := List.mem_map.1 hy
  have := cnt_le T out (b : Nat); omega
theorem free_range {c : Srv} (hc : c.okS 1) (T : List Seat) (out : List Int) {given : Int} (hg : -50000 ≤ given ∧ given ≤ 50000) : -60000 ≤ freeS c T out given ∧ freeS c T out given ≤ 60000 := by
  have := used_le c T out
  have := hc.2.1
  unfold freeS; omega
/-- From a slice's rows and what they lead to. -/
theorem known_sv {w0 : World} {K : List Nat} {L : HL} {tv : List SV} {ta : Option Addr} {tc : Nat} (h1 : Known w0 K L (fun h => SlA (Kd.raw sxv 5 sxv_len) 56 h tv ta tc)) (h2 : ∀ x ∈ tv, Known w0 K L (fun h => SlA (Kd.int .i64) 8 h x.1.Held x.2.1 x.2.2))
    (h3 : ∀ x ∈ tv, x.1.ok) : Known w0 K L (fun h => SlA svK 56 h tv ta tc) := fun h e => by
  have s := h1 h e
  refine ⟨s.le, s.bytes, s.nil, s.at_, fun i x hx => ⟨sxv x, ⟨rfl, h2 x (List.mem_of_getElem? hx) h e, h3 x (List.mem_of_getElem? hx)⟩, s.rawAt hx⟩⟩
theorem rising_idx {T : List Seat} (hT : Rising T) {i j : Nat} {x y : Seat} (hi : T[i]? = some x) (hj : T[j]? = some y) : x.Id < y.Id ↔ i < j := by
  constructor
  · intro h
    rcases Nat.lt_trichotomy i j with h1 | rfl | h1
    · exact h1
    · rw [hi] at hj; cases hj; omega
    · have := hT.get hj hi h1; omega
  · exact fun h => hT.get hi hj h
end Go.Proofs.YthnmagdaepgdiaaX
