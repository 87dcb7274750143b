/- The program's work at its beginning. -/
import Derived.Test.YthnmagdaepgdiaaXPrg6
import Derived.Test.YthnmagdaepgdiaaXSLaw
set_option linter.unusedSimpArgs false
set_option linter.unusedVariables false
namespace Go.Proofs.YthnmagdaepgdiaaX
open Go Go.SX

theorem sort_tiny_fn (v : Value) (n : Nat) (a : Option Addr) (cap : Nat) (hv : v = .slice a n cap) (h1 : n ≤ 1) (pb : Nat) :
    FC Try.prog 43 [.iface 27 v, .func (.func 44) #[] #[.pointer (some ⟨pb, 0, none⟩)]] [] (fun _ => True) (fun _ L => L = []) := by
  subst hv
  refine ⟨by kernel_rfl, fun w _ _ _ => ?_⟩
  have key : ∀ f, Try.prog.funcs.findIdx? (·.name == "internal/reflectlite" ++ ".Swapper$" ++ toString (Lib.swapperK n svE 25)) = some f → _ := fun f hf =>
    Any.sort_Slice_tiny Try.sl6 27 46 svT svE (by kernel_rfl) (by kernel_rfl) (by kernel_rfl) (by kernel_rfl) 25 (fun _ => by kernel_rfl) a n cap h1 f hf (.func 44) #[] #[.pointer (some ⟨pb, 0, none⟩)] w
  have hf : ∃ f, Try.prog.funcs.findIdx? (·.name == "internal/reflectlite" ++ ".Swapper$" ++ toString (Lib.swapperK n svE 25)) = some f := by
    rcases (show n = 0 ∨ n = 1 by omega) with rfl | rfl
    · exact ⟨63, by kernel_rfl⟩
    · exact ⟨64, by kernel_rfl⟩
  obtain ⟨f, hf⟩ := hf
  refine (key f hf).mono ?_
  rintro e w' ⟨rfl, os, rfl⟩
  refine ⟨_, [], rfl, ⟨by simp, rfl, rfl, rfl, by simp, by simp [keys], fun j hj _ => ?_, by simp⟩, rfl⟩
  exact Sort.heap_grow_old _ _ hj

theorem zerosL_one (x : Value) : ∀ n, zerosL [x] n = List.replicate n x
  | 0 => rfl
  | n + 1 => by rw [zerosL, zerosL_one x n, List.replicate_succ]; rfl
theorem countsOf_nil (c : Srv) : (countsOf c [] []).map (Value.int .i64) = List.replicate c.Blocks.toNat (.int .i64 0) := by
  unfold countsOf
  rw [List.map_map]
  refine List.ext_getElem? fun i => ?_
  simp only [List.getElem?_map, List.getElem?_replicate]
  by_cases h : i < c.Blocks.toNat
  · simp [h, cnt]
  · simp [h, List.getElem?_eq_none]
/-- One seat more. -/
theorem cnt_snoc (A : List Seat) (s : Seat) (b : Int) : cnt (A ++ [s]) [] b = cnt A [] b + (if b ∈ s.Held then 1 else 0) := by
  unfold cnt
  rw [List.filter_append, List.length_append]
  congr 1
  by_cases h : b ∈ s.Held <;> simp [hasB, h]
theorem incs_snocS (c : Srv) (A : List Seat) (s : Seat) : incs (countsOf c A []) s.Held = countsOf c (A ++ [s]) [] := by
  refine List.ext_getElem? fun i => ?_
  rw [incs_get]
  by_cases hi : i < c.Blocks.toNat
  · rw [countsOf_get c A [] hi, countsOf_get c _ _ hi]
    have := cnt_snoc A s (i : Int)
    simp only [Option.map_some, Option.some.injEq]
    split at this <;> rename_i h
    · rw [if_pos h]; omega
    · rw [if_neg h]; omega
  · rw [List.getElem?_eq_none (by rw [countsOf_length]; omega), List.getElem?_eq_none (by rw [countsOf_length]; omega)]; rfl
theorem free_snocS {c : Srv} {A : List Seat} {s : Seat} (hh : heldOk c s.Held) : freeS c (A ++ [s]) [] 0 = freeS c A [] 0 - zeros (countsOf c A []) s.Held := by
  have hB : ∀ b ∈ s.Held, 0 ≤ b ∧ b < ((c.Blocks.toNat : Nat) : Int) := fun b h => by have := hh.1 b h; omega
  have h1 : zeros (countsOf c A []) s.Held = ((List.range c.Blocks.toNat).filter fun b : Nat => decide ((b : Int) ∈ s.Held) && decide (cnt A [] (b : Nat) = 0)).length := by
    rw [← held_range (fun b => decide (cnt A [] (b : Nat) = 0)) c.Blocks.toNat s.Held hh.2 hB]
    unfold zeros
    congr 1
    refine List.filter_congr fun b hb => ?_
    have := hB b hb
    rw [countsOf_get c A [] (b := b.toNat) (by omega)]
    simp only [Option.getD_some]
    congr 1
    simp only [eq_iff_iff]; omega
  have h2 : used c (A ++ [s]) [] = used c A [] + zeros (countsOf c A []) s.Held := by
    rw [h1]; unfold used
    have e : (List.range c.Blocks.toNat).filter (fun b : Nat => holds (A ++ [s]) [] (b : Nat)) = (List.range c.Blocks.toNat).filter fun b : Nat => holds A [] (b : Nat) || (decide ((b : Int) ∈ s.Held) && decide (cnt A [] (b : Nat) = 0)) := by
      refine List.filter_congr fun b _ => ?_
      rw [holds_cnt, holds_cnt, Bool.eq_iff_iff]
      have := cnt_snoc A s (b : Int)
      by_cases h : (b : Int) ∈ s.Held
      · rw [if_pos h] at this; simp [h]; omega
      · rw [if_neg h] at this; simp [h]; omega
    rw [e, filter_or]
    intro b _
    rw [holds_cnt]
    simp; omega
  unfold freeS; omega
theorem free_nil {c : Srv} (hc : c.okS 1) : freeS c [] [] 0 = c.Blocks := by
  have : used c [] [] = 0 := by
    unfold used; rw [List.length_eq_zero_iff, List.filter_eq_nil_iff]; intro b _; simp [holds]
  unfold freeS; omega
theorem rising_of {tv : List SV} (h : tv.Pairwise (fun x y => x.1.Id ≤ y.1.Id)) (hn : ((tv.map (·.1)).map (·.Id)).Nodup) : Rising (tv.map (·.1)) := by
  unfold Rising
  rw [List.pairwise_map]
  rw [List.map_map, List.nodup_iff_pairwise_ne, List.pairwise_map] at hn
  refine (h.and hn).imp fun ⟨h1, h2⟩ => ?_
  simp only [Function.comp, ne_eq] at h2; omega
end Go.Proofs.YthnmagdaepgdiaaX
