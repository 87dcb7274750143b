/- The program's copy of the seats is sorted by the Ids. -/
import Derived.Test.YthnmagdaepgdiaaXPrg5
import Derived.Test.YthnmagdaepgdiaaXSl
set_option linter.unusedSimpArgs false
set_option linter.unusedVariables false
namespace Go.Proofs.YthnmagdaepgdiaaX
open Go Go.SX Go.Shelf Go.RowKit Go.Lib Go.Sort

instance : Inhabited SV := ⟨(⟨0, 0, 0, 0, []⟩, none, 0)⟩
def ltS (x y : SV) : Bool := decide (x.1.Id < y.1.Id)
theorem swo_ltS : SWO ltS := ⟨fun x => by simp [ltS], fun x y z h1 h2 => by simp [ltS] at *; omega, fun x y z h1 h2 => by simp [ltS] at *; omega⟩

set_option maxHeartbeats 2000000 in
theorem less_calls (tb off pb wb c size : Nat) (W : World) (G : Nat → Int) (hp : W.cell? ⟨pb, 0, none⟩ = some (.pointer (some ⟨wb, 0, none⟩))) (hs : W.cell? ⟨wb, 5, none⟩ = some (.slice (some ⟨tb, off, none⟩) size c))
    (hc : ∀ t, t < size → W.cell? ⟨tb, off + t * 5, none⟩ = some (.int .i64 (G t))) (i j : Nat) (hi : i < size) (hj : j < size) (_hsz : size < 4611686018427387904) :
    Calls Try.prog 44 #[.int .i64 i, .int .i64 j, .pointer (some ⟨pb, 0, none⟩)] W fun e w' => e = .returned (.bool (decide (G i < G j))) ∧ ∃ q, w' = W.drewN q := by
  have ci := hc i hi
  have cj := hc j hj
  go_enter Try.func44, Try.ntmps44
  go_wp2
  go_quiet (fail)
  go_wp2
  go_ret
  exact ⟨rfl, nq, rfl⟩

section
variable {α : Type} [Inhabited α] (f : α → List Value) (k : Nat) (hk : ∀ x, (f x).length = k)
include hk
theorem flat_bang (l : List α) (sp : List Value) {t : Nat} (ht : t < l.length * k) : (l.flatMap f ++ sp)[t]? = some ((flatK f k l.toArray)[t]!) := by
  have h0 : 0 < k := by rcases Nat.eq_zero_or_pos k with h | h; (subst h; simp at ht); exact h
  have hi : t / k < l.length := Nat.div_lt_of_lt_mul (by rw [Nat.mul_comm]; exact ht)
  have hj : t % k < k := Nat.mod_lt _ h0
  have hx : l[t / k]? = some l[t / k] := List.getElem?_eq_getElem hi
  have h1 := flat_get f k hk sp l (t / k) (t % k) _ hx hj
  have e : t / k * k + t % k = t := by rw [Nat.mul_comm]; exact Nat.div_add_mod t k
  rw [e] at h1
  rw [h1, get_flatK _ _ _ _ (by simpa using ht)]
  have e2 : l.toArray[t / k]! = l[t / k] := by simp [hi]
  rw [e2]
  have hl : t % k < (f l[t / k]).length := by rw [hk]; exact hj
  rw [List.getElem?_eq_getElem hl]; simp [hl]
theorem holdsK_of {w : World} {b t : Nat} (l : List α) (sp : List Value) (h : w.heap[b]? = some (.cells ⟨l.flatMap f ++ sp⟩ t (0, 0))) : HoldsK f k w b 0 l.toArray := by
  intro j hj
  have hj' : j < l.length * k := by simpa using hj
  have := flat_bang f k hk l sp hj'
  constructor
  · simp only [World.cell?, h, Nat.zero_add, Option.isSome_none, Bool.false_eq_true, if_false, List.getElem?_toArray]
    rw [this]; rfl
  · simp [World.frozen?, h]
theorem own_sorted {w w' : World} {b t m : Nat} (l : List α) (sp : List Value) (h : w.heap[b]? = some (.cells ⟨l.flatMap f ++ sp⟩ t (0, 0))) (d : Array α) (hd : d.size = l.length) (os : Array Obj)
    (hw : w' = grow (putRowK f k (Sort.ahead w m) b 0 d) os) : Own w [b] [(b, .cells ⟨d.toList.flatMap f ++ sp⟩ t (0, 0))] w' := by
  obtain ⟨hb, he⟩ := Array.getElem?_eq_some_iff.1 h
  have e1 : (putRowK f k (Sort.ahead w m) b 0 d).heap = w.heap.modify b (onCells (putCells id 0 (flatK f k d))) := rfl
  have e2 : putCells id 0 (flatK f k d) ⟨l.flatMap f ++ sp⟩ = ⟨d.toList.flatMap f ++ sp⟩ := by
    unfold putCells
    refine Array.ext_getElem? fun j => ?_
    simp only [Array.getElem?_mapIdx, List.getElem?_toArray, Nat.zero_le, true_and, Nat.zero_add, size_flatK, Nat.sub_zero, id]
    by_cases hj : j < d.size * k
    · simp only [hj, if_true]
      rw [flat_bang f k hk l sp (by rw [← hd]; exact hj), flat_bang f k hk d.toList sp (by simpa using hj)]
      rfl
    · simp only [hj, if_false]
      rw [List.getElem?_append_right (by rw [flat_len f k hk, ← hd]; omega), List.getElem?_append_right (by rw [flat_len f k hk, Array.length_toList]; omega), flat_len f k hk, flat_len f k hk]
      have e3 : d.toList.length * k = l.length * k := by rw [Array.length_toList, hd]
      rw [e3]
      cases sp[j - l.length * k]? <;> rfl
  have hs : (w.heap.modify b (onCells (putCells id 0 (flatK f k d)))).size = w.heap.size := by simp
  subst hw
  refine ⟨by simp [grow, e1], rfl, rfl, rfl, ?_, by simp [keys], ?_, ?_⟩
  · intro x hx
    rw [List.mem_singleton.1 hx]
    rw [heap_grow_old _ _ (by rw [e1, hs]; exact hb), e1, Array.getElem?_modify, if_pos rfl, h]
    show some (onCells _ _) = _
    simp only [onCells, e2]
  · intro j hj hn
    rw [heap_grow_old _ _ (by rw [e1, hs]; exact hj), e1, Array.getElem?_modify, if_neg (fun e => hn (by simp [e]))]
  · intro x hx _
    rw [List.mem_singleton.1 hx]; simp
end

noncomputable def svT : TypeInfo := (Try.prog.info? 27).get (by kernel_rfl)
noncomputable def svE : TypeInfo := (Try.prog.info? 46).get (by kernel_rfl)
theorem svKN (n : Nat) (h2 : 2 ≤ n) : Lib.swapperK n svE 25 = 9 := by
  have a : svE.hasPointers = true := by kernel_rfl
  have b : svE.bytes = 56 := by kernel_rfl
  have c : (n == 0) = false := by simp; omega
  have d : (n == 1) = false := by simp; omega
  simp [Lib.swapperK, a, b, c, d]

theorem sort_fn (sv : List SV) (h2 : 2 ≤ sv.length) (hsz : sv.length < 4611686018427387904) (sp : List Value) (tb pb wb cap : Nat) :
    FC Try.prog 43 [.iface 27 (.slice (some ⟨tb, 0, none⟩) sv.length cap), .func (.func 44) #[] #[.pointer (some ⟨pb, 0, none⟩)]]
    [(tb, .cells ⟨sv.flatMap sxv ++ sp⟩ 46 (0, 0))] (fun h => cellv h ⟨pb, 0, none⟩ = some (.pointer (some ⟨wb, 0, none⟩)) ∧ cellv h ⟨wb, 5, none⟩ = some (.slice (some ⟨tb, 0, none⟩) sv.length cap))
    (fun v L => ∃ tv : List SV, tv.Perm sv ∧ tv.Pairwise (fun x y => x.1.Id ≤ y.1.Id) ∧ L = [(tb, .cells ⟨tv.flatMap sxv ++ sp⟩ 46 (0, 0))]) := by
  refine ⟨by kernel_rfl, fun w h1 hn hA => ?_⟩
  have hh := h1 _ (List.mem_singleton.2 rfl)
  simp only at hh
  have hblk : tb < w.heap.size := (Array.getElem?_eq_some_iff.1 hh).1
  obtain ⟨hp, hs⟩ := hA (oldv w (keys [(tb, .cells ⟨sv.flatMap sxv ++ sp⟩ 46 (0, 0))])) fun _ _ h => h
  have low : ∀ {a : Addr} {v : Value}, cellv (oldv w [tb]) a = some v → w.cell? a = some v ∧ a.block ≠ tb ∧ a.block < w.heap.size := by
    intro a v hc
    unfold cellv oldv at hc
    by_cases hab : a.block = tb
    · simp [hab] at hc
    · simp only [List.mem_singleton, hab, if_false] at hc
      refine ⟨by unfold World.cell?; exact hc, hab, ?_⟩
      split at hc
      · rename_i hx; exact (Array.getElem?_eq_some_iff.1 hx).1
      · cases hc
  obtain ⟨hp1, hp2, hp3⟩ := low hp
  obtain ⟨hs1, hs2, hs3⟩ := low hs
  have hH := holdsK_of sxv 5 sxv_len sv sp hh
  have hless : LessReadsK Try.prog 44 #[.pointer (some ⟨pb, 0, none⟩)] sxv 5 ltS tb 0 sv.toArray.size w := by
    intro m os dk hsk i j hi hj
    have e : sortWorldK sxv 5 w tb 0 m dk os = putRowK sxv 5 (grow (Sort.ahead w m) os) tb 0 dk := by
      unfold sortWorldK; rw [putRowK_grow _ _ (Sort.ahead w m) _ tb 0 _ hblk]
    have hHg : HoldsK sxv 5 (grow (Sort.ahead w m) os) tb 0 sv.toArray := holdsK_grow _ _ _ _ tb 0 _ hblk (holdsK_ahead _ _ _ _ _ _ _ hH)
    refine less_calls tb 0 pb wb cap sv.toArray.size _ (fun t => dk[t]!.1.Id) ?_ ?_ (fun t ht => ?_) i j hi hj (by simpa using hsz)
    · rw [e, cell?_putRowK_other _ _ _ tb 0 dk _ hp2, cell?_grow (Sort.ahead w m) os _ hp3]; exact hp1
    · rw [e, cell?_putRowK_other _ _ _ tb 0 dk _ hs2, cell?_grow (Sort.ahead w m) os _ hs3]; simpa using hs1
    · rw [e]; exact ((holdsK_putRowK _ _ _ tb 0 _ dk hHg hsk).cell (i := t) (c := 0) (by omega) (by omega)).1
  have hr := Any.sort_Slice_cells_sorted Try.sl6 27 46 svT svE (by kernel_rfl) (by kernel_rfl) (by kernel_rfl) (by kernel_rfl) 25 (fun _ => by kernel_rfl) sxv 5 sxv_len (by kernel_rfl) (fun _ => by kernel_rfl)
    sxv_one ltS swo_ltS 44 _ (enters_of Try.func44 (by kernel_rfl) rfl) tb 0 cap sv.toArray (by simpa using h2) (by simpa using hsz) 71 (by rw [svKN _ (by simpa using h2)]; kernel_rfl) false
    (fun args W => run_callFunc_extern Try.func71 (by kernel_rfl) (by kernel_rfl) (by kernel_rfl) (e := Extern.ReflectliteSwapper.swap false) (by kernel_rfl) args W) w hless hH hblk
  refine hr.mono ?_
  rintro e w' ⟨rfl, d', m, os, hperm, hsort, hw⟩
  have hds : d'.size = sv.length := by rw [hperm.1]; simp
  refine ⟨_, _, rfl, own_sorted sxv 5 sxv_len sv sp hh d' hds os hw, d'.toList, ?_, ?_, rfl⟩
  · have := hperm.2.2
    have ht : List.take sv.length d'.toList = d'.toList := List.take_of_length_le (by rw [Array.length_toList, hds]; exact Nat.le_refl _)
    simpa [hds, ht] using this
  · rw [List.pairwise_iff_getElem]
    intro i j hi hj hij
    have := hsort i j (Nat.zero_le _) hij (by simpa [hds] using hj)
    simp at hi hj
    simp [ltS, hi, hj] at this
    simpa using this
end Go.Proofs.YthnmagdaepgdiaaX
