/- Composites that are built; slices that are made. -/
import Derived.Test.YthnmagdaepgdiaaXGrow
set_option linter.unusedSimpArgs false
set_option linter.unusedVariables false
namespace Go.SX
open Go Go.RowKit

def fillL (place : Nat → Option (Nat × Nat)) : List Value → List (Nat × Value) → Option (List Value)
  | cells, [] => some cells
  | cells, (i, v) :: rest => match place i with
    | none => none
    | some (off, size) => match cellsO v with
      | some vs => match Nat.beq vs.length size && Nat.blt 0 size with
        | true => match lsetN cells off vs with
          | some c => fillL place c rest
          | none => none
        | false => none
      | none => none

theorem lsetN_fold : ∀ (vs : List Value) (cells cells' : List Value) (off k : Nat), lsetN cells (off + k) vs = some cells' →
    (vs.zipIdx k).foldl (fun (cs : Array Value) (x : Value × Nat) => cs.setIfInBounds (off + x.2) x.1) ⟨cells⟩ = ⟨cells'⟩ ∧ cells'.length = cells.length ∧ (vs ≠ [] → off + k + vs.length ≤ cells.length)
  | [], cells, cells', off, k, h => by cases h; exact ⟨rfl, rfl, fun h => absurd rfl h⟩
  | v :: vs, cells, cells', off, k, h => by
    unfold lsetN at h
    split at h
    · rename_i l' hl
      obtain ⟨rfl, ho⟩ := lset_eq hl
      have ih := lsetN_fold vs (cells.set (off + k) v) cells' off (k + 1) (by rw [show off + (k + 1) = off + k + 1 by omega]; exact h)
      refine ⟨?_, by rw [ih.2.1]; simp, fun _ => ?_⟩
      · rw [List.zipIdx_cons, List.foldl_cons]
        have e : (Array.mk cells).setIfInBounds (off + k) v = ⟨cells.set (off + k) v⟩ := by
          refine Array.ext' ?_; simp
        simp only
        rw [e]; exact ih.1
      · by_cases hv : vs = []
        · subst hv; simp; omega
        · have := ih.2.2 hv; simp at this ⊢; omega
    · cases h

theorem fillL_eq {place : Nat → Option (Nat × Nat)} : ∀ {parts : List (Nat × Value)} {cells cells' : List Value}, fillL place cells parts = some cells' → Instr.fill place ⟨cells⟩ parts = some ⟨cells'⟩
  | [], cells, cells', h => by cases h; rfl
  | (i, v) :: rest, cells, cells', h => by
    unfold fillL at h
    unfold Instr.fill
    split at h
    · cases h
    · rename_i off size hp
      rw [hp]
      split at h
      · rename_i vs hv
        split at h
        · rename_i hb
          rw [Bool.and_eq_true] at hb
          have hsz := Nat.eq_of_beq_eq_true hb.1
          have hpos : 0 < size := by have := hb.2; rwa [Nat.blt_eq] at this
          split at h
          · rename_i c hc
            have hcv := cellsO_eq hv
            have hf := lsetN_fold vs cells c off 0 hc
            simp only [cellsL_eq, hcv, List.size_toArray, hsz]
            rw [if_neg (by
              simp only [ne_eq, not_true_eq_false, decide_false, Bool.false_or, decide_eq_true_eq]
              have h0 : vs ≠ [] := fun e => by subst e; simp at hsz; omega
              have := hf.2.2 h0
              simp only [decide_eq_true_eq, Nat.not_lt]; omega)]
            have e : (Array.mk vs).zipIdx.foldl (fun (cs : Array Value) (x : Value × Nat) => cs.setIfInBounds (off + x.2) x.1) ⟨cells⟩ = ⟨c⟩ := by
              rw [← hf.1, ← Array.foldl_toList]; simp
            rw [e]
            exact fillL_eq h
          · cases h
        · cases h
      · cases h

section
variable {P : Program} {Γ : Env P} {n : Nat} {w0 : World} {K : List Nat} {Q : Exit → Fr → HL → Prop} {ρ : Fr} {L R F : HL} {ops : List Oper} {N : Fr → HL → Prop}

def parts (n : Nat) (ρ : Fr) (ps : Array (Nat × Operand)) : List (Nat × Value) := ps.toList.map fun x => (x.1, ev n ρ x.2)
def placeS (fs : List (Nat × Nat × Nat)) (i : Nat) : Option (Nat × Nat) := (fs[i]?).map fun x => (x.1, x.2.1)

theorem places_run {fs : List Field} (h : ∀ f ∈ fs, isAggT P f.type ≠ 0) (w : World) :
    (fs.mapM fun f => do pure (f.offset, ← sizeOf f.type) : Sem (List (Nat × Nat))).run P w = .ok (fs.map fun f => (f.offset, sizeT P f.type)) w := by
  induction fs with
  | nil => rfl
  | cons f fs ih =>
    rw [List.mapM_cons]
    have hs : (sizeOf f.type).run P w = .ok (sizeT P f.type) w := by
      have := h f (by simp)
      unfold isAggT at this
      cases hu : P.underlying f.type with
      | none => rw [hu] at this; exact absurd rfl this
      | some d =>
        cases hi : P.info? f.type with
        | none => simp [Program.underlying, hi] at hu
        | some i => simp [sizeOf, typeInfo, program, bind, Sem.bind, Sem.run, hi, pure, sizeT]
    have h1 : (do pure (f.offset, ← sizeOf f.type) : Sem (Nat × Nat)).run P w = .ok (f.offset, sizeT P f.type) w := by
      rw [bind_run hs]; rfl
    rw [bind_run h1, bind_run (ih fun g hg => h g (by simp [hg]))]; rfl

/-- A struct's literal. -/
theorem PR.build {t : Nat} {ps : Array (Nat × Operand)} {r : TR} {fs : List (Nat × Nat × Nat)} {zs cs : List Value} (ht : Γ.get t = some r) (hk : r.k = .struct fs) (hok : fs.all (fun x => !Nat.beq x.2.2 0) = true)
    (hz : cellsO r.z = some zs) (hf : fillL (placeS fs) zs (parts n ρ ps) = some cs) : PR Γ n w0 K ρ L (.build t ps) (.agg ⟨cs⟩) := ⟨fun o ho w ow => by
  unfold execOp; rw [ho]
  refine run_value ?_
  obtain ⟨fl, hfl, hm⟩ := tk_struct (Γ.is ht) hk
  unfold Instr.build
  rw [bind_run (zero_run (Γ.is ht) w), bind_run (underlying_run hfl w)]
  simp only
  have hpl : ((fl.mapM fun f => do pure (f.offset, ← sizeOf f.type)) : Sem (Array (Nat × Nat))).run P w = .ok (fl.toList.map fun f => (f.offset, sizeT P f.type)).toArray w := by
    rw [← Array.toArray_toList (xs := fl), List.mapM_toArray]
    show ((List.mapM (fun f : Field => (do pure (f.offset, ← sizeOf f.type) : Sem (Nat × Nat))) fl.toList).bind _).run P w = _
    rw [run_bind, places_run (fun f hf' => ?_)]
    · rfl
    · subst hm
      have := List.all_eq_true.1 hok (f.offset, sizeT P f.type, isAggT P f.type) (List.mem_map.2 ⟨f, hf', rfl⟩)
      intro e
      simp only at this
      rw [e] at this; cases this
  rw [bind_run hpl]
  have hplace : (fun i => (fl.toList.map fun f => (f.offset, sizeT P f.type)).toArray[i]?) = placeS fs := by
    funext i
    subst hm
    simp only [placeS, List.getElem?_toArray, List.getElem?_map, Option.map_map]
    rfl
  have hparts : (ps.map fun x => (x.1, ev n ρ x.2)).toList = parts n ρ ps := by simp [parts]
  have hfill := fillL_eq hf
  rw [cellsL_eq, cellsO_eq hz]
  have e2 : Instr.fill (fun i => (fl.toList.map fun f => (f.offset, sizeT P f.type)).toArray[i]?) ⟨zs⟩ (ps.map fun x => (x.1, ev n ρ x.2)).toList = some ⟨cs⟩ := by
    rw [hplace, hparts]; exact hfill
  simp only [e2]; rfl⟩

/-- So many zeros one behind the other. -/
def zerosL (zs : List Value) : Nat → List Value
  | 0 => []
  | k + 1 => zs ++ zerosL zs k
theorem zerosL_length (zs : List Value) : ∀ k, (zerosL zs k).length = k * zs.length
  | 0 => by simp [zerosL]
  | k + 1 => by simp [zerosL, zerosL_length zs k, Nat.add_mul]; omega
theorem zerosL_get (zs : List Value) (hz : 0 < zs.length) : ∀ (k i : Nat), i < k * zs.length → (zerosL zs k)[i]? = zs[i % zs.length]?
  | 0, i, h => by simp at h
  | k + 1, i, h => by
    unfold zerosL
    by_cases hi : i < zs.length
    · rw [List.getElem?_append_left hi, Nat.mod_eq_of_lt hi]
    · rw [List.getElem?_append_right (by omega), zerosL_get zs hz k (i - zs.length) (by rw [Nat.add_mul] at h; omega)]
      rw [← Nat.mod_eq_sub_mod (by omega)]
theorem zerosL_eq (zs : List Value) (hz : 0 < zs.length) (k : Nat) : (Array.range (k * zs.length)).map (fun i => (Array.mk zs)[i % (Array.mk zs).size]!) = ⟨zerosL zs k⟩ := by
  refine Array.ext' (List.ext_getElem? fun i => ?_)
  simp only [Array.toList_map, Array.toList_range, List.getElem?_map, List.size_toArray]
  by_cases hi : i < k * zs.length
  · rw [List.getElem?_range hi, zerosL_get zs hz k i hi]
    have hm : i % zs.length < zs.length := Nat.mod_lt _ hz
    simp [hm]
  · rw [List.getElem?_eq_none (by simpa using Nat.le_of_not_lt hi), List.getElem?_eq_none (by rw [zerosL_length]; omega)]; rfl

/-- []T{..}. -/
theorem XOp.buildSlice {d t e k : Nat} {ty : Nat} {ps : Array (Nat × Operand)} {pos : String} {af : Array Edge} {g : Option (Nat × Bool)} {r re : TR} {zs cs : List Value}
    (hg : gval n ρ ops g = some true) (ht : Γ.get t = some r) (hk : r.k = .slice e) (he : Γ.get e = some re) (hz : cellsO re.z = some zs) (hzl : (Nat.beq zs.length re.sz && Nat.blt 0 re.sz && Nat.blt (k * re.sz) 16777216 && Nat.blt 0 k) = true)
    (hf : fillL (fun i => some (i * re.sz, re.sz)) (zerosL zs k) (parts n ρ ps) = some cs)
    (h : ∀ b, N (upd ρ d (.slice (some ⟨b, 0, none⟩) k k)) ((b, .cells ⟨cs⟩ e (0, 0)) :: L)) :
    XOp Γ n w0 K ops { dst := some d, op := .buildSlice t k ps, type := ty, pos := pos, after := af, guard := g } N ρ L := by
  simp only [Bool.and_eq_true, Nat.blt_eq] at hzl
  obtain ⟨⟨⟨hz1, hz2⟩, hz3⟩, hz4⟩ := hzl
  have hz1 := Nat.eq_of_beq_eq_true hz1
  refine XOp.val hg fun w ow => ⟨.slice (some ⟨w.heap.size, 0, none⟩) k k, w.alloc (.cells ⟨cs⟩ e (0, 0)), _, ?_, ow.new _, h w.heap.size⟩
  refine run_value ?_
  unfold Instr.buildSlice
  rw [bind_run (underlying_run (tk_slice (Γ.is ht) hk) w)]
  simp only
  rw [bind_run (size_run (Γ.is he) w)]
  have hne : ¬ k * re.sz = 0 := Nat.pos_iff_ne_zero.1 (Nat.mul_pos hz4 hz2)
  rw [if_neg (by omega), if_neg hne]
  rw [bind_run (zero_run (Γ.is he) w)]
  show ((pure re.z.cells : Sem (Array Value)) >>= _).run P w = _
  rw [bind_run (show (pure re.z.cells : Sem (Array Value)).run P w = .ok ⟨zs⟩ w by rw [cellsL_eq, cellsO_eq hz]; rfl)]
  have hparts : (ps.map fun x => (x.1, ev n ρ x.2)).toList = parts n ρ ps := by simp [parts]
  have e1 : Instr.fill (fun i => some (i * re.sz, re.sz)) ((Array.range (k * re.sz)).map (fun i => (Array.mk zs)[i % (Array.mk zs).size]!)) (ps.map fun x => (x.1, ev n ρ x.2)).toList = some ⟨cs⟩ := by
    rw [← hz1, zerosL_eq zs (by omega), hz1, hparts]; exact fillL_eq hf
  simp only [e1]; rfl

/-- make([]T, k). -/
theorem XOp.make {d t e k c : Nat} {ty : Nat} {x y : Operand} {pos : String} {af : Array Edge} {g : Option (Nat × Bool)} {r re : TR} {zs : List Value}
    (hg : gval n ρ ops g = some true) (ht : Γ.get t = some r) (hk : r.k = .slice e) (he : Γ.get e = some re) (hz : cellsO re.z = some zs) (hzl : (Nat.beq zs.length re.sz && Nat.blt 0 re.sz) = true)
    (hx : ev n ρ x = .int .i64 (k : Int)) (hy : ev n ρ y = .int .i64 (c : Int)) (hkc : k ≤ c) (hb : (c : Int) * re.by_ ≤ 281474976710656) (h63 : (c : Int) ≤ 9223372036854775807)
    (h : ∀ b, N (upd ρ d (.slice (some ⟨b, 0, none⟩) k c)) ((b, .cells ⟨zerosL zs c⟩ e (0, 0)) :: L)) :
    XOp Γ n w0 K ops { dst := some d, op := .makeSlice t x y, type := ty, pos := pos, after := af, guard := g } N ρ L := by
  simp only [Bool.and_eq_true, Nat.blt_eq] at hzl
  have hz1 := Nat.eq_of_beq_eq_true hzl.1
  obtain ⟨i, hi, his, hib, hiz⟩ := (Γ.is he).i
  refine XOp.val hg fun w ow => ⟨.slice (some ⟨w.heap.size, 0, none⟩) k c, w.alloc (.cells ⟨zerosL zs c⟩ e (0, 0)), _, ?_, ow.new _, h w.heap.size⟩
  refine run_value ?_
  have hr := run_make (P := P) w t e i re.z (tk_slice (Γ.is ht) hk) hi hiz .i64 .i64 (k : Int) (c : Int) (Int.natCast_nonneg k) (Int.ofNat_le.2 hkc) (by rw [hib, Int.mul_comm]; exact hb) h63
  rw [hx, hy, hr]
  have e1 : madeCells re.z.cells ((c : Int).toNat * i.size) = ⟨zerosL zs c⟩ := by
    unfold madeCells
    rw [cellsL_eq, cellsO_eq hz, his, ← hz1, Int.toNat_natCast]
    exact zerosL_eq zs (by omega) c
  rw [e1]; rfl

/-- A store of one cell at a place that is reckoned. -/
theorem XOp.storeAt {d : Option Nat} {t ty i b off : Nat} {x y : Operand} {pos : String} {af : Array Edge} {g : Option (Nat × Bool)} {r : TR} {v : Value} {cs : List Value} {te : Nat} {L' : HL}
    (hg : gval n ρ ops g = some true) (ht : Γ.get t = some r) (hk : r.sz = 1) (hx : ev n ρ x = .pointer (some ⟨b, off, none⟩)) (hv' : force (ev n ρ y) = some v) (h1 : v.oneCell' = true)
    (hi : L[i]? = some (b, .cells ⟨cs⟩ te (0, 0))) (hoff : off < cs.length) (ha : aset L i (b, .cells ⟨cs.set off v⟩ te (0, 0)) = some L')
    (h : N (updO ρ d undef) L') :
    XOp Γ n w0 K ops { dst := d, op := .store t x y, type := ty, pos := pos, after := af, guard := g } N ρ L :=
  XOp.noval hg fun w ow => by
    have hv := force_eq hv'
    refine ⟨putB w b (.cells ⟨cs.set off v⟩ te (0, 0)), L', ?_, ow.put hi ha, h⟩
    have hh := ow.has _ (List.mem_of_getElem? hi)
    have hc : v.cells = #[v] := by cases v <;> simp [Value.oneCell'] at h1 <;> rfl
    have hrun : (Instr.storeAt t (ev n ρ x) (ev n ρ y)).run P w = .ok () (putB w b (.cells ⟨cs.set off v⟩ te (0, 0))) := by
      rw [hx, hv]
      show (storeVar t ⟨b, off, none⟩ v).run P w = _
      unfold storeVar
      rw [hc, bind_run (size_run (Γ.is ht) w), hk]
      show ((Go.store ((Addr.mk b off none).add 0) v).bind _).run P w = _
      rw [add_off, run_bind, Nat.add_zero, store_one hh hoff h1]; rfl
    show ((Instr.storeAt t (ev n ρ x) (ev n ρ y)).bind _).run P w = _
    rw [run_bind, hrun]; rfl
end
end Go.SX
