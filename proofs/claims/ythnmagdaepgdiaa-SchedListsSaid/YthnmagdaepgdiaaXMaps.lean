/- Maps of int to int that a call makes. -/
import Derived.Test.YthnmagdaepgdiaaXBuild
set_option linter.unusedSimpArgs false
set_option linter.unusedVariables false
namespace Go.SX
open Go Go.RowKit

def encE (x : Int × Int × Nat) : MapEntry := { key := .int .i64 x.1, val := .int .i64 x.2.1, born := x.2.2 }
def mget (l : List (Int × Int × Nat)) (k : Int) : Option Int := (l.find? (fun x => x.1 == k)).map (·.2.1)
/-- A map's object reads as m. -/
def MapIs (ob : Obj) (m : Int → Option Int) : Prop := ∃ l clock, ob = .map ⟨l.map encE⟩ clock ∧ (l.map (·.1)).Nodup ∧ ∀ k, mget l k = m k

theorem findNow_eq (k : Int) : ∀ (l : List (Int × Int × Nat)) (i : Nat), Instr.findNow (.int .i64) (.int .i64 k) (l.map encE) i =
    some ((l.findIdx? (fun x => x.1 == k)).bind fun j => (l[j]?).map fun x => (i + j, Value.int .i64 x.2.1))
  | [], i => by simp [Instr.findNow]
  | x :: l, i => by
    simp only [List.map_cons, Instr.findNow, encE, Instr.sameNow, if_true]
    by_cases h : k = x.1
    · subst h; simp [List.findIdx?_cons]
    · have h' : (k == x.1) = false := by simpa using h
      have h2 : (x.1 == k) = false := by simpa using fun e => h e.symm
      simp only [h']
      rw [findNow_eq k l (i + 1), List.findIdx?_cons, h2]
      cases hf : l.findIdx? (fun x => x.1 == k) with
      | none => simp
      | some j => simp; cases l[j]? <;> simp; omega

section
variable {P : Program} {Γ : Env P} {n : Nat} {w0 : World} {K : List Nat} {Q : Exit → Fr → HL → Prop} {ρ : Fr} {L R F : HL} {ops : List Oper} {N : Fr → HL → Prop}

theorem checkKey_int {t : Nat} {b : Bool} {v : Value} {k : IntKind} (hu : P.underlying t = some (.int k)) (w : World) (m : Nat) : (Instr.checkKey b (m + 1) t v).run P w = .ok () w := by
  unfold Instr.checkKey
  rw [bind_run (underlying_run hu w)]; cases v <;> rfl
theorem findKey_int {t : Nat} (hu : P.underlying t = some (.int .i64)) (k : Int) (l : List (Int × Int × Nat)) (w : World) : (Instr.findKey t (.int .i64 k) (l.map encE)).run P w =
    .ok ((l.findIdx? (fun x => x.1 == k)).bind fun j => (l[j]?).map fun x => (j, Value.int .i64 x.2.1)) w := by
  unfold Instr.findKey
  rw [bind_run (underlying_run hu w), findNow_eq]
  simp only [Nat.zero_add]; rfl
theorem find_of_idx (l : List (Int × Int × Nat)) (k : Int) : ((l.findIdx? (fun x => x.1 == k)).bind fun j => l[j]?) = l.find? (fun x => x.1 == k) := by
  induction l with
  | nil => rfl
  | cons x l ih =>
    rw [List.findIdx?_cons, List.find?_cons]
    cases h : (x.1 == k) with
    | true => simp
    | false =>
      simp only [Bool.false_eq_true, if_false]
      rw [← ih]
      cases l.findIdx? (fun x => x.1 == k) <;> simp

theorem mget_set : ∀ (l : List (Int × Int × Nat)) (j bn : Nat) (v k k' : Int) (hj : j < l.length), l[j].1 = k → (∀ q (hq : q < j), l[q].1 ≠ k) → mget (l.set j (k, v, bn)) k' = if k' = k then some v else mget l k'
  | x :: l, 0, bn, v, k, k', _, hk, _ => by
    simp only [List.getElem_cons_zero] at hk
    unfold mget
    simp only [List.set_cons_zero, List.find?_cons]
    by_cases h : k' = k
    · subst h; simp
    · have h1 : (k == k') = false := by simpa using fun e => h e.symm
      simp only [hk, h1, if_neg h]
  | x :: l, j + 1, bn, v, k, k', hj, hk, hf => by
    simp only [List.getElem_cons_succ] at hk
    have h0 : x.1 ≠ k := hf 0 (by omega)
    have ih := mget_set l j bn v k k' (by simpa using hj) hk (fun q hq => hf (q + 1) (by omega))
    unfold mget at ih ⊢
    simp only [List.set_cons_succ, List.find?_cons]
    by_cases hx : x.1 = k'
    · subst hx; simp [h0]
    · have h1 : (x.1 == k') = false := by simpa using hx
      simp only [h1]
      exact ih
theorem getObj_run {w : World} {b : Nat} {es : Array MapEntry} {c : Nat} (h : w.heap[b]? = some (.map es c)) : (getObj b).run P w = .ok (.map es c) w := by
  simp [getObj, Sem.run, h]

/-- m[k]. -/
theorem PR.lookup {t e i b : Nat} {te : Nat} {x ix : Operand} {r re rt : TR} {k : Int} {ob : Obj} {m : Int → Option Int} (ht : Γ.get t = some r) (hk : r.k = .map te e) (hte : Γ.get te = some rt) (hkt : rt.k = .int .i64)
    (he : Γ.get e = some re) (hz : force re.z = some (.int .i64 0)) (hx : ev n ρ x = .map (some b)) (hi : ev n ρ ix = .int .i64 k) (hL : L[i]? = some (b, ob)) (hm : MapIs ob m) :
    PR Γ n w0 K ρ L (.lookup t x ix false) (.int .i64 ((m k).getD 0)) := ⟨fun o ho w ow => by
  unfold execOp; rw [ho]
  refine run_value ?_
  obtain ⟨l, clock, rfl, hnd, hg⟩ := hm
  have hh := ow.has _ (List.mem_of_getElem? hL)
  rw [hx, hi]
  unfold Instr.lookup
  rw [bind_run (underlying_run (tk_map (Γ.is ht) hk) w)]
  simp only
  rw [bind_run (getObj_run hh)]
  simp only
  have h1 : (pure (⟨l.map encE⟩ : Array MapEntry) : Sem (Array MapEntry)).run P w = .ok ⟨l.map encE⟩ w := rfl
  rw [bind_run h1, bind_run (checkKey_int (tk_int (Γ.is hte) hkt) w 9999), bind_run (findKey_int (tk_int (Γ.is hte) hkt) k l w)]
  have h2 := find_of_idx l k
  have h3 := hg k
  unfold mget at h3
  rw [← h2] at h3
  cases hf : l.findIdx? (fun x => x.1 == k) with
  | none =>
    rw [hf] at h3
    simp only [Option.bind_none, Option.map_none] at h3 ⊢
    have hzr := zero_run (Γ.is he) w
    rw [force_eq hz] at hzr
    rw [bind_run hzr, ← h3]; rfl
  | some j =>
    rw [hf] at h3
    simp only [Option.bind_some] at h3 ⊢
    cases hj : l[j]? with
    | none => exfalso; have := (List.findIdx?_eq_some_iff_getElem.1 hf).1; rw [List.getElem?_eq_getElem this] at hj; cases hj
    | some x =>
      rw [hj] at h3
      simp only [Option.map_some] at h3 ⊢
      rw [← h3]; rfl⟩

/-- make(map[int]int). -/
theorem XOp.makeMap {d t ty : Nat} {pos : String} {af : Array Edge} {g : Option (Nat × Bool)} (hg : gval n ρ ops g = some true)
    (h : ∀ b ob, MapIs ob (fun _ => none) → N (upd ρ d (.map (some b))) ((b, ob) :: L)) :
    XOp Γ n w0 K ops { dst := some d, op := .makeMap t none, type := ty, pos := pos, after := af, guard := g } N ρ L :=
  XOp.val hg fun w ow => ⟨.map (some w.heap.size), w.alloc (.map #[] 0), _, by
    refine run_value ?_
    rfl, ow.new _, h w.heap.size _ ⟨[], 0, rfl, by simp, fun _ => rfl⟩⟩

theorem setObj_run {w : World} {b : Nat} {es : Array MapEntry} {c : Nat} (h : w.heap[b]? = some (.map es c)) (ob : Obj) : (setObj b ob).run P w = .ok () (putB w b ob) := by
  simp [setObj, Sem.run, h, putB]

/-- m[k] = v. -/
theorem XOp.mapUpdate {d : Option Nat} {t e i b te ty : Nat} {x y z : Operand} {pos : String} {af : Array Edge} {g : Option (Nat × Bool)} {r rt : TR} {k v : Int} {ob : Obj} {m : Int → Option Int} (hg : gval n ρ ops g = some true)
    (ht : Γ.get t = some r) (hk : r.k = .map te e) (hte : Γ.get te = some rt) (hkt : rt.k = .int .i64)
    (hx : ev n ρ x = .map (some b)) (hy : ev n ρ y = .int .i64 k) (hz : ev n ρ z = .int .i64 v) (hL : L[i]? = some (b, ob)) (hm : MapIs ob m)
    (h : ∀ ob', MapIs ob' (fun k' => if k' = k then some v else m k') → N (updO ρ d undef) (L.set i (b, ob'))) :
    XOp Γ n w0 K ops { dst := d, op := .mapUpdate t x y z, type := ty, pos := pos, after := af, guard := g } N ρ L := by
  refine XOp.noval hg fun w ow => ?_
  obtain ⟨l, clock, rfl, hnd, hgt⟩ := hm
  have hh := ow.has _ (List.mem_of_getElem? hL)
  simp only at hh
  have hres : ∃ ob', (Instr.mapUpdate t (ev n ρ x) (ev n ρ y) (ev n ρ z)).run P w = .ok () (putB w b ob') ∧ MapIs ob' (fun k' => if k' = k then some v else m k') := by
    rw [hx, hy, hz]
    unfold Instr.mapUpdate
    rw [bind_run (underlying_run (tk_map (Γ.is ht) hk) w)]
    simp only
    rw [bind_run (getObj_run hh)]
    simp only
    rw [bind_run (checkKey_int (tk_int (Γ.is hte) hkt) w 9999), bind_run (findKey_int (tk_int (Γ.is hte) hkt) k l w)]
    cases hf : l.findIdx? (fun x => x.1 == k) with
    | none =>
      simp only [Option.bind_none]
      rw [setObj_run hh]
      refine ⟨_, rfl, l ++ [(k, v, clock)], clock + 1, by simp [encE], ?_, fun k' => ?_⟩
      · rw [List.map_append, List.nodup_append]
        refine ⟨hnd, by simp, ?_⟩
        intro a ha b' hb' e
        simp only [List.map_cons, List.map_nil, List.mem_singleton] at hb'
        subst hb'; subst e
        obtain ⟨y', hy', he⟩ := List.mem_map.1 ha
        have := List.findIdx?_eq_none_iff.1 hf y' hy'
        simp at this
        exact this he
      · show mget _ k' = if k' = k then some v else m k'
        unfold mget
        rw [List.find?_append]
        have hn : l.find? (fun x => x.1 == k) = none := by rw [← find_of_idx, hf]; rfl
        by_cases hkk : k' = k
        · subst hkk; rw [hn]; simp
        · rw [if_neg hkk, ← hgt k']
          unfold mget
          have : ((k == k') : Bool) = false := by simpa using fun e => hkk e.symm
          cases l.find? (fun x => x.1 == k') <;> simp [this]
    | some j =>
      obtain ⟨hjl, hjk, hjm⟩ := List.findIdx?_eq_some_iff_getElem.1 hf
      have hj : l[j]? = some l[j] := List.getElem?_eq_getElem hjl
      simp only [Option.bind_some, hj, Option.map_some]
      have hkey : l[j].1 = k := by simpa using hjk
      have hstay : (Instr.keyThatStays (((Array.mk (l.map encE))[j]?.map (·.key)).getD (.int .i64 k)) (.int .i64 k)).run P w = .ok (.int .i64 k) w := by
        have e1 : (((Array.mk (l.map encE))[j]?.map (·.key)).getD (.int .i64 k)) = .int .i64 k := by
          simp [hj, encE, hkey]
        rw [e1]
        have e2 : Instr.sameBits 10000 (.int .i64 k) (.int .i64 k) = true := by
          show Instr.sameBits (9999 + 1) (.int .i64 k) (.int .i64 k) = true
          simp [Instr.sameBits]
        unfold Instr.keyThatStays
        rw [if_pos e2]; rfl
      rw [bind_run hstay, setObj_run hh]
      have e3 : (Array.mk (l.map encE)).modify j (fun e => { e with key := .int .i64 k, val := .int .i64 v }) = ⟨(l.set j (k, v, l[j].2.2)).map encE⟩ := by
        refine Array.ext' (List.ext_getElem? fun q => ?_)
        simp only [Array.toList_modify, List.getElem?_map, List.getElem?_modify, List.getElem?_set]
        by_cases hq : j = q
        · subst hq; simp [hjl, encE]
        · simp [hq]
      rw [e3]
      refine ⟨_, rfl, l.set j (k, v, l[j].2.2), clock, rfl, ?_, fun k' => ?_⟩
      · rw [List.map_set]
        have : (l.map (·.1)).set j k = l.map (·.1) := by
          refine List.ext_getElem? fun q => ?_
          rw [List.getElem?_set]
          by_cases hq : j = q
          · subst hq; simp [hjl, hkey]
          · simp [hq]
        rw [this]; exact hnd
      · show mget _ k' = if k' = k then some v else m k'
        rw [← hgt k']
        exact mget_set l j (l[j].2.2) v k k' hjl hkey (fun q hq => by simpa using hjm q hq)
  obtain ⟨ob', hr, hm'⟩ := hres
  refine ⟨putB w b ob', _, ?_, ow.set hL ob' rfl rfl rfl rfl, h ob' hm'⟩
  show ((Instr.mapUpdate t (ev n ρ x) (ev n ρ y) (ev n ρ z)).bind _).run P w = _
  rw [run_bind, hr]; rfl
theorem map_eraseIdx {α β : Type} (f : α → β) : ∀ (l : List α) (j : Nat), (l.eraseIdx j).map f = (l.map f).eraseIdx j
  | [], _ => rfl
  | _ :: _, 0 => rfl
  | x :: l, j + 1 => by simp [map_eraseIdx f l j]
theorem mget_erase : ∀ (l : List (Int × Int × Nat)) (j : Nat) (k k' : Int) (hj : j < l.length), l[j].1 = k → (l.map (·.1)).Nodup → mget (l.eraseIdx j) k' = if k' = k then none else mget l k'
  | x :: l, 0, k, k', _, hk, hn => by
    simp only [List.getElem_cons_zero] at hk
    simp only [List.map_cons, List.nodup_cons] at hn
    unfold mget
    simp only [List.eraseIdx_zero, List.tail_cons, List.find?_cons]
    by_cases h : k' = k
    · subst h
      rw [if_pos rfl]
      have : l.find? (fun x => x.1 == k') = none := by
        rw [List.find?_eq_none]
        intro y hy he
        have he' : y.1 = k' := by simpa using he
        exact hn.1 (List.mem_map.2 ⟨y, hy, he'.trans hk.symm⟩)
      rw [this]; rfl
    · have h1 : (x.1 == k') = false := by rw [hk]; simpa using fun e => h e.symm
      simp only [h1, if_neg h]
  | x :: l, j + 1, k, k', hj, hk, hn => by
    simp only [List.getElem_cons_succ] at hk
    simp only [List.map_cons, List.nodup_cons] at hn
    have hjl : j < l.length := by simpa using hj
    have h0 : x.1 ≠ k := fun e => hn.1 (by rw [e, ← hk]; exact List.mem_map.2 ⟨l[j], List.getElem_mem hjl, rfl⟩)
    have ih := mget_erase l j k k' hjl hk hn.2
    unfold mget at ih ⊢
    simp only [List.eraseIdx_cons_succ, List.find?_cons]
    by_cases hx : x.1 = k'
    · subst hx; simp [h0]
    · have h1 : (x.1 == k') = false := by simpa using hx
      simp only [h1]
      exact ih
/-- delete(m, k). -/
theorem XOp.delete {d : Option Nat} {t e i b te ty : Nat} {x y : Operand} {pos : String} {af : Array Edge} {g : Option (Nat × Bool)} {r rt : TR} {k : Int} {ob : Obj} {m : Int → Option Int} (hg : gval n ρ ops g = some true)
    (ht : Γ.get t = some r) (hk : r.k = .map te e) (hte : Γ.get te = some rt) (hkt : rt.k = .int .i64)
    (hx : ev n ρ x = .map (some b)) (hy : ev n ρ y = .int .i64 k) (hL : L[i]? = some (b, ob)) (hm : MapIs ob m)
    (h : ∀ ob', MapIs ob' (fun k' => if k' = k then none else m k') → N (updO ρ d (.tuple #[])) (L.set i (b, ob'))) :
    XOp Γ n w0 K ops { dst := d, op := .call { callee := .builtin .delete, args := #[x, y], argTypes := #[t, te] }, type := ty, pos := pos, after := af, guard := g } N ρ L := by
  refine XOp.val hg fun w ow => ?_
  obtain ⟨l, clock, rfl, hnd, hgt⟩ := hm
  have hh := ow.has _ (List.mem_of_getElem? hL)
  simp only at hh
  obtain ⟨cs, hrun⟩ := call_builtin (P := P) (n := n) (ρ := ρ) (b := .delete) (ts := #[t, te]) (xs := #[x, y])
    (o := { dst := d, op := .call { callee := .builtin .delete, args := #[x, y], argTypes := #[t, te] }, type := ty, pos := pos, after := af, guard := g }) rfl w
  have hargs : (args n ρ #[x, y]).toArray = #[.map (some b), .int .i64 k] := by simp [args, hx, hy]
  have hres : ∃ ob', (Builtin.delete_ #[t, te] ty #[.map (some b), .int .i64 k]).run P w = .ok (.tuple #[]) (putB w b ob') ∧ MapIs ob' (fun k' => if k' = k then none else m k') := by
    have core : (Builtin.delete_ #[t, te] ty #[.map (some b), .int .i64 k]).run P w = ((getObj b) >>= fun ob => (match ob with
        | .map es clock => do
          Instr.checkKey es.isEmpty 10000 te (.int .i64 k)
          match ← Instr.findKey te (.int .i64 k) es.toList with
          | some (i, _) => do setObj b (.map (es.eraseIdxIfInBounds i) clock); pure (.tuple #[])
          | none => do setObj b (.map es clock); pure (.tuple #[])
        | _ => do let _ ← (stuck "delete: map expected" : Sem PUnit); pure (.tuple #[]) : Sem Value)).run P w := by
      show (((underlying t) >>= _) : Sem Value).run P w = _
      rw [bind_run (underlying_run (tk_map (Γ.is ht) hk) w)]; rfl
    rw [core, bind_run (getObj_run hh)]
    simp only
    rw [bind_run (checkKey_int (tk_int (Γ.is hte) hkt) w 9999), bind_run (findKey_int (tk_int (Γ.is hte) hkt) k l w)]
    cases hf : l.findIdx? (fun x => x.1 == k) with
    | none =>
      simp only [Option.bind_none]
      rw [bind_run (setObj_run hh _)]
      refine ⟨_, rfl, l, clock, rfl, hnd, fun k' => ?_⟩
      show mget _ k' = if k' = k then none else m k'
      by_cases hkk : k' = k
      · subst hkk
        rw [if_pos rfl]; unfold mget; rw [← find_of_idx, hf]; rfl
      · rw [if_neg hkk]; exact hgt k'
    | some j =>
      obtain ⟨hjl, hjk, hjm⟩ := List.findIdx?_eq_some_iff_getElem.1 hf
      have hj : l[j]? = some l[j] := List.getElem?_eq_getElem hjl
      simp only [Option.bind_some, hj, Option.map_some]
      rw [bind_run (setObj_run hh _)]
      have e3 : (Array.mk (l.map encE)).eraseIdxIfInBounds j = ⟨(l.eraseIdx j).map encE⟩ := by
        refine Array.ext' ?_
        rw [map_eraseIdx]
        unfold Array.eraseIdxIfInBounds
        split
        · simp
        · rename_i hn; exact absurd (by simpa using hjl) hn
      rw [e3]
      refine ⟨_, rfl, l.eraseIdx j, clock, rfl, ?_, fun k' => ?_⟩
      · rw [map_eraseIdx]; exact hnd.sublist (List.eraseIdx_sublist ..)
      · show mget _ k' = if k' = k then none else m k'
        rw [← hgt k']
        exact mget_erase l j k k' hjl (by simpa using hjk) hnd
  obtain ⟨ob', hr, hm'⟩ := hres
  refine ⟨.tuple #[], putB w b ob', _, ?_, ow.set hL ob' rfl rfl rfl rfl, h ob' hm'⟩
  rw [hrun, hargs]
  exact run_value hr
end
end Go.SX
