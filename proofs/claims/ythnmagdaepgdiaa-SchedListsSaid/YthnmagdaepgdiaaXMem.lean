/- What is read, at places that are reckoned; slices; blocks that grow. -/
import Derived.Test.YthnmagdaepgdiaaXDraw
import Derived.Test.YthnmagdaepgdiaaXArith
import Derived.Laws.AppendOwn
import Derived.Laws.MakeOwn
set_option linter.unusedSimpArgs false
set_option linter.unusedVariables false
namespace Go.SX
open Go Go.RowKit

/-- An operation that comes to a value and leaves the world alone, where L is held. -/
structure PR {P : Program} (_Γ : Env P) (n : Nat) (w0 : World) (K : List Nat) (ρ : Fr) (L : HL) (op : Op) (v : Value) : Prop where
  out : ∀ o : Oper, o.op = op → ∀ w, Own w0 K L w → (execOp (ev n ρ) o).run P w = .ok (.value v) w

section
variable {P : Program} {Γ : Env P} {n : Nat} {w0 : World} {K : List Nat} {Q : Exit → Fr → HL → Prop} {ρ : Fr} {L Lb : HL} {ops : List Oper} {o : Oper} {ds : List Nat} {p : Pl} {i : Nat} {lv : Bool} {N : Fr → HL → Prop}

theorem XOp.pr {d : Nat} {op : Op} {ty : Nat} {pos : String} {af : Array Edge} {g : Option (Nat × Bool)} {v : Value} (hg : gval n ρ ops g = some true) (hr : PR Γ n w0 K ρ L op v) (h : N (upd ρ d v) L) :
    XOp Γ n w0 K ops { dst := some d, op := op, type := ty, pos := pos, after := af, guard := g } N ρ L :=
  XOp.val hg fun w ow => ⟨v, w, L, hr.out _ rfl w ow, ow, h⟩
theorem XP.pr {d : Nat} {op : Op} {ty : Nat} {pos : String} {af : Array Edge} {g : Option (Nat × Bool)} {v : Value} (ho : ops[i]? = some { dst := some d, op := op, type := ty, pos := pos, after := af, guard := g })
    (hg : gval n ρ ops g = some true) (hr : PR Γ n w0 K ρ Lb op v) (h : XP Γ n w0 K ops Q Lb ds true p (upd ρ d v) L) : XP Γ n w0 K ops Q Lb ds true (.q i p) ρ L :=
  XP.q1 ho hg (fun w ow => hr.out _ rfl w ow) h

theorem PR.of {op : Op} {v : Value} (f : ∀ w, Own w0 K L w → (execOp (ev n ρ) { (default : Oper) with op := op }).run P w = .ok (.value v) w) (hl : ∀ o : Oper, o.op = op → execOp (ev n ρ) o = execOp (ev n ρ) { (default : Oper) with op := op }) : PR Γ n w0 K ρ L op v :=
  ⟨fun o ho w ow => by rw [hl o ho]; exact f w ow⟩

theorem PR.load {t b off : Nat} {x : Operand} {r : TR} {v : Value} (ht : Γ.get t = some r) (hk : aggK r.k = 1) (hx : ev n ρ x = .pointer (some ⟨b, off, none⟩))
    (hc : Known w0 K L (fun h => cellv h ⟨b, off, none⟩ = some v)) : PR Γ n w0 K ρ L (.load t x) v := ⟨fun o ho w ow => by
  unfold execOp; rw [ho]
  refine run_value ?_
  rw [hx]
  show (loadVar t ⟨b, off, none⟩).run P w = _
  exact load_run (Γ.is ht) ((tk_agg (Γ.is ht)).trans (by rw [← hk]; cases r.k <;> rfl)) (hc.at ow)⟩
theorem PR.loadN {t b off : Nat} {x : Operand} {r : TR} {vs : List Value} (ht : Γ.get t = some r) (hk : aggK r.k = 2) (hx : ev n ρ x = .pointer (some ⟨b, off, none⟩)) (hl : vs.length = r.sz)
    (hc : Known w0 K L (fun h => rowv h b off vs)) : PR Γ n w0 K ρ L (.load t x) (.agg ⟨vs⟩) := ⟨fun o ho w ow => by
  unfold execOp; rw [ho]
  refine run_value ?_
  rw [hx]
  show (loadVar t ⟨b, off, none⟩).run P w = _
  exact loadN_run (Γ.is ht) ((tk_agg (Γ.is ht)).trans (by rw [← hk]; cases r.k <;> rfl)) hl (hc.at ow)⟩

/-- A slice's element's place. -/
theorem PR.idx {t e b off l c : Nat} {x ix : Operand} {r re : TR} {k : IntKind} {j : Int} (ht : Γ.get t = some r) (hk : r.k = .slice e) (he : Γ.get e = some re)
    (hx : ev n ρ x = .slice (some ⟨b, off, none⟩) l c) (hi : ev n ρ ix = .int k j) (hr : 0 ≤ j ∧ j < l) : PR Γ n w0 K ρ L (.indexAddr t x ix) (.pointer (some ⟨b, off + j.toNat * re.sz, none⟩)) := ⟨fun o ho w ow => by
  unfold execOp; rw [ho]
  refine run_value ?_
  rw [hx, hi]
  simp only [Instr.indexAt, asIntOf]
  show (((pure _ : Sem (IntKind × Int)) >>= _) : Sem Value).run P w = _
  have h1 := underlying_run (tk_slice (Γ.is ht) hk) w
  have h2 := size_run (Γ.is he) w
  simp only [bind, Sem.bind, pure, run_bind, h1, h2, hr, if_true, and_self, Sem.run, add_off]⟩
theorem PR.idxA {t e l c : Nat} {a : Option Addr} {x ix : Operand} {r re : TR} {k : IntKind} {j : Int} (ht : Γ.get t = some r) (hk : r.k = .slice e) (he : Γ.get e = some re)
    (hx : ev n ρ x = .slice a l c) (hi : ev n ρ ix = .int k j) (hr : 0 ≤ j ∧ j < l) (ha : 0 < l → a = some ⟨ablk a, aoff a, none⟩) :
    PR Γ n w0 K ρ L (.indexAddr t x ix) (.pointer (some ⟨ablk a, aoff a + j.toNat * re.sz, none⟩)) :=
  PR.idx ht hk he (by rw [hx, ← ha (by omega)]) hi hr
/-- An array's element's place. -/
theorem PR.aidx {t e b off l : Nat} {x ix : Operand} {r re : TR} {k : IntKind} {j : Int} (ht : Γ.get t = some r) (hk : r.k = .array l e) (he : Γ.get e = some re)
    (hx : ev n ρ x = .pointer (some ⟨b, off, none⟩)) (hi : ev n ρ ix = .int k j) (hr : 0 ≤ j ∧ j < l) : PR Γ n w0 K ρ L (.indexAddr t x ix) (.pointer (some ⟨b, off + j.toNat * re.sz, none⟩)) := ⟨fun o ho w ow => by
  unfold execOp; rw [ho]
  refine run_value ?_
  rw [hx, hi]
  simp only [Instr.indexAt, asIntOf]
  show (((pure _ : Sem (IntKind × Int)) >>= _) : Sem Value).run P w = _
  have h1 := underlying_run (tk_array (Γ.is ht) hk) w
  have h2 := size_run (Γ.is he) w
  simp only [bind, Sem.bind, pure, run_bind, h1, h2, Instr.sureAddr, hr, if_true, and_self, Sem.run, add_off]⟩
theorem PR.quo {t ty : Nat} {x y : Operand} {k : IntKind} {a b : Int} (hx : ev n ρ x = .int k a) (hy : ev n ρ y = .int k b) (hr : b ≠ 0) : PR Γ n w0 K ρ L (.binOp .quo t x y ty) (.int k (k.wrap (a.tdiv b))) := ⟨fun o ho w ow => by
  unfold execOp; rw [ho]
  refine run_value ?_
  rw [hx, hy, eqGuard_at_int]
  show (binOp .quo t (.int k a) (.int k b)).run P w = _
  simp [binOp, Op.intDiv, hr, pure]⟩
theorem PR.rem {t ty : Nat} {x y : Operand} {k : IntKind} {a b : Int} (hx : ev n ρ x = .int k a) (hy : ev n ρ y = .int k b) (hr : b ≠ 0) : PR Γ n w0 K ρ L (.binOp .rem t x y ty) (.int k (a.tmod b)) := ⟨fun o ho w ow => by
  unfold execOp; rw [ho]
  refine run_value ?_
  rw [hx, hy, eqGuard_at_int]
  show (binOp .rem t (.int k a) (.int k b)).run P w = _
  simp [binOp, Op.intDiv, hr, pure]⟩
/-- A byte of a string. -/
def byteAt (s : ByteArray) (i : Nat) : Int := (((s.data.toList[i]?).getD 0).toNat : Int)
theorem PR.sidx {t : Nat} {x ix : Operand} {r : TR} {k : IntKind} {s : ByteArray} {j : Int} (ht : Γ.get t = some r) (hk : r.k = .string) (hx : ev n ρ x = .string s) (hi : ev n ρ ix = .int k j) (hr : 0 ≤ j ∧ j < s.size) :
    PR Γ n w0 K ρ L (.index t x ix) (.int .u8 (byteAt s j.toNat)) := ⟨fun o ho w ow => by
  unfold execOp; rw [ho]
  refine run_value ?_
  rw [hx, hi]
  simp only [Instr.index, asIntOf]
  show (((pure _ : Sem (IntKind × Int)) >>= _) : Sem Value).run P w = _
  have h1 := underlying_run (tk_string (Γ.is ht) hk) w
  have hlt : j.toNat < s.size := by omega
  have h2 : s[j.toNat]? = some (s[j.toNat]'hlt) := getElem?_pos s j.toNat hlt
  have h3 : byteAt s j.toNat = ((s[j.toNat]'hlt).toNat : Int) := by
    unfold byteAt
    have : s.data.toList[j.toNat]? = some (s[j.toNat]'hlt) := by
      have hl2 : j.toNat < s.data.toList.length := by simpa using hlt
      rw [List.getElem?_eq_getElem hl2]; rfl
    rw [this]; rfl
  simp only [bind, Sem.bind, pure, run_bind, h1, hr.1, if_true, h2, Sem.run, h3]⟩

/-! ### Slicing -/
theorem bound_run {v : Value} {k : IntKind} {j : Int} {y : Nat} {c : BoundsCode} (hv : v = .int k j) (h : 0 ≤ j ∧ j ≤ y) (w : World) : (Instr.sliceBound v y c).run P w = .ok j.toNat w := by
  subst hv
  simp only [Instr.sliceBound, asIntOf]
  show (((pure _ : Sem (IntKind × Int)) >>= _) : Sem Nat).run P w = _
  simp only [bind, Sem.bind, pure, h, and_self, if_true, Sem.run]
theorem bounds_run {sl : Bool} {len cap lo hi : Nat} {vl vh : Option Value}
    (hl : match vl with | none => lo = 0 | some y => ∃ k j, y = .int k j ∧ 0 ≤ j ∧ j.toNat = lo)
    (hh : match vh with | none => hi = len | some y => ∃ k j, y = .int k j ∧ 0 ≤ j ∧ j.toNat = hi) (hb : lo ≤ hi ∧ hi ≤ cap) (w : World) :
    (Instr.sliceBounds sl len cap vl vh none).run P w = .ok (lo, hi, cap) w := by
  cases vl with
  | none =>
    simp only at hl; subst hl
    cases vh with
    | none => simp only at hh; subst hh; rfl
    | some y =>
      obtain ⟨k, j, h3, h4, h5⟩ := hh
      show ((Instr.sliceBound y cap (if sl then .sliceAcap else .sliceAlen)) >>= fun h => pure (0, h, cap)).run P w = _
      rw [bind_run (bound_run h3 ⟨h4, by omega⟩ w), h5]; rfl
  | some x =>
    obtain ⟨k, j, h3, h4, h5⟩ := hl
    cases vh with
    | none =>
      simp only at hh; subst hh
      show ((Instr.sliceBound x hi .sliceB) >>= fun l => pure (l, hi, cap)).run P w = _
      rw [bind_run (bound_run h3 ⟨h4, by omega⟩ w), h5]; rfl
    | some y =>
      obtain ⟨k', j', h3', h4', h5'⟩ := hh
      show ((Instr.sliceBound y cap (if sl then .sliceAcap else .sliceAlen)) >>= fun h => (Instr.sliceBound x h .sliceB) >>= fun l => pure (l, h, cap)).run P w = _
      rw [bind_run (bound_run h3' ⟨h4', by omega⟩ w), h5', bind_run (bound_run h3 ⟨h4, by omega⟩ w), h5]; rfl
theorem optv {n : Nat} {ρ : Fr} {o : Option Operand} {d m : Nat} (h : match o with | none => m = d | some y => ∃ k j, ev n ρ y = .int k j ∧ 0 ≤ j ∧ j.toNat = m) :
    match o.map (ev n ρ) with | none => m = d | some y => ∃ k j, y = .int k j ∧ 0 ≤ j ∧ j.toNat = m := by cases o <;> exact h
/-- x[l:h], x[l:], x[:h], x[:] of a slice. -/
theorem PR.slice {t e l c lo hi : Nat} {a : Option Addr} {x : Operand} {ol oh : Option Operand} {r re : TR} (ht : Γ.get t = some r) (hk : r.k = .slice e) (he : Γ.get e = some re) (hx : ev n ρ x = .slice a l c)
    (hl : match ol with | none => lo = 0 | some y => ∃ k j, ev n ρ y = .int k j ∧ 0 ≤ j ∧ j.toNat = lo)
    (hh : match oh with | none => hi = l | some y => ∃ k j, ev n ρ y = .int k j ∧ 0 ≤ j ∧ j.toNat = hi) (hb : lo ≤ hi ∧ hi ≤ c) :
    PR Γ n w0 K ρ L (.slice t x ol oh none) (.slice (if c = lo then a else a.map (·.add (lo * re.sz))) (hi - lo) (c - lo)) := ⟨fun o ho w ow => by
  unfold execOp; rw [ho]
  refine run_value ?_
  rw [hx]
  have h1 := underlying_run (tk_slice (Γ.is ht) hk) w
  have h2 := size_run (Γ.is he) w
  have hbs := bounds_run (P := P) (sl := true) (optv hl) (optv hh) hb w
  simp only [Instr.sliceAt]
  rw [bind_run h1]
  simp only [Instr.slice, Option.map_none]
  rw [bind_run h1]
  simp only
  rw [bind_run hbs]
  simp only
  rw [bind_run h2]; rfl⟩
/-- The same of a string. -/
theorem PR.sslice {t lo hi : Nat} {s : ByteArray} {x : Operand} {ol oh : Option Operand} {r : TR} (ht : Γ.get t = some r) (hk : r.k = .string) (hx : ev n ρ x = .string s)
    (hl : match ol with | none => lo = 0 | some y => ∃ k j, ev n ρ y = .int k j ∧ 0 ≤ j ∧ j.toNat = lo)
    (hh : match oh with | none => hi = s.size | some y => ∃ k j, ev n ρ y = .int k j ∧ 0 ≤ j ∧ j.toNat = hi) (hb : lo ≤ hi ∧ hi ≤ s.size) :
    PR Γ n w0 K ρ L (.slice t x ol oh none) (.string (s.extract lo hi)) := ⟨fun o ho w ow => by
  unfold execOp; rw [ho]
  refine run_value ?_
  rw [hx]
  have h1 := underlying_run (tk_string (Γ.is ht) hk) w
  have hbs := bounds_run (P := P) (sl := false) (cap := s.size) (optv hl) (optv hh) hb w
  simp only [Instr.sliceAt]
  rw [bind_run h1]
  simp only [Instr.slice, Option.map_none]
  rw [bind_run h1]
  simp only [Option.isSome_none, Bool.false_eq_true, if_false]
  rw [bind_run hbs]; rfl⟩
end
end Go.SX
