/- The document's reader in plain Lean: it reads leniently from a place on; what it reads of a file is what was written. -/
import Derived.Test.YtppggaiahkecoaaDoorXPMR1
import Derived.Laws.Small
set_option linter.unusedSimpArgs false
set_option linter.unusedVariables false
namespace Go.SX
open Go

/-- n bytes from a place on; what is not there counts as 0. -/
def bytV (n : Nat) (b : List Int) (at_ : Nat) : List Int := (List.range n).map fun i => b.getD (at_ + i) 0
theorem bytV_len (n : Nat) (b : List Int) (at_ : Nat) : (bytV n b at_).length = n := by simp [bytV]
theorem bytV_isB {b : List Int} (h : isB b) (n at_ : Nat) : isB (bytV n b at_) := fun x hx => by
  obtain ⟨i, _, rfl⟩ := List.mem_map.1 hx
  rw [List.getD_eq_getElem?_getD]
  cases e : b[at_ + i]? with
  | none => simp
  | some y => exact h y (List.mem_of_getElem? e)
theorem bytV_full (p e t : List Int) : bytV e.length (p ++ (e ++ t)) p.length = e := by
  refine List.ext_getElem? fun i => ?_
  unfold bytV
  rw [List.getElem?_map]
  by_cases h : i < e.length
  · rw [List.getElem?_range h]
    simp only [Option.map_some]
    rw [List.getD_eq_getElem?_getD, List.getElem?_append_right (by omega), Nat.add_sub_cancel_left, List.getElem?_append_left h, List.getElem?_eq_getElem h]; rfl
  · rw [List.getElem?_eq_none (by simp; omega), List.getElem?_eq_none (by omega)]; rfl
def narV (n : Nat) (b : List Int) (at_ : Nat) : List Int × Nat := ((bytV n b at_).map toN, at_ + n)
def matV (rows cols : Int) (b : List Int) (at_ : Nat) : Mat × Nat := (⟨rows, cols, (narV (rows * cols).toNat b at_).1⟩, at_ + (rows * cols).toNat)
def turnV' (b : List Int) (at_ : Nat) : (Int × Int) × Nat := ((s16 (valB (bytV 2 b at_)), s16 (valB (bytV 2 b (at_ + 2)))), at_ + 4)
def secV {α : Type} (f : List Int → Nat → α × Nat) (b : List Int) (at_ : Nat) : α × Nat := f b (at_ + 5)
def bindV {α β : Type} (f : List Int → Nat → α × Nat) (g : α → List Int → Nat → β × Nat) (b : List Int) (at_ : Nat) : β × Nat := g (f b at_).1 b (f b at_).2
def retV {α : Type} (x : α) (_ : List Int) (at_ : Nat) : α × Nat := (x, at_)
def iterV {α : Type} (f : List Int → Nat → α × Nat) : Nat → List Int → Nat → List α × Nat
  | 0, _, at_ => ([], at_)
  | n + 1, b, at_ => let p := iterV f n b at_; (p.1 ++ [(f b p.2).1], (f b p.2).2)
theorem iterV_len {α : Type} (f : List Int → Nat → α × Nat) (b : List Int) (at_ : Nat) : ∀ n, (iterV f n b at_).1.length = n
  | 0 => rfl
  | n + 1 => by simp [iterV, iterV_len f b at_ n]
def layV (c : Cfg) : List Int → Nat → Lay × Nat :=
  bindV (narV c.Width.toNat) fun a => bindV (narV c.Width.toNat) fun b' => bindV (matV c.Width c.Width) fun q => bindV (matV c.keys c.Width) fun k => bindV (matV c.keys c.Width) fun v =>
  bindV (matV c.Width c.Width) fun o => bindV (matV c.Hidden c.Width) fun g => bindV (matV c.Hidden c.Width) fun u => bindV (matV c.Width c.Hidden) fun d => bindV (narV 7) fun y => retV ⟨a, b', q, k, v, o, g, u, d, y⟩
def weightsV (c : Cfg) : List Int → Nat → Wts × Nat :=
  bindV (secV (matV c.Vocab c.Width)) fun e => bindV (secV (iterV turnV' (c.head / 2).toNat)) fun t => bindV (iterV (secV (layV c)) c.Layers.toNat) fun l =>
  bindV (secV (narV c.Width.toNat)) fun f => bindV (secV (matV c.Vocab c.Width)) fun h => bindV (iterV (secV (matV c.Vocab c.Width)) c.Medusa.toNat) fun m => retV ⟨c, e, t, l, f, h, m⟩
def cfgV (b : List Int) : Cfg := cfgOf (narV 8 b 11).1

/-- What f reads where e lies is x. -/
def VF {α : Type} (f : List Int → Nat → α × Nat) (e : List Int) (x : α) : Prop := ∀ p t, f (p ++ (e ++ t)) p.length = (x, p.length + e.length)
theorem VF.conv {α : Type} {f : List Int → Nat → α × Nat} {e e' : List Int} {x : α} (h : VF f e x) (he : e = e') : VF f e' x := he ▸ h
theorem VF.bind {α β : Type} {f : List Int → Nat → α × Nat} {g : α → List Int → Nat → β × Nat} {e e' : List Int} {x : α} {y : β} (hf : VF f e x) (hg : VF (g x) e' y) : VF (bindV f g) (e ++ e') y := fun p t => by
  unfold bindV
  rw [List.append_assoc, hf p (e' ++ t)]
  have h := hg (p ++ e) t
  rw [List.append_assoc, List.length_append] at h
  simp only []
  rw [h, List.length_append, Nat.add_assoc]
theorem VF.ret {α : Type} (x : α) : VF (retV x) [] x := fun _ _ => rfl
theorem narV_full {l : List Int} (h : isN l) {n : Nat} (hn : n = l.length) : VF (narV n) (l.map toB) l := fun p t => by
  subst hn
  have := bytV_full p (l.map toB) t
  rw [List.length_map] at this
  unfold narV
  rw [this, mapN h, List.length_map]
theorem matV_full {m : Mat} {rows cols : Int} (h : isM m rows cols) : VF (matV rows cols) m.bytes m := fun p t => by
  obtain ⟨rfl, rfl, h1, h2, h3, h4⟩ := h
  have e := narV_full (l := m.Data) (fun x hx => by have := h4 x hx; omega) (n := (m.Rows * m.Cols).toNat) (by omega) p t
  unfold matV Mat.bytes
  rw [e, List.length_map, show (m.Rows * m.Cols).toNat = m.Data.length by omega]
theorem turnV_full {x : Int × Int} (h : (-16384 ≤ x.1 ∧ x.1 ≤ 16384) ∧ (-16384 ≤ x.2 ∧ x.2 ≤ 16384)) : VF turnV' (turnB x) x := fun p t => by
  have e1 := bytV_full p (numB (x.1 % 65536) 2) (numB (x.2 % 65536) 2 ++ t)
  have e2 := bytV_full (p ++ numB (x.1 % 65536) 2) (numB (x.2 % 65536) 2) t
  rw [numB_len] at e1
  rw [numB_len, List.length_append, numB_len] at e2
  unfold turnV' turnB
  rw [List.append_assoc, e1]
  rw [List.append_assoc] at e2
  rw [e2]
  rw [val_num 2 _ (by omega) (by omega), val_num 2 _ (by omega) (by omega), s16_mod (by omega), s16_mod (by omega)]
  rw [List.length_append, numB_len, numB_len]
theorem secV_full {α : Type} {f : List Int → Nat → α × Nat} {e : List Int} {x : α} (h : VF f e x) (k : Int) : VF (secV f) (secB k e) x := fun p t => by
  have := h (p ++ (k :: numB e.length 4)) t
  unfold secV secB
  rw [List.length_append, List.length_cons, numB_len, List.append_assoc] at this
  rw [List.cons_append, List.append_assoc]
  refine Eq.trans this ?_
  rw [List.length_cons, List.length_append, numB_len]
  exact Prod.ext rfl (by show _ = _; omega)
theorem iterV_snoc {α : Type} (f : List Int → Nat → α × Nat) (n : Nat) (b : List Int) (at_ : Nat) : iterV f (n + 1) b at_ = ((iterV f n b at_).1 ++ [(f b (iterV f n b at_).2).1], (f b (iterV f n b at_).2).2) := rfl
theorem iterV_full {α : Type} {f : List Int → Nat → α × Nat} {enc : α → List Int} (l : List α) (h : ∀ x ∈ l, VF f (enc x) x) : VF (iterV f l.length) (l.flatMap enc) l := fun p t => by
  suffices hs : ∀ n, n ≤ l.length → iterV f n (p ++ (l.flatMap enc ++ t)) p.length = (l.take n, p.length + ((l.take n).flatMap enc).length) by
    have := hs l.length (Nat.le_refl _)
    rw [List.take_length] at this; exact this
  intro n
  induction n with
  | zero => intro _; rfl
  | succ n ih =>
    intro hn
    have hx : l[n]? = some l[n] := List.getElem?_eq_getElem (by omega)
    have hm : l[n] ∈ l := List.getElem_mem (by omega)
    have hsp : l.flatMap enc = (l.take n).flatMap enc ++ (enc l[n] ++ (l.drop (n + 1)).flatMap enc) := by
      conv => lhs; rw [← List.take_append_drop n l, List.drop_eq_getElem_cons (by omega)]
      rw [List.flatMap_append, List.flatMap_cons]
    have hv := h _ hm (p ++ (l.take n).flatMap enc) ((l.drop (n + 1)).flatMap enc ++ t)
    rw [iterV_snoc, ih (by omega)]
    have e : p ++ (l.flatMap enc ++ t) = (p ++ (l.take n).flatMap enc) ++ (enc l[n] ++ ((l.drop (n + 1)).flatMap enc ++ t)) := by rw [hsp]; simp only [List.append_assoc]
    rw [e]
    rw [List.length_append] at hv
    simp only []
    rw [hv, List.take_add_one, hx]
    simp only [Option.toList_some, List.flatMap_append, List.flatMap_cons, List.flatMap_nil, List.append_nil, List.length_append]
    exact Prod.ext rfl (by show _ = _; omega)
theorem layV_full {c : Cfg} {l : Lay} (h : okL l c) : VF (layV c) (layBody l) l := by
  have fn : ∀ {x : List Int}, gainsS x c.Width → VF (narV c.Width.toNat) (x.map toB) x := fun {x} hx => narV_full (fun y hy => by have := hx.2 y hy; omega) (by have := hx.1; omega)
  have hy : VF (narV 7) (l.By.map toB) l.By := narV_full (fun y hy => by have := h.by_.2 y hy; omega) h.by_.1.symm
  unfold layV layBody
  refine VF.bind (fn h.n1) (VF.bind (fn h.n2) (VF.bind (matV_full h.q) (VF.bind (matV_full h.k) (VF.bind (matV_full h.v) (VF.bind (matV_full h.o) (VF.bind (matV_full h.g) (VF.bind (matV_full h.u) (VF.bind (matV_full h.d) ?_))))))))
  refine VF.conv (e := l.By.map toB ++ []) (VF.bind hy ?_) (List.append_nil _)
  exact VF.ret _
theorem weightsV_full {w : Wts} (h : okW w) : VF (weightsV w.C) (wtsB w) w := by
  have hc := h.c
  have ST : VF (secV (iterV turnV' (w.C.head / 2).toNat)) (secB 84 (w.Turns.flatMap turnB)) w.Turns := by
    rw [show (w.C.head / 2).toNat = w.Turns.length by have := h.t.1; omega]
    exact secV_full (iterV_full w.Turns fun x hx => turnV_full (h.t.2 x hx)) 84
  have SL : VF (iterV (secV (layV w.C)) w.C.Layers.toNat) (w.Layers.flatMap (fun l => secB 76 (layBody l))) w.Layers := by
    rw [show w.C.Layers.toNat = w.Layers.length by have := h.l.1; omega]
    exact iterV_full w.Layers fun x hx => secV_full (layV_full (h.l.2 x hx)) 76
  have SF : VF (secV (narV w.C.Width.toNat)) (secB 70 (w.Final.map toB)) w.Final := secV_full (narV_full (fun y hy => by have := h.f.2 y hy; omega) (by have := h.f.1; omega)) 70
  have SM : VF (iterV (secV (matV w.C.Vocab w.C.Width)) w.C.Medusa.toNat) (w.Medusa.flatMap (fun m => secB 77 m.bytes)) w.Medusa := by
    rw [show w.C.Medusa.toNat = w.Medusa.length by have := h.m.1; omega]
    exact iterV_full w.Medusa fun x hx => secV_full (matV_full (h.m.2 x hx)) 77
  unfold weightsV wtsB
  refine VF.bind (secV_full (matV_full h.e) 69) (VF.bind ST (VF.bind SL (VF.bind SF (VF.bind (secV_full (matV_full h.h) 72) ?_))))
  refine VF.conv (e := w.Medusa.flatMap (fun m => secB 77 m.bytes) ++ []) (VF.bind SM ?_) (List.append_nil _)
  exact VF.ret _
theorem file_view (D : List Int → Int) {w : Wts} (h : okW w) : cfgV (fileOf D w) = w.C ∧ (weightsV w.C (fileOf D w) 19).1 = w := by
  have e0 : fileOf D w = beginB ++ (secB 67 (w.C.list.map toB) ++ (wtsB w ++ secB 90 (numB (D (fileB w)) 8))) := by
    unfold fileOf fileB; simp only [List.append_assoc]
  have hN : isN w.C.list := by
    obtain ⟨h1, h2, h3, h4, h5, h6, h7, h8, h9, h10⟩ := h.c
    intro x hx
    simp only [Cfg.list, List.mem_cons, List.not_mem_nil, or_false] at hx
    rcases hx with rfl | rfl | rfl | rfl | rfl | rfl | rfl | rfl <;> omega
  have t1 := secV_full (narV_full hN (n := 8) rfl) 67 beginB (wtsB w ++ secB 90 (numB (D (fileB w)) 8))
  have t2 := weightsV_full h (beginB ++ secB 67 (w.C.list.map toB)) (secB 90 (numB (D (fileB w)) 8))
  rw [← e0] at t1
  rw [List.append_assoc, ← e0] at t2
  have hl : (beginB ++ secB 67 (w.C.list.map toB)).length = 19 := by
    rw [List.length_append, show (secB 67 (w.C.list.map toB)).length = 13 by unfold secB; rw [List.length_cons, List.length_append, numB_len, List.length_map]; rfl]; rfl
  rw [hl] at t2
  refine ⟨?_, by rw [t2]⟩
  have t3 : narV 8 (fileOf D w) 11 = (w.C.list, _) := t1
  unfold cfgV
  rw [t3]; exact cfg_list _
/-- The document's answer: read leniently, and held if writing gives the bytes again. -/
theorem dec_view (D : List Int → Int) (hD : ∀ l, 0 ≤ D l ∧ D l < 18446744073709551616) {b : List Int} (hb : isB b) :
    (¬ (cfgV b).may → decS D b = none) ∧ ((cfgV b).may → (okW (weightsV (cfgV b) b 19).1 ∧ fileOf D (weightsV (cfgV b) b 19).1 = b → decS D b = some (weightsV (cfgV b) b 19).1) ∧
      (¬ (okW (weightsV (cfgV b) b 19).1 ∧ fileOf D (weightsV (cfgV b) b 19).1 = b) → decS D b = none)) := by
  have key : ∀ w, decS D b = some w → cfgV b = w.C ∧ (weightsV (cfgV b) b 19).1 = w ∧ okW w ∧ fileOf D w = b := fun w h => by
    obtain ⟨h1, h2⟩ := dec_sound D hb h
    obtain ⟨h3, h4⟩ := file_view D h1
    rw [h2] at h3 h4
    exact ⟨h3, by rw [h3]; exact h4, h1, h2⟩
  refine ⟨fun h => ?_, fun hc => ⟨fun h => (dec_iff D hD hb).2 h, fun h => ?_⟩⟩
  · cases e : decS D b with
    | none => rfl
    | some w => obtain ⟨k1, _, k3, _⟩ := key w e; exact absurd (k1 ▸ k3.c) h
  · cases e : decS D b with
    | none => rfl
    | some w => obtain ⟨k1, k2, k3, k4⟩ := key w e; exact absurd ⟨k2.symm ▸ k3, k2.symm ▸ k4⟩ h
end Go.SX
/- Bools beside bools. -/
namespace Go.SX
open Go Go.RowKit
section
variable {P : Program} {Γ : Env P} {n : Nat} {w0 : World} {K : List Nat} {ρ : Fr} {L : HL}
theorem guard_bool (op : BinOp) (t : Nat) (x y : Operand) (a : Bool) (v : Value) (w : World) : (eqGuard op t x y (.bool a) v).run P w = .ok () w := by
  unfold eqGuard; cases op <;> first | rfl | (cases v <;> rfl)
theorem PR.eqBB {t ty : Nat} {a b : Bool} {x y : Operand} {r : TR} (ht : Γ.get t = some r) (hk : r.k = .bool) (hx : ev n ρ x = .bool a) (hy : ev n ρ y = .bool b) :
    PR Γ n w0 K ρ L (.binOp .eql t x y ty) (.bool (a == b)) := ⟨fun o ho w ow => by
  unfold execOp; rw [ho]
  refine run_value ?_
  rw [hx, hy, bind_run (guard_bool _ _ _ _ _ _ w)]
  show (((Op.equal t (.bool a) (.bool b)) >>= fun b => pure (Value.bool b)) : Sem Value).run P w = _
  rw [bind_run (run_equal_bool w t a b (tk_bool (Γ.is ht) hk))]; rfl⟩
theorem PR.neBB {t ty : Nat} {a b : Bool} {x y : Operand} {r : TR} (ht : Γ.get t = some r) (hk : r.k = .bool) (hx : ev n ρ x = .bool a) (hy : ev n ρ y = .bool b) :
    PR Γ n w0 K ρ L (.binOp .neq t x y ty) (.bool (!(a == b))) := ⟨fun o ho w ow => by
  unfold execOp; rw [ho]
  refine run_value ?_
  rw [hx, hy, bind_run (guard_bool _ _ _ _ _ _ w)]
  show (((Op.equal t (.bool a) (.bool b)) >>= fun b => pure (Value.bool (!b))) : Sem Value).run P w = _
  rw [bind_run (run_equal_bool w t a b (tk_bool (Γ.is ht) hk))]; rfl⟩
end
end Go.SX
