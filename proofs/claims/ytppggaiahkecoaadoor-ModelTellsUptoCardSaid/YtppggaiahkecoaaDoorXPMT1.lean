/- What is told of a file: a cut, bytes behind, one byte changed. -/
import Derived.Test.YtppggaiahkecoaaDoorXPMR1
import Derived.Laws.Small
set_option linter.unusedSimpArgs false
set_option linter.unusedVariables false
namespace Go.SX
open Go

theorem dec_more (D : List Int → Int) (hD : ∀ l, 0 ≤ D l ∧ D l < 18446744073709551616) {w : Wts} (h : okW w) {t : List Int} (ht : t ≠ []) : decS D (fileOf D w ++ t) = none := by
  have e0 : fileOf D w ++ t = beginB ++ (secB 67 w.C.list ++ (wtsB w ++ (secB 90 (numB (D (fileB w)) 8) ++ t))) := by
    unfold fileOf fileB; rw [cfg_bytes h.c]; simp only [List.append_assoc]
  have t0 : takeS ⟨fileOf D w ++ t, false⟩ 6 = (beginB, ⟨secB 67 w.C.list ++ (wtsB w ++ (secB 90 (numB (D (fileB w)) 8) ++ t)), false⟩) := by
    rw [e0]; exact takeS_full beginB _
  have t1 : takeS (openS ⟨secB 67 w.C.list ++ (wtsB w ++ (secB 90 (numB (D (fileB w)) 8) ++ t)), false⟩ 67 8) 8 = (w.C.list, ⟨wtsB w ++ (secB 90 (numB (D (fileB w)) 8) ++ t), false⟩) :=
    sec_full (f := fun r => takeS r 8) (e := w.C.list) (x := w.C.list) (letter := 67) (n := 8) (fun t => takeS_full w.C.list t) rfl (by omega) _
  have t2 := weightsS_full h (secB 90 (numB (D (fileB w)) 8) ++ t)
  have t3 : takeS (openS ⟨secB 90 (numB (D (fileB w)) 8) ++ t, false⟩ 90 8) 8 = (numB (D (fileB w)) 8, ⟨t, false⟩) :=
    sec_full (f := fun r => takeS r 8) (e := numB (D (fileB w)) 8) (x := numB (D (fileB w)) 8) (letter := 90) (n := 8) (fun t => by have := takeS_full (numB (D (fileB w)) 8) t; rw [numB_len] at this; exact this) (by rw [numB_len]; rfl) (by omega) t
  unfold decS
  dsimp only
  rw [t0]
  dsimp only
  rw [if_neg (by simp), t1]
  dsimp only
  rw [cfg_list, if_neg (by simp [h.c]), t2]
  dsimp only
  rw [t3]
  dsimp only
  rw [if_pos (.inr (.inr (.inl ht)))]
/-- A first part of a file that is not all of it is no file. -/
theorem dec_cut (D : List Int → Int) (hD : ∀ l, 0 ≤ D l ∧ D l < 18446744073709551616) {w : Wts} (h : okW w) (hb : isB (fileOf D w)) {k : Nat} (hk : k < (fileOf D w).length) : decS D ((fileOf D w).take k) = none := by
  cases hd : decS D ((fileOf D w).take k) with
  | none => rfl
  | some w' =>
    obtain ⟨h1, h2⟩ := dec_sound D (fun y hy => hb y (List.mem_of_mem_take hy)) hd
    have h3 := dec_more D hD h1 (t := (fileOf D w).drop k) (fun e => by have := congrArg List.length e; rw [List.length_drop] at this; simp at this; omega)
    rw [h2, List.take_append_drop, dec_full D hD h] at h3
    cases h3
/-- One byte changed: no file, where the digest of a list with one byte changed is another one. -/
theorem dec_set (D : List Int → Int) (hD : ∀ l, 0 ≤ D l ∧ D l < 18446744073709551616) (hinj : ∀ (l : List Int) (k : Nat) (y : Int), isB l → 0 ≤ y ∧ y ≤ 255 → k < l.length → D (l.set k y) = D l → l.set k y = l)
    {w : Wts} (h : okW w) (hb : isB (fileOf D w)) {k : Nat} {y : Int} (hy : 0 ≤ y ∧ y ≤ 255) (hne : (fileOf D w).set k y ≠ fileOf D w) : decS D ((fileOf D w).set k y) = none := by
  have hbs : isB ((fileOf D w).set k y) := fun z hz => by
    rcases List.mem_or_eq_of_mem_set hz with h1 | rfl
    · exact hb z h1
    · exact hy
  cases hd : decS D ((fileOf D w).set k y) with
  | none => rfl
  | some w' =>
    exfalso
    obtain ⟨h1, h2⟩ := dec_sound D hbs hd
    have hl : (fileOf D w').length = (fileOf D w).length := by rw [h2, List.length_set]
    have hz : ∀ w, (secB 90 (numB (D (fileB w)) 8)).length = 13 := fun w => by simp only [secB, List.length_cons, List.length_append, numB_len]
    have hlB : (fileB w').length = (fileB w).length := by
      unfold fileOf at hl; rw [List.length_append, List.length_append, hz, hz] at hl; omega
    have hbB : isB (fileB w) := fun z hz => hb z (by unfold fileOf; exact List.mem_append_left _ hz)
    have hsec : ∀ {w}, numB (D (fileB w')) 8 = numB (D (fileB w)) 8 → D (fileB w') = D (fileB w) := fun {w} e => by
      have e2 := congrArg valB e
      rwa [val_num 8 _ (hD _).1 (by have := (hD (fileB w')).2; omega), val_num 8 _ (hD _).1 (by have := (hD (fileB w)).2; omega)] at e2
    by_cases hk : k < (fileB w).length
    · have e : fileB w' ++ secB 90 (numB (D (fileB w')) 8) = (fileB w).set k y ++ secB 90 (numB (D (fileB w)) 8) := by
        have := h2; unfold fileOf at this; rw [List.set_append_left _ _ hk] at this; exact this
      obtain ⟨e1, e2⟩ := List.append_inj e (by rw [List.length_set]; exact hlB)
      have e3 : numB (D (fileB w')) 8 = numB (D (fileB w)) 8 := by
        unfold secB at e2; simp only [List.cons.injEq, true_and] at e2
        exact (List.append_inj e2 (by rw [numB_len, numB_len])).2
      have e4 := hsec e3
      rw [e1] at e4
      have e5 := hinj _ _ _ hbB hy hk e4
      apply hne
      unfold fileOf; rw [List.set_append_left _ _ hk, e5]
    · have e : fileB w' ++ secB 90 (numB (D (fileB w')) 8) = fileB w ++ (secB 90 (numB (D (fileB w)) 8)).set (k - (fileB w).length) y := by
        have := h2; unfold fileOf at this; rw [List.set_append_right _ _ (by omega)] at this; exact this
      obtain ⟨e1, e2⟩ := List.append_inj e hlB
      apply hne
      have : fileOf D w' = fileOf D w := by unfold fileOf; rw [e1]
      rw [← h2, this]
/-! ### The digest's step is one-to-one -/
theorem mul_inj_aux (d q P I M C : Int) (h1 : d * P = M * q) (h2 : P * I = 1 + M * C) : d = M * (q * I - d * C) := by
  have h3 : d * P * I = M * q * I := by rw [h1]
  rw [Int.mul_assoc, h2, Int.mul_add, Int.mul_one, Int.mul_left_comm, Int.mul_assoc] at h3
  rw [Int.mul_sub]
  omega
theorem mul_inj_big : (1099511628211 : Int) * 14886173955864302971 = 1 + 18446744073709551616 * 887285111055 := by decide +kernel
theorem mul_inj_small {x y t : Int} (hx : 0 ≤ x ∧ x < 18446744073709551616) (hy : 0 ≤ y ∧ y < 18446744073709551616) (h : x - y = 18446744073709551616 * t) : x = y := by omega
theorem mul_inj {x y : Int} (hx : 0 ≤ x ∧ x < 18446744073709551616) (hy : 0 ≤ y ∧ y < 18446744073709551616) (h : x * 1099511628211 % 18446744073709551616 = y * 1099511628211 % 18446744073709551616) : x = y := by
  have e : (x * 1099511628211 - y * 1099511628211) % 18446744073709551616 = 0 := Int.emod_eq_emod_iff_emod_sub_eq_zero.1 h
  rw [← Int.sub_mul] at e
  obtain ⟨q, hq⟩ := Int.dvd_of_emod_eq_zero e
  exact mul_inj_small hx hy (mul_inj_aux _ _ _ _ _ _ hq mul_inj_big)
end Go.SX
/- Bools beside bools. -/
namespace Go.SX
open Go Go.RowKit
section
variable {P : Program} {Γ : Env P} {n : Nat} {w0 : World} {K : List Nat} {ρ : Fr} {L : HL}
theorem guard_bool (op : BinOp) (t : Nat) (x y : Operand) (a : Bool) (v : Value) (w : World) : (eqGuard op t x y (.bool a) v).run P w = .ok () w := by
  unfold eqGuard; cases op <;> first | rfl | (cases v <;> rfl)
theorem PR.eqBB {t ty : Nat} {a b : Bool} {x y : Operand} {r : TR} (ht : Γ.get t = some r) (hk : r.k = .bool) (hx : ev n ρ x = .bool a) (hy : ev n ρ y = .bool b) :
    PR Γ n w0 K ρ L (.binOp .eql t x y ty) (.bool (a == b)) := ⟨fun o ho w ow => by
  unfold execOp; rw [ho]
  refine run_value ?_
  rw [hx, hy, bind_run (guard_bool _ _ _ _ _ _ w)]
  show (((Op.equal t (.bool a) (.bool b)) >>= fun b => pure (Value.bool b)) : Sem Value).run P w = _
  rw [bind_run (run_equal_bool w t a b (tk_bool (Γ.is ht) hk))]; rfl⟩
theorem PR.neBB {t ty : Nat} {a b : Bool} {x y : Operand} {r : TR} (ht : Γ.get t = some r) (hk : r.k = .bool) (hx : ev n ρ x = .bool a) (hy : ev n ρ y = .bool b) :
    PR Γ n w0 K ρ L (.binOp .neq t x y ty) (.bool (!(a == b))) := ⟨fun o ho w ow => by
  unfold execOp; rw [ho]
  refine run_value ?_
  rw [hx, hy, bind_run (guard_bool _ _ _ _ _ _ w)]
  show (((Op.equal t (.bool a) (.bool b)) >>= fun b => pure (Value.bool (!b))) : Sem Value).run P w = _
  rw [bind_run (run_equal_bool w t a b (tk_bool (Γ.is ht) hk))]; rfl⟩
end
end Go.SX
