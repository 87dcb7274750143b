/- The digest of a list with one byte changed is another one. -/
import Derived.Test.YtppggaiahkecoaaDoorXPMR6
import Derived.Test.YtppggaiahkecoaaDoorXPMT1
import Derived.Test.YtppggaiahkecoaaDoorXPMR4
set_option linter.unusedSimpArgs false
set_option linter.unusedVariables false
namespace Go.Proofs.YtppggaiahkecoaaDoorX
open Go Go.SX

theorem wrap_u64 (z : Int) : IntKind.u64.wrap z = z % 18446744073709551616 := by
  simp [IntKind.wrap, IntKind.signed, IntKind.bits]
theorem step_mul {h b h' b' : Int} (e : digStep h b = digStep h' b') : bitsV .xor .u64 h (IntKind.u64.wrap b) = bitsV .xor .u64 h' (IntKind.u64.wrap b') := by
  unfold digStep at e
  rw [wrap_u64, wrap_u64] at e
  have r : ∀ x y : Int, 0 ≤ bitsV .xor .u64 x y ∧ bitsV .xor .u64 x y < 18446744073709551616 := fun x y => by
    have := inK_u64.1 (show inK .u64 (bitsV .xor .u64 x y) from inK_wrap _ _); omega
  exact mul_inj (r _ _) (r _ _) e
theorem xor_bv {x y x' y' : Int} (e : bitsV .xor .u64 x y = bitsV .xor .u64 x' y') : BitVec.ofInt 64 x ^^^ BitVec.ofInt 64 y = BitVec.ofInt 64 x' ^^^ BitVec.ofInt 64 y' := by
  have w : ∀ v : BitVec 64, IntKind.u64.wrap (v.toNat : Int) = (v.toNat : Int) := fun v => wrap_of (inK_u64.2 ⟨Int.natCast_nonneg _, by have := v.isLt; omega⟩)
  have e2 : IntKind.u64.wrap ((BitVec.ofInt 64 x ^^^ BitVec.ofInt 64 y).toNat : Int) = IntKind.u64.wrap ((BitVec.ofInt 64 x' ^^^ BitVec.ofInt 64 y').toNat : Int) := e
  rw [w, w] at e2
  exact BitVec.eq_of_toNat_eq (by omega)
theorem ofInt_inj {x y : Int} (hx : inK .u64 x) (hy : inK .u64 y) (e : BitVec.ofInt 64 x = BitVec.ofInt 64 y) : x = y := by
  have hx := inK_u64.1 hx
  have hy := inK_u64.1 hy
  have e2 := congrArg BitVec.toNat e
  rw [BitVec.toNat_ofInt, BitVec.toNat_ofInt] at e2
  omega
theorem step_h {h h' b : Int} (hh : inK .u64 h) (hh' : inK .u64 h') (e : digStep h b = digStep h' b) : h = h' := by
  have e2 := xor_bv (step_mul e)
  refine ofInt_inj hh hh' ?_
  have := congrArg (· ^^^ BitVec.ofInt 64 (IntKind.u64.wrap b)) e2
  simpa [BitVec.xor_assoc] using this
theorem step_b {h b b' : Int} (hb : 0 ≤ b ∧ b ≤ 255) (hb' : 0 ≤ b' ∧ b' ≤ 255) (e : digStep h b = digStep h b') : b = b' := by
  have e2 := xor_bv (step_mul e)
  have i : inK .u64 b := inK_u64.2 (by omega)
  have i' : inK .u64 b' := inK_u64.2 (by omega)
  rw [wrap_of i, wrap_of i'] at e2
  refine ofInt_inj i i' ?_
  have := congrArg (BitVec.ofInt 64 h ^^^ ·) e2
  simpa [← BitVec.xor_assoc] using this
theorem fold_inj : ∀ (l : List Int) (h h' : Int), inK .u64 h → inK .u64 h' → l.foldl digStep h = l.foldl digStep h' → h = h'
  | [], _, _, _, _, e => e
  | b :: l, h, h', i, i', e => step_h i i' (fold_inj l _ _ (inK_wrap _ _) (inK_wrap _ _) e)
theorem fold_u64 : ∀ (l : List Int) (h : Int), inK .u64 h → inK .u64 (l.foldl digStep h)
  | [], _, i => i
  | _ :: l, _, _ => fold_u64 l _ (inK_wrap _ _)
theorem dig_set : ∀ (l : List Int) (k : Nat) (y h : Int), isB l → 0 ≤ y ∧ y ≤ 255 → k < l.length → (l.set k y).foldl digStep h = l.foldl digStep h → l.set k y = l
  | [], _, _, _, _, _, hk, _ => absurd hk (by simp)
  | b :: l, 0, y, h, hb, hy, _, e => by
    rw [List.set_cons_zero] at e ⊢
    rw [List.foldl_cons, List.foldl_cons] at e
    have := step_b hy (hb b (List.mem_cons_self ..)) (fold_inj l _ _ (inK_wrap _ _) (inK_wrap _ _) e)
    rw [this]
  | b :: l, k + 1, y, h, hb, hy, hk, e => by
    rw [List.set_cons_succ] at e ⊢
    rw [List.foldl_cons, List.foldl_cons] at e
    rw [dig_set l k y _ (fun z hz => hb z (List.mem_cons_of_mem _ hz)) hy (by simpa using hk) e]
theorem digS_set {l : List Int} {k : Nat} {y : Int} (hb : isB l) (hy : 0 ≤ y ∧ y ≤ 255) (hk : k < l.length) (e : digS (l.set k y) = digS l) : l.set k y = l := dig_set l k y _ hb hy hk e
theorem tell_cut {w : Wts} (h : okW w) {k : Nat} (hk : k < (encS w).length) : decS digS ((encS w).take k) = none := by
  rw [encS_ok h] at hk ⊢; exact dec_cut digS digS_rng h (isB_file _ _) hk
theorem tell_more {w : Wts} (h : okW w) {t : List Int} (ht : t ≠ []) : decS digS (encS w ++ t) = none := by
  rw [encS_ok h]; exact dec_more digS digS_rng h ht
theorem tell_set {w : Wts} (h : okW w) {k : Nat} {y : Int} (hy : 0 ≤ y ∧ y ≤ 255) (hne : (encS w).set k y ≠ encS w) : decS digS ((encS w).set k y) = none := by
  rw [encS_ok h] at hne ⊢; exact dec_set digS digS_rng (fun l k y hb hy hk e => digS_set hb hy hk e) h (isB_file _ _) hy hne
end Go.Proofs.YtppggaiahkecoaaDoorX
/- ModelTells: a file with one byte changed, cut, or with bytes behind is no file. -/
namespace Go.Proofs.YtppggaiahkecoaaDoorX
open Go Go.SX

theorem EncR.get2 {w : Wts} {v : Value} {L : HL} (h : EncR w v L) : ∃ a c, v = .tuple #[.slice a (encS w).length c, .int .i64 (errW w)] ∧ Held L (fun h => byAt h (encS w) a c) ∧ (encS w).length ≤ c ∧ (encS w).length ≤ 1000000 := by
  obtain ⟨u, m, rfl, hown, hm⟩ := h
  have hl : (encS w).length ≤ 1000000 := by have := hown.1; rw [List.length_map] at this; omega
  obtain ⟨a, c, rfl, _, s⟩ := own_body hown (isB_enc w) (by omega)
  exact ⟨a, c, rfl, Held.frag s (Mono.sl _ _ _ _ _), s.le, hl⟩
theorem loadN_fn (b : List Int) (a : Option Addr) (c : Nat) {n : Nat} (hn : b.length = n) : FC Tryd.prog 26 [.slice a n c] [] (fun h => sidesK h ∧ byAt h b a c) (fun v L => LoadR b v L) := hn ▸ load_fn b a c
theorem decodeN_fn (b : List Int) (a : Option Addr) (c : Nat) {n : Nat} (hn : b.length = n) : FC Tryd.prog 22 [.slice a n c] [] (fun h => sidesK h ∧ byAt h b a c) (fun v L => DecR b v L) := hn ▸ decode_fn b a c
theorem own_by {v : Value} {m : Nat} {xs : List Int} {F : HL} (h : OwnS 5 1 v m (xs.map (.int .u8)) F) (hb : isB xs) (hl : xs.length * 1 ≤ 140737488355328) :
    ∃ a c, v = .slice a m c ∧ m = xs.length ∧ Held F (fun h => byAt h xs a c) := by
  obtain ⟨a, c, rfl, hm, s⟩ := h.slA (by_ := 1) (fun y hy => inK_u8.2 (hb y hy)) hl
  exact ⟨a, c, by rw [hm], hm, Held.frag s (Mono.sl _ _ _ _ _)⟩
theorem list_set_self {l : List Int} {k : Nat} {z : Int} (h : l[k]? = some z) : l.set k z = l := by
  refine List.ext_getElem? fun i => ?_
  by_cases hi : k = i
  · subst hi; rw [List.getElem?_set_self (List.getElem?_eq_some_iff.1 h).1, h]
  · rw [List.getElem?_set_ne hi]
theorem xor_self {z y : Int} (hz : inK .u8 z) (hy : inK .u8 y) : bitsV .xor .u8 z y = z ↔ y = 0 := by
  have hz := inK_u8.1 hz
  have hy := inK_u8.1 hy
  have w : ∀ v : BitVec 8, IntKind.u8.wrap (v.toNat : Int) = (v.toNat : Int) := fun v => wrap_of (inK_u8.2 ⟨Int.natCast_nonneg _, by have := v.isLt; omega⟩)
  have e : bitsV .xor .u8 z y = ((BitVec.ofInt 8 z ^^^ BitVec.ofInt 8 y).toNat : Int) := w _
  have ez : ((BitVec.ofInt 8 z).toNat : Int) = z := by rw [BitVec.toNat_ofInt]; omega
  rw [e]
  constructor
  · intro h
    have h2 : BitVec.ofInt 8 z ^^^ BitVec.ofInt 8 y = BitVec.ofInt 8 z := BitVec.eq_of_toNat_eq (by omega)
    have h3 := congrArg (BitVec.ofInt 8 z ^^^ ·) h2
    have h4 : BitVec.ofInt 8 y = 0#8 := by simpa [← BitVec.xor_assoc] using h3
    have h5 := congrArg BitVec.toNat h4
    rw [BitVec.toNat_ofInt] at h5
    simp at h5; omega
  · rintro rfl
    have : BitVec.ofInt 8 0 = 0#8 := rfl
    rw [this, BitVec.xor_zero, ez]
set_option maxHeartbeats 8000000 in
set_option maxRecDepth 10000 in
theorem modelTells_fn (x : LW) (n : Int) (hn : inK .i64 n) (y : Int) (hy : inK .u8 y) (more : List Int) (am : Option Addr) (cm : Nat) (hsz : more.length ≤ 1099511627776) : FC Tryd.prog 5 [.agg ⟨x.cells⟩, .int .i64 n, .int .u8 y, .slice am more.length cm] [] (fun h => sidesK h ∧ lwAt h x ∧ byAt h more am cm) (fun v _ => v = .bool true) := by
  refine FC.intro Tryd.func5 rfl (by kernel_rfl) 121 [.tmp 8] rfl rfl rfl ?_
  rintro w0 ⟨hS, hX, hM⟩
  have hmb : isB more := fun z hz => inK_u8.1 (hM.okAll z hz)
  have hml := hM.bytes
  (repeat (first | (with_reducible apply XL.op) | (with_reducible apply XC.seq) | (with_reducible apply XC.region (Γ := Γ))))
  ((with_reducible apply XOp.box); (case hg | hx' => exact rfl); intro xb)
  (repeat (first | (with_reducible apply XL.op) | ((with_reducible apply XOp.p1); (case hg | hv => exact rfl)) | ((with_reducible apply XOp.loadO (i := 0)); (case hg | ht | hk | hx | hi | hc => exact rfl)) | (with_reducible apply XL.nilT) | (with_reducible apply XC.seq) | (with_reducible apply XC.region (Γ := Γ)) | (((with_reducible apply XOp.callQ (hF := works_fn)); (case hg => exact rfl); (case hc => exact rfl); (case ha => exact rfl); try (case hA => exact Known.true)); (case hA => exact Known.of_old hS sides_mono); rintro _ rfl)))
  ((with_reducible apply XOp.callN (hF := encode_fn x)); (case hg => exact rfl); (case hc => exact rfl); (case ha => exact rfl); try (case hA => exact Known.true))
  case hA => exact Known.and (Known.of_old hS sides_mono) (Known.of_old hX (lw_mono _))
  rintro _ F1 hE
  obtain ⟨a1, c1, rfl, s1, hc1, hl1⟩ := hE.get2
  by_cases hok : okW x.w
  case neg =>
    have hne : errW x.w ≠ 0 := fun h => hok (errW_zero h)
    (repeat (first | (with_reducible apply XL.op) | ((with_reducible apply XOp.p1); (case hg | hv => exact rfl)) | ((with_reducible apply XOp.p0); (case hg => exact rfl)) | ((with_reducible apply XOp.loadO (i := 0)); (case hg | ht | hk | hx | hi | hc => exact rfl)) | (with_reducible apply XL.nilT) | (with_reducible apply XC.seq) | (with_reducible apply XC.region (Γ := Γ)) | (with_reducible apply XQ.ret) | (with_reducible apply XQ.rt) | ((with_reducible apply XC.condT); (case hc => exact rfl)) | (first | ((with_reducible apply XOp.split); (case hg | hj | hd | hb => exact rfl); (fail_if_success (case hf => exact fun h => Bool.noConfusion h)); (fail_if_success (case ht => exact fun h => Bool.noConfusion h)); (first | (case ht => intro hb_; try simp only [pd_true, pd_false, Bool.not_eq_true', Bool.not_eq_false', Bool.and_eq_true, Bool.and_eq_false_iff, Bool.or_eq_true, Bool.or_eq_false_iff, not_true_eq_false, not_false_eq_true, Int.not_lt, Int.not_le] at hb_; first | done | (exfalso; first | omega | contradiction)) | (case hf => intro hb_; try simp only [pd_true, pd_false, Bool.not_eq_true', Bool.not_eq_false', Bool.and_eq_true, Bool.and_eq_false_iff, Bool.or_eq_true, Bool.or_eq_false_iff, not_true_eq_false, not_false_eq_true, Int.not_lt, Int.not_le] at hb_; first | done | (exfalso; first | omega | contradiction))); intro hb_; try simp only [pd_true, pd_false, Bool.not_eq_true', Bool.not_eq_false', Bool.and_eq_true, Bool.and_eq_false_iff, Bool.or_eq_true, Bool.or_eq_false_iff, not_true_eq_false, not_false_eq_true, Int.not_lt, Int.not_le] at hb_) | ((with_reducible apply XP.split); (case ho | hg | hj | hd | hb => exact rfl); (fail_if_success (case hf => exact fun h => Bool.noConfusion h)); (fail_if_success (case ht => exact fun h => Bool.noConfusion h)); (first | (case ht => intro hb_; try simp only [pd_true, pd_false, Bool.not_eq_true', Bool.not_eq_false', Bool.and_eq_true, Bool.and_eq_false_iff, Bool.or_eq_true, Bool.or_eq_false_iff, not_true_eq_false, not_false_eq_true, Int.not_lt, Int.not_le] at hb_; first | done | (exfalso; first | omega | contradiction)) | (case hf => intro hb_; try simp only [pd_true, pd_false, Bool.not_eq_true', Bool.not_eq_false', Bool.and_eq_true, Bool.and_eq_false_iff, Bool.or_eq_true, Bool.or_eq_false_iff, not_true_eq_false, not_false_eq_true, Int.not_lt, Int.not_le] at hb_; first | done | (exfalso; first | omega | contradiction))); intro hb_; try simp only [pd_true, pd_false, Bool.not_eq_true', Bool.not_eq_false', Bool.and_eq_true, Bool.and_eq_false_iff, Bool.or_eq_true, Bool.or_eq_false_iff, not_true_eq_false, not_false_eq_true, Int.not_lt, Int.not_le] at hb_) | ((with_reducible apply XC.cond); (case hc => exact rfl); (first | (case ht => intro hb_; try simp only [pd_true, pd_false, Bool.not_eq_true', Bool.not_eq_false', Bool.and_eq_true, Bool.and_eq_false_iff, Bool.or_eq_true, Bool.or_eq_false_iff, not_true_eq_false, not_false_eq_true, Int.not_lt, Int.not_le] at hb_; first | done | (exfalso; first | omega | contradiction)) | (case hf => intro hb_; try simp only [pd_true, pd_false, Bool.not_eq_true', Bool.not_eq_false', Bool.and_eq_true, Bool.and_eq_false_iff, Bool.or_eq_true, Bool.or_eq_false_iff, not_true_eq_false, not_false_eq_true, Int.not_lt, Int.not_le] at hb_; first | done | (exfalso; first | omega | contradiction))); intro hb_; try simp only [pd_true, pd_false, Bool.not_eq_true', Bool.not_eq_false', Bool.and_eq_true, Bool.and_eq_false_iff, Bool.or_eq_true, Bool.or_eq_false_iff, not_true_eq_false, not_false_eq_true, Int.not_lt, Int.not_le] at hb_)) | (((with_reducible apply XOp.callQ (hF := refCheckW_fn x)); (case hg => exact rfl); (case hc => exact rfl); (case ha => exact rfl); try (case hA => exact Known.true)); (case hA => exact Known.of_old hX (lw_mono _)); rintro _ rfl)))
    ((with_reducible apply XQ.retE); (case hr => exact .t rfl .nil))
    exact congrArg Value.bool (pdt rfl)
  have hfb : isB (encS x.w) := isB_enc _
  have hlen : 104 ≤ (encS x.w).length := by rw [encS_ok hok]; exact file_len _ hok
  rw [errW_ok hok]
  generalize hfd : encS x.w = f at *
  (repeat (first | (with_reducible apply XL.op) | ((with_reducible apply XOp.p1); (case hg | hv => exact rfl)) | ((with_reducible apply XOp.pr); (case hg => exact rfl); (case hr => ((with_reducible apply PR.rem); (case hx | hy => exact rfl); (case hr => first | assumption | omega | (rw [wrap64_of (by omega) (by omega)]; omega))))) | (with_reducible apply XL.nilT) | (with_reducible apply XC.seq) | (with_reducible apply XC.region (Γ := Γ)) | (with_reducible apply XQ.skip) | (with_reducible apply XQ.nt) | (first | ((with_reducible apply XOp.split); (case hg | hj | hd | hb => exact rfl); (fail_if_success (case hf => exact fun h => Bool.noConfusion h)); (fail_if_success (case ht => exact fun h => Bool.noConfusion h)); (first | (case ht => intro hb_; try simp only [pd_true, pd_false, Bool.not_eq_true', Bool.not_eq_false', Bool.and_eq_true, Bool.and_eq_false_iff, Bool.or_eq_true, Bool.or_eq_false_iff, not_true_eq_false, not_false_eq_true, Int.not_lt, Int.not_le] at hb_; first | done | (exfalso; first | omega | contradiction)) | (case hf => intro hb_; try simp only [pd_true, pd_false, Bool.not_eq_true', Bool.not_eq_false', Bool.and_eq_true, Bool.and_eq_false_iff, Bool.or_eq_true, Bool.or_eq_false_iff, not_true_eq_false, not_false_eq_true, Int.not_lt, Int.not_le] at hb_; first | done | (exfalso; first | omega | contradiction))); intro hb_; try simp only [pd_true, pd_false, Bool.not_eq_true', Bool.not_eq_false', Bool.and_eq_true, Bool.and_eq_false_iff, Bool.or_eq_true, Bool.or_eq_false_iff, not_true_eq_false, not_false_eq_true, Int.not_lt, Int.not_le] at hb_) | ((with_reducible apply XP.split); (case ho | hg | hj | hd | hb => exact rfl); (fail_if_success (case hf => exact fun h => Bool.noConfusion h)); (fail_if_success (case ht => exact fun h => Bool.noConfusion h)); (first | (case ht => intro hb_; try simp only [pd_true, pd_false, Bool.not_eq_true', Bool.not_eq_false', Bool.and_eq_true, Bool.and_eq_false_iff, Bool.or_eq_true, Bool.or_eq_false_iff, not_true_eq_false, not_false_eq_true, Int.not_lt, Int.not_le] at hb_; first | done | (exfalso; first | omega | contradiction)) | (case hf => intro hb_; try simp only [pd_true, pd_false, Bool.not_eq_true', Bool.not_eq_false', Bool.and_eq_true, Bool.and_eq_false_iff, Bool.or_eq_true, Bool.or_eq_false_iff, not_true_eq_false, not_false_eq_true, Int.not_lt, Int.not_le] at hb_; first | done | (exfalso; first | omega | contradiction))); intro hb_; try simp only [pd_true, pd_false, Bool.not_eq_true', Bool.not_eq_false', Bool.and_eq_true, Bool.and_eq_false_iff, Bool.or_eq_true, Bool.or_eq_false_iff, not_true_eq_false, not_false_eq_true, Int.not_lt, Int.not_le] at hb_) | ((with_reducible apply XC.cond); (case hc => exact rfl); (first | (case ht => intro hb_; try simp only [pd_true, pd_false, Bool.not_eq_true', Bool.not_eq_false', Bool.and_eq_true, Bool.and_eq_false_iff, Bool.or_eq_true, Bool.or_eq_false_iff, not_true_eq_false, not_false_eq_true, Int.not_lt, Int.not_le] at hb_; first | done | (exfalso; first | omega | contradiction)) | (case hf => intro hb_; try simp only [pd_true, pd_false, Bool.not_eq_true', Bool.not_eq_false', Bool.and_eq_true, Bool.and_eq_false_iff, Bool.or_eq_true, Bool.or_eq_false_iff, not_true_eq_false, not_false_eq_true, Int.not_lt, Int.not_le] at hb_; first | done | (exfalso; first | omega | contradiction))); intro hb_; try simp only [pd_true, pd_false, Bool.not_eq_true', Bool.not_eq_false', Bool.and_eq_true, Bool.and_eq_false_iff, Bool.or_eq_true, Bool.or_eq_false_iff, not_true_eq_false, not_false_eq_true, Int.not_lt, Int.not_le] at hb_))))
  refine XC.cut (fun ρ L => ∃ k : Nat, k < f.length ∧ L = [(xb, Obj.cells ⟨x.cells⟩ 31 (0, 0))] ++ F1 ∧ Slots ρ [(2, .int .u8 y), (3, .slice am more.length cm), (9, .bool true), (10, .slice a1 f.length c1), (12, .int .i64 ((k : Nat) : Int))]) _ ?_ ?_
  · have hm1 := Int.tmod_lt_of_pos n (show (0 : Int) < (f.length : Int) by omega)
    have hm2 := Int.lt_tmod_of_pos n (show (0 : Int) < (f.length : Int) by omega)
    generalize n.tmod (f.length : Int) = m at *
    ((with_reducible apply XC.cond); (case hc => exact rfl); all_goals (intro hb_; try simp only [pd_true, pd_false, Bool.not_eq_true', Bool.not_eq_false', Bool.and_eq_true, Bool.and_eq_false_iff, Bool.or_eq_true, Bool.or_eq_false_iff, not_true_eq_false, not_false_eq_true, Int.not_lt, Int.not_le] at hb_))
    · (repeat (first | (with_reducible apply XL.op) | ((with_reducible apply XOp.p1); (case hg | hv => exact rfl)) | (with_reducible apply XL.nilT) | (with_reducible apply XC.region (Γ := Γ))))
      exact ⟨(m + f.length).toNat, by omega, rfl, rfl, rfl, rfl, rfl, congrArg (Value.int .i64) (by rw [wrap64_of (by omega) (by omega)]; omega), trivial⟩
    · (repeat (first | (with_reducible apply XQ.skip) | (with_reducible apply XQ.nt)))
      exact ⟨m.toNat, by omega, rfl, rfl, rfl, rfl, rfl, congrArg (Value.int .i64) (by omega), trivial⟩
  rintro ρ L ⟨k, hk, rfl, hs⟩
  refine XC.slots _ hs ?_
  clear hs
  (repeat (first | (with_reducible apply XL.op) | ((with_reducible apply XOp.p1); (case hg | hv => exact rfl)) | (with_reducible apply XC.seq) | (with_reducible apply XC.region (Γ := Γ))))
  (first | ((with_reducible apply XOp.pr); (case hg => exact rfl); (case hr => (with_reducible apply PR.sliceTo); (case ht => exact rfl); (case hk => exact rfl); (case he => exact rfl); (case hx => exact rfl); (case hh => exact rfl); (case hb => exact ⟨by omega, by omega⟩))) | ((with_reducible apply XP.pr); (case ho => exact rfl); (case hg => exact rfl); (case hr => (with_reducible apply PR.sliceTo); (case ht => exact rfl); (case hk => exact rfl); (case he => exact rfl); (case hx => exact rfl); (case hh => exact rfl); (case hb => exact ⟨by omega, by omega⟩))))
  (repeat ((with_reducible apply XL.op)))
  ((with_reducible apply XOp.callN (hF := loadN_fn (n := k) (f.take k) a1 c1 (by rw [List.length_take]; omega))); (case hg => exact rfl); (case hc => exact rfl); (case ha => exact rfl); try (case hA => exact Known.true))
  case hA => exact Known.and (Known.of_old hS sides_mono) ((s1.imp fun h s => SlA.takeC s k).known fun y hy => by simp [hy])
  rintro _ L2 hLd
  rcases hLd with ⟨_, rfl, rfl⟩ | ⟨_, _, _, hd, _⟩
  rotate_left
  · rw [← hfd, tell_cut hok (by rw [hfd]; exact hk)] at hd; cases hd
  (repeat (first | (with_reducible apply XL.op) | ((with_reducible apply XOp.p1); (case hg | hv => exact rfl)) | (with_reducible apply XL.nilT) | (with_reducible apply XC.seq) | (with_reducible apply XC.region (Γ := Γ))))
  ((with_reducible apply XOp.callN (hF := copyBytes_fn f a1 c1)); (case hg => exact rfl); (case hc => exact rfl); (case ha => exact rfl); try (case hA => exact Known.true))
  case hA => exact s1.known fun y hy => by simp [hy]
  rintro _ F2 hown
  obtain ⟨a2, c2, rfl⟩ := hown.val
  (repeat (first | (with_reducible apply XL.op) | ((with_reducible apply XOp.p1); (case hg | hv => exact rfl)) | (with_reducible apply XL.nilT) | (with_reducible apply XC.seq) | (with_reducible apply XC.region (Γ := Γ)) | (with_reducible apply XC.block)))
  refine XC.perm (L' := F2 ++ ([(xb, Obj.cells ⟨x.cells⟩ 31 (0, 0))] ++ F1)) ?_ (show List.Perm ((([(xb, Obj.cells ⟨x.cells⟩ 31 (0, 0))] ++ F1) ++ []) ++ F2) _ by (first | (with_reducible exact List.Perm.refl _) | refine perm_of_cnt fun p_ => ?_; simp only [List.countP_append, List.countP_cons, List.countP_nil]; omega))
  refine XC.loopP (fun j ρ L => ∃ (i : Nat) (v : Value) (F : HL), i + j = more.length ∧ OwnS 5 1 v (f.length + i) ((f ++ more.take i).map (.int .u8)) F ∧ L = F ++ ([(xb, Obj.cells ⟨x.cells⟩ 31 (0, 0))] ++ F1) ∧ Slots ρ [(2, .int .u8 y), (3, .slice am more.length cm), (9, .bool true), (10, .slice a1 f.length c1), (12, .int .i64 ((k : Nat) : Int)), (13, .pointer none), (14, .int .i64 42), (15, v), (16, .int .i64 i)])
    more.length ⟨0, _, F2, by simp, hown.conv rfl (by simp), rfl, rfl, rfl, rfl, rfl, rfl, rfl, rfl, rfl, rfl, trivial⟩ ?_
  rintro j ρ L ⟨i, v, F, hij, howni, rfl, hs⟩
  obtain ⟨a', c', rfl⟩ := howni.val
  refine XC.slots _ hs ?_
  (repeat (first | (with_reducible apply XL.op) | ((with_reducible apply XOp.p1); (case hg | hv => exact rfl)) | (with_reducible apply XL.nilT) | (with_reducible apply XC.seq) | (with_reducible apply XC.region (Γ := Γ))))
  ((with_reducible apply XC.cond); (case hc => exact rfl); all_goals (intro hb_; try simp only [pd_true, pd_false, Bool.not_eq_true', Bool.not_eq_false', Bool.and_eq_true, Bool.and_eq_false_iff, Bool.or_eq_true, Bool.or_eq_false_iff, not_true_eq_false, not_false_eq_true, Int.not_lt, Int.not_le] at hb_))
  · obtain ⟨z, hi⟩ : ∃ z, more[i]? = some z := ⟨_, List.getElem?_eq_getElem (by omega)⟩
    have hc := (hM.int i (by omega)).1
    rw [hi] at hc
    change cellv _ _ = some (.int .u8 z) at hc
    (repeat (first | (with_reducible apply XL.op) | ((with_reducible apply XOp.p1); (case hg | hv => exact rfl)) | ((with_reducible apply XOp.pr); (case hg => exact rfl); (case hr => ((with_reducible apply PR.idxA); (case ht | hk | he | hx | hi => exact rfl); (case hr => first | assumption | omega); (case ha => first | assumption | exact SlA.at_ (by assumption))))) | (with_reducible apply XC.seq) | (with_reducible apply XC.region (Γ := Γ)) | (with_reducible apply XQ.skip) | (with_reducible apply XQ.nt) | (with_reducible apply XC.block) | (first | ((with_reducible apply XOp.load); (case hg | ht | hk | hx => exact rfl); (case hc => exact Known.of_old hc (Mono.cell _ _))) | ((with_reducible apply XP.load); (case ho | hg | ht | hk | hx => exact rfl); (case hc => exact Known.of_old hc (Mono.cell _ _))))))
    ((with_reducible apply XOp.buildSlice); (case hg | ht | hk | he | hz | hzl | hf => exact rfl); intro bb)
    (repeat ((with_reducible apply XL.op)))
    ((with_reducible apply XOp.append1); (case hg => exact rfl); (case ht => exact rfl); (case hk => exact rfl); (case he => exact rfl); (case hown => exact howni); (case hs => exact rfl); (case hx => exact rfl); (case hL => exact rfl); (case hl => exact rfl); (case h1 => exact rfl); (case hz => exact rfl); (case hsz => exact Nat.zero_lt_succ _); (case hk0 => exact Nat.zero_lt_succ _); (case h63 => simp only [maxLen]; omega); (case hb => simp only []; omega); intro v_ F_ hown_; obtain ⟨a_, c_, rfl⟩ := hown_.val)
    (repeat (first | (with_reducible apply XL.op) | ((with_reducible apply XOp.p1); (case hg | hv => exact rfl)) | (with_reducible apply XL.nilT) | (with_reducible apply XC.region (Γ := Γ)) | (with_reducible apply XL.nilQ) | (with_reducible apply XQ.nt) | (with_reducible apply XQ.nb)))
    exact ⟨j - 1, by omega, _, .of (List.Sublist.refl _), i + 1, _, F_, by omega, hown_.conv (by omega) (by rw [take_snocD hi]; simp [zerosL]), rfl, rfl, rfl, rfl, rfl, rfl, rfl, rfl, rfl, intS (m := more.length) (by omega) (by omega), trivial⟩
  obtain rfl : i = more.length := by omega
  rw [List.take_length] at howni
  clear hs hij
  (repeat (first | (with_reducible apply XL.op) | ((with_reducible apply XOp.p1); (case hg | hv => exact rfl)) | (with_reducible apply XC.seq) | (with_reducible apply XC.region (Γ := Γ)) | (with_reducible apply XQ.exit) | (with_reducible apply XQ.nt) | (with_reducible apply XQ.et) | ((with_reducible apply XQ.eb); (case hb => exact rfl))))
  obtain ⟨a4, c4, e4, _, s4⟩ := own_by howni (isB_app hfb hmb) (by rw [List.length_append]; omega)
  obtain ⟨rfl, _, rfl⟩ := Value.slice.inj e4
  ((with_reducible apply XOp.callN (hF := decodeN_fn (n := f.length + more.length) (f ++ more) a' c' (List.length_append ..))); (case hg => exact rfl); (case hc => exact rfl); (case ha => exact rfl); try (case hA => exact Known.true))
  case hA => exact Known.and (Known.of_old hS sides_mono) (s4.known fun y hy => by simp [hy])
  rintro _ F5 ⟨x5, rfl, _, _⟩
  have he5 : errD (f ++ more) = if more = [] then 0 else 42 := by
    split
    · rename_i h; rw [h, List.append_nil, ← hfd]; exact errD_ok (dec_enc hok)
    · rename_i h; rw [← hfd]; exact errD_no (tell_more hok h)
  generalize errD (f ++ more) = g5 at *
  (repeat (first | (with_reducible apply XL.op) | ((with_reducible apply XOp.p1); (case hg | hv => exact rfl))))
  ((with_reducible apply XOp.alloc); (case hg | ht | hx' => exact rfl); intro w5)
  (repeat (first | (with_reducible apply XL.op) | ((with_reducible apply XOp.p1); (case hg | hv => exact rfl)) | ((with_reducible apply XOp.storeN (i := 0)); (case hg | ht | hx | hv' | hk | h1 | hi | hs | ha => exact rfl)) | (with_reducible apply XL.nilT) | (with_reducible apply XC.seq) | (with_reducible apply XC.region (Γ := Γ))))
  ((with_reducible apply XOp.callN (hF := copyBytes_fn f a1 c1)); (case hg => exact rfl); (case hc => exact rfl); (case ha => exact rfl); try (case hA => exact Known.true))
  case hA => exact s1.known fun y hy => by simp [hy]
  rintro _ F6 hown6
  obtain ⟨a6, c6, rfl⟩ := hown6.val
  obtain ⟨g6, cp6, sp6, e6, rfl, hle6, hmx6, hxl6, hcs6⟩ := hown6.blk (by omega)
  obtain ⟨rfl, _, rfl⟩ := Value.slice.inj e6
  (repeat (first | (with_reducible apply XL.op) | ((with_reducible apply XOp.p1); (case hg | hv => exact rfl)) | ((with_reducible apply XOp.pr); (case hg => exact rfl); (case hr => ((with_reducible apply PR.idx); (case ht | hk | he | hx | hi => exact rfl); (case hr => first | assumption | omega)))) | (with_reducible apply XL.nilT) | (with_reducible apply XC.seq) | (with_reducible apply XC.region (Γ := Γ))))
  (refine (show XOp _ _ _ _ _ _ _ _ (((w5, Obj.cells ⟨x5.cells⟩ 31 (0, 0)) :: ((F ++ ([(xb, Obj.cells ⟨x.cells⟩ 31 (0, 0))] ++ F1)) ++ F5)) ++ [(g6, Obj.cells ⟨f.map (.int .u8) ++ sp6⟩ 5 (0, 0))]) from XOp.perm (L' :=  (g6, Obj.cells ⟨f.map (.int .u8) ++ sp6⟩ 5 (0, 0)) :: ((w5, Obj.cells ⟨x5.cells⟩ 31 (0, 0)) :: ((F ++ ([(xb, Obj.cells ⟨x.cells⟩ 31 (0, 0))] ++ F1)) ++ F5))) rfl ?_ (by (first | (with_reducible exact List.Perm.refl _) | refine perm_of_cnt fun p_ => ?_; simp only [List.countP_append, List.countP_cons, List.countP_nil]; omega))))
  obtain ⟨z, hz⟩ : ∃ z, f[k]? = some z := ⟨_, List.getElem?_eq_getElem hk⟩
  have hzb := hfb z (List.mem_of_getElem? hz)
  have hcz : (f.map (Value.int .u8) ++ sp6)[k]? = some (.int .u8 z) := by rw [List.getElem?_append_left (by rw [List.length_map]; exact hk), List.getElem?_map, hz]; rfl
  (repeat (first | (with_reducible apply XL.op) | ((with_reducible apply XOp.p1); (case hg | hv => exact rfl)) | ((with_reducible apply XOp.pr); (case hg => exact rfl); (case hr => ((with_reducible apply PR.idx); (case ht | hk | he | hx | hi => exact rfl); (case hr => first | assumption | omega)))) | (with_reducible apply XL.nilT) | (with_reducible apply XC.seq) | (with_reducible apply XC.region (Γ := Γ)) | (first | ((with_reducible apply XOp.load); (case hg | ht | hk | hx => exact rfl); (case hc => exact own_cell (i := 0) rfl (by rw [show 0 + ((k : Nat) : Int).toNat * 1 = k by omega]; exact hcz))) | ((with_reducible apply XP.load); (case ho | hg | ht | hk | hx => exact rfl); (case hc => exact own_cell (i := 0) rfl (by rw [show 0 + ((k : Nat) : Int).toNat * 1 = k by omega]; exact hcz)))) | ((with_reducible apply XOp.storeAt (i := 0)); (case hg => exact rfl); (case ht => exact rfl); (case hk => exact rfl); (case hx => exact rfl); (case hv' => exact rfl); (case h1 => exact rfl); (case hi => exact rfl); (case hoff =>  show 0 + ((k : Nat) : Int).toNat * 1 < _; rw [List.length_append, List.length_map]; omega); (case ha => exact rfl))))
  have hset : (f.map (Value.int .u8) ++ sp6).set (0 + ((k : Nat) : Int).toNat * 1) (.int .u8 (bitsV .xor .u8 z y)) = (f.set k (bitsV .xor .u8 z y)).map (.int .u8) ++ sp6 := by
    rw [show 0 + ((k : Nat) : Int).toNat * 1 = k by omega, List.set_append_left _ _ (by rw [List.length_map]; exact hk), List.map_set]
  have hq : inK .u8 (bitsV .xor .u8 z y) := inK_wrap _ _
  have hqz : bitsV .xor .u8 z y = z ↔ y = 0 := xor_self (inK_u8.2 hzb) hy
  generalize bitsV .xor .u8 z y = q at *
  have hsb : isB (f.set k q) := fun v hv => by
    rcases List.mem_or_eq_of_mem_set hv with h | rfl
    · exact hfb v h
    · exact inK_u8.1 hq
  have hT : Held [(g6, Obj.cells ⟨(f.set k q).map (.int .u8) ++ sp6⟩ 5 (0, 0))] (fun h => byAt h (f.set k q) (some ⟨g6, 0, none⟩) c6) :=
    Held.frag (blk_slA (by_ := 1) (cap := c6) (List.mem_singleton.2 rfl) (by simp [keys]) (fun v hv => inK_u8.2 (hsb v hv)) (by rw [List.length_set]; omega) (by rw [List.length_set]; omega)) (Mono.sl _ _ _ _ _)
  rw [hset]
  ((with_reducible apply XOp.callN (hF := decodeN_fn (n := f.length) (f.set k q) (some ⟨g6, 0, none⟩) c6 (List.length_set ..))); (case hg => exact rfl); (case hc => exact rfl); (case ha => exact rfl); try (case hA => exact Known.true))
  case hA => exact Known.and (Known.of_old hS sides_mono) (hT.known fun y hy => by rw [List.mem_singleton.1 hy]; exact List.mem_cons_self ..)
  rintro _ F7 ⟨x7, rfl, _, _⟩
  have he7 : errD (f.set k q) = if y = 0 then 0 else 42 := by
    split
    · rename_i h
      have e : f.set k q = f := by rw [hqz.2 h]; exact list_set_self hz
      rw [e, ← hfd]; exact errD_ok (dec_enc hok)
    · rename_i h
      have hne : f.set k q ≠ f := fun e => h (hqz.1 (by
        have h1 := congrArg (·[k]?) e
        simp only [List.getElem?_set_self hk, hz, Option.some.injEq] at h1
        exact h1))
      rw [← hfd] at hne ⊢
      exact errD_no (tell_set hok (inK_u8.1 hq) hne)
  generalize errD (f.set k q) = g7 at *
  (repeat (first | (with_reducible apply XL.op) | ((with_reducible apply XOp.p1); (case hg | hv => exact rfl))))
  ((with_reducible apply XOp.alloc); (case hg | ht | hx' => exact rfl); intro w7)
  have hb1 : (pd (g5 = 42) == pd ((0 : Int) < (more.length : Int))) = true := by
    rw [he5]
    split
    · rename_i h
      rw [h, pdf (by decide), pdf (by simp)]; rfl
    · rename_i h
      have : 0 < more.length := List.length_pos_iff.2 h
      rw [pdt rfl, pdt (by omega)]; rfl
  have hb2 : (pd (g7 = 42) == !pd (y = 0)) = true := by
    rw [he7]
    split
    · rename_i h
      rw [pdf (by decide), pdt h]; rfl
    · rename_i h
      rw [pdt rfl, pdf h]; rfl
  (repeat (first | (with_reducible apply XL.op) | ((with_reducible apply XOp.p1); (case hg | hv => exact rfl)) | ((with_reducible apply XOp.storeN (i := 0)); (case hg | ht | hx | hv' | hk | h1 | hi | hs | ha => exact rfl)) | (with_reducible apply XL.nilT) | (with_reducible apply XC.seq) | (with_reducible apply XC.region (Γ := Γ)) | (first | ((with_reducible apply XOp.split); (case hg | hj | hd | hb => exact rfl); (fail_if_success (case hf => exact fun h => Bool.noConfusion h)); (fail_if_success (case ht => exact fun h => Bool.noConfusion h)); (first | (case ht => intro hb_; try simp only [pd_true, pd_false, Bool.not_eq_true', Bool.not_eq_false', Bool.and_eq_true, Bool.and_eq_false_iff, Bool.or_eq_true, Bool.or_eq_false_iff, not_true_eq_false, not_false_eq_true, Int.not_lt, Int.not_le] at hb_; first | done | (exfalso; first | omega | contradiction)) | (case hf => intro hb_; try simp only [pd_true, pd_false, Bool.not_eq_true', Bool.not_eq_false', Bool.and_eq_true, Bool.and_eq_false_iff, Bool.or_eq_true, Bool.or_eq_false_iff, not_true_eq_false, not_false_eq_true, Int.not_lt, Int.not_le] at hb_; first | done | (exfalso; first | omega | contradiction))); intro hb_; try simp only [pd_true, pd_false, Bool.not_eq_true', Bool.not_eq_false', Bool.and_eq_true, Bool.and_eq_false_iff, Bool.or_eq_true, Bool.or_eq_false_iff, not_true_eq_false, not_false_eq_true, Int.not_lt, Int.not_le] at hb_) | ((with_reducible apply XP.split); (case ho | hg | hj | hd | hb => exact rfl); (fail_if_success (case hf => exact fun h => Bool.noConfusion h)); (fail_if_success (case ht => exact fun h => Bool.noConfusion h)); (first | (case ht => intro hb_; try simp only [pd_true, pd_false, Bool.not_eq_true', Bool.not_eq_false', Bool.and_eq_true, Bool.and_eq_false_iff, Bool.or_eq_true, Bool.or_eq_false_iff, not_true_eq_false, not_false_eq_true, Int.not_lt, Int.not_le] at hb_; first | done | (exfalso; first | omega | contradiction)) | (case hf => intro hb_; try simp only [pd_true, pd_false, Bool.not_eq_true', Bool.not_eq_false', Bool.and_eq_true, Bool.and_eq_false_iff, Bool.or_eq_true, Bool.or_eq_false_iff, not_true_eq_false, not_false_eq_true, Int.not_lt, Int.not_le] at hb_; first | done | (exfalso; first | omega | contradiction))); intro hb_; try simp only [pd_true, pd_false, Bool.not_eq_true', Bool.not_eq_false', Bool.and_eq_true, Bool.and_eq_false_iff, Bool.or_eq_true, Bool.or_eq_false_iff, not_true_eq_false, not_false_eq_true, Int.not_lt, Int.not_le] at hb_) | ((with_reducible apply XC.cond); (case hc => exact rfl); (first | (case ht => intro hb_; try simp only [pd_true, pd_false, Bool.not_eq_true', Bool.not_eq_false', Bool.and_eq_true, Bool.and_eq_false_iff, Bool.or_eq_true, Bool.or_eq_false_iff, not_true_eq_false, not_false_eq_true, Int.not_lt, Int.not_le] at hb_; first | done | (exfalso; first | omega | contradiction)) | (case hf => intro hb_; try simp only [pd_true, pd_false, Bool.not_eq_true', Bool.not_eq_false', Bool.and_eq_true, Bool.and_eq_false_iff, Bool.or_eq_true, Bool.or_eq_false_iff, not_true_eq_false, not_false_eq_true, Int.not_lt, Int.not_le] at hb_; first | done | (exfalso; first | omega | contradiction))); intro hb_; try simp only [pd_true, pd_false, Bool.not_eq_true', Bool.not_eq_false', Bool.and_eq_true, Bool.and_eq_false_iff, Bool.or_eq_true, Bool.or_eq_false_iff, not_true_eq_false, not_false_eq_true, Int.not_lt, Int.not_le] at hb_)) | (first | (first | ((with_reducible apply XOp.pr); (case hg => exact rfl); (case hr => (with_reducible apply PR.eqNilP); (case ht => exact rfl); (case hk => exact rfl); (case hx => exact rfl); (case hy => exact rfl))) | ((with_reducible apply XP.pr); (case ho => exact rfl); (case hg => exact rfl); (case hr => (with_reducible apply PR.eqNilP); (case ht => exact rfl); (case hk => exact rfl); (case hx => exact rfl); (case hy => exact rfl)))) | (first | ((with_reducible apply XOp.pr); (case hg => exact rfl); (case hr => (with_reducible apply PR.neNilP); (case ht => exact rfl); (case hk => exact rfl); (case hx => exact rfl); (case hy => exact rfl))) | ((with_reducible apply XP.pr); (case ho => exact rfl); (case hg => exact rfl); (case hr => (with_reducible apply PR.neNilP); (case ht => exact rfl); (case hk => exact rfl); (case hx => exact rfl); (case hy => exact rfl))))) | (first | (first | ((with_reducible apply XOp.pr); (case hg => exact rfl); (case hr => (with_reducible apply PR.eqBB); (case ht => exact rfl); (case hk => exact rfl); (case hx => exact rfl); (case hy => exact rfl))) | ((with_reducible apply XP.pr); (case ho => exact rfl); (case hg => exact rfl); (case hr => (with_reducible apply PR.eqBB); (case ht => exact rfl); (case hk => exact rfl); (case hx => exact rfl); (case hy => exact rfl)))) | (first | ((with_reducible apply XOp.pr); (case hg => exact rfl); (case hr => (with_reducible apply PR.neBB); (case ht => exact rfl); (case hk => exact rfl); (case hx => exact rfl); (case hy => exact rfl))) | ((with_reducible apply XP.pr); (case ho => exact rfl); (case hg => exact rfl); (case hr => (with_reducible apply PR.neBB); (case ht => exact rfl); (case hk => exact rfl); (case hx => exact rfl); (case hy => exact rfl)))))))
  rw [hb1]
  (repeat (first | (with_reducible apply XL.op) | ((with_reducible apply XOp.p1); (case hg | hv => exact rfl)) | (with_reducible apply XL.nilT) | (with_reducible apply XQ.ret) | (first | ((with_reducible apply XOp.split); (case hg | hj | hd | hb => exact rfl); (fail_if_success (case hf => exact fun h => Bool.noConfusion h)); (fail_if_success (case ht => exact fun h => Bool.noConfusion h)); (first | (case ht => intro hb_; try simp only [pd_true, pd_false, Bool.not_eq_true', Bool.not_eq_false', Bool.and_eq_true, Bool.and_eq_false_iff, Bool.or_eq_true, Bool.or_eq_false_iff, not_true_eq_false, not_false_eq_true, Int.not_lt, Int.not_le] at hb_; first | done | (exfalso; first | omega | contradiction)) | (case hf => intro hb_; try simp only [pd_true, pd_false, Bool.not_eq_true', Bool.not_eq_false', Bool.and_eq_true, Bool.and_eq_false_iff, Bool.or_eq_true, Bool.or_eq_false_iff, not_true_eq_false, not_false_eq_true, Int.not_lt, Int.not_le] at hb_; first | done | (exfalso; first | omega | contradiction))); intro hb_; try simp only [pd_true, pd_false, Bool.not_eq_true', Bool.not_eq_false', Bool.and_eq_true, Bool.and_eq_false_iff, Bool.or_eq_true, Bool.or_eq_false_iff, not_true_eq_false, not_false_eq_true, Int.not_lt, Int.not_le] at hb_) | ((with_reducible apply XP.split); (case ho | hg | hj | hd | hb => exact rfl); (fail_if_success (case hf => exact fun h => Bool.noConfusion h)); (fail_if_success (case ht => exact fun h => Bool.noConfusion h)); (first | (case ht => intro hb_; try simp only [pd_true, pd_false, Bool.not_eq_true', Bool.not_eq_false', Bool.and_eq_true, Bool.and_eq_false_iff, Bool.or_eq_true, Bool.or_eq_false_iff, not_true_eq_false, not_false_eq_true, Int.not_lt, Int.not_le] at hb_; first | done | (exfalso; first | omega | contradiction)) | (case hf => intro hb_; try simp only [pd_true, pd_false, Bool.not_eq_true', Bool.not_eq_false', Bool.and_eq_true, Bool.and_eq_false_iff, Bool.or_eq_true, Bool.or_eq_false_iff, not_true_eq_false, not_false_eq_true, Int.not_lt, Int.not_le] at hb_; first | done | (exfalso; first | omega | contradiction))); intro hb_; try simp only [pd_true, pd_false, Bool.not_eq_true', Bool.not_eq_false', Bool.and_eq_true, Bool.and_eq_false_iff, Bool.or_eq_true, Bool.or_eq_false_iff, not_true_eq_false, not_false_eq_true, Int.not_lt, Int.not_le] at hb_) | ((with_reducible apply XC.cond); (case hc => exact rfl); (first | (case ht => intro hb_; try simp only [pd_true, pd_false, Bool.not_eq_true', Bool.not_eq_false', Bool.and_eq_true, Bool.and_eq_false_iff, Bool.or_eq_true, Bool.or_eq_false_iff, not_true_eq_false, not_false_eq_true, Int.not_lt, Int.not_le] at hb_; first | done | (exfalso; first | omega | contradiction)) | (case hf => intro hb_; try simp only [pd_true, pd_false, Bool.not_eq_true', Bool.not_eq_false', Bool.and_eq_true, Bool.and_eq_false_iff, Bool.or_eq_true, Bool.or_eq_false_iff, not_true_eq_false, not_false_eq_true, Int.not_lt, Int.not_le] at hb_; first | done | (exfalso; first | omega | contradiction))); intro hb_; try simp only [pd_true, pd_false, Bool.not_eq_true', Bool.not_eq_false', Bool.and_eq_true, Bool.and_eq_false_iff, Bool.or_eq_true, Bool.or_eq_false_iff, not_true_eq_false, not_false_eq_true, Int.not_lt, Int.not_le] at hb_)) | (first | (first | ((with_reducible apply XOp.pr); (case hg => exact rfl); (case hr => (with_reducible apply PR.eqNilP); (case ht => exact rfl); (case hk => exact rfl); (case hx => exact rfl); (case hy => exact rfl))) | ((with_reducible apply XP.pr); (case ho => exact rfl); (case hg => exact rfl); (case hr => (with_reducible apply PR.eqNilP); (case ht => exact rfl); (case hk => exact rfl); (case hx => exact rfl); (case hy => exact rfl)))) | (first | ((with_reducible apply XOp.pr); (case hg => exact rfl); (case hr => (with_reducible apply PR.neNilP); (case ht => exact rfl); (case hk => exact rfl); (case hx => exact rfl); (case hy => exact rfl))) | ((with_reducible apply XP.pr); (case ho => exact rfl); (case hg => exact rfl); (case hr => (with_reducible apply PR.neNilP); (case ht => exact rfl); (case hk => exact rfl); (case hx => exact rfl); (case hy => exact rfl))))) | (first | (first | ((with_reducible apply XOp.pr); (case hg => exact rfl); (case hr => (with_reducible apply PR.eqBB); (case ht => exact rfl); (case hk => exact rfl); (case hx => exact rfl); (case hy => exact rfl))) | ((with_reducible apply XP.pr); (case ho => exact rfl); (case hg => exact rfl); (case hr => (with_reducible apply PR.eqBB); (case ht => exact rfl); (case hk => exact rfl); (case hx => exact rfl); (case hy => exact rfl)))) | (first | ((with_reducible apply XOp.pr); (case hg => exact rfl); (case hr => (with_reducible apply PR.neBB); (case ht => exact rfl); (case hk => exact rfl); (case hx => exact rfl); (case hy => exact rfl))) | ((with_reducible apply XP.pr); (case ho => exact rfl); (case hg => exact rfl); (case hr => (with_reducible apply PR.neBB); (case ht => exact rfl); (case hk => exact rfl); (case hx => exact rfl); (case hy => exact rfl)))))))
  ((with_reducible apply XQ.retE); (case hr => exact .t rfl .nil))
  exact congrArg Value.bool hb2
end Go.Proofs.YtppggaiahkecoaaDoorX
