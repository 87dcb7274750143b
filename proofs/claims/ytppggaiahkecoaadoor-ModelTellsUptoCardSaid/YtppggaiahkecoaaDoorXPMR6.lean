/- ModelRounds: there and back, both ways. -/
import Derived.Test.YtppggaiahkecoaaDoorXPMR5
set_option linter.unusedSimpArgs false
set_option linter.unusedVariables false
namespace Go.Proofs.YtppggaiahkecoaaDoorX
open Go Go.SX

theorem mul_low {a b x y : Int} (ha : x ≤ a) (hb : y ≤ b) (hx : 0 ≤ x) (hy : 0 ≤ y) : x * y ≤ a * b :=
  Int.mul_le_mul ha hb hy (Int.le_trans hx ha)
theorem isM_len {m : Mat} {r c x y : Int} (h : isM m r c) (hr : x ≤ r) (hc : y ≤ c) (hx : 0 ≤ x) (hy : 0 ≤ y) : x * y ≤ (m.Data.length : Int) := by
  rw [h.2.2.2.2.1]; exact mul_low hr hc hx hy
theorem head_low {c : Cfg} (h : c.may) : 2 ≤ c.head := by
  obtain ⟨_, ⟨h1, _⟩, ⟨h2, _⟩, _, _, _, _, h3, _⟩ := h
  obtain ⟨k, hk⟩ := Int.dvd_of_emod_eq_zero h3
  have hk1 : 1 ≤ k := by
    by_cases hk0 : k ≤ 0
    · exfalso
      have : 2 * c.Heads * k ≤ 0 := Int.mul_nonpos_of_nonneg_of_nonpos (by omega) hk0
      omega
    · omega
  have e : c.Width = c.Heads * (2 * k) := by rw [hk, Int.mul_comm 2 c.Heads, Int.mul_assoc]
  unfold Cfg.head
  rw [e, Int.mul_ediv_cancel_left _ (by omega)]
  omega
theorem turnsB_len : ∀ l : List (Int × Int), (l.flatMap turnB).length = 4 * l.length
  | [] => rfl
  | x :: l => by rw [List.flatMap_cons, List.length_append, turnsB_len l, List.length_cons]; unfold turnB; rw [List.length_append, numB_len, numB_len]; omega
theorem file_len (D : List Int → Int) {w : Wts} (h : okW w) : 104 ≤ (fileOf D w).length := by
  have hh := head_low h.c
  obtain ⟨⟨v1, _⟩, ⟨v2, _⟩, _, ⟨v4, _⟩, ⟨v5, _⟩, _, _, _, ⟨v9, _⟩, _⟩ := h.c
  have hk : 2 ≤ w.C.keys := by
    have := mul_low (x := 1) (y := 2) v9 hh (by omega) (by omega)
    unfold Cfg.keys; omega
  have he := isM_len h.e v1 v2 (by omega) (by omega)
  have hH := isM_len h.h v1 v2 (by omega) (by omega)
  have hf := h.f.1
  have ht := h.t.1
  obtain ⟨l, rest, hl⟩ : ∃ l rest, w.Layers = l :: rest := by
    cases hw : w.Layers with
    | nil => have := h.l.1; rw [hw] at this; simp at this; omega
    | cons l rest => exact ⟨l, rest, rfl⟩
  have ho := h.l.2 l (by rw [hl]; exact List.mem_cons_self ..)
  have l1 := ho.n1.1
  have l2 := ho.n2.1
  have lq := isM_len ho.q v2 v2 (by omega) (by omega)
  have lk := isM_len ho.k hk v2 (by omega) (by omega)
  have lv := isM_len ho.v hk v2 (by omega) (by omega)
  have lo := isM_len ho.o v2 v2 (by omega) (by omega)
  have lg := isM_len ho.g v5 v2 (by omega) (by omega)
  have lu := isM_len ho.u v5 v2 (by omega) (by omega)
  have ld := isM_len ho.d v2 v5 (by omega) (by omega)
  have lb := ho.by_.1
  have hcl : w.C.list.length = 8 := rfl
  unfold fileOf fileB wtsB
  rw [hl]
  simp only [List.length_append, secB_len, List.flatMap_cons, layBody, Mat.bytes, List.length_map, numB_len, hcl, beginB, List.length_cons, List.length_nil]
  have htl := turnsB_len w.Turns
  generalize (List.flatMap turnB w.Turns).length = nt at *
  generalize (List.flatMap _ rest).length = nr
  generalize (List.flatMap _ w.Medusa).length = nm
  omega
set_option maxHeartbeats 8000000 in
set_option maxRecDepth 10000 in
theorem modelRounds_fn (x : LW) (b : List Int) (a : Option Addr) (c : Nat) : FC Tryd.prog 8 [.agg ⟨x.cells⟩, .slice a b.length c] [] (fun h => sidesK h ∧ lwAt h x ∧ byAt h b a c) (fun v _ => v = .bool true) := by
  refine FC.intro Tryd.func8 rfl (by kernel_rfl) 88 [.tmp 4] rfl rfl rfl ?_
  rintro w0 ⟨hS, hX, hB⟩
  have hbB : isB b := fun y hy => inK_u8.1 (hB.okAll y hy)
  (repeat (first | (with_reducible apply XL.op) | (with_reducible apply XC.seq) | (with_reducible apply XC.region (Γ := Γ))))
  ((with_reducible apply XOp.box); (case hg | hx' => exact rfl); intro xb)
  (repeat (first | (with_reducible apply XL.op) | ((with_reducible apply XOp.p1); (case hg | hv => exact rfl)) | ((with_reducible apply XOp.loadO (i := 0)); (case hg | ht | hk | hx | hi | hc => exact rfl)) | (with_reducible apply XL.nilT) | (with_reducible apply XC.seq) | (with_reducible apply XC.region (Γ := Γ)) | (((with_reducible apply XOp.callQ (hF := works_fn)); (case hg => exact rfl); (case hc => exact rfl); (case ha => exact rfl); try (case hA => exact Known.true)); (case hA => exact Known.of_old hS sides_mono); rintro _ rfl)))
  ((with_reducible apply XOp.callN (hF := encode_fn x)); (case hg => exact rfl); (case hc => exact rfl); (case ha => exact rfl); try (case hA => exact Known.true))
  case hA => exact Known.and (Known.of_old hS sides_mono) (Known.of_old hX (lw_mono _))
  rintro _ F1 hE
  obtain ⟨a1, c1, rfl, s1⟩ := hE.get
  (repeat (first | (with_reducible apply XL.op) | ((with_reducible apply XOp.p1); (case hg | hv => exact rfl)) | (with_reducible apply XL.nilT) | (with_reducible apply XC.seq) | (with_reducible apply XC.region (Γ := Γ))))
  refine XC.cut (fun ρ _ => Slots ρ [(1, .slice a b.length c), (5, .bool true)]) _ ?_ ?_
  · ((with_reducible apply XC.cond); (case hc => exact rfl); all_goals (intro hb_; try simp only [pd_true, pd_false, Bool.not_eq_true', Bool.not_eq_false', Bool.and_eq_true, Bool.and_eq_false_iff, Bool.or_eq_true, Bool.or_eq_false_iff, not_true_eq_false, not_false_eq_true, Int.not_lt, Int.not_le] at hb_))
    · have hok : okW x.w := errW_zero (by first | assumption | exact Classical.not_not.1 hb_)
      have hxd : decS digS (encS x.w) = some x.w := dec_enc hok
      have hlen : 104 ≤ (encS x.w).length := by rw [encS_ok hok]; exact file_len _ hok
      (repeat (first | (with_reducible apply XL.op) | ((with_reducible apply XOp.p1); (case hg | hv => exact rfl)) | (with_reducible apply XC.seq) | (with_reducible apply XC.region (Γ := Γ))))
      ((with_reducible apply XOp.callN (hF := decode_fn (encS x.w) a1 c1)); (case hg => exact rfl); (case hc => exact rfl); (case ha => exact rfl); try (case hA => exact Known.true))
      case hA => exact Known.and (Known.of_old hS sides_mono) (s1.known fun y hy => by simp [hy])
      rintro _ F2 ⟨x2, rfl, hx2, hF2⟩
      rw [errD_ok hxd]
      rw [decW_ok hxd] at hx2
      (repeat (first | (with_reducible apply XL.op) | ((with_reducible apply XOp.p1); (case hg | hv => exact rfl))))
      ((with_reducible apply XOp.alloc); (case hg | ht | hx' => exact rfl); intro w2)
      (repeat (first | (with_reducible apply XL.op) | ((with_reducible apply XOp.p1); (case hg | hv => exact rfl)) | ((with_reducible apply XOp.storeN (i := 0)); (case hg | ht | hx | hv' | hk | h1 | hi | hs | ha => exact rfl)) | (with_reducible apply XL.nilT) | (with_reducible apply XC.seq) | (with_reducible apply XC.region (Γ := Γ))))
      ((with_reducible apply XOp.callN (hF := load_fn (encS x.w) a1 c1)); (case hg => exact rfl); (case hc => exact rfl); (case ha => exact rfl); try (case hA => exact Known.true))
      case hA => exact Known.and (Known.of_old hS sides_mono) (s1.known fun y hy => by simp [hy])
      rintro _ L3 hLd
      rcases hLd with ⟨hn, _⟩ | ⟨mb, x3, F3, hd3, rfl, rfl, hF3⟩
      · rw [hxd] at hn; cases hn
      have hx3 : x3.w = x.w := by rw [hxd] at hd3; exact (Option.some.inj hd3).symm
      (repeat (first | (with_reducible apply XL.op) | ((with_reducible apply XOp.p1); (case hg | hv => exact rfl)) | (with_reducible apply XL.nilT) | (with_reducible apply XC.seq) | (with_reducible apply XC.region (Γ := Γ))))
      have hm3 : x3.C.may := by have h := hok.c; rw [← hx3] at h; exact h
      ((with_reducible apply XOp.callN (hF := wOf_fn mb x3 hm3)); (case hg => exact rfl); (case hc => exact rfl); (case ha => exact rfl); try (case hA => exact Known.true))
      case hA => exact Known.and (Known.of_old hS sides_mono) (Known.and ((Held.row (F := MdB mb x3 :: F3) (List.mem_cons_self ..)).known fun y hy => List.mem_append_right _ hy) (hF3.known fun y hy => List.mem_append_right _ (List.mem_cons_of_mem _ hy)))
      rintro _ F4 ⟨x4, rfl, hx4, hF4⟩
      (repeat ((with_reducible apply XL.op)))
      ((with_reducible apply XOp.alloc); (case hg | ht | hx' => exact rfl); intro w4)
      (repeat (first | (with_reducible apply XL.op) | ((with_reducible apply XOp.loadO (i := 1)); (case hg | ht | hk | hx | hi | hc => exact rfl)) | ((with_reducible apply XOp.loadO (i := 2)); (case hg | ht | hk | hx | hi | hc => exact rfl)) | ((with_reducible apply XOp.storeN (i := 0)); (case hg | ht | hx | hv' | hk | h1 | hi | hs | ha => exact rfl)) | (with_reducible apply XL.nilT) | (with_reducible apply XC.seq) | (with_reducible apply XC.region (Γ := Γ))))
      ((with_reducible apply XOp.callQ (hF := eqWeightsT_fn x2 x hx2)); (case hg => exact rfl); (case hc => exact rfl); (case ha => exact rfl); try (case hA => exact Known.true))
      case hA => exact Known.and (hF2.known fun y hy => by simp [hy]) (Known.of_old hX (lw_mono _))
      rintro _ rfl
      (repeat (first | (with_reducible apply XL.op) | ((with_reducible apply XOp.p1); (case hg | hv => exact rfl)) | ((with_reducible apply XOp.loadO (i := 0)); (case hg | ht | hk | hx | hi | hc => exact rfl)) | ((with_reducible apply XOp.loadO (i := 2)); (case hg | ht | hk | hx | hi | hc => exact rfl))))
      ((with_reducible apply XOp.callQ (hF := eqWeightsT_fn x4 x (hx4.trans hx3))); (case hg => exact rfl); (case hc => exact rfl); (case ha => exact rfl); try (case hA => exact Known.true))
      case hA => exact Known.and (hF4.held.known fun y hy => by simp [hy]) (Known.of_old hX (lw_mono _))
      rintro _ rfl
      (repeat (first | (with_reducible apply XL.op) | ((with_reducible apply XOp.p1); (case hg | hv => exact rfl)) | (with_reducible apply XL.nilT) | (with_reducible apply XC.seq) | (with_reducible apply XC.region (Γ := Γ)) | (with_reducible apply XQ.skip) | (with_reducible apply XQ.nt) | (first | ((with_reducible apply XOp.split); (case hg | hj | hd | hb => exact rfl); (fail_if_success (case hf => exact fun h => Bool.noConfusion h)); (fail_if_success (case ht => exact fun h => Bool.noConfusion h)); (first | (case ht => intro hb_; try simp only [pd_true, pd_false, Bool.not_eq_true', Bool.not_eq_false', Bool.and_eq_true, Bool.and_eq_false_iff, Bool.or_eq_true, Bool.or_eq_false_iff, not_true_eq_false, not_false_eq_true, Int.not_lt, Int.not_le] at hb_; first | done | (exfalso; first | omega | contradiction)) | (case hf => intro hb_; try simp only [pd_true, pd_false, Bool.not_eq_true', Bool.not_eq_false', Bool.and_eq_true, Bool.and_eq_false_iff, Bool.or_eq_true, Bool.or_eq_false_iff, not_true_eq_false, not_false_eq_true, Int.not_lt, Int.not_le] at hb_; first | done | (exfalso; first | omega | contradiction))); intro hb_; try simp only [pd_true, pd_false, Bool.not_eq_true', Bool.not_eq_false', Bool.and_eq_true, Bool.and_eq_false_iff, Bool.or_eq_true, Bool.or_eq_false_iff, not_true_eq_false, not_false_eq_true, Int.not_lt, Int.not_le] at hb_) | ((with_reducible apply XP.split); (case ho | hg | hj | hd | hb => exact rfl); (fail_if_success (case hf => exact fun h => Bool.noConfusion h)); (fail_if_success (case ht => exact fun h => Bool.noConfusion h)); (first | (case ht => intro hb_; try simp only [pd_true, pd_false, Bool.not_eq_true', Bool.not_eq_false', Bool.and_eq_true, Bool.and_eq_false_iff, Bool.or_eq_true, Bool.or_eq_false_iff, not_true_eq_false, not_false_eq_true, Int.not_lt, Int.not_le] at hb_; first | done | (exfalso; first | omega | contradiction)) | (case hf => intro hb_; try simp only [pd_true, pd_false, Bool.not_eq_true', Bool.not_eq_false', Bool.and_eq_true, Bool.and_eq_false_iff, Bool.or_eq_true, Bool.or_eq_false_iff, not_true_eq_false, not_false_eq_true, Int.not_lt, Int.not_le] at hb_; first | done | (exfalso; first | omega | contradiction))); intro hb_; try simp only [pd_true, pd_false, Bool.not_eq_true', Bool.not_eq_false', Bool.and_eq_true, Bool.and_eq_false_iff, Bool.or_eq_true, Bool.or_eq_false_iff, not_true_eq_false, not_false_eq_true, Int.not_lt, Int.not_le] at hb_) | ((with_reducible apply XC.cond); (case hc => exact rfl); (first | (case ht => intro hb_; try simp only [pd_true, pd_false, Bool.not_eq_true', Bool.not_eq_false', Bool.and_eq_true, Bool.and_eq_false_iff, Bool.or_eq_true, Bool.or_eq_false_iff, not_true_eq_false, not_false_eq_true, Int.not_lt, Int.not_le] at hb_; first | done | (exfalso; first | omega | contradiction)) | (case hf => intro hb_; try simp only [pd_true, pd_false, Bool.not_eq_true', Bool.not_eq_false', Bool.and_eq_true, Bool.and_eq_false_iff, Bool.or_eq_true, Bool.or_eq_false_iff, not_true_eq_false, not_false_eq_true, Int.not_lt, Int.not_le] at hb_; first | done | (exfalso; first | omega | contradiction))); intro hb_; try simp only [pd_true, pd_false, Bool.not_eq_true', Bool.not_eq_false', Bool.and_eq_true, Bool.and_eq_false_iff, Bool.or_eq_true, Bool.or_eq_false_iff, not_true_eq_false, not_false_eq_true, Int.not_lt, Int.not_le] at hb_))))
      exact ⟨rfl, rfl, trivial⟩
    · (repeat (first | (with_reducible apply XQ.skip) | (with_reducible apply XQ.nt)))
      exact ⟨rfl, rfl, trivial⟩
  rintro ρ L hs
  refine XC.slots _ hs ?_
  (repeat (first | (with_reducible apply XL.op) | ((with_reducible apply XOp.p1); (case hg | hv => exact rfl)) | (with_reducible apply XC.seq) | (with_reducible apply XC.region (Γ := Γ))))
  ((with_reducible apply XOp.callN (hF := decode_fn b a c)); (case hg => exact rfl); (case hc => exact rfl); (case ha => exact rfl); try (case hA => exact Known.true))
  case hA => exact Known.and (Known.of_old hS sides_mono) (Known.of_old hB (Mono.sl _ _ _ _ _))
  rintro _ F5 ⟨x5, rfl, hx5, hF5⟩
  (repeat (first | (with_reducible apply XL.op) | ((with_reducible apply XOp.p1); (case hg | hv => exact rfl))))
  ((with_reducible apply XOp.alloc); (case hg | ht | hx' => exact rfl); intro w5)
  (repeat (first | (with_reducible apply XL.op) | ((with_reducible apply XOp.p1); (case hg | hv => exact rfl)) | ((with_reducible apply XOp.storeN (i := 0)); (case hg | ht | hx | hv' | hk | h1 | hi | hs | ha => exact rfl)) | (with_reducible apply XL.nilT) | (with_reducible apply XC.seq) | (with_reducible apply XC.region (Γ := Γ))))
  cases hd : decS digS b with
  | none =>
    rw [errD_no hd]
    skip
    ((with_reducible apply XC.cond); (case hc => exact rfl); all_goals (intro hb_; try simp only [pd_true, pd_false, Bool.not_eq_true', Bool.not_eq_false', Bool.and_eq_true, Bool.and_eq_false_iff, Bool.or_eq_true, Bool.or_eq_false_iff, not_true_eq_false, not_false_eq_true, Int.not_lt, Int.not_le] at hb_))
    rotate_left
    · exact absurd hb_ (by decide)
    (repeat (first | (with_reducible apply XL.op) | ((with_reducible apply XOp.p1); (case hg | hv => exact rfl)) | (with_reducible apply XL.nilT) | (with_reducible apply XC.seq) | (with_reducible apply XC.region (Γ := Γ)) | (with_reducible apply XQ.ret) | (with_reducible apply XQ.rt)))
    ((with_reducible apply XQ.retE); (case hr => exact .t rfl .nil))
    exact congrArg Value.bool (pdt rfl)
  | some w =>
    obtain ⟨hok, hfb⟩ := dec_sound digS hbB hd
    rw [errD_ok hd]
    rw [decW_ok hd] at hx5
    skip
    ((with_reducible apply XC.cond); (case hc => exact rfl); all_goals (intro hb_; try simp only [pd_true, pd_false, Bool.not_eq_true', Bool.not_eq_false', Bool.and_eq_true, Bool.and_eq_false_iff, Bool.or_eq_true, Bool.or_eq_false_iff, not_true_eq_false, not_false_eq_true, Int.not_lt, Int.not_le] at hb_))
    (repeat (first | (with_reducible apply XL.op) | ((with_reducible apply XOp.loadO (i := 0)); (case hg | ht | hk | hx | hi | hc => exact rfl)) | (with_reducible apply XC.seq) | (with_reducible apply XC.region (Γ := Γ)) | (with_reducible apply XQ.skip) | (with_reducible apply XQ.nt)))
    ((with_reducible apply XOp.callN (hF := encode_fn x5)); (case hg => exact rfl); (case hc => exact rfl); (case ha => exact rfl); try (case hA => exact Known.true))
    case hA => exact Known.and (Known.of_old hS sides_mono) (hF5.known fun y hy => by simp [hy])
    rintro _ F6 hE
    obtain ⟨a6, c6, rfl, s6⟩ := hE.get
    have he6 : encS x5.w = b := by rw [hx5, encS_ok hok, hfb]
    have hr6 : errW x5.w = 0 := by rw [hx5]; exact errW_ok hok
    rw [hr6]
    rw [he6] at s6 ⊢
    (repeat (first | (with_reducible apply XL.op) | ((with_reducible apply XOp.p1); (case hg | hv => exact rfl)) | (with_reducible apply XL.nilT) | (with_reducible apply XC.seq) | (with_reducible apply XC.region (Γ := Γ)) | (with_reducible apply XQ.ret) | (first | ((with_reducible apply XOp.split); (case hg | hj | hd | hb => exact rfl); (fail_if_success (case hf => exact fun h => Bool.noConfusion h)); (fail_if_success (case ht => exact fun h => Bool.noConfusion h)); (first | (case ht => intro hb_; try simp only [pd_true, pd_false, Bool.not_eq_true', Bool.not_eq_false', Bool.and_eq_true, Bool.and_eq_false_iff, Bool.or_eq_true, Bool.or_eq_false_iff, not_true_eq_false, not_false_eq_true, Int.not_lt, Int.not_le] at hb_; first | done | (exfalso; first | omega | contradiction)) | (case hf => intro hb_; try simp only [pd_true, pd_false, Bool.not_eq_true', Bool.not_eq_false', Bool.and_eq_true, Bool.and_eq_false_iff, Bool.or_eq_true, Bool.or_eq_false_iff, not_true_eq_false, not_false_eq_true, Int.not_lt, Int.not_le] at hb_; first | done | (exfalso; first | omega | contradiction))); intro hb_; try simp only [pd_true, pd_false, Bool.not_eq_true', Bool.not_eq_false', Bool.and_eq_true, Bool.and_eq_false_iff, Bool.or_eq_true, Bool.or_eq_false_iff, not_true_eq_false, not_false_eq_true, Int.not_lt, Int.not_le] at hb_) | ((with_reducible apply XP.split); (case ho | hg | hj | hd | hb => exact rfl); (fail_if_success (case hf => exact fun h => Bool.noConfusion h)); (fail_if_success (case ht => exact fun h => Bool.noConfusion h)); (first | (case ht => intro hb_; try simp only [pd_true, pd_false, Bool.not_eq_true', Bool.not_eq_false', Bool.and_eq_true, Bool.and_eq_false_iff, Bool.or_eq_true, Bool.or_eq_false_iff, not_true_eq_false, not_false_eq_true, Int.not_lt, Int.not_le] at hb_; first | done | (exfalso; first | omega | contradiction)) | (case hf => intro hb_; try simp only [pd_true, pd_false, Bool.not_eq_true', Bool.not_eq_false', Bool.and_eq_true, Bool.and_eq_false_iff, Bool.or_eq_true, Bool.or_eq_false_iff, not_true_eq_false, not_false_eq_true, Int.not_lt, Int.not_le] at hb_; first | done | (exfalso; first | omega | contradiction))); intro hb_; try simp only [pd_true, pd_false, Bool.not_eq_true', Bool.not_eq_false', Bool.and_eq_true, Bool.and_eq_false_iff, Bool.or_eq_true, Bool.or_eq_false_iff, not_true_eq_false, not_false_eq_true, Int.not_lt, Int.not_le] at hb_) | ((with_reducible apply XC.cond); (case hc => exact rfl); (first | (case ht => intro hb_; try simp only [pd_true, pd_false, Bool.not_eq_true', Bool.not_eq_false', Bool.and_eq_true, Bool.and_eq_false_iff, Bool.or_eq_true, Bool.or_eq_false_iff, not_true_eq_false, not_false_eq_true, Int.not_lt, Int.not_le] at hb_; first | done | (exfalso; first | omega | contradiction)) | (case hf => intro hb_; try simp only [pd_true, pd_false, Bool.not_eq_true', Bool.not_eq_false', Bool.and_eq_true, Bool.and_eq_false_iff, Bool.or_eq_true, Bool.or_eq_false_iff, not_true_eq_false, not_false_eq_true, Int.not_lt, Int.not_le] at hb_; first | done | (exfalso; first | omega | contradiction))); intro hb_; try simp only [pd_true, pd_false, Bool.not_eq_true', Bool.not_eq_false', Bool.and_eq_true, Bool.and_eq_false_iff, Bool.or_eq_true, Bool.or_eq_false_iff, not_true_eq_false, not_false_eq_true, Int.not_lt, Int.not_le] at hb_)) | (((with_reducible apply XOp.callQ (hF := eqBytesT_fn b a6 a c6 c)); (case hg => exact rfl); (case hc => exact rfl); (case ha => exact rfl); try (case hA => exact Known.true)); (case hA => exact Known.and (s6.known fun y hy => by simp [hy]) (Known.of_old hB (Mono.sl _ _ _ _ _))); rintro _ rfl)))
    ((with_reducible apply XQ.retE); (case hr => exact .t rfl .nil))
    rfl
end Go.Proofs.YtppggaiahkecoaaDoorX
