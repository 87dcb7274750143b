/- The document's Decode: what is read leniently holds if writing gives the bytes again. -/
import Derived.Test.YtppggaiahkecoaaDoorXPML5
import Derived.Test.YtppggaiahkecoaaDoorXPML4
set_option linter.unusedSimpArgs false
set_option linter.unusedVariables false
namespace Go.Proofs.YtppggaiahkecoaaDoorX
open Go Go.SX

theorem weightsV_eq (cf : Cfg) (b : List Int) (p : Nat) : weightsV cf b p =
  (let E := matV cf.Vocab cf.Width b (p + 5)
   let T := iterV turnV' (cf.head / 2).toNat b (E.2 + 5)
   let l := iterV (secV (layV cf)) cf.Layers.toNat b T.2
   let f := narV cf.Width.toNat b (l.2 + 5)
   let h := matV cf.Vocab cf.Width b (f.2 + 5)
   let m := iterV (secV (matV cf.Vocab cf.Width)) cf.Medusa.toNat b h.2
   (⟨cf, E.1, T.1, l.1, f.1, h.1, m.1⟩, m.2)) := rfl
theorem iterV_at {α : Type} {f : List Int → Nat → α × Nat} {b : List Int} {k : Nat} (h : ∀ q, (f b q).2 = q + k) (p : Nat) : ∀ n, (iterV f n b p).2 = p + k * n
  | 0 => by simp [iterV]
  | n + 1 => by
    show (f b (iterV f n b p).2).2 = _
    rw [h, iterV_at h p n, Nat.mul_succ]; omega
def layK (c : Cfg) : Nat := 12 + 2 * c.Width.toNat + 2 * (c.Width * c.Width).toNat + 2 * (c.keys * c.Width).toNat + 2 * (c.Hidden * c.Width).toNat + (c.Width * c.Hidden).toNat
theorem layV_at (c : Cfg) (b : List Int) (q : Nat) : (secV (layV c) b q).2 = q + layK c := by
  rw [layV_eq]; unfold layK; simp only []; omega
theorem layK_bnd {c : Cfg} (hc : c.may) : layK c ≤ 30000 := by
  obtain ⟨n1, n2, n3, n4⟩ := may_nn hc
  have hW := hc.2.1
  have hH := hc.2.2.2.2.1
  have p1 := mul_bnd (a := c.Width) (b := c.Width) (x := 32) (y := 32) (by omega) (by omega)
  have p2 := mul_bnd (a := c.keys) (b := c.Width) (x := 128) (y := 32) (by omega) (by omega)
  have p3 := mul_bnd (a := c.Hidden) (b := c.Width) (x := 64) (y := 32) (by omega) (by omega)
  have p4 := mul_bnd (a := c.Width) (b := c.Hidden) (x := 32) (y := 64) (by omega) (by omega)
  unfold layK; omega
theorem secM_at (r k : Int) (b : List Int) (q : Nat) : (secV (matV r k) b q).2 = q + (5 + (r * k).toNat) := by
  show q + 5 + (r * k).toNat = _; omega
theorem i64_p5 {p : Nat} (h : p ≤ 1000000000) : IntKind.i64.wrap ((p : Int) + 5) = ((p + 5 : Nat) : Int) := by rw [wrap64_of (by omega) (by omega)]; omega
theorem enc_eq {w : Wts} {b : List Int} (h : okW w) : (encS w = b) ↔ fileOf digS w = b := by rw [encS_ok h]
set_option maxHeartbeats 32000000 in
set_option maxRecDepth 10000 in
theorem refDecode_fn (b : List Int) (a : Option Addr) (c : Nat) : FC Tryd.prog 24 [.slice a b.length c] [] (fun h => byAt h b a c) (fun v L => DecR b v L) := by
  refine FC.sub2 ?_
  refine FC.intro Tryd.func24 rfl (by kernel_rfl) 156 [.cell 2 31, .tmp 3] rfl rfl rfl ?_
  intro w0 hA
  have hBb : isB b := fun y hy => inK_u8.1 (hA.okAll y hy)
  obtain ⟨hd1, hd2⟩ := dec_view digS digS_rng hBb
  (repeat (first | (with_reducible apply XL.op) | (with_reducible apply XC.seq) | (with_reducible apply XC.region (Γ := Γ))))
  ((with_reducible apply XOp.alloc); (case hg | ht | hx' => exact rfl); intro rs)
  (repeat (first | (with_reducible apply XL.op) | ((with_reducible apply XOp.p1); (case hg | hv => exact rfl)) | ((with_reducible apply XOp.pr); (case hg => exact rfl); (case hr => ((with_reducible apply PR.build); (case ht | hk | hok | hz | hf => exact rfl)))) | (with_reducible apply XL.nilT) | (with_reducible apply XC.seq) | (with_reducible apply XC.region (Γ := Γ))))
  ((with_reducible apply XOp.box); (case hg | hx' => exact rfl); intro vb)
  (repeat (first | (with_reducible apply XL.op) | ((with_reducible apply XOp.p1); (case hg | hv => exact rfl)) | (with_reducible apply XL.nilT) | (with_reducible apply XC.seq) | (with_reducible apply XC.region (Γ := Γ))))
  ((with_reducible apply XOp.callM (R := []) (hF := vconfig_fn vb a c b 6 (by omega))); (case hg => exact rfl); (case hc => exact rfl); (case ha => exact rfl); (case hL => exact rfl); try (case hA => exact Known.true))
  case hA => exact Known.of_old hA (Mono.sl _ _ _ _ _)
  rintro _ _ ⟨rfl, rfl⟩
  obtain ⟨cf, hcf⟩ : ∃ q, q = cfgV b := ⟨_, rfl⟩
  have hcf' : cfgOf (narV 8 b (6 + 5)).1 = cf := hcf.symm
  rw [hcf']
  rw [← hcf] at hd1 hd2
  (repeat ((with_reducible apply XL.op)))
  ((with_reducible apply XOp.alloc); (case hg | ht | hx' => exact rfl); intro cb)
  (repeat (first | (with_reducible apply XL.op) | ((with_reducible apply XOp.loadO (i := 0)); (case hg | ht | hk | hx | hi | hc => exact rfl)) | ((with_reducible apply XOp.storeN (i := 0)); (case hg | ht | hx | hv' | hk | h1 | hi | hs | ha => exact rfl)) | (with_reducible apply XL.nilT) | (with_reducible apply XC.seq) | (with_reducible apply XC.region (Γ := Γ))))
  ((with_reducible apply XOp.callQ (hF := FC.nil (refCheck_fn cf))); (case hg => exact rfl); (case hc => exact rfl); (case ha => exact rfl); try (case hA => exact Known.true))
  rintro _ rfl
  (repeat (first | (with_reducible apply XL.op) | ((with_reducible apply XOp.p1); (case hg | hv => exact rfl)) | (with_reducible apply XL.nilT) | (with_reducible apply XC.seq) | (with_reducible apply XC.region (Γ := Γ))))
  by_cases hc : cf.may
  case neg =>
    rw [cerr_no hc]
    (repeat (first | (with_reducible apply XL.op) | ((with_reducible apply XOp.p1); (case hg | hv => exact rfl)) | ((with_reducible apply XOp.storeN (i := 2)); (case hg | ht | hx | hv' | hk | h1 | hi | hs | ha => exact rfl)) | ((with_reducible apply XOp.pr); (case hg => exact rfl); (case hr => ((with_reducible apply PR.build); (case ht | hk | hok | hz | hf => exact rfl)))) | (with_reducible apply XL.nilT) | (with_reducible apply XC.seq) | (with_reducible apply XC.region (Γ := Γ)) | (with_reducible apply XQ.ret) | (with_reducible apply XQ.rt) | (first | ((with_reducible apply XOp.split); (case hg | hj | hd | hb => exact rfl); (fail_if_success (case hf => exact fun h => Bool.noConfusion h)); (fail_if_success (case ht => exact fun h => Bool.noConfusion h)); (first | (case ht => intro hb_; try simp only [pd_true, pd_false, Bool.not_eq_true', Bool.not_eq_false', Bool.and_eq_true, Bool.and_eq_false_iff, Bool.or_eq_true, Bool.or_eq_false_iff, not_true_eq_false, not_false_eq_true, Int.not_lt, Int.not_le] at hb_; first | done | (exfalso; first | omega | contradiction)) | (case hf => intro hb_; try simp only [pd_true, pd_false, Bool.not_eq_true', Bool.not_eq_false', Bool.and_eq_true, Bool.and_eq_false_iff, Bool.or_eq_true, Bool.or_eq_false_iff, not_true_eq_false, not_false_eq_true, Int.not_lt, Int.not_le] at hb_; first | done | (exfalso; first | omega | contradiction))); intro hb_; try simp only [pd_true, pd_false, Bool.not_eq_true', Bool.not_eq_false', Bool.and_eq_true, Bool.and_eq_false_iff, Bool.or_eq_true, Bool.or_eq_false_iff, not_true_eq_false, not_false_eq_true, Int.not_lt, Int.not_le] at hb_) | ((with_reducible apply XP.split); (case ho | hg | hj | hd | hb => exact rfl); (fail_if_success (case hf => exact fun h => Bool.noConfusion h)); (fail_if_success (case ht => exact fun h => Bool.noConfusion h)); (first | (case ht => intro hb_; try simp only [pd_true, pd_false, Bool.not_eq_true', Bool.not_eq_false', Bool.and_eq_true, Bool.and_eq_false_iff, Bool.or_eq_true, Bool.or_eq_false_iff, not_true_eq_false, not_false_eq_true, Int.not_lt, Int.not_le] at hb_; first | done | (exfalso; first | omega | contradiction)) | (case hf => intro hb_; try simp only [pd_true, pd_false, Bool.not_eq_true', Bool.not_eq_false', Bool.and_eq_true, Bool.and_eq_false_iff, Bool.or_eq_true, Bool.or_eq_false_iff, not_true_eq_false, not_false_eq_true, Int.not_lt, Int.not_le] at hb_; first | done | (exfalso; first | omega | contradiction))); intro hb_; try simp only [pd_true, pd_false, Bool.not_eq_true', Bool.not_eq_false', Bool.and_eq_true, Bool.and_eq_false_iff, Bool.or_eq_true, Bool.or_eq_false_iff, not_true_eq_false, not_false_eq_true, Int.not_lt, Int.not_le] at hb_) | ((with_reducible apply XC.cond); (case hc => exact rfl); (first | (case ht => intro hb_; try simp only [pd_true, pd_false, Bool.not_eq_true', Bool.not_eq_false', Bool.and_eq_true, Bool.and_eq_false_iff, Bool.or_eq_true, Bool.or_eq_false_iff, not_true_eq_false, not_false_eq_true, Int.not_lt, Int.not_le] at hb_; first | done | (exfalso; first | omega | contradiction)) | (case hf => intro hb_; try simp only [pd_true, pd_false, Bool.not_eq_true', Bool.not_eq_false', Bool.and_eq_true, Bool.and_eq_false_iff, Bool.or_eq_true, Bool.or_eq_false_iff, not_true_eq_false, not_false_eq_true, Int.not_lt, Int.not_le] at hb_; first | done | (exfalso; first | omega | contradiction))); intro hb_; try simp only [pd_true, pd_false, Bool.not_eq_true', Bool.not_eq_false', Bool.and_eq_true, Bool.and_eq_false_iff, Bool.or_eq_true, Bool.or_eq_false_iff, not_true_eq_false, not_false_eq_true, Int.not_lt, Int.not_le] at hb_))))
    ((with_reducible apply XQ.retE); (case hr => exact .row rfl (by kernel_rfl) (by kernel_rfl) (own_row (i := 2) (m := 18) rfl rfl) (.t rfl .nil)))
    exact ⟨[], .of (List.nil_sublist _), decR_none (hd1 hc)⟩
  rw [(cerr_iff cf).2 hc]
  have hd3 := hd2 hc
  clear hd1 hd2
  have e11 : IntKind.i64.wrap (((6 + 13 : Nat) : Int) + 5) = ((24 : Nat) : Int) := rfl
  obtain ⟨nn1, nn2, nn3, nn4⟩ := may_nn hc
  have hV := hc.1
  have hW := hc.2.1
  have hLy := hc.2.2.2.1
  have hMe := hc.2.2.2.2.2.2.1
  have hVW := mul_bnd (a := cf.Vocab) (b := cf.Width) (x := 64) (y := 32) (by omega) (by omega)
  have hLK := layK_bnd hc
  (repeat (first | (with_reducible apply XL.op) | ((with_reducible apply XOp.loadO (i := 0)); (case hg | ht | hk | hx | hi | hc => exact rfl)) | ((with_reducible apply XOp.pr); (case hg => exact rfl); (case hr => ((with_reducible apply PR.build); (case ht | hk | hok | hz | hf => exact rfl)))) | (with_reducible apply XC.seq) | (with_reducible apply XC.region (Γ := Γ)) | (with_reducible apply XQ.skip) | (with_reducible apply XQ.nt) | (first | ((with_reducible apply XOp.split); (case hg | hj | hd | hb => exact rfl); (fail_if_success (case hf => exact fun h => Bool.noConfusion h)); (fail_if_success (case ht => exact fun h => Bool.noConfusion h)); (first | (case ht => intro hb_; try simp only [pd_true, pd_false, Bool.not_eq_true', Bool.not_eq_false', Bool.and_eq_true, Bool.and_eq_false_iff, Bool.or_eq_true, Bool.or_eq_false_iff, not_true_eq_false, not_false_eq_true, Int.not_lt, Int.not_le] at hb_; first | done | (exfalso; first | omega | contradiction)) | (case hf => intro hb_; try simp only [pd_true, pd_false, Bool.not_eq_true', Bool.not_eq_false', Bool.and_eq_true, Bool.and_eq_false_iff, Bool.or_eq_true, Bool.or_eq_false_iff, not_true_eq_false, not_false_eq_true, Int.not_lt, Int.not_le] at hb_; first | done | (exfalso; first | omega | contradiction))); intro hb_; try simp only [pd_true, pd_false, Bool.not_eq_true', Bool.not_eq_false', Bool.and_eq_true, Bool.and_eq_false_iff, Bool.or_eq_true, Bool.or_eq_false_iff, not_true_eq_false, not_false_eq_true, Int.not_lt, Int.not_le] at hb_) | ((with_reducible apply XP.split); (case ho | hg | hj | hd | hb => exact rfl); (fail_if_success (case hf => exact fun h => Bool.noConfusion h)); (fail_if_success (case ht => exact fun h => Bool.noConfusion h)); (first | (case ht => intro hb_; try simp only [pd_true, pd_false, Bool.not_eq_true', Bool.not_eq_false', Bool.and_eq_true, Bool.and_eq_false_iff, Bool.or_eq_true, Bool.or_eq_false_iff, not_true_eq_false, not_false_eq_true, Int.not_lt, Int.not_le] at hb_; first | done | (exfalso; first | omega | contradiction)) | (case hf => intro hb_; try simp only [pd_true, pd_false, Bool.not_eq_true', Bool.not_eq_false', Bool.and_eq_true, Bool.and_eq_false_iff, Bool.or_eq_true, Bool.or_eq_false_iff, not_true_eq_false, not_false_eq_true, Int.not_lt, Int.not_le] at hb_; first | done | (exfalso; first | omega | contradiction))); intro hb_; try simp only [pd_true, pd_false, Bool.not_eq_true', Bool.not_eq_false', Bool.and_eq_true, Bool.and_eq_false_iff, Bool.or_eq_true, Bool.or_eq_false_iff, not_true_eq_false, not_false_eq_true, Int.not_lt, Int.not_le] at hb_) | ((with_reducible apply XC.cond); (case hc => exact rfl); (first | (case ht => intro hb_; try simp only [pd_true, pd_false, Bool.not_eq_true', Bool.not_eq_false', Bool.and_eq_true, Bool.and_eq_false_iff, Bool.or_eq_true, Bool.or_eq_false_iff, not_true_eq_false, not_false_eq_true, Int.not_lt, Int.not_le] at hb_; first | done | (exfalso; first | omega | contradiction)) | (case hf => intro hb_; try simp only [pd_true, pd_false, Bool.not_eq_true', Bool.not_eq_false', Bool.and_eq_true, Bool.and_eq_false_iff, Bool.or_eq_true, Bool.or_eq_false_iff, not_true_eq_false, not_false_eq_true, Int.not_lt, Int.not_le] at hb_; first | done | (exfalso; first | omega | contradiction))); intro hb_; try simp only [pd_true, pd_false, Bool.not_eq_true', Bool.not_eq_false', Bool.and_eq_true, Bool.and_eq_false_iff, Bool.or_eq_true, Bool.or_eq_false_iff, not_true_eq_false, not_false_eq_true, Int.not_lt, Int.not_le] at hb_))))
  ((with_reducible apply XOp.alloc); (case hg | ht | hx' => exact rfl); intro xb)
  (repeat (first | (with_reducible apply XL.op) | ((with_reducible apply XOp.p1); (case hg | hv => exact rfl)) | ((with_reducible apply XOp.load); (case hg | ht | hk | hx => exact rfl); (case hc => exact own_cell (i := 1) rfl rfl)) | ((with_reducible apply XOp.load); (case hg | ht | hk | hx => exact rfl); (case hc => exact own_cell (i := 2) rfl rfl)) | ((with_reducible apply XOp.store (i := 2)); (case hg | ht | hk | hx | hv | h1 | hi | hs | ha => exact rfl)) | ((with_reducible apply XOp.storeN (i := 0)); (case hg | ht | hx | hv' | hk | h1 | hi | hs | ha => exact rfl)) | (with_reducible apply XL.nilT) | (with_reducible apply XC.seq) | (with_reducible apply XC.region (Γ := Γ))))
  rw [e11]
  rw [weightsV_eq] at hd3
  simp only [] at hd3
  skip
  (refine (show XOp _ _ _ _ _ _ _ _ ([(xb, Obj.cells ⟨rwC cf zmat (.slice none 0 0) (.slice none 0 0) zlv zmat (.slice none 0 0)⟩ 31 (0, 0)), (cb, Obj.cells ⟨cf.cells⟩ 23 (0, 0)), VwB vb a c b 24, (rs, Obj.cells ⟨zeroW⟩ 31 (0, 0))]) from XOp.perm (L' :=  [(xb, Obj.cells ⟨rwC cf zmat (.slice none 0 0) (.slice none 0 0) zlv zmat (.slice none 0 0)⟩ 31 (0, 0)), (cb, Obj.cells ⟨cf.cells⟩ 23 (0, 0)), (rs, Obj.cells ⟨zeroW⟩ 31 (0, 0))] ++ [VwB vb a c b 24]) rfl ?_ (by (first | (with_reducible exact List.Perm.refl _) | refine perm_of_cnt fun p_ => ?_; simp only [List.countP_append, List.countP_cons, List.countP_nil]; omega))))
  ((with_reducible apply XOp.callM (R := [_, _, _]) (hF := vmat_fn vb a c b 24 cf.Vocab cf.Width (by omega) (by omega))); (case hg => exact rfl); (case hc => exact rfl); (case ha => exact rfl); (case hL => exact rfl); try (case hA => exact Known.true))
  case hA => exact Known.of_old hA (Mono.sl _ _ _ _ _)
  rintro _ _ ⟨e', F1, rfl, he, rfl, hF1⟩
  have hq2 : (matV cf.Vocab cf.Width b 24).2 = 24 + (cf.Vocab * cf.Width).toNat := rfl
  rw [← hq2]
  generalize hqE : matV cf.Vocab cf.Width b 24 = qE at *
  (repeat (first | (with_reducible apply XL.op) | ((with_reducible apply XOp.p1); (case hg | hv => exact rfl)) | ((with_reducible apply XOp.load); (case hg | ht | hk | hx => exact rfl); (case hc => exact own_cell (i := 3) rfl rfl)) | ((with_reducible apply XOp.store (i := 3)); (case hg | ht | hk | hx | hv | h1 | hi | hs | ha => exact rfl)) | ((with_reducible apply XOp.storeN (i := 0)); (case hg | ht | hx | hv' | hk | h1 | hi | hs | ha => exact rfl)) | (with_reducible apply XL.nilT) | (with_reducible apply XC.seq) | (with_reducible apply XC.region (Γ := Γ)) | (with_reducible apply XC.block)))
  rw [i64_p5 (by omega)]
  have hpT := iterV_at (f := turnV') (b := b) (k := 4) (fun q => rfl) (qE.2 + 5)
  skip
  refine XC.loopP (fun k ρ L => ∃ (i : Nat) (v : Value) (Fv : HL), i + k = (cf.head / 2).toNat ∧ OwnS 70 2 v i ((iterV turnV' i b (qE.2 + 5)).1.flatMap turnV) Fv ∧ L = [(xb, Obj.cells ⟨rwC cf e' v (.slice none 0 0) zlv zmat (.slice none 0 0)⟩ 31 (0, 0)), (cb, Obj.cells ⟨cf.cells⟩ 23 (0, 0)), (rs, Obj.cells ⟨zeroW⟩ 31 (0, 0))] ++ (VwB vb a c b (iterV turnV' i b (qE.2 + 5)).2 :: (F1 ++ Fv)) ∧ Slots ρ [(0, .slice a b.length c), (2, .pointer (some ⟨rs, 0, none⟩)), (4, .pointer (some ⟨vb, 0, none⟩)), (5, .pointer (some ⟨cb, 0, none⟩)), (7, .pointer (some ⟨xb, 0, none⟩)), (8, .int .i64 i)])
    (cf.head / 2).toNat ⟨0, _, [], by simp, OwnS.nil _ _, rfl, rfl, rfl, rfl, rfl, rfl, rfl, trivial⟩ ?_
  rintro k ρ L ⟨i, v, Fv, hik, hown, rfl, hs⟩
  obtain ⟨at', ct', rfl⟩ := hown.val
  refine XC.slots _ hs ?_
  (repeat (first | (with_reducible apply XL.op) | ((with_reducible apply XOp.p1); (case hg | hv => exact rfl)) | ((with_reducible apply XOp.loadO (i := 1)); (case hg | ht | hk | hx | hi | hc => exact rfl)) | (with_reducible apply XL.nilT) | (with_reducible apply XC.seq) | (with_reducible apply XC.region (Γ := Γ)) | (((with_reducible apply XOp.callQ (hF := refHead_fn cf hc)); (case hg => exact rfl); (case hc => exact rfl); (case ha => exact rfl); try (case hA => exact Known.true)); rintro _ rfl)))
  ((with_reducible apply XC.cond); (case hc => exact rfl); all_goals (intro hb_; try simp only [pd_true, pd_false, Bool.not_eq_true', Bool.not_eq_false', Bool.and_eq_true, Bool.and_eq_false_iff, Bool.or_eq_true, Bool.or_eq_false_iff, not_true_eq_false, not_false_eq_true, Int.not_lt, Int.not_le] at hb_))
  · rw [half_wrap hc] at hb_
    have hpi := hpT i
    have hsn := iterV_snoc turnV' i b (qE.2 + 5)
    generalize hls : iterV turnV' i b (qE.2 + 5) = ls at *
    (repeat (first | (with_reducible apply XL.op) | ((with_reducible apply XOp.p1); (case hg | hv => exact rfl)) | (with_reducible apply XC.seq) | (with_reducible apply XC.region (Γ := Γ)) | (with_reducible apply XQ.skip) | (with_reducible apply XQ.nt) | (with_reducible apply XC.block)))
    ((with_reducible apply XOp.callM (R := [_, _, _]) (hF := vsmall_fn vb a c b ls.2 (by omega))); (case hg => exact rfl); (case hc => exact rfl); (case ha => exact rfl); (case hL => exact rfl); try (case hA => exact Known.true))
    case hA => exact Known.of_old hA (Mono.sl _ _ _ _ _)
    rintro _ _ ⟨rfl, rfl⟩
    (repeat (first | (with_reducible apply XL.op) | ((with_reducible apply XOp.p1); (case hg | hv => exact rfl)) | (with_reducible apply XL.nilT) | (with_reducible apply XC.seq) | (with_reducible apply XC.region (Γ := Γ))))
    ((with_reducible apply XOp.callM (R := [_, _, _]) (hF := vsmall_fn vb a c b (ls.2 + 2) (by omega))); (case hg => exact rfl); (case hc => exact rfl); (case ha => exact rfl); (case hL => exact rfl); try (case hA => exact Known.true))
    case hA => exact Known.of_old hA (Mono.sl _ _ _ _ _)
    rintro _ _ ⟨rfl, rfl⟩
    (repeat (first | (with_reducible apply XL.op) | ((with_reducible apply XOp.p1); (case hg | hv => exact rfl)) | ((with_reducible apply XOp.load); (case hg | ht | hk | hx => exact rfl); (case hc => exact own_cell (i := 0) rfl rfl)) | ((with_reducible apply XOp.pr); (case hg => exact rfl); (case hr => ((with_reducible apply PR.build); (case ht | hk | hok | hz | hf => exact rfl)))) | (with_reducible apply XL.nilT) | (with_reducible apply XC.region (Γ := Γ))))
    ((with_reducible apply XOp.buildSlice); (case hg | ht | hk | he | hz | hzl | hf => exact rfl); intro bb)
    (repeat ((with_reducible apply XL.op)))
    (refine (show XOp _ _ _ _ _ _ _ _ ((bb, Obj.cells ⟨[.int .i64 (s16 (valB (bytV 2 b ls.2))), .int .i64 (s16 (valB (bytV 2 b (ls.2 + 2))))]⟩ 70 (0, 0)) :: [(xb, Obj.cells ⟨rwC cf e' (.slice at' i ct') (.slice none 0 0) zlv zmat (.slice none 0 0)⟩ 31 (0, 0)), (cb, Obj.cells ⟨cf.cells⟩ 23 (0, 0)), (rs, Obj.cells ⟨zeroW⟩ 31 (0, 0))] ++ (VwB vb a c b (ls.2 + 2 + 2) :: (F1 ++ Fv))) from XOp.perm (L' :=  (bb, Obj.cells ⟨[.int .i64 (s16 (valB (bytV 2 b ls.2))), .int .i64 (s16 (valB (bytV 2 b (ls.2 + 2))))]⟩ 70 (0, 0)) :: (([(xb, Obj.cells ⟨rwC cf e' (.slice at' i ct') (.slice none 0 0) zlv zmat (.slice none 0 0)⟩ 31 (0, 0)), (cb, Obj.cells ⟨cf.cells⟩ 23 (0, 0)), (rs, Obj.cells ⟨zeroW⟩ 31 (0, 0))] ++ (VwB vb a c b (ls.2 + 2 + 2) :: F1)) ++ Fv)) rfl ?_ (by (first | (with_reducible exact List.Perm.refl _) | refine perm_of_cnt fun p_ => ?_; simp only [List.countP_append, List.countP_cons, List.countP_nil]; omega))))
    ((with_reducible apply XOp.append1R (R := [(xb, Obj.cells ⟨rwC cf e' (.slice at' i ct') (.slice none 0 0) zlv zmat (.slice none 0 0)⟩ 31 (0, 0)), (cb, Obj.cells ⟨cf.cells⟩ 23 (0, 0)), (rs, Obj.cells ⟨zeroW⟩ 31 (0, 0))] ++ (VwB vb a c b (ls.2 + 2 + 2) :: F1))); (case hg => exact rfl); (case ht => exact rfl); (case hk => exact rfl); (case he => exact rfl); (case hown => exact hown); (case hs => exact rfl); (case hx => exact rfl); (case hL => exact rfl); (case hl => exact rfl); (case h1 => exact rfl); (case hz => exact rfl); (case hsz => exact Nat.zero_lt_succ _); (case hk0 => exact Nat.zero_lt_succ _); (case h63 => simp only [maxLen]; omega); (case hb => simp only []; omega); intro v_ F_ hown_; obtain ⟨a_, c_, rfl⟩ := hown_.val)
    (repeat (first | (with_reducible apply XL.op) | ((with_reducible apply XOp.p1); (case hg | hv => exact rfl)) | ((with_reducible apply XOp.store (i := 0)); (case hg | ht | hk | hx | hv | h1 | hi | hs | ha => exact rfl)) | (with_reducible apply XL.nilT) | (with_reducible apply XC.region (Γ := Γ)) | (with_reducible apply XL.nilQ) | (with_reducible apply XQ.nt) | (with_reducible apply XQ.nb)))
    refine ⟨k - 1, by omega, _, .of (List.Sublist.refl _), i + 1, _, F_, by omega, hown_.conv rfl ?_, ?_, rfl, rfl, rfl, rfl, rfl, intS2 (m := 64) (by omega) (by omega), trivial⟩
    · rw [hsn, List.flatMap_append]; simp [turnV, turnV', zerosL]
    · rw [hsn]; rfl
  rw [half_wrap hc] at hb_
  obtain rfl : k = 0 := by omega
  rw [Nat.add_zero] at hik
  subst hik
  have hpn := hpT (cf.head / 2).toNat
  have hqTl : (iterV turnV' (cf.head / 2).toNat b (qE.2 + 5)).1.length = (cf.head / 2).toNat := iterV_len _ _ _ _
  generalize hqT : iterV turnV' (cf.head / 2).toNat b (qE.2 + 5) = qT at *
  clear hs
  (repeat (first | (with_reducible apply XL.op) | ((with_reducible apply XOp.p1); (case hg | hv => exact rfl)) | (with_reducible apply XL.nilT) | (with_reducible apply XC.seq) | (with_reducible apply XC.region (Γ := Γ)) | (with_reducible apply XQ.exit) | (with_reducible apply XQ.nt) | (with_reducible apply XQ.et) | (with_reducible apply XC.block) | ((with_reducible apply XQ.eb); (case hb => exact rfl))))
  obtain ⟨fL, hfL⟩ : ∃ f, f = secV (layV cf) := ⟨_, rfl⟩
  rw [← hfL] at hd3
  have hpL := iterV_at (f := fL) (b := b) (k := layK cf) (fun q => by rw [hfL]; exact layV_at cf b q) qT.2
  refine XC.loopP (fun k ρ L => ∃ (i : Nat) (v : Value) (A : List LL) (GG Fl : HL), i + k = cf.Layers.toNat ∧ OwnS 67 30 v i (A.flatMap LL.cells) Fl ∧ A.map LL.lay = (iterV fL i b qT.2).1 ∧ Held GG (fun h => ∀ l ∈ A, llAt h l) ∧ (∀ y ∈ F1 ++ Fv, y ∈ GG) ∧ L = [(xb, Obj.cells ⟨rwC cf e' (.slice at' (cf.head / 2).toNat ct') v zlv zmat (.slice none 0 0)⟩ 31 (0, 0)), (cb, Obj.cells ⟨cf.cells⟩ 23 (0, 0)), (rs, Obj.cells ⟨zeroW⟩ 31 (0, 0))] ++ (VwB vb a c b (iterV fL i b qT.2).2 :: (GG ++ Fl)) ∧ Slots ρ [(0, .slice a b.length c), (2, .pointer (some ⟨rs, 0, none⟩)), (4, .pointer (some ⟨vb, 0, none⟩)), (5, .pointer (some ⟨cb, 0, none⟩)), (7, .pointer (some ⟨xb, 0, none⟩)), (11, .int .i64 i)])
    cf.Layers.toNat ⟨0, _, [], F1 ++ Fv, [], by simp, OwnS.nil _ _, rfl, fun h hh l hl => by simp at hl, fun _ h => h, by rw [List.append_nil]; rfl, rfl, rfl, rfl, rfl, rfl, rfl, trivial⟩ ?_
  rintro k ρ L ⟨i, v, A, GG, Fl, hik, hownL, hAl, hG, hGG, rfl, hs⟩
  obtain ⟨al, cl, rfl⟩ := hownL.val
  refine XC.slots _ hs ?_
  (repeat (first | (with_reducible apply XL.op) | ((with_reducible apply XOp.p1); (case hg | hv => exact rfl)) | ((with_reducible apply XOp.load); (case hg | ht | hk | hx => exact rfl); (case hc => exact own_cell (i := 1) rfl rfl)) | (with_reducible apply XL.nilT) | (with_reducible apply XC.seq) | (with_reducible apply XC.region (Γ := Γ))))
  ((with_reducible apply XC.cond); (case hc => exact rfl); all_goals (intro hb_; try simp only [pd_true, pd_false, Bool.not_eq_true', Bool.not_eq_false', Bool.and_eq_true, Bool.and_eq_false_iff, Bool.or_eq_true, Bool.or_eq_false_iff, not_true_eq_false, not_false_eq_true, Int.not_lt, Int.not_le] at hb_))
  · have hpi := hpL i
    have hsn := iterV_snoc fL i b qT.2
    have hi4 : layK cf * i ≤ 30000 * 4 := Nat.mul_le_mul hLK (by omega)
    generalize hls : iterV fL i b qT.2 = ls at *
    (repeat (first | (with_reducible apply XL.op) | ((with_reducible apply XOp.p1); (case hg | hv => exact rfl)) | ((with_reducible apply XOp.loadO (i := 1)); (case hg | ht | hk | hx | hi | hc => exact rfl)) | (with_reducible apply XC.seq) | (with_reducible apply XC.region (Γ := Γ)) | (with_reducible apply XQ.skip) | (with_reducible apply XQ.nt) | (with_reducible apply XC.block)))
    ((with_reducible apply XOp.callM (R := [_, _, _]) (hF := vlayer_fn vb a c b ls.2 (by omega) cf hc)); (case hg => exact rfl); (case hc => exact rfl); (case ha => exact rfl); (case hL => exact rfl); try (case hA => exact Known.true))
    case hA => exact Known.of_old hA (Mono.sl _ _ _ _ _)
    rintro _ _ ⟨l', F7, rfl, hlay, rfl, hF7⟩
    rw [← hfL] at hlay ⊢
    (repeat ((with_reducible apply XL.op)))
    ((with_reducible apply XOp.alloc); (case hg | ht | hx' => exact rfl); intro yb)
    (repeat (first | (with_reducible apply XL.op) | ((with_reducible apply XOp.p1); (case hg | hv => exact rfl)) | ((with_reducible apply XOp.load); (case hg | ht | hk | hx => exact rfl); (case hc => exact own_cell (i := 1) rfl rfl)) | ((with_reducible apply XOp.loadO (i := 0)); (case hg | ht | hk | hx | hi | hc => exact rfl)) | ((with_reducible apply XOp.storeN (i := 0)); (case hg | ht | hx | hv' | hk | h1 | hi | hs | ha => exact rfl)) | (with_reducible apply XL.nilT) | (with_reducible apply XC.region (Γ := Γ))))
    ((with_reducible apply XOp.buildSlice); (case hg | ht | hk | he | hz | hzl | hf => exact rfl); intro bb)
    (repeat ((with_reducible apply XL.op)))
    (refine (show XOp _ _ _ _ _ _ _ _ ((bb, Obj.cells ⟨l'.cells⟩ 67 (0, 0)) :: (yb, Obj.cells ⟨l'.cells⟩ 67 (0, 0)) :: [(xb, Obj.cells ⟨rwC cf e' (.slice at' (cf.head / 2).toNat ct') (.slice al i cl) zlv zmat (.slice none 0 0)⟩ 31 (0, 0)), (cb, Obj.cells ⟨cf.cells⟩ 23 (0, 0)), (rs, Obj.cells ⟨zeroW⟩ 31 (0, 0))] ++ ((VwB vb a c b (fL b ls.2).2 :: F7) ++ (GG ++ Fl))) from XOp.perm (L' :=  (bb, Obj.cells ⟨l'.cells⟩ 67 (0, 0)) :: (([(xb, Obj.cells ⟨rwC cf e' (.slice at' (cf.head / 2).toNat ct') (.slice al i cl) zlv zmat (.slice none 0 0)⟩ 31 (0, 0)), (cb, Obj.cells ⟨cf.cells⟩ 23 (0, 0)), (rs, Obj.cells ⟨zeroW⟩ 31 (0, 0))] ++ (VwB vb a c b (fL b ls.2).2 :: (F7 ++ ((yb, Obj.cells ⟨l'.cells⟩ 67 (0, 0)) :: GG)))) ++ Fl)) rfl ?_ (by (first | (with_reducible exact List.Perm.refl _) | refine perm_of_cnt fun p_ => ?_; simp only [List.countP_append, List.countP_cons, List.countP_nil]; omega))))
    ((with_reducible apply XOp.append1R (R := [(xb, Obj.cells ⟨rwC cf e' (.slice at' (cf.head / 2).toNat ct') (.slice al i cl) zlv zmat (.slice none 0 0)⟩ 31 (0, 0)), (cb, Obj.cells ⟨cf.cells⟩ 23 (0, 0)), (rs, Obj.cells ⟨zeroW⟩ 31 (0, 0))] ++ (VwB vb a c b (fL b ls.2).2 :: (F7 ++ ((yb, Obj.cells ⟨l'.cells⟩ 67 (0, 0)) :: GG))))); (case hg => exact rfl); (case ht => exact rfl); (case hk => exact rfl); (case he => exact rfl); (case hown => exact hownL); (case hs => exact rfl); (case hx => exact rfl); (case hL => exact rfl); (case hl => exact rfl); (case h1 => exact rfl); (case hz => exact rfl); (case hsz => exact Nat.zero_lt_succ _); (case hk0 => exact Nat.zero_lt_succ _); (case h63 => simp only [maxLen]; omega); (case hb => simp only []; omega); intro v_ F_ hown_; obtain ⟨a_, c_, rfl⟩ := hown_.val)
    (repeat (first | (with_reducible apply XL.op) | ((with_reducible apply XOp.p1); (case hg | hv => exact rfl)) | ((with_reducible apply XOp.store (i := 0)); (case hg | ht | hk | hx | hv | h1 | hi | hs | ha => exact rfl)) | (with_reducible apply XL.nilT) | (with_reducible apply XC.region (Γ := Γ)) | (with_reducible apply XL.nilQ) | (with_reducible apply XQ.nt) | (with_reducible apply XQ.nb)))
    refine ⟨k - 1, by omega, _, .of (List.Sublist.refl _), i + 1, _, A ++ [l'], F7 ++ ((yb, Obj.cells ⟨l'.cells⟩ 67 (0, 0)) :: GG), F_, by omega, hown_.conv rfl (by simp), ?_, ?_, fun y hy => List.mem_append_right _ (List.mem_cons_of_mem _ (hGG y hy)), ?_, rfl, rfl, rfl, rfl, rfl, intS2 (m := 64) (by omega) (by omega), trivial⟩
    · rw [hsn, List.map_append, hAl, List.map_singleton, hlay]
    · intro h hh z hz
      rcases List.mem_append.1 hz with h1 | h1
      · exact hG h (fun y hy => hh y (List.mem_append_right _ (List.mem_cons_of_mem _ hy))) z h1
      · rw [List.mem_singleton.1 h1]; exact hF7 h (fun y hy => hh y (List.mem_append_left _ hy))
    · rw [hsn]; rfl
  obtain rfl : k = 0 := by omega
  rw [Nat.add_zero] at hik
  subst hik
  have hpn2 := hpL cf.Layers.toNat
  have hi4 : layK cf * cf.Layers.toNat ≤ 30000 * 4 := Nat.mul_le_mul hLK (by omega)
  have hqLl : (iterV fL cf.Layers.toNat b qT.2).1.length = cf.Layers.toNat := iterV_len _ _ _ _
  generalize hqL : iterV fL cf.Layers.toNat b qT.2 = qL at *
  clear hs
  (repeat (first | (with_reducible apply XL.op) | ((with_reducible apply XOp.p1); (case hg | hv => exact rfl)) | ((with_reducible apply XOp.load); (case hg | ht | hk | hx => exact rfl); (case hc => exact own_cell (i := 1) rfl rfl)) | ((with_reducible apply XOp.load); (case hg | ht | hk | hx => exact rfl); (case hc => exact own_cell (i := 3) rfl rfl)) | ((with_reducible apply XOp.store (i := 3)); (case hg | ht | hk | hx | hv | h1 | hi | hs | ha => exact rfl)) | (with_reducible apply XL.nilT) | (with_reducible apply XC.seq) | (with_reducible apply XC.region (Γ := Γ)) | (with_reducible apply XQ.exit) | (with_reducible apply XQ.nt) | (with_reducible apply XQ.et) | ((with_reducible apply XQ.eb); (case hb => exact rfl))))
  rw [i64_p5 (by omega)]
  skip
  ((with_reducible apply XOp.callM (R := [_, _, _]) (hF := vnarrowI_fn vb a c b (qL.2 + 5) cf.Width (by omega) (by omega))); (case hg => exact rfl); (case hc => exact rfl); (case ha => exact rfl); (case hL => exact rfl); try (case hA => exact Known.true))
  case hA => exact Known.of_old hA (Mono.sl _ _ _ _ _)
  rintro _ _ ⟨f', F9, rfl, hf, rfl, hF9⟩
  have hf2 : (narV cf.Width.toNat b (qL.2 + 5)).2 = qL.2 + 5 + cf.Width.toNat := rfl
  rw [← hf2]
  generalize hqF : narV cf.Width.toNat b (qL.2 + 5) = qF at *
  (repeat (first | (with_reducible apply XL.op) | ((with_reducible apply XOp.p1); (case hg | hv => exact rfl)) | ((with_reducible apply XOp.load); (case hg | ht | hk | hx => exact rfl); (case hc => exact own_cell (i := 1) rfl rfl)) | ((with_reducible apply XOp.load); (case hg | ht | hk | hx => exact rfl); (case hc => exact own_cell (i := 3) rfl rfl)) | ((with_reducible apply XOp.store (i := 0)); (case hg | ht | hk | hx | hv | h1 | hi | hs | ha => exact rfl)) | ((with_reducible apply XOp.store (i := 3)); (case hg | ht | hk | hx | hv | h1 | hi | hs | ha => exact rfl)) | (with_reducible apply XL.nilT) | (with_reducible apply XC.seq) | (with_reducible apply XC.region (Γ := Γ))))
  rw [i64_p5 (by omega)]
  skip
  ((with_reducible apply XOp.callM (R := [_, _, _]) (hF := vmat_fn vb a c b (qF.2 + 5) cf.Vocab cf.Width (by omega) (by omega))); (case hg => exact rfl); (case hc => exact rfl); (case ha => exact rfl); (case hL => exact rfl); try (case hA => exact Known.true))
  case hA => exact Known.of_old hA (Mono.sl _ _ _ _ _)
  rintro _ _ ⟨h', F11, rfl, hh', rfl, hF11⟩
  have hh2 : (matV cf.Vocab cf.Width b (qF.2 + 5)).2 = qF.2 + 5 + (cf.Vocab * cf.Width).toNat := rfl
  rw [← hh2]
  generalize hqH : matV cf.Vocab cf.Width b (qF.2 + 5) = qH at *
  (repeat (first | (with_reducible apply XL.op) | ((with_reducible apply XOp.p1); (case hg | hv => exact rfl)) | ((with_reducible apply XOp.storeN (i := 0)); (case hg | ht | hx | hv' | hk | h1 | hi | hs | ha => exact rfl)) | (with_reducible apply XL.nilT) | (with_reducible apply XC.seq) | (with_reducible apply XC.region (Γ := Γ)) | (with_reducible apply XC.block)))
  obtain ⟨fM, hfM⟩ : ∃ f, f = secV (matV cf.Vocab cf.Width) := ⟨_, rfl⟩
  rw [← hfM] at hd3
  have hpM := iterV_at (f := fM) (b := b) (k := 5 + (cf.Vocab * cf.Width).toNat) (fun q => by rw [hfM]; exact secM_at _ _ b q) qH.2
  refine XC.loopP (fun k ρ L => ∃ (i : Nat) (v : Value) (D : List LM) (HH Fm : HL), i + k = cf.Medusa.toNat ∧ OwnS 26 3 v i (D.flatMap LM.cells) Fm ∧ D.map LM.mat = (iterV fM i b qH.2).1 ∧ Held HH (fun h => ∀ m ∈ D, lmAt h m) ∧ (∀ y ∈ F11 ++ (F9 ++ (GG ++ Fl)), y ∈ HH) ∧ L = [(xb, Obj.cells ⟨rwC cf e' (.slice at' (cf.head / 2).toNat ct') (.slice al cf.Layers.toNat cl) f' h' v⟩ 31 (0, 0)), (cb, Obj.cells ⟨cf.cells⟩ 23 (0, 0)), (rs, Obj.cells ⟨zeroW⟩ 31 (0, 0))] ++ (VwB vb a c b (iterV fM i b qH.2).2 :: (HH ++ Fm)) ∧ Slots ρ [(0, .slice a b.length c), (2, .pointer (some ⟨rs, 0, none⟩)), (4, .pointer (some ⟨vb, 0, none⟩)), (5, .pointer (some ⟨cb, 0, none⟩)), (7, .pointer (some ⟨xb, 0, none⟩)), (13, .int .i64 i)])
    cf.Medusa.toNat ⟨0, _, [], F11 ++ (F9 ++ (GG ++ Fl)), [], by simp, OwnS.nil _ _, rfl, fun h hh l hl => by simp at hl, fun _ h => h, by rw [List.append_nil]; rfl, rfl, rfl, rfl, rfl, rfl, rfl, trivial⟩ ?_
  rintro k ρ L ⟨i, v, D, HH, Fm, hik, hownM, hDl, hH, hHH, rfl, hs⟩
  obtain ⟨am, cm, rfl⟩ := hownM.val
  refine XC.slots _ hs ?_
  (repeat (first | (with_reducible apply XL.op) | ((with_reducible apply XOp.p1); (case hg | hv => exact rfl)) | ((with_reducible apply XOp.load); (case hg | ht | hk | hx => exact rfl); (case hc => exact own_cell (i := 1) rfl rfl)) | (with_reducible apply XL.nilT) | (with_reducible apply XC.seq) | (with_reducible apply XC.region (Γ := Γ))))
  ((with_reducible apply XC.cond); (case hc => exact rfl); all_goals (intro hb_; try simp only [pd_true, pd_false, Bool.not_eq_true', Bool.not_eq_false', Bool.and_eq_true, Bool.and_eq_false_iff, Bool.or_eq_true, Bool.or_eq_false_iff, not_true_eq_false, not_false_eq_true, Int.not_lt, Int.not_le] at hb_))
  · have hpi := hpM i
    have hsn := iterV_snoc fM i b qH.2
    have hi5 : (5 + (cf.Vocab * cf.Width).toNat) * i ≤ 2053 * 4 := Nat.mul_le_mul (by omega) (by omega)
    generalize hls : iterV fM i b qH.2 = ls at *
    (repeat (first | (with_reducible apply XL.op) | ((with_reducible apply XOp.p1); (case hg | hv => exact rfl)) | ((with_reducible apply XOp.load); (case hg | ht | hk | hx => exact rfl); (case hc => exact own_cell (i := 1) rfl rfl)) | ((with_reducible apply XOp.load); (case hg | ht | hk | hx => exact rfl); (case hc => exact own_cell (i := 3) rfl rfl)) | ((with_reducible apply XOp.store (i := 3)); (case hg | ht | hk | hx | hv | h1 | hi | hs | ha => exact rfl)) | (with_reducible apply XL.nilT) | (with_reducible apply XC.seq) | (with_reducible apply XC.region (Γ := Γ)) | (with_reducible apply XQ.skip) | (with_reducible apply XQ.nt) | (with_reducible apply XC.block)))
    rw [i64_p5 (by omega)]
    skip
    ((with_reducible apply XOp.callM (R := [_, _, _]) (hF := vmat_fn vb a c b (ls.2 + 5) cf.Vocab cf.Width (by omega) (by omega))); (case hg => exact rfl); (case hc => exact rfl); (case ha => exact rfl); (case hL => exact rfl); try (case hA => exact Known.true))
    case hA => exact Known.of_old hA (Mono.sl _ _ _ _ _)
    rintro _ _ ⟨m', F14, rfl, hmat, rfl, hF14⟩
    have hmf : matV cf.Vocab cf.Width b (ls.2 + 5) = fM b ls.2 := by rw [hfM]; rfl
    have hm2 : ls.2 + 5 + (cf.Vocab * cf.Width).toNat = (fM b ls.2).2 := by rw [← hmf]; rfl
    rw [hmf] at hmat
    rw [hm2]
    (repeat ((with_reducible apply XL.op)))
    ((with_reducible apply XOp.alloc); (case hg | ht | hx' => exact rfl); intro yb)
    (repeat (first | (with_reducible apply XL.op) | ((with_reducible apply XOp.p1); (case hg | hv => exact rfl)) | ((with_reducible apply XOp.load); (case hg | ht | hk | hx => exact rfl); (case hc => exact own_cell (i := 1) rfl rfl)) | ((with_reducible apply XOp.loadO (i := 0)); (case hg | ht | hk | hx | hi | hc => exact rfl)) | ((with_reducible apply XOp.storeN (i := 0)); (case hg | ht | hx | hv' | hk | h1 | hi | hs | ha => exact rfl)) | (with_reducible apply XL.nilT) | (with_reducible apply XC.region (Γ := Γ))))
    ((with_reducible apply XOp.buildSlice); (case hg | ht | hk | he | hz | hzl | hf => exact rfl); intro bb)
    (repeat ((with_reducible apply XL.op)))
    (refine (show XOp _ _ _ _ _ _ _ _ ((bb, Obj.cells ⟨m'.cells⟩ 26 (0, 0)) :: (yb, Obj.cells ⟨m'.cells⟩ 26 (0, 0)) :: [(xb, Obj.cells ⟨rwC cf e' (.slice at' (cf.head / 2).toNat ct') (.slice al cf.Layers.toNat cl) f' h' (.slice am i cm)⟩ 31 (0, 0)), (cb, Obj.cells ⟨cf.cells⟩ 23 (0, 0)), (rs, Obj.cells ⟨zeroW⟩ 31 (0, 0))] ++ ((VwB vb a c b (fM b ls.2).2 :: F14) ++ (HH ++ Fm))) from XOp.perm (L' :=  (bb, Obj.cells ⟨m'.cells⟩ 26 (0, 0)) :: (([(xb, Obj.cells ⟨rwC cf e' (.slice at' (cf.head / 2).toNat ct') (.slice al cf.Layers.toNat cl) f' h' (.slice am i cm)⟩ 31 (0, 0)), (cb, Obj.cells ⟨cf.cells⟩ 23 (0, 0)), (rs, Obj.cells ⟨zeroW⟩ 31 (0, 0))] ++ (VwB vb a c b (fM b ls.2).2 :: (F14 ++ ((yb, Obj.cells ⟨m'.cells⟩ 26 (0, 0)) :: HH)))) ++ Fm)) rfl ?_ (by (first | (with_reducible exact List.Perm.refl _) | refine perm_of_cnt fun p_ => ?_; simp only [List.countP_append, List.countP_cons, List.countP_nil]; omega))))
    ((with_reducible apply XOp.append1R (R := [(xb, Obj.cells ⟨rwC cf e' (.slice at' (cf.head / 2).toNat ct') (.slice al cf.Layers.toNat cl) f' h' (.slice am i cm)⟩ 31 (0, 0)), (cb, Obj.cells ⟨cf.cells⟩ 23 (0, 0)), (rs, Obj.cells ⟨zeroW⟩ 31 (0, 0))] ++ (VwB vb a c b (fM b ls.2).2 :: (F14 ++ ((yb, Obj.cells ⟨m'.cells⟩ 26 (0, 0)) :: HH))))); (case hg => exact rfl); (case ht => exact rfl); (case hk => exact rfl); (case he => exact rfl); (case hown => exact hownM); (case hs => exact rfl); (case hx => exact rfl); (case hL => exact rfl); (case hl => exact rfl); (case h1 => exact rfl); (case hz => exact rfl); (case hsz => exact Nat.zero_lt_succ _); (case hk0 => exact Nat.zero_lt_succ _); (case h63 => simp only [maxLen]; omega); (case hb => simp only []; omega); intro v_ F_ hown_; obtain ⟨a_, c_, rfl⟩ := hown_.val)
    (repeat (first | (with_reducible apply XL.op) | ((with_reducible apply XOp.p1); (case hg | hv => exact rfl)) | ((with_reducible apply XOp.store (i := 0)); (case hg | ht | hk | hx | hv | h1 | hi | hs | ha => exact rfl)) | (with_reducible apply XL.nilT) | (with_reducible apply XC.region (Γ := Γ)) | (with_reducible apply XL.nilQ) | (with_reducible apply XQ.nt) | (with_reducible apply XQ.nb)))
    refine ⟨k - 1, by omega, _, .of (List.Sublist.refl _), i + 1, _, D ++ [m'], F14 ++ ((yb, Obj.cells ⟨m'.cells⟩ 26 (0, 0)) :: HH), F_, by omega, hown_.conv rfl (by simp), ?_, ?_, fun y hy => List.mem_append_right _ (List.mem_cons_of_mem _ (hHH y hy)), ?_, rfl, rfl, rfl, rfl, rfl, intS2 (m := 64) (by omega) (by omega), trivial⟩
    · rw [hsn, List.map_append, hDl, List.map_singleton, hmat]
    · intro h hh z hz
      rcases List.mem_append.1 hz with h1 | h1
      · exact hH h (fun y hy => hh y (List.mem_append_right _ (List.mem_cons_of_mem _ hy))) z h1
      · rw [List.mem_singleton.1 h1]; exact hF14 h (fun y hy => hh y (List.mem_append_left _ hy))
    · rw [hsn]; rfl
  obtain rfl : k = 0 := by omega
  rw [Nat.add_zero] at hik
  subst hik
  have hqMl : (iterV fM cf.Medusa.toNat b qH.2).1.length = cf.Medusa.toNat := iterV_len _ _ _ _
  generalize hqM : iterV fM cf.Medusa.toNat b qH.2 = qM at *
  clear hs
  have hAn : A.length = cf.Layers.toNat := by have := congrArg List.length hAl; rw [List.length_map] at this; omega
  have hDn : D.length = cf.Medusa.toNat := by have := congrArg List.length hDl; rw [List.length_map] at this; omega
  obtain ⟨aT, cT, eT, sT⟩ := hown.raw (f := turnV) (k := 2) (hk := fun _ => rfl) (by_ := 16) hqTl.symm (by omega)
  obtain ⟨aL, cL, eL, sL⟩ := hownL.raw (f := LL.cells) (k := 30) (hk := fun _ => rfl) (by_ := 384) hAn.symm (by omega)
  obtain ⟨aM, cM, eM, sM⟩ := hownM.raw (f := LM.cells) (k := 3) (hk := fun _ => rfl) (by_ := 40) hDn.symm (by omega)
  obtain ⟨rfl, _, rfl⟩ := Value.slice.inj eT
  obtain ⟨rfl, _, rfl⟩ := Value.slice.inj eL
  obtain ⟨rfl, _, rfl⟩ := Value.slice.inj eM
  obtain ⟨xw, hxw⟩ : ∃ x : LW, x = ⟨cf, e', (qT.1, at', ct'), (A, al, cl), f', h', (D, am, cm)⟩ := ⟨_, rfl⟩
  have hcells : rwC cf e' (.slice at' (cf.head / 2).toNat ct') (.slice al cf.Layers.toNat cl) f' h' (.slice am cf.Medusa.toNat cm) = xw.cells := by rw [hxw]; simp only [LW.cells, sla, hqTl, hAn, hDn]; rfl
  have hww : xw.w = ⟨cf, qE.1, qT.1, qL.1, qF.1, qH.1, qM.1⟩ := by
    rw [hxw]
    show (⟨cf, e'.mat, qT.1, A.map LL.lay, f'.1, h'.mat, D.map LM.mat⟩ : Wts) = _
    rw [he, hAl, hf, hh', hDl]
  rw [← hww] at hd3
  have hwA : Held (HH ++ Fm) (fun h => lwAt h xw) := fun h hh => by
    have q1 := hF1 h fun y hy => hh y (List.mem_append_left _ (hHH y (by simp [hGG y (List.mem_append_left _ hy)])))
    have q2 := Held.frag sT (Mono.sl _ _ _ _ _) h fun y hy => hh y (List.mem_append_left _ (hHH y (by simp [hGG y (List.mem_append_right _ hy)])))
    have q3 := Held.frag sL (Mono.sl _ _ _ _ _) h fun y hy => hh y (List.mem_append_left _ (hHH y (by simp [hy])))
    have q4 := hG h fun y hy => hh y (List.mem_append_left _ (hHH y (by simp [hy])))
    have q5 := hF9 h fun y hy => hh y (List.mem_append_left _ (hHH y (by simp [hy])))
    have q6 := hF11 h fun y hy => hh y (List.mem_append_left _ (hHH y (by simp [hy])))
    have q7 := Held.frag sM (Mono.sl _ _ _ _ _) h fun y hy => hh y (List.mem_append_right _ hy)
    have q8 := hH h fun y hy => hh y (List.mem_append_left _ hy)
    rw [hxw]
    exact ⟨q1, q2, SlA.ofRaw q3 q4, q5, q6, SlA.ofRaw q7 q8⟩
  rw [hcells]
  (repeat (first | (with_reducible apply XL.op) | ((with_reducible apply XOp.loadO (i := 0)); (case hg | ht | hk | hx | hi | hc => exact rfl)) | (with_reducible apply XC.seq) | (with_reducible apply XC.region (Γ := Γ)) | (with_reducible apply XQ.exit) | (with_reducible apply XQ.nt) | (with_reducible apply XQ.et) | ((with_reducible apply XQ.eb); (case hb => exact rfl))))
  ((with_reducible apply XOp.callN (hF := refEncode_fn xw)); (case hg => exact rfl); (case hc => exact rfl); (case ha => exact rfl); try (case hA => exact Known.true))
  case hA => exact hwA.known fun y hy => by simp only [List.mem_cons, List.mem_append] at hy ⊢; simp [hy]
  rintro _ F20 hE
  obtain ⟨a20, c20, rfl, s20⟩ := hE.get
  (repeat (first | (with_reducible apply XL.op) | ((with_reducible apply XOp.p1); (case hg | hv => exact rfl)) | (with_reducible apply XL.nilT) | (with_reducible apply XC.seq) | (with_reducible apply XC.region (Γ := Γ))))
  ((with_reducible apply XOp.callQ (hF := eqBytes_fn (encS xw.w) b a20 a c20 c)); (case hg => exact rfl); (case hc => exact rfl); (case ha => exact rfl); try (case hA => exact Known.true))
  case hA => exact Known.and (s20.known fun y hy => by simp [hy]) (Known.of_old hA (Mono.sl _ _ _ _ _))
  rintro _ rfl
  by_cases hok : okW xw.w ∧ fileOf digS xw.w = b
  · have hres := hd3.1 hok
    rw [errW_ok hok.1, pdt ((enc_eq hok.1).2 hok.2)]
    (repeat (first | (with_reducible apply XL.op) | ((with_reducible apply XOp.p1); (case hg | hv => exact rfl)) | ((with_reducible apply XOp.loadO (i := 0)); (case hg | ht | hk | hx | hi | hc => exact rfl)) | ((with_reducible apply XOp.storeN (i := 2)); (case hg | ht | hx | hv' | hk | h1 | hi | hs | ha => exact rfl)) | (with_reducible apply XL.nilT) | (with_reducible apply XC.seq) | (with_reducible apply XC.region (Γ := Γ)) | (with_reducible apply XQ.skip) | (with_reducible apply XQ.ret) | (with_reducible apply XQ.nt) | ((with_reducible apply XC.condF); (case hc => exact rfl)) | (first | ((with_reducible apply XOp.split); (case hg | hj | hd | hb => exact rfl); (fail_if_success (case hf => exact fun h => Bool.noConfusion h)); (fail_if_success (case ht => exact fun h => Bool.noConfusion h)); (first | (case ht => intro hb_; try simp only [pd_true, pd_false, Bool.not_eq_true', Bool.not_eq_false', Bool.and_eq_true, Bool.and_eq_false_iff, Bool.or_eq_true, Bool.or_eq_false_iff, not_true_eq_false, not_false_eq_true, Int.not_lt, Int.not_le] at hb_; first | done | (exfalso; first | omega | contradiction)) | (case hf => intro hb_; try simp only [pd_true, pd_false, Bool.not_eq_true', Bool.not_eq_false', Bool.and_eq_true, Bool.and_eq_false_iff, Bool.or_eq_true, Bool.or_eq_false_iff, not_true_eq_false, not_false_eq_true, Int.not_lt, Int.not_le] at hb_; first | done | (exfalso; first | omega | contradiction))); intro hb_; try simp only [pd_true, pd_false, Bool.not_eq_true', Bool.not_eq_false', Bool.and_eq_true, Bool.and_eq_false_iff, Bool.or_eq_true, Bool.or_eq_false_iff, not_true_eq_false, not_false_eq_true, Int.not_lt, Int.not_le] at hb_) | ((with_reducible apply XP.split); (case ho | hg | hj | hd | hb => exact rfl); (fail_if_success (case hf => exact fun h => Bool.noConfusion h)); (fail_if_success (case ht => exact fun h => Bool.noConfusion h)); (first | (case ht => intro hb_; try simp only [pd_true, pd_false, Bool.not_eq_true', Bool.not_eq_false', Bool.and_eq_true, Bool.and_eq_false_iff, Bool.or_eq_true, Bool.or_eq_false_iff, not_true_eq_false, not_false_eq_true, Int.not_lt, Int.not_le] at hb_; first | done | (exfalso; first | omega | contradiction)) | (case hf => intro hb_; try simp only [pd_true, pd_false, Bool.not_eq_true', Bool.not_eq_false', Bool.and_eq_true, Bool.and_eq_false_iff, Bool.or_eq_true, Bool.or_eq_false_iff, not_true_eq_false, not_false_eq_true, Int.not_lt, Int.not_le] at hb_; first | done | (exfalso; first | omega | contradiction))); intro hb_; try simp only [pd_true, pd_false, Bool.not_eq_true', Bool.not_eq_false', Bool.and_eq_true, Bool.and_eq_false_iff, Bool.or_eq_true, Bool.or_eq_false_iff, not_true_eq_false, not_false_eq_true, Int.not_lt, Int.not_le] at hb_) | ((with_reducible apply XC.cond); (case hc => exact rfl); (first | (case ht => intro hb_; try simp only [pd_true, pd_false, Bool.not_eq_true', Bool.not_eq_false', Bool.and_eq_true, Bool.and_eq_false_iff, Bool.or_eq_true, Bool.or_eq_false_iff, not_true_eq_false, not_false_eq_true, Int.not_lt, Int.not_le] at hb_; first | done | (exfalso; first | omega | contradiction)) | (case hf => intro hb_; try simp only [pd_true, pd_false, Bool.not_eq_true', Bool.not_eq_false', Bool.and_eq_true, Bool.and_eq_false_iff, Bool.or_eq_true, Bool.or_eq_false_iff, not_true_eq_false, not_false_eq_true, Int.not_lt, Int.not_le] at hb_; first | done | (exfalso; first | omega | contradiction))); intro hb_; try simp only [pd_true, pd_false, Bool.not_eq_true', Bool.not_eq_false', Bool.and_eq_true, Bool.and_eq_false_iff, Bool.or_eq_true, Bool.or_eq_false_iff, not_true_eq_false, not_false_eq_true, Int.not_lt, Int.not_le] at hb_))))
    ((with_reducible apply XQ.retE); (case hr => exact .row rfl (by kernel_rfl) (by kernel_rfl) (own_row (i := 2) (m := 18) rfl rfl) (.t rfl .nil)))
    exact ⟨HH ++ Fm, .of (by ((try simp only [List.append_eq, List.cons_append, List.nil_append, List.append_assoc]); repeat (first | exact List.Sublist.refl _ | exact List.nil_sublist _ | (with_reducible apply List.Sublist.cons_cons) | (with_reducible apply List.Sublist.cons) | exact List.sublist_append_right _ _)); exact List.Sublist.append (List.Sublist.refl _) (List.sublist_append_left _ _)), decR_some hres hwA⟩
  · have hres := hd3.2 hok
    by_cases hok1 : okW xw.w
    · have hne : ¬ encS xw.w = b := fun h => hok ⟨hok1, (enc_eq hok1).1 h⟩
      rw [errW_ok hok1, pdf hne]
      (repeat (first | (with_reducible apply XL.op) | ((with_reducible apply XOp.p1); (case hg | hv => exact rfl)) | ((with_reducible apply XOp.storeN (i := 2)); (case hg | ht | hx | hv' | hk | h1 | hi | hs | ha => exact rfl)) | ((with_reducible apply XOp.pr); (case hg => exact rfl); (case hr => ((with_reducible apply PR.build); (case ht | hk | hok | hz | hf => exact rfl)))) | (with_reducible apply XL.nilT) | (with_reducible apply XC.seq) | (with_reducible apply XC.region (Γ := Γ)) | (with_reducible apply XQ.ret) | (with_reducible apply XQ.rt) | ((with_reducible apply XC.condT); (case hc => exact rfl)) | (first | ((with_reducible apply XOp.split); (case hg | hj | hd | hb => exact rfl); (fail_if_success (case hf => exact fun h => Bool.noConfusion h)); (fail_if_success (case ht => exact fun h => Bool.noConfusion h)); (first | (case ht => intro hb_; try simp only [pd_true, pd_false, Bool.not_eq_true', Bool.not_eq_false', Bool.and_eq_true, Bool.and_eq_false_iff, Bool.or_eq_true, Bool.or_eq_false_iff, not_true_eq_false, not_false_eq_true, Int.not_lt, Int.not_le] at hb_; first | done | (exfalso; first | omega | contradiction)) | (case hf => intro hb_; try simp only [pd_true, pd_false, Bool.not_eq_true', Bool.not_eq_false', Bool.and_eq_true, Bool.and_eq_false_iff, Bool.or_eq_true, Bool.or_eq_false_iff, not_true_eq_false, not_false_eq_true, Int.not_lt, Int.not_le] at hb_; first | done | (exfalso; first | omega | contradiction))); intro hb_; try simp only [pd_true, pd_false, Bool.not_eq_true', Bool.not_eq_false', Bool.and_eq_true, Bool.and_eq_false_iff, Bool.or_eq_true, Bool.or_eq_false_iff, not_true_eq_false, not_false_eq_true, Int.not_lt, Int.not_le] at hb_) | ((with_reducible apply XP.split); (case ho | hg | hj | hd | hb => exact rfl); (fail_if_success (case hf => exact fun h => Bool.noConfusion h)); (fail_if_success (case ht => exact fun h => Bool.noConfusion h)); (first | (case ht => intro hb_; try simp only [pd_true, pd_false, Bool.not_eq_true', Bool.not_eq_false', Bool.and_eq_true, Bool.and_eq_false_iff, Bool.or_eq_true, Bool.or_eq_false_iff, not_true_eq_false, not_false_eq_true, Int.not_lt, Int.not_le] at hb_; first | done | (exfalso; first | omega | contradiction)) | (case hf => intro hb_; try simp only [pd_true, pd_false, Bool.not_eq_true', Bool.not_eq_false', Bool.and_eq_true, Bool.and_eq_false_iff, Bool.or_eq_true, Bool.or_eq_false_iff, not_true_eq_false, not_false_eq_true, Int.not_lt, Int.not_le] at hb_; first | done | (exfalso; first | omega | contradiction))); intro hb_; try simp only [pd_true, pd_false, Bool.not_eq_true', Bool.not_eq_false', Bool.and_eq_true, Bool.and_eq_false_iff, Bool.or_eq_true, Bool.or_eq_false_iff, not_true_eq_false, not_false_eq_true, Int.not_lt, Int.not_le] at hb_) | ((with_reducible apply XC.cond); (case hc => exact rfl); (first | (case ht => intro hb_; try simp only [pd_true, pd_false, Bool.not_eq_true', Bool.not_eq_false', Bool.and_eq_true, Bool.and_eq_false_iff, Bool.or_eq_true, Bool.or_eq_false_iff, not_true_eq_false, not_false_eq_true, Int.not_lt, Int.not_le] at hb_; first | done | (exfalso; first | omega | contradiction)) | (case hf => intro hb_; try simp only [pd_true, pd_false, Bool.not_eq_true', Bool.not_eq_false', Bool.and_eq_true, Bool.and_eq_false_iff, Bool.or_eq_true, Bool.or_eq_false_iff, not_true_eq_false, not_false_eq_true, Int.not_lt, Int.not_le] at hb_; first | done | (exfalso; first | omega | contradiction))); intro hb_; try simp only [pd_true, pd_false, Bool.not_eq_true', Bool.not_eq_false', Bool.and_eq_true, Bool.and_eq_false_iff, Bool.or_eq_true, Bool.or_eq_false_iff, not_true_eq_false, not_false_eq_true, Int.not_lt, Int.not_le] at hb_))))
      ((with_reducible apply XQ.retE); (case hr => exact .row rfl (by kernel_rfl) (by kernel_rfl) (own_row (i := 2) (m := 18) rfl rfl) (.t rfl .nil)))
      exact ⟨[], .of (List.nil_sublist _), decR_none hres⟩
    · have hne : errW xw.w ≠ 0 := fun h => hok1 (errW_zero h)
      generalize errW xw.w = ew at *
      (repeat (first | (with_reducible apply XL.op) | ((with_reducible apply XOp.p1); (case hg | hv => exact rfl)) | ((with_reducible apply XOp.p0); (case hg => exact rfl)) | ((with_reducible apply XOp.storeN (i := 2)); (case hg | ht | hx | hv' | hk | h1 | hi | hs | ha => exact rfl)) | ((with_reducible apply XOp.pr); (case hg => exact rfl); (case hr => ((with_reducible apply PR.build); (case ht | hk | hok | hz | hf => exact rfl)))) | (with_reducible apply XL.nilT) | (with_reducible apply XC.seq) | (with_reducible apply XC.region (Γ := Γ)) | (with_reducible apply XQ.ret) | (with_reducible apply XQ.rt) | ((with_reducible apply XC.condT); (case hc => exact rfl)) | (first | ((with_reducible apply XOp.split); (case hg | hj | hd | hb => exact rfl); (fail_if_success (case hf => exact fun h => Bool.noConfusion h)); (fail_if_success (case ht => exact fun h => Bool.noConfusion h)); (first | (case ht => intro hb_; try simp only [pd_true, pd_false, Bool.not_eq_true', Bool.not_eq_false', Bool.and_eq_true, Bool.and_eq_false_iff, Bool.or_eq_true, Bool.or_eq_false_iff, not_true_eq_false, not_false_eq_true, Int.not_lt, Int.not_le] at hb_; first | done | (exfalso; first | omega | contradiction)) | (case hf => intro hb_; try simp only [pd_true, pd_false, Bool.not_eq_true', Bool.not_eq_false', Bool.and_eq_true, Bool.and_eq_false_iff, Bool.or_eq_true, Bool.or_eq_false_iff, not_true_eq_false, not_false_eq_true, Int.not_lt, Int.not_le] at hb_; first | done | (exfalso; first | omega | contradiction))); intro hb_; try simp only [pd_true, pd_false, Bool.not_eq_true', Bool.not_eq_false', Bool.and_eq_true, Bool.and_eq_false_iff, Bool.or_eq_true, Bool.or_eq_false_iff, not_true_eq_false, not_false_eq_true, Int.not_lt, Int.not_le] at hb_) | ((with_reducible apply XP.split); (case ho | hg | hj | hd | hb => exact rfl); (fail_if_success (case hf => exact fun h => Bool.noConfusion h)); (fail_if_success (case ht => exact fun h => Bool.noConfusion h)); (first | (case ht => intro hb_; try simp only [pd_true, pd_false, Bool.not_eq_true', Bool.not_eq_false', Bool.and_eq_true, Bool.and_eq_false_iff, Bool.or_eq_true, Bool.or_eq_false_iff, not_true_eq_false, not_false_eq_true, Int.not_lt, Int.not_le] at hb_; first | done | (exfalso; first | omega | contradiction)) | (case hf => intro hb_; try simp only [pd_true, pd_false, Bool.not_eq_true', Bool.not_eq_false', Bool.and_eq_true, Bool.and_eq_false_iff, Bool.or_eq_true, Bool.or_eq_false_iff, not_true_eq_false, not_false_eq_true, Int.not_lt, Int.not_le] at hb_; first | done | (exfalso; first | omega | contradiction))); intro hb_; try simp only [pd_true, pd_false, Bool.not_eq_true', Bool.not_eq_false', Bool.and_eq_true, Bool.and_eq_false_iff, Bool.or_eq_true, Bool.or_eq_false_iff, not_true_eq_false, not_false_eq_true, Int.not_lt, Int.not_le] at hb_) | ((with_reducible apply XC.cond); (case hc => exact rfl); (first | (case ht => intro hb_; try simp only [pd_true, pd_false, Bool.not_eq_true', Bool.not_eq_false', Bool.and_eq_true, Bool.and_eq_false_iff, Bool.or_eq_true, Bool.or_eq_false_iff, not_true_eq_false, not_false_eq_true, Int.not_lt, Int.not_le] at hb_; first | done | (exfalso; first | omega | contradiction)) | (case hf => intro hb_; try simp only [pd_true, pd_false, Bool.not_eq_true', Bool.not_eq_false', Bool.and_eq_true, Bool.and_eq_false_iff, Bool.or_eq_true, Bool.or_eq_false_iff, not_true_eq_false, not_false_eq_true, Int.not_lt, Int.not_le] at hb_; first | done | (exfalso; first | omega | contradiction))); intro hb_; try simp only [pd_true, pd_false, Bool.not_eq_true', Bool.not_eq_false', Bool.and_eq_true, Bool.and_eq_false_iff, Bool.or_eq_true, Bool.or_eq_false_iff, not_true_eq_false, not_false_eq_true, Int.not_lt, Int.not_le] at hb_))))
      ((with_reducible apply XQ.retE); (case hr => exact .row rfl (by kernel_rfl) (by kernel_rfl) (own_row (i := 2) (m := 18) rfl rfl) (.t rfl .nil)))
      exact ⟨[], .of (List.nil_sublist _), decR_none hres⟩
end Go.Proofs.YtppggaiahkecoaaDoorX
/- How long the lists of weights are that are right. -/
namespace Go.Proofs.YtppggaiahkecoaaDoorX
open Go Go.SX
theorem mat_len {m : Mat} {r c : Int} (h : isM m r c) (hr : r ≤ 1024) (hc : c ≤ 1024) : m.Data.length ≤ 2000000000 := by
  obtain ⟨_, _, h1, h2, h3, _⟩ := h
  have : r * c ≤ 1024 * 1024 := Int.mul_le_mul hr hc (by omega) (by omega)
  omega
theorem keys_le {c : Cfg} (h : c.may) : c.keys ≤ 1024 := by
  have h1 := h.2.2.1; have h2 := h.2.1; have h3 := h.2.2.2.2.2.2.2.2.1
  unfold Cfg.keys Cfg.head
  have : c.Width / c.Heads ≤ 32 := Int.le_trans (Int.ediv_le_self _ (by omega)) (by omega)
  have h0 : 0 ≤ c.Width / c.Heads := Int.ediv_nonneg (by omega) (by omega)
  have : c.KV * (c.Width / c.Heads) ≤ 4 * 32 := Int.mul_le_mul (by omega) this h0 (by omega)
  omega
theorem nl_small {x : LW} (h : okW x.w) : (∀ v ∈ x.nl, v.1.length ≤ 2000000000) ∧ x.T.1.length ≤ 1000000 ∧ x.Ls.1.length ≤ 1000000 ∧ x.M.1.length ≤ 1000000 ∧ x.nl.length ≤ 1000 := by
  have hc := h.c
  have hk := keys_le hc
  obtain ⟨c1, c2, c3, c4, c5, c6, c7, _⟩ := hc
  have hl : (x.Ls.1.length : Int) = x.w.C.Layers := by have := h.l.1; rwa [show x.w.Layers.length = x.Ls.1.length from List.length_map ..] at this
  have hm : (x.M.1.length : Int) = x.w.C.Medusa := by have := h.m.1; rwa [show x.w.Medusa.length = x.M.1.length from List.length_map ..] at this
  have ht : (x.T.1.length : Int) = x.w.C.head / 2 := h.t.1
  have hh : x.w.C.head / 2 ≤ 1000000 := by
    have : x.w.C.Width / x.w.C.Heads ≤ 32 := Int.le_trans (Int.ediv_le_self _ (by omega)) (by omega)
    unfold Cfg.head; omega
  refine ⟨fun v hv => ?_, by omega, by omega, by omega, ?_⟩
  · unfold LW.nl at hv
    rcases List.mem_append.1 hv with hv | hv
    · simp only [List.mem_cons, List.not_mem_nil, or_false] at hv
      rcases hv with rfl | rfl | rfl
      · exact mat_len (m := x.E.mat) h.e (by omega) (by omega)
      · have := h.f.1; rw [show x.w.Final = x.F.1 from rfl] at this; omega
      · exact mat_len (m := x.H.mat) h.h (by omega) (by omega)
    rcases List.mem_append.1 hv with hv | hv
    · obtain ⟨l, hl, hv⟩ := List.mem_flatMap.1 hv
      have ol := h.l.2 l.lay (List.mem_map.2 ⟨l, hl, rfl⟩)
      simp only [LL.nl, List.mem_cons, List.not_mem_nil, or_false] at hv
      rcases hv with rfl | rfl | rfl | rfl | rfl | rfl | rfl | rfl | rfl
      · have := ol.n1.1; rw [show l.lay.Norm1 = l.n1.1 from rfl] at this; omega
      · have := ol.n2.1; rw [show l.lay.Norm2 = l.n2.1 from rfl] at this; omega
      · exact mat_len (m := l.q.mat) ol.q (by omega) (by omega)
      · exact mat_len (m := l.k.mat) ol.k (by omega) (by omega)
      · exact mat_len (m := l.v.mat) ol.v (by omega) (by omega)
      · exact mat_len (m := l.o.mat) ol.o (by omega) (by omega)
      · exact mat_len (m := l.g.mat) ol.g (by omega) (by omega)
      · exact mat_len (m := l.u.mat) ol.u (by omega) (by omega)
      · exact mat_len (m := l.d.mat) ol.d (by omega) (by omega)
    · obtain ⟨m, hm', rfl⟩ := List.mem_map.1 hv
      exact mat_len (m := m.mat) (h.m.2 m.mat (List.mem_map.2 ⟨m, hm', rfl⟩)) (by omega) (by omega)
  · unfold LW.nl
    simp only [List.length_append, List.length_cons, List.length_nil, List.length_map, nl_len]; omega
end Go.Proofs.YtppggaiahkecoaaDoorX
/- The law of lists: nothing is shared. -/
namespace Go.Proofs.YtppggaiahkecoaaDoorX
open Go Go.SX
def g0 : GL := ⟨[], [], [], []⟩
theorem g0N (x : LW) : (g0.add x).N = x.nl := by simp [g0, GL.add]
theorem g0T (x : LW) : (g0.add x).T = [x.T] := by simp [g0, GL.add]
theorem g0L (x : LW) : (g0.add x).L = [x.Ls] := by simp [g0, GL.add]
theorem g0M (x : LW) : (g0.add x).M = [x.M] := by simp [g0, GL.add]
theorem each1 {α : Type} {e sz : Nat} {t : LA α} {xs : List Value} {F : HL} (h : OwnS e sz (sla t) t.1.length xs F) : EachAll (OwnL e sz) 0 [t] F := ⟨F, [], ⟨xs, h⟩, rfl, (List.append_nil _).symm⟩
theorem g2N (x y : LW) : ((g0.add x).add y).N = x.nl ++ y.nl := by simp [g0, GL.add]
theorem g2T (x y : LW) : ((g0.add x).add y).T = [x.T, y.T] := by simp [g0, GL.add]
theorem g2L (x y : LW) : ((g0.add x).add y).L = [x.Ls, y.Ls] := by simp [g0, GL.add]
theorem g2M (x y : LW) : ((g0.add x).add y).M = [x.M, y.M] := by simp [g0, GL.add]
theorem each2 {α : Type} {e sz : Nat} {t u : LA α} {xs ys : List Value} {F G : HL} (h : OwnS e sz (sla t) t.1.length xs F) (g : OwnS e sz (sla u) u.1.length ys G) : EachAll (OwnL e sz) 0 [t, u] (F ++ G) := ⟨F, G, ⟨xs, h⟩, ⟨G, [], ⟨ys, g⟩, rfl, (List.append_nil _).symm⟩, rfl⟩
theorem two {α : Type} {a b t : α} (h : t ∈ [a, b]) : t = a ∨ t = b := by simpa using h
set_option maxHeartbeats 32000000 in
theorem modelLists_fn (x : LW) : FC Tryd.prog 4 [.agg ⟨x.cells⟩] [] (fun h => sidesK h ∧ lwAt h x) (fun v _ => v = .bool true) := by
  refine FC.intro Tryd.func4 rfl (by kernel_rfl) 193 [.tmp 2] rfl rfl rfl ?_
  rintro w0 ⟨hS, hX⟩
  (repeat (first | (with_reducible apply XL.op) | (with_reducible apply XC.seq) | (with_reducible apply XC.region (Γ := Γ))))
  ((with_reducible apply XOp.box); (case hg | hx' => exact rfl); intro bx)
  (repeat (first | (with_reducible apply XL.op) | ((with_reducible apply XOp.p1); (case hg | hv => exact rfl)) | ((with_reducible apply XOp.loadO (i := 0)); (case hg | ht | hk | hx | hi | hc => exact rfl)) | (with_reducible apply XL.nilT) | (with_reducible apply XC.seq) | (with_reducible apply XC.region (Γ := Γ)) | (((with_reducible apply XOp.callQ (hF := works_fn)); (case hg => exact rfl); (case hc => exact rfl); (case ha => exact rfl); try (case hA => exact Known.true)); (case hA => exact Known.of_old hS sides_mono); rintro _ rfl)))
  ((with_reducible apply XOp.callQ (hF := refCheckW_fn x)); (case hg => exact rfl); (case hc => exact rfl); (case ha => exact rfl); try (case hA => exact Known.true))
  case hA => exact Known.of_old hX (lw_mono _)
  rintro _ rfl
  (repeat (first | (with_reducible apply XL.op) | ((with_reducible apply XOp.p1); (case hg | hv => exact rfl)) | (with_reducible apply XL.nilT) | (with_reducible apply XC.seq) | (with_reducible apply XC.region (Γ := Γ))))
  ((with_reducible apply XC.cond); (case hc => exact rfl); all_goals (intro hb_; try simp only [pd_true, pd_false, Bool.not_eq_true', Bool.not_eq_false', Bool.and_eq_true, Bool.and_eq_false_iff, Bool.or_eq_true, Bool.or_eq_false_iff, not_true_eq_false, not_false_eq_true, Int.not_lt, Int.not_le] at hb_))
  · (repeat (first | (with_reducible apply XL.op) | ((with_reducible apply XOp.p1); (case hg | hv => exact rfl)) | (with_reducible apply XL.nilT) | (with_reducible apply XC.seq) | (with_reducible apply XC.region (Γ := Γ)) | (with_reducible apply XQ.ret) | (with_reducible apply XQ.rt)))
    ((with_reducible apply XQ.retE); (case hr => exact .t rfl .nil))
    rfl
  have hok : okW x.w := errW_zero (by first | assumption | exact Classical.not_not.1 hb_)
  have he0 := errW_ok hok
  (repeat (first | (with_reducible apply XL.op) | ((with_reducible apply XOp.loadO (i := 0)); (case hg | ht | hk | hx | hi | hc => exact rfl)) | (with_reducible apply XC.seq) | (with_reducible apply XC.region (Γ := Γ)) | (with_reducible apply XQ.skip) | (with_reducible apply XQ.nt)))
  ((with_reducible apply XOp.callN (hF := copyWeights_own x)); (case hg => exact rfl); (case hc => exact rfl); (case ha => exact rfl); try (case hA => exact Known.true))
  case hA => exact Known.of_old hX (lw_mono _)
  rintro _ L5 ⟨x5, rfl, hx5, o5⟩
  have ok5 : okW x5.w := hx5 ▸ hok
  (repeat ((with_reducible apply XL.op)))
  ((with_reducible apply XOp.alloc); (case hg | ht | hx' => exact rfl); intro b5)
  (repeat (first | (with_reducible apply XL.op) | ((with_reducible apply XOp.loadO (i := 0)); (case hg | ht | hk | hx | hi | hc => exact rfl)) | ((with_reducible apply XOp.storeN (i := 0)); (case hg | ht | hx | hv' | hk | h1 | hi | hs | ha => exact rfl)) | (with_reducible apply XL.nilT) | (with_reducible apply XC.seq) | (with_reducible apply XC.region (Γ := Γ))))
  ((with_reducible apply XOp.callN (hF := new_fn x5)); (case hg => exact rfl); (case hc => exact rfl); (case ha => exact rfl); try (case hA => exact Known.true))
  case hA => exact Known.and (Known.of_old hS sides_mono) (o5.held.known fun y hy => by simp [hy])
  rintro _ L6 hNew
  rcases hNew with ⟨h, _⟩ | ⟨_, mb, xm, Fm, rfl, hxm, rfl, om⟩
  · exact absurd (errW_ok ok5) h
  have hm3 : xm.C.may := by have h := ok5.c; rw [← hxm] at h; exact h
  have hwm : xm.w = x.w := hxm.trans hx5
  (repeat (first | (with_reducible apply XL.op) | ((with_reducible apply XOp.p1); (case hg | hv => exact rfl)) | ((with_reducible apply XOp.pr); (case hg => exact rfl); (case hr => ((with_reducible apply PR.build); (case ht | hk | hok | hz | hf => exact rfl)))) | (with_reducible apply XL.nilT) | (with_reducible apply XC.seq) | (with_reducible apply XC.region (Γ := Γ))))
  ((with_reducible apply XOp.box); (case hg | hx' => exact rfl); intro lb)
  (repeat (first | (with_reducible apply XL.op) | ((with_reducible apply XOp.p1); (case hg | hv => exact rfl)) | ((with_reducible apply XOp.loadO (i := 1)); (case hg | ht | hk | hx | hi | hc => exact rfl)) | (with_reducible apply XL.nilT) | (with_reducible apply XC.seq) | (with_reducible apply XC.region (Γ := Γ))))
  obtain ⟨sm1, sm2, sm3, sm4, sm5⟩ := nl_small ok5
  ((with_reducible apply XOp.call (L0 := LsB lb (.slice none 0 0) (.slice none 0 0) (.slice none 0 0) (.slice none 0 0) :: ([] ++ ([] ++ ([] ++ [])))) (hF :=  gather_fn lb x5 g0 _ _ _ _ [] [] [] [] (OwnS.nil _ _) (OwnS.nil _ _) (OwnS.nil _ _) (OwnS.nil _ _) ⟨by decide, sm3, sm4, by decide, by decide, by decide⟩)); (case hg => exact rfl); (case hc => exact rfl); (case ha => exact rfl); (case hL => exact rfl))
  case hA => exact o5.held.known fun y hy => by simp [hy]
  rintro _ L7 ⟨vN1, vT1, vL1, vM1, FN1, FT1, FL1, FMM1, oN1, oT1, oL1, oM1, rfl⟩
  obtain ⟨bt5, bl5, bm5, Fn5, Ft5, Fl5, Fm5, n5, t5, l5, m5, p5⟩ := o5
  (repeat (first | (with_reducible apply XL.op) | ((with_reducible apply XOp.p1); (case hg | hv => exact rfl)) | (with_reducible apply XL.nilT) | (with_reducible apply XC.seq) | (with_reducible apply XC.region (Γ := Γ))))
  refine (show XOp _ _ _ _ _ _ _ _ ((LsB lb vN1 vT1 vL1 vM1 :: (FN1 ++ (FT1 ++ (FL1 ++ FMM1)))) ++ (((b5, Obj.cells ⟨x5.cells⟩ 31 (0, 0)) :: ([(bx, Obj.cells ⟨x.cells⟩ 31 (0, 0))] ++ L5)) ++ (MdB mb xm :: Fm))) from XOp.perm (L' := (LsB lb vN1 vT1 vL1 vM1 :: (FN1 ++ Fn5)) ++ (FT1 ++ (FL1 ++ (FMM1 ++ (Ft5 ++ (Fl5 ++ (Fm5 ++ ((b5, Obj.cells ⟨x5.cells⟩ 31 (0, 0)) :: (bx, Obj.cells ⟨x.cells⟩ 31 (0, 0)) :: MdB mb xm :: Fm)))))))) rfl ?_ (by refine perm_of_cnt fun p_ => ?_; have q_p5 := p5.countP_eq p_; simp only [List.countP_append, List.countP_cons, List.countP_nil] at q_p5 ⊢; omega))
  ((with_reducible apply XOp.call (L0 := LsB lb vN1 vT1 vL1 vM1 :: (FN1 ++ Fn5)) (hF :=  lone_fn lb (g0.add x5).N _ _ _ _ FN1 Fn5 oN1 (by rw [g0N]; exact n5) (by rw [g0N]; omega) (by rw [g0N]; exact sm1))); (case hg => exact rfl); (case hc => exact rfl); (case ha => exact rfl); (case hL => exact rfl))
  case hA => exact Known.true
  rintro _ _ ⟨rfl, rfl⟩
  (repeat (first | (with_reducible apply XL.op) | ((with_reducible apply XOp.p1); (case hg | hv => exact rfl)) | (with_reducible apply XL.nilT) | (with_reducible apply XC.seq) | (with_reducible apply XC.region (Γ := Γ))))
  refine (show XOp _ _ _ _ _ _ _ _ ([LsB lb vN1 vT1 vL1 vM1] ++ (FT1 ++ (FL1 ++ (FMM1 ++ (Ft5 ++ (Fl5 ++ (Fm5 ++ ((b5, Obj.cells ⟨x5.cells⟩ 31 (0, 0)) :: (bx, Obj.cells ⟨x.cells⟩ 31 (0, 0)) :: MdB mb xm :: Fm)))))))) from XOp.perm (L' := (LsB lb vN1 vT1 vL1 vM1 :: (FT1 ++ (FL1 ++ (FMM1 ++ (Ft5 ++ (Fl5 ++ Fm5)))))) ++ ((b5, Obj.cells ⟨x5.cells⟩ 31 (0, 0)) :: (bx, Obj.cells ⟨x.cells⟩ 31 (0, 0)) :: MdB mb xm :: Fm)) rfl ?_ (by refine perm_of_cnt fun p_ => ?_; simp only [List.countP_append, List.countP_cons, List.countP_nil]; omega))
  ((with_reducible apply XOp.call (L0 := LsB lb vN1 vT1 vL1 vM1 :: (FT1 ++ (FL1 ++ (FMM1 ++ (Ft5 ++ (Fl5 ++ Fm5)))))) (hF :=  over_fn lb (g0.add x5) vN1 _ _ _ FT1 FL1 FMM1 Ft5 Fl5 Fm5 oT1 oL1 oM1 (by rw [g0T]; exact each1 t5) (by rw [g0L]; exact each1 l5) (by rw [g0M]; exact each1 m5) (by rw [g0T, g0L, g0M]; exact ⟨by simp, rfl, rfl⟩) (by rw [g0T]; intro t ht; rw [List.mem_singleton.1 ht]; exact sm2) (by rw [g0L]; intro t ht; rw [List.mem_singleton.1 ht]; exact sm3) (by rw [g0M]; intro t ht; rw [List.mem_singleton.1 ht]; exact sm4))); (case hg => exact rfl); (case hc => exact rfl); (case ha => exact rfl); (case hL => exact rfl))
  case hA => exact Known.true
  rintro _ _ rfl
  clear oN1 oT1 oL1 oM1 n5 t5 l5 m5 p5
  (repeat (first | (with_reducible apply XL.op) | ((with_reducible apply XOp.p1); (case hg | hv => exact rfl)) | (with_reducible apply XL.nilT) | (with_reducible apply XC.seq) | (with_reducible apply XC.region (Γ := Γ))))
  ((with_reducible apply XOp.callN (hF := wOf_fn mb xm hm3)); (case hg => exact rfl); (case hc => exact rfl); (case ha => exact rfl); try (case hA => exact Known.true))
  case hA => exact Known.and (Known.of_old hS sides_mono) (Known.and ((Held.row (F := [MdB mb xm]) (List.mem_cons_self ..)).known fun y hy => by simp [List.mem_singleton.1 hy]) (om.held.known fun y hy => by simp [hy]))
  rintro _ La ⟨xa, rfl, hxa, oa⟩
  (repeat ((with_reducible apply XL.op)))
  ((with_reducible apply XOp.alloc); (case hg | ht | hx' => exact rfl); intro ba)
  (repeat (first | (with_reducible apply XL.op) | ((with_reducible apply XOp.p1); (case hg | hv => exact rfl)) | ((with_reducible apply XOp.storeN (i := 0)); (case hg | ht | hx | hv' | hk | h1 | hi | hs | ha => exact rfl)) | (with_reducible apply XL.nilT) | (with_reducible apply XC.seq) | (with_reducible apply XC.region (Γ := Γ))))
  ((with_reducible apply XOp.callN (hF := wOf_fn mb xm hm3)); (case hg => exact rfl); (case hc => exact rfl); (case ha => exact rfl); try (case hA => exact Known.true))
  case hA => exact Known.and (Known.of_old hS sides_mono) (Known.and ((Held.row (F := [MdB mb xm]) (List.mem_cons_self ..)).known fun y hy => by simp [List.mem_singleton.1 hy]) (om.held.known fun y hy => by simp [hy]))
  rintro _ Lb ⟨xb, rfl, hxb, ob⟩
  (repeat ((with_reducible apply XL.op)))
  ((with_reducible apply XOp.alloc); (case hg | ht | hx' => exact rfl); intro bb)
  (repeat (first | (with_reducible apply XL.op) | ((with_reducible apply XOp.loadO (i := 3)); (case hg | ht | hk | hx | hi | hc => exact rfl)) | ((with_reducible apply XOp.storeN (i := 0)); (case hg | ht | hx | hv' | hk | h1 | hi | hs | ha => exact rfl)) | (with_reducible apply XL.nilT) | (with_reducible apply XC.seq) | (with_reducible apply XC.region (Γ := Γ))))
  ((with_reducible apply XOp.callN (hF := encode_fn x)); (case hg => exact rfl); (case hc => exact rfl); (case ha => exact rfl); try (case hA => exact Known.true))
  case hA => exact Known.and (Known.of_old hS sides_mono) (Known.of_old hX (lw_mono _))
  rintro _ Le ⟨u1, m1, rfl, hf1, hm1⟩
  obtain ⟨af, cf, rfl⟩ := hf1.val
  have hln : m1 = (encS x.w).length := by have := hf1.1; rw [List.length_map] at this; omega
  subst hln
  have hbE := isB_enc x.w
  obtain ⟨_, _, q1, _, s1⟩ := own_body hf1 hbE (by omega)
  obtain ⟨rfl, _, rfl⟩ := Value.slice.inj q1
  have k1 : Held Le (fun h => byAt h (encS x.w) af cf) := Held.frag s1 (Mono.sl _ _ _ _ _)
  (repeat (first | (with_reducible apply XL.op) | ((with_reducible apply XOp.p1); (case hg | hv => exact rfl)) | ((with_reducible apply XOp.loadO (i := 3)); (case hg | ht | hk | hx | hi | hc => exact rfl)) | (with_reducible apply XL.nilT) | (with_reducible apply XC.seq) | (with_reducible apply XC.region (Γ := Γ))))
  ((with_reducible apply XOp.callN (hF := encode_fn x)); (case hg => exact rfl); (case hc => exact rfl); (case ha => exact rfl); try (case hA => exact Known.true))
  case hA => exact Known.and (Known.of_old hS sides_mono) (Known.of_old hX (lw_mono _))
  rintro _ Lf hE2
  obtain ⟨a2, c2, rfl, k2⟩ := hE2.get
  have hxd : decS digS (encS x.w) = some x.w := dec_enc hok
  rw [he0]
  (repeat (first | (with_reducible apply XL.op) | ((with_reducible apply XOp.p1); (case hg | hv => exact rfl)) | (with_reducible apply XL.nilT) | (with_reducible apply XC.seq) | (with_reducible apply XC.region (Γ := Γ))))
  ((with_reducible apply XOp.callN (hF := decode_own (encS x.w) af cf)); (case hg => exact rfl); (case hc => exact rfl); (case ha => exact rfl); try (case hA => exact Known.true))
  case hA => exact Known.and (Known.of_old hS sides_mono) (k1.known fun y hy => by simp [hy])
  rintro _ Lc ⟨xc, rfl, hxc, oc⟩
  rw [errD_ok hxd]
  rw [decW_ok hxd] at hxc
  (repeat (first | (with_reducible apply XL.op) | ((with_reducible apply XOp.p1); (case hg | hv => exact rfl))))
  ((with_reducible apply XOp.alloc); (case hg | ht | hx' => exact rfl); intro bc)
  (repeat (first | (with_reducible apply XL.op) | ((with_reducible apply XOp.p1); (case hg | hv => exact rfl)) | ((with_reducible apply XOp.storeN (i := 0)); (case hg | ht | hx | hv' | hk | h1 | hi | hs | ha => exact rfl)) | (with_reducible apply XL.nilT) | (with_reducible apply XC.seq) | (with_reducible apply XC.region (Γ := Γ))))
  ((with_reducible apply XOp.callN (hF := decode_fn (encS x.w) af cf)); (case hg => exact rfl); (case hc => exact rfl); (case ha => exact rfl); try (case hA => exact Known.true))
  case hA => exact Known.and (Known.of_old hS sides_mono) (k1.known fun y hy => by simp [hy])
  rintro _ Ld ⟨xd, rfl, hxd2, kd⟩
  rw [errD_ok hxd]
  rw [decW_ok hxd] at hxd2
  (repeat (first | (with_reducible apply XL.op) | ((with_reducible apply XOp.p1); (case hg | hv => exact rfl))))
  ((with_reducible apply XOp.alloc); (case hg | ht | hx' => exact rfl); intro bd)
  (repeat (first | (with_reducible apply XL.op) | ((with_reducible apply XOp.p1); (case hg | hv => exact rfl)) | ((with_reducible apply XOp.storeN (i := 0)); (case hg | ht | hx | hv' | hk | h1 | hi | hs | ha => exact rfl)) | ((with_reducible apply XOp.pr); (case hg => exact rfl); (case hr => ((with_reducible apply PR.build); (case ht | hk | hok | hz | hf => exact rfl)))) | (with_reducible apply XL.nilT) | (with_reducible apply XC.seq) | (with_reducible apply XC.region (Γ := Γ))))
  ((with_reducible apply XOp.box); (case hg | hx' => exact rfl); intro lb2)
  (repeat (first | (with_reducible apply XL.op) | ((with_reducible apply XOp.p1); (case hg | hv => exact rfl)) | ((with_reducible apply XOp.loadO (i := 4)); (case hg | ht | hk | hx | hi | hc => exact rfl)) | (with_reducible apply XL.nilT) | (with_reducible apply XC.seq) | (with_reducible apply XC.region (Γ := Γ))))
  have oka : okW xa.w := by rw [hxa, hwm]; exact hok
  have okc : okW xc.w := hxc ▸ hok
  obtain ⟨am1, am2, am3, am4, am5⟩ := nl_small oka
  obtain ⟨cm1, cm2, cm3, cm4, cm5⟩ := nl_small okc
  ((with_reducible apply XOp.call (L0 := LsB lb2 (.slice none 0 0) (.slice none 0 0) (.slice none 0 0) (.slice none 0 0) :: ([] ++ ([] ++ ([] ++ [])))) (hF :=  gather_fn lb2 xa g0 _ _ _ _ [] [] [] [] (OwnS.nil _ _) (OwnS.nil _ _) (OwnS.nil _ _) (OwnS.nil _ _) ⟨by decide, am3, am4, by decide, by decide, by decide⟩)); (case hg => exact rfl); (case hc => exact rfl); (case ha => exact rfl); (case hL => exact rfl))
  case hA => exact oa.held.known fun y hy => by simp [hy]
  rintro _ L7 ⟨vN2, vT2, vL2, vM2, FN2, FT2, FL2, FMM2, oN2, oT2, oL2, oM2, rfl⟩
  (repeat (first | (with_reducible apply XL.op) | ((with_reducible apply XOp.p1); (case hg | hv => exact rfl)) | (with_reducible apply XL.nilT) | (with_reducible apply XC.seq) | (with_reducible apply XC.region (Γ := Γ))))
  refine (show XOp _ _ _ _ _ _ _ _ ((LsB lb2 vN2 vT2 vL2 vM2 :: (FN2 ++ (FT2 ++ (FL2 ++ FMM2)))) ++ ((bd, Obj.cells ⟨xd.cells⟩ 31 (0, 0)) :: (((bc, Obj.cells ⟨xc.cells⟩ 31 (0, 0)) :: (((((bb, Obj.cells ⟨xb.cells⟩ 31 (0, 0)) :: (((ba, Obj.cells ⟨xa.cells⟩ 31 (0, 0)) :: (((b5, Obj.cells ⟨x5.cells⟩ 31 (0, 0)) :: (bx, Obj.cells ⟨x.cells⟩ 31 (0, 0)) :: MdB mb xm :: Fm) ++ La)) ++ Lb)) ++ Le) ++ Lf) ++ Lc)) ++ Ld))) from XOp.perm (L' := (bc, Obj.cells ⟨xc.cells⟩ 31 (0, 0)) :: ((LsB lb2 vN2 vT2 vL2 vM2 :: (FN2 ++ (FT2 ++ (FL2 ++ FMM2)))) ++ ((bd, Obj.cells ⟨xd.cells⟩ 31 (0, 0)) :: ((((((bb, Obj.cells ⟨xb.cells⟩ 31 (0, 0)) :: (((ba, Obj.cells ⟨xa.cells⟩ 31 (0, 0)) :: (((b5, Obj.cells ⟨x5.cells⟩ 31 (0, 0)) :: (bx, Obj.cells ⟨x.cells⟩ 31 (0, 0)) :: MdB mb xm :: Fm) ++ La)) ++ Lb)) ++ Le) ++ Lf) ++ Lc) ++ Ld)))) rfl ?_ (by refine perm_of_cnt fun p_ => ?_; simp only [List.countP_append, List.countP_cons, List.countP_nil]; omega))
  (repeat (first | (with_reducible apply XL.op) | ((with_reducible apply XOp.loadO (i := 0)); (case hg | ht | hk | hx | hi | hc => exact rfl))))
  refine (show XOp _ _ _ _ _ _ _ _ ((bc, Obj.cells ⟨xc.cells⟩ 31 (0, 0)) :: ((LsB lb2 vN2 vT2 vL2 vM2 :: (FN2 ++ (FT2 ++ (FL2 ++ FMM2)))) ++ ((bd, Obj.cells ⟨xd.cells⟩ 31 (0, 0)) :: ((((((bb, Obj.cells ⟨xb.cells⟩ 31 (0, 0)) :: (((ba, Obj.cells ⟨xa.cells⟩ 31 (0, 0)) :: (((b5, Obj.cells ⟨x5.cells⟩ 31 (0, 0)) :: (bx, Obj.cells ⟨x.cells⟩ 31 (0, 0)) :: MdB mb xm :: Fm) ++ La)) ++ Lb)) ++ Le) ++ Lf) ++ Lc) ++ Ld)))) from XOp.perm (L' := (LsB lb2 vN2 vT2 vL2 vM2 :: (FN2 ++ (FT2 ++ (FL2 ++ FMM2)))) ++ ((bd, Obj.cells ⟨xd.cells⟩ 31 (0, 0)) :: (((bc, Obj.cells ⟨xc.cells⟩ 31 (0, 0)) :: (((((bb, Obj.cells ⟨xb.cells⟩ 31 (0, 0)) :: (((ba, Obj.cells ⟨xa.cells⟩ 31 (0, 0)) :: (((b5, Obj.cells ⟨x5.cells⟩ 31 (0, 0)) :: (bx, Obj.cells ⟨x.cells⟩ 31 (0, 0)) :: MdB mb xm :: Fm) ++ La)) ++ Lb)) ++ Le) ++ Lf) ++ Lc)) ++ Ld))) rfl ?_ (by refine perm_of_cnt fun p_ => ?_; simp only [List.countP_append, List.countP_cons, List.countP_nil]; omega))
  ((with_reducible apply XOp.call (L0 := LsB lb2 vN2 vT2 vL2 vM2 :: (FN2 ++ (FT2 ++ (FL2 ++ FMM2)))) (hF :=  gather_fn lb2 xc (g0.add xa) _ _ _ _ FN2 FT2 FL2 FMM2 oN2 oT2 oL2 oM2 ⟨by rw [g0N]; omega, cm3, cm4, by rw [g0T]; simp, by rw [g0L]; simp, by rw [g0M]; simp⟩)); (case hg => exact rfl); (case hc => exact rfl); (case ha => exact rfl); (case hL => exact rfl))
  case hA => exact oc.held.known fun y hy => by simp [hy]
  rintro _ L7 ⟨vN3, vT3, vL3, vM3, FN3, FT3, FL3, FMM3, oN3, oT3, oL3, oM3, rfl⟩
  obtain ⟨bta, bla, bma, Fna, Fta, Fla, Fma, na, ta, la, ma, pa⟩ := oa
  obtain ⟨btc, blc, bmc, Fnc, Ftc, Flc, Fmc, nc, tc, lc, mc, pc⟩ := oc
  (repeat (first | (with_reducible apply XL.op) | ((with_reducible apply XOp.p1); (case hg | hv => exact rfl)) | (with_reducible apply XL.nilT) | (with_reducible apply XC.seq) | (with_reducible apply XC.region (Γ := Γ))))
  refine (show XOp _ _ _ _ _ _ _ _ ((LsB lb2 vN3 vT3 vL3 vM3 :: (FN3 ++ (FT3 ++ (FL3 ++ FMM3)))) ++ ((bd, Obj.cells ⟨xd.cells⟩ 31 (0, 0)) :: (((bc, Obj.cells ⟨xc.cells⟩ 31 (0, 0)) :: (((((bb, Obj.cells ⟨xb.cells⟩ 31 (0, 0)) :: (((ba, Obj.cells ⟨xa.cells⟩ 31 (0, 0)) :: (((b5, Obj.cells ⟨x5.cells⟩ 31 (0, 0)) :: (bx, Obj.cells ⟨x.cells⟩ 31 (0, 0)) :: MdB mb xm :: Fm) ++ La)) ++ Lb)) ++ Le) ++ Lf) ++ Lc)) ++ Ld))) from XOp.perm (L' := (LsB lb2 vN3 vT3 vL3 vM3 :: (FN3 ++ (Fna ++ Fnc))) ++ (FT3 ++ (FL3 ++ (FMM3 ++ ((Fta ++ Ftc) ++ ((Fla ++ Flc) ++ ((Fma ++ Fmc) ++ (Lb ++ (Le ++ (Lf ++ (Ld ++ ((bd, Obj.cells ⟨xd.cells⟩ 31 (0, 0)) :: (bc, Obj.cells ⟨xc.cells⟩ 31 (0, 0)) :: (bb, Obj.cells ⟨xb.cells⟩ 31 (0, 0)) :: (ba, Obj.cells ⟨xa.cells⟩ 31 (0, 0)) :: ((b5, Obj.cells ⟨x5.cells⟩ 31 (0, 0)) :: (bx, Obj.cells ⟨x.cells⟩ 31 (0, 0)) :: MdB mb xm :: Fm))))))))))))) rfl ?_ (by refine perm_of_cnt fun p_ => ?_; have q_pa := pa.countP_eq p_; have q_pc := pc.countP_eq p_; simp only [List.countP_append, List.countP_cons, List.countP_nil] at q_pa q_pc ⊢; omega))
  ((with_reducible apply XOp.call (L0 := LsB lb2 vN3 vT3 vL3 vM3 :: (FN3 ++ (Fna ++ Fnc))) (hF :=  lone_fn lb2 ((g0.add xa).add xc).N _ _ _ _ FN3 (Fna ++ Fnc) oN3 (by rw [g2N]; exact na.app nc) (by rw [g2N, List.length_append]; omega) (by rw [g2N]; intro v hv; rcases List.mem_append.1 hv with hv | hv; exact am1 v hv; exact cm1 v hv))); (case hg => exact rfl); (case hc => exact rfl); (case ha => exact rfl); (case hL => exact rfl))
  case hA => exact Known.true
  rintro _ _ ⟨rfl, rfl⟩
  (repeat (first | (with_reducible apply XL.op) | ((with_reducible apply XOp.p1); (case hg | hv => exact rfl)) | (with_reducible apply XL.nilT) | (with_reducible apply XC.seq) | (with_reducible apply XC.region (Γ := Γ))))
  refine (show XOp _ _ _ _ _ _ _ _ ([LsB lb2 vN3 vT3 vL3 vM3] ++ (FT3 ++ (FL3 ++ (FMM3 ++ ((Fta ++ Ftc) ++ ((Fla ++ Flc) ++ ((Fma ++ Fmc) ++ (Lb ++ (Le ++ (Lf ++ (Ld ++ ((bd, Obj.cells ⟨xd.cells⟩ 31 (0, 0)) :: (bc, Obj.cells ⟨xc.cells⟩ 31 (0, 0)) :: (bb, Obj.cells ⟨xb.cells⟩ 31 (0, 0)) :: (ba, Obj.cells ⟨xa.cells⟩ 31 (0, 0)) :: ((b5, Obj.cells ⟨x5.cells⟩ 31 (0, 0)) :: (bx, Obj.cells ⟨x.cells⟩ 31 (0, 0)) :: MdB mb xm :: Fm))))))))))))) from XOp.perm (L' := (LsB lb2 vN3 vT3 vL3 vM3 :: (FT3 ++ (FL3 ++ (FMM3 ++ ((Fta ++ Ftc) ++ ((Fla ++ Flc) ++ (Fma ++ Fmc))))))) ++ (Lb ++ (Le ++ (Lf ++ (Ld ++ ((bd, Obj.cells ⟨xd.cells⟩ 31 (0, 0)) :: (bc, Obj.cells ⟨xc.cells⟩ 31 (0, 0)) :: (bb, Obj.cells ⟨xb.cells⟩ 31 (0, 0)) :: (ba, Obj.cells ⟨xa.cells⟩ 31 (0, 0)) :: ((b5, Obj.cells ⟨x5.cells⟩ 31 (0, 0)) :: (bx, Obj.cells ⟨x.cells⟩ 31 (0, 0)) :: MdB mb xm :: Fm))))))) rfl ?_ (by refine perm_of_cnt fun p_ => ?_; simp only [List.countP_append, List.countP_cons, List.countP_nil]; omega))
  ((with_reducible apply XOp.call (L0 := LsB lb2 vN3 vT3 vL3 vM3 :: (FT3 ++ (FL3 ++ (FMM3 ++ ((Fta ++ Ftc) ++ ((Fla ++ Flc) ++ (Fma ++ Fmc))))))) (hF :=  over_fn lb2 ((g0.add xa).add xc) vN3 _ _ _ FT3 FL3 FMM3 (Fta ++ Ftc) (Fla ++ Flc) (Fma ++ Fmc) oT3 oL3 oM3 (by rw [g2T]; exact each2 ta tc) (by rw [g2L]; exact each2 la lc) (by rw [g2M]; exact each2 ma mc) (by rw [g2T, g2L, g2M]; exact ⟨by simp, rfl, rfl⟩) (by rw [g2T]; intro t ht; rcases two ht with rfl | rfl; exact am2; exact cm2) (by rw [g2L]; intro t ht; rcases two ht with rfl | rfl; exact am3; exact cm3) (by rw [g2M]; intro t ht; rcases two ht with rfl | rfl; exact am4; exact cm4))); (case hg => exact rfl); (case hc => exact rfl); (case ha => exact rfl); (case hL => exact rfl))
  case hA => exact Known.true
  rintro _ _ rfl
  clear oN2 oT2 oL2 oM2 oN3 oT3 oL3 oM3 na ta la ma pa nc tc lc mc pc
  (repeat (first | (with_reducible apply XL.op) | ((with_reducible apply XOp.p1); (case hg | hv => exact rfl)) | (with_reducible apply XL.nilT) | (with_reducible apply XC.seq) | (with_reducible apply XC.region (Γ := Γ)) | (with_reducible apply XC.block)))
  have hlen : 104 ≤ (encS x.w).length := by rw [encS_ok hok]; exact file_len _ hok
  generalize hE : encS x.w = E at *
  refine XC.perm (L' := [(bd, Obj.cells ⟨xd.cells⟩ 31 (0, 0)), (bc, Obj.cells ⟨xc.cells⟩ 31 (0, 0)), (bb, Obj.cells ⟨xb.cells⟩ 31 (0, 0)), (ba, Obj.cells ⟨xa.cells⟩ 31 (0, 0)), (b5, Obj.cells ⟨x5.cells⟩ 31 (0, 0)), (bx, Obj.cells ⟨x.cells⟩ 31 (0, 0)), MdB mb xm] ++ (Le ++ (Lb ++ (Lf ++ (Ld ++ Fm))))) ?_ (by refine perm_of_cnt fun p_ => ?_; simp only [List.countP_append, List.countP_cons, List.countP_nil]; omega)
  refine XC.loop (fun k ρ L => ∃ (j : Nat) (F : HL), j + k = E.length ∧ OwnS 5 1 (.slice af E.length cf) E.length ((stL (fun _ => (200 : Int)) E j).map (.int .u8)) F ∧ L = [(bd, Obj.cells ⟨xd.cells⟩ 31 (0, 0)), (bc, Obj.cells ⟨xc.cells⟩ 31 (0, 0)), (bb, Obj.cells ⟨xb.cells⟩ 31 (0, 0)), (ba, Obj.cells ⟨xa.cells⟩ 31 (0, 0)), (b5, Obj.cells ⟨x5.cells⟩ 31 (0, 0)), (bx, Obj.cells ⟨x.cells⟩ 31 (0, 0)), MdB mb xm] ++ (F ++ (Lb ++ (Lf ++ (Ld ++ Fm)))) ∧ Slots ρ [(1, .pointer (some ⟨bx, 0, none⟩)), (3, .bool true), (6, .pointer (some ⟨mb, 0, none⟩)), (7, .int .i64 0), (9, .bool true), (11, .pointer (some ⟨bb, 0, none⟩)), (12, .slice af E.length cf), (13, .int .i64 0), (14, .slice a2 E.length c2), (15, .int .i64 0), (17, .int .i64 0), (18, .pointer (some ⟨bd, 0, none⟩)), (19, .int .i64 0), (21, .bool true), (22, .int .i64 j)])
    E.length ⟨0, Le, by simp, hf1.conv rfl (by rw [stL_zero]), rfl, rfl, rfl, rfl, rfl, rfl, rfl, rfl, rfl, rfl, rfl, rfl, rfl, rfl, rfl, rfl, trivial⟩ ?_
  rintro k ρ L ⟨j, F, hjk, hF, rfl, hs⟩
  refine XC.slots _ hs ?_
  (repeat (first | (with_reducible apply XL.op) | ((with_reducible apply XOp.p1); (case hg | hv => exact rfl)) | (with_reducible apply XL.nilT) | (with_reducible apply XC.seq) | (with_reducible apply XC.region (Γ := Γ))))
  ((with_reducible apply XC.cond); (case hc => exact rfl); all_goals (intro hb_; try simp only [pd_true, pd_false, Bool.not_eq_true', Bool.not_eq_false', Bool.and_eq_true, Bool.and_eq_false_iff, Bool.or_eq_true, Bool.or_eq_false_iff, not_true_eq_false, not_false_eq_true, Int.not_lt, Int.not_le] at hb_))
  · obtain ⟨y, hy⟩ : ∃ y, E[j]? = some y := ⟨_, List.getElem?_eq_getElem (by omega)⟩
    obtain ⟨g, cp, sp, e1, rfl, q1, q2, q3, q4⟩ := hF.blk (by omega)
    obtain ⟨rfl, _, rfl⟩ := Value.slice.inj e1
    (repeat (first | (with_reducible apply XL.op) | ((with_reducible apply XOp.p1); (case hg | hv => exact rfl)) | ((with_reducible apply XOp.pr); (case hg => exact rfl); (case hr => ((with_reducible apply PR.idxA); (case ht | hk | he | hx | hi => exact rfl); (case hr => first | assumption | omega); (case ha => first | assumption | exact SlA.at_ (by assumption))))) | (with_reducible apply XC.seq) | (with_reducible apply XC.region (Γ := Γ)) | (with_reducible apply XQ.skip) | (with_reducible apply XQ.nt) | (with_reducible apply XC.block)))
    ((with_reducible apply XOp.storeE (i := 7) (cs' := ((stL (fun _ => (200 : Int)) E (j + 1)).map (.int .u8) ++ sp))); (case hg => exact rfl); (case ht => exact rfl); (case hk => exact rfl); (case hx => exact rfl); (case hv' => exact rfl); (case h1 => exact rfl); (case hi => exact rfl); (case hs => exact (show 0 + ((j : Nat) : Int).toNat * 1 < _ ∧ List.set _ (0 + ((j : Nat) : Int).toNat * 1) _ = _ from (by rw [show 0 + ((j : Nat) : Int).toNat * 1 = j by omega]; exact stV_set (fun _ => (200 : Int)) (.int .u8) E sp j y hy))); (case ha => exact rfl))
    (repeat (first | (with_reducible apply XL.op) | ((with_reducible apply XOp.p1); (case hg | hv => exact rfl)) | (with_reducible apply XL.nilT) | (with_reducible apply XC.region (Γ := Γ)) | (with_reducible apply XL.nilQ) | (with_reducible apply XQ.nt) | (with_reducible apply XQ.nb)))
    exact ⟨k - 1, by omega, j + 1, _, by omega, ⟨by simp [stL_len], .inr ⟨g, cf, sp, rfl, rfl, q1, q2, by simpa [stL_len] using q4⟩⟩, rfl, rfl, rfl, rfl, rfl, rfl, rfl, rfl, rfl, rfl, rfl, rfl, rfl, rfl, rfl, intS (m := E.length) (by omega) (by omega), trivial⟩
  obtain rfl : j = E.length := by omega
  rw [stL_all] at hF
  clear hs hjk hb_
  (repeat (first | (with_reducible apply XL.op) | ((with_reducible apply XOp.p1); (case hg | hv => exact rfl)) | (with_reducible apply XL.nilT) | (with_reducible apply XC.seq) | (with_reducible apply XC.region (Γ := Γ)) | (with_reducible apply XQ.exit) | (with_reducible apply XQ.nt) | (with_reducible apply XQ.et) | (with_reducible apply XC.block) | ((with_reducible apply XQ.eb); (case hb => exact rfl))))
  obtain ⟨B, hBd⟩ : ∃ B, B = E.map fun _ => (200 : Int) := ⟨_, rfl⟩
  have hBl : B.length = E.length := by rw [hBd, List.length_map]
  rw [← hBd] at hF
  refine XC.perm (L' := [(bd, Obj.cells ⟨xd.cells⟩ 31 (0, 0)), (bc, Obj.cells ⟨xc.cells⟩ 31 (0, 0)), (bb, Obj.cells ⟨xb.cells⟩ 31 (0, 0)), (ba, Obj.cells ⟨xa.cells⟩ 31 (0, 0)), (b5, Obj.cells ⟨x5.cells⟩ 31 (0, 0)), (bx, Obj.cells ⟨x.cells⟩ 31 (0, 0)), MdB mb xm] ++ ((F ++ []) ++ (Lb ++ (Lf ++ (Ld ++ Fm))))) ?_ (by (first | (with_reducible exact List.Perm.refl _) | refine perm_of_cnt fun p_ => ?_; simp only [List.countP_append, List.countP_cons, List.countP_nil]; omega))
  refine XC.loopP (fun k ρ L => ∃ (j : Nat) (v : Value) (F O : HL), j + k = 64 ∧ OwnS 5 1 v (E.length + j) (B.map (.int .u8) ++ List.replicate j (.int .u8 201)) F ∧ OldIn 5 af E.length (B.map (.int .u8)) (F ++ O) ∧ L = [(bd, Obj.cells ⟨xd.cells⟩ 31 (0, 0)), (bc, Obj.cells ⟨xc.cells⟩ 31 (0, 0)), (bb, Obj.cells ⟨xb.cells⟩ 31 (0, 0)), (ba, Obj.cells ⟨xa.cells⟩ 31 (0, 0)), (b5, Obj.cells ⟨x5.cells⟩ 31 (0, 0)), (bx, Obj.cells ⟨x.cells⟩ 31 (0, 0)), MdB mb xm] ++ ((F ++ O) ++ (Lb ++ (Lf ++ (Ld ++ Fm)))) ∧ Slots ρ [(1, .pointer (some ⟨bx, 0, none⟩)), (3, .bool true), (6, .pointer (some ⟨mb, 0, none⟩)), (7, .int .i64 0), (9, .bool true), (11, .pointer (some ⟨bb, 0, none⟩)), (12, .slice af E.length cf), (13, .int .i64 0), (14, .slice a2 E.length c2), (15, .int .i64 0), (17, .int .i64 0), (18, .pointer (some ⟨bd, 0, none⟩)), (19, .int .i64 0), (21, .bool true), (23, v), (24, .int .i64 j)])
    64 ⟨0, _, F, [], by simp, hF.conv rfl (by simp), (OldIn.of hF).sub (by simp), rfl, rfl, rfl, rfl, rfl, rfl, rfl, rfl, rfl, rfl, rfl, rfl, rfl, rfl, rfl, rfl, rfl, trivial⟩ ?_
  clear hF
  rintro k ρ L ⟨j, v, F, O, hjk, hF, hO, rfl, hs⟩
  obtain ⟨aw, cw, rfl⟩ := hF.val
  refine XC.slots _ hs ?_
  (repeat (first | (with_reducible apply XL.op) | ((with_reducible apply XOp.p1); (case hg | hv => exact rfl)) | (with_reducible apply XL.nilT) | (with_reducible apply XC.seq) | (with_reducible apply XC.region (Γ := Γ))))
  ((with_reducible apply XC.cond); (case hc => exact rfl); all_goals (intro hb_; try simp only [pd_true, pd_false, Bool.not_eq_true', Bool.not_eq_false', Bool.and_eq_true, Bool.and_eq_false_iff, Bool.or_eq_true, Bool.or_eq_false_iff, not_true_eq_false, not_false_eq_true, Int.not_lt, Int.not_le] at hb_))
  · (repeat (first | (with_reducible apply XL.op) | ((with_reducible apply XOp.p1); (case hg | hv => exact rfl)) | (with_reducible apply XC.seq) | (with_reducible apply XC.region (Γ := Γ)) | (with_reducible apply XQ.skip) | (with_reducible apply XQ.nt) | (with_reducible apply XC.block)))
    ((with_reducible apply XOp.buildSlice); (case hg | ht | hk | he | hz | hzl | hf => exact rfl); intro bz)
    (repeat ((with_reducible apply XL.op)))
    (refine (show XOp _ _ _ _ _ _ _ _ ((bz, Obj.cells ⟨[.int .u8 201]⟩ 5 (0, 0)) :: ([(bd, Obj.cells ⟨xd.cells⟩ 31 (0, 0)), (bc, Obj.cells ⟨xc.cells⟩ 31 (0, 0)), (bb, Obj.cells ⟨xb.cells⟩ 31 (0, 0)), (ba, Obj.cells ⟨xa.cells⟩ 31 (0, 0)), (b5, Obj.cells ⟨x5.cells⟩ 31 (0, 0)), (bx, Obj.cells ⟨x.cells⟩ 31 (0, 0)), MdB mb xm] ++ ((F ++ O) ++ (Lb ++ (Lf ++ (Ld ++ Fm)))))) from XOp.perm (L' :=  (bz, Obj.cells ⟨[.int .u8 201]⟩ 5 (0, 0)) :: (F ++ ([(bd, Obj.cells ⟨xd.cells⟩ 31 (0, 0)), (bc, Obj.cells ⟨xc.cells⟩ 31 (0, 0)), (bb, Obj.cells ⟨xb.cells⟩ 31 (0, 0)), (ba, Obj.cells ⟨xa.cells⟩ 31 (0, 0)), (b5, Obj.cells ⟨x5.cells⟩ 31 (0, 0)), (bx, Obj.cells ⟨x.cells⟩ 31 (0, 0)), MdB mb xm] ++ (O ++ (Lb ++ (Lf ++ (Ld ++ Fm))))))) rfl ?_ (by (first | (with_reducible exact List.Perm.refl _) | refine perm_of_cnt fun p_ => ?_; simp only [List.countP_append, List.countP_cons, List.countP_nil]; omega))))
    ((with_reducible apply XOp.append1K (R := [(bd, Obj.cells ⟨xd.cells⟩ 31 (0, 0)), (bc, Obj.cells ⟨xc.cells⟩ 31 (0, 0)), (bb, Obj.cells ⟨xb.cells⟩ 31 (0, 0)), (ba, Obj.cells ⟨xa.cells⟩ 31 (0, 0)), (b5, Obj.cells ⟨x5.cells⟩ 31 (0, 0)), (bx, Obj.cells ⟨x.cells⟩ 31 (0, 0)), MdB mb xm] ++ (O ++ (Lb ++ (Lf ++ (Ld ++ Fm)))))); (case hg => exact rfl); (case ht => exact rfl); (case hk => exact rfl); (case he => exact rfl); (case hown => exact hF); (case hs => exact rfl); (case hx => exact rfl); (case hL => exact rfl); (case hl => exact rfl); (case h1 => exact rfl); (case hz => exact rfl); (case hsz => exact Nat.zero_lt_succ _); (case hk0 => exact Nat.zero_lt_succ _); (case h63 => simp only [maxLen]; omega); (case hb => simp only []; omega); intro v_ F_ O_ hown_ hkp_; obtain ⟨a_, c_, rfl⟩ := hown_.val)
    (repeat (first | (with_reducible apply XL.op) | ((with_reducible apply XOp.p1); (case hg | hv => exact rfl)) | (with_reducible apply XL.nilT) | (with_reducible apply XC.region (Γ := Γ)) | (with_reducible apply XL.nilQ) | (with_reducible apply XQ.nt) | (with_reducible apply XQ.nb)))
    refine ⟨k - 1, by omega, [(bd, Obj.cells ⟨xd.cells⟩ 31 (0, 0)), (bc, Obj.cells ⟨xc.cells⟩ 31 (0, 0)), (bb, Obj.cells ⟨xb.cells⟩ 31 (0, 0)), (ba, Obj.cells ⟨xa.cells⟩ 31 (0, 0)), (b5, Obj.cells ⟨x5.cells⟩ 31 (0, 0)), (bx, Obj.cells ⟨x.cells⟩ 31 (0, 0)), MdB mb xm] ++ ((F_ ++ (O_ ++ O)) ++ (Lb ++ (Lf ++ (Ld ++ Fm)))), .perm (by (first | (with_reducible exact List.Perm.refl _) | refine perm_of_cnt fun p_ => ?_; simp only [List.countP_append, List.countP_cons, List.countP_nil]; omega)), j + 1, _, F_, O_ ++ O, by omega, hown_.conv (by omega) (by rw [List.replicate_succ', List.append_assoc]), OldIn.step hF hO hkp_, rfl, rfl, rfl, rfl, rfl, rfl, rfl, rfl, rfl, rfl, rfl, rfl, rfl, rfl, rfl, rfl, intS (m := 64) (by omega) (by omega), trivial⟩
  obtain rfl : j = 64 := by omega
  clear hs hjk hb_
  have hB8 : isB B := fun y hy => by rw [hBd] at hy; obtain ⟨_, _, rfl⟩ := List.mem_map.1 hy; omega
  have kB : Held (F ++ O) (fun h => byAt h B af cf) := by
    rcases hO with h | ⟨g, sp, rfl, hm⟩
    · omega
    · have hs1 : SlA (Kd.int .u8) 1 (fv [(g, Obj.cells ⟨B.map (.int .u8) ++ sp⟩ 5 (0, 0))]) B (some ⟨g, 0, none⟩) cf := blk_slA (List.mem_singleton.2 rfl) (by simp [keys]) (fun y hy => inK_u8.2 (hB8 y hy)) (by omega) (by have := s1.le; omega)
      exact (Held.frag hs1 (Mono.sl _ _ _ _ _)).sub fun y hy => by rw [List.mem_singleton.1 hy]; exact hm
  have cB := copyBytes_fn B af cf
  have dB := decode_fn B af cf
  rw [hBl] at cB dB
  (repeat (first | (with_reducible apply XL.op) | ((with_reducible apply XOp.loadO (i := 5)); (case hg | ht | hk | hx | hi | hc => exact rfl)) | (with_reducible apply XC.seq) | (with_reducible apply XC.region (Γ := Γ)) | (with_reducible apply XQ.exit) | (with_reducible apply XQ.nt) | (with_reducible apply XQ.et) | ((with_reducible apply XQ.eb); (case hb => exact rfl))))
  ((with_reducible apply XOp.callN (hF := refEncode_fn x)); (case hg => exact rfl); (case hc => exact rfl); (case ha => exact rfl); try (case hA => exact Known.true))
  case hA => exact Known.of_old hX (lw_mono _)
  rintro _ L3 hE3
  obtain ⟨a3, c3, rfl, k3⟩ := hE3.get
  rw [he0, hE]
  rw [hE] at k3
  (repeat (first | (with_reducible apply XL.op) | ((with_reducible apply XOp.p1); (case hg | hv => exact rfl)) | ((with_reducible apply XOp.loadO (i := 2)); (case hg | ht | hk | hx | hi | hc => exact rfl)) | ((with_reducible apply XOp.loadO (i := 5)); (case hg | ht | hk | hx | hi | hc => exact rfl)) | (with_reducible apply XL.nilT) | (with_reducible apply XC.seq) | (with_reducible apply XC.region (Γ := Γ))))
  ((with_reducible apply XOp.callQ (hF := eqWeightsT_fn xb x (hxb.trans hwm))); (case hg => exact rfl); (case hc => exact rfl); (case ha => exact rfl); try (case hA => exact Known.true))
  case hA => exact Known.and (ob.held.known fun y hy => by simp [hy]) (Known.of_old hX (lw_mono _))
  rintro _ rfl
  (repeat (first | (with_reducible apply XL.op) | ((with_reducible apply XOp.p1); (case hg | hv => exact rfl)) | ((with_reducible apply XOp.loadO (i := 0)); (case hg | ht | hk | hx | hi | hc => exact rfl)) | ((with_reducible apply XOp.loadO (i := 5)); (case hg | ht | hk | hx | hi | hc => exact rfl))))
  ((with_reducible apply XOp.callQ (hF := eqWeightsT_fn xd x hxd2)); (case hg => exact rfl); (case hc => exact rfl); (case ha => exact rfl); try (case hA => exact Known.true))
  case hA => exact Known.and (kd.known fun y hy => by simp [hy]) (Known.of_old hX (lw_mono _))
  rintro _ rfl
  (repeat (first | (with_reducible apply XL.op) | ((with_reducible apply XOp.p1); (case hg | hv => exact rfl))))
  ((with_reducible apply XOp.callQ (hF := eqBytesT_fn E a2 a3 c2 c3)); (case hg => exact rfl); (case hc => exact rfl); (case ha => exact rfl); try (case hA => exact Known.true))
  case hA => exact Known.and (k2.known fun y hy => by simp [hy]) (k3.known fun y hy => by simp [hy])
  rintro _ rfl
  (repeat (first | (with_reducible apply XL.op) | ((with_reducible apply XOp.p1); (case hg | hv => exact rfl)) | (with_reducible apply XL.nilT) | (with_reducible apply XC.seq) | (with_reducible apply XC.region (Γ := Γ))))
  ((with_reducible apply XOp.callN (hF := wOf_fn mb xm hm3)); (case hg => exact rfl); (case hc => exact rfl); (case ha => exact rfl); try (case hA => exact Known.true))
  case hA => exact Known.and (Known.of_old hS sides_mono) (Known.and ((Held.row (F := [MdB mb xm]) (List.mem_cons_self ..)).known fun y hy => by simp [List.mem_singleton.1 hy]) (om.held.known fun y hy => by simp [hy]))
  rintro _ L4 ⟨x4, rfl, hx4, o4⟩
  (repeat ((with_reducible apply XL.op)))
  ((with_reducible apply XOp.alloc); (case hg | ht | hx' => exact rfl); intro b4)
  (repeat (first | (with_reducible apply XL.op) | ((with_reducible apply XOp.p1); (case hg | hv => exact rfl)) | ((with_reducible apply XOp.storeN (i := 0)); (case hg | ht | hx | hv' | hk | h1 | hi | hs | ha => exact rfl)) | (with_reducible apply XL.nilT) | (with_reducible apply XC.seq) | (with_reducible apply XC.region (Γ := Γ))))
  ((with_reducible apply XOp.callN (hF := cB)); (case hg => exact rfl); (case hc => exact rfl); (case ha => exact rfl); try (case hA => exact Known.true))
  case hA => exact kB.known fun y hy => by rcases List.mem_append.1 hy with hy | hy <;> simp [hy]
  rintro _ L8 h8
  obtain ⟨a8, c8, rfl, _, s8⟩ := own_body (show OwnS 5 1 _ B.length (B.map (.int .u8)) L8 by rw [hBl]; exact h8) hB8 (by omega)
  have rB := refDecode_fn B a8 c8
  rw [hBl] at rB ⊢
  (repeat ((with_reducible apply XL.op)))
  ((with_reducible apply XOp.callN (hF := rB)); (case hg => exact rfl); (case hc => exact rfl); (case ha => exact rfl); try (case hA => exact Known.true))
  case hA => exact Known.of_frag s8 (Mono.sl _ _ _ _ _) (fun y hy => by simp [hy])
  rintro _ L9 ⟨x9, rfl, hx9, k9⟩
  (repeat (first | (with_reducible apply XL.op) | ((with_reducible apply XOp.p1); (case hg | hv => exact rfl))))
  ((with_reducible apply XOp.alloc); (case hg | ht | hx' => exact rfl); intro b9)
  (repeat (first | (with_reducible apply XL.op) | ((with_reducible apply XOp.p1); (case hg | hv => exact rfl)) | ((with_reducible apply XOp.storeN (i := 0)); (case hg | ht | hx | hv' | hk | h1 | hi | hs | ha => exact rfl)) | (with_reducible apply XL.nilT) | (with_reducible apply XC.seq) | (with_reducible apply XC.region (Γ := Γ))))
  ((with_reducible apply XOp.callN (hF := dB)); (case hg => exact rfl); (case hc => exact rfl); (case ha => exact rfl); try (case hA => exact Known.true))
  case hA => exact Known.and (Known.of_old hS sides_mono) (kB.known fun y hy => by rcases List.mem_append.1 hy with hy | hy <;> simp [hy])
  rintro _ L10 ⟨x10, rfl, hx10, k10⟩
  (repeat (first | (with_reducible apply XL.op) | ((with_reducible apply XOp.p1); (case hg | hv => exact rfl))))
  ((with_reducible apply XOp.alloc); (case hg | ht | hx' => exact rfl); intro b10)
  have w1 : IntKind.i64.wrap ((E.length : Int) + 64) = (E.length : Int) + 64 := wrap64_of (by omega) (by omega)
  (repeat (first | (with_reducible apply XL.op) | ((with_reducible apply XOp.p1); (case hg | hv => exact rfl)) | ((with_reducible apply XOp.loadO (i := 2)); (case hg | ht | hk | hx | hi | hc => exact rfl)) | ((with_reducible apply XOp.loadO (i := 8)); (case hg | ht | hk | hx | hi | hc => exact rfl)) | ((with_reducible apply XOp.storeN (i := 0)); (case hg | ht | hx | hv' | hk | h1 | hi | hs | ha => exact rfl)) | (with_reducible apply XL.nilT) | (with_reducible apply XC.seq) | (with_reducible apply XC.region (Γ := Γ)) | (first | ((with_reducible apply XOp.split); (case hg | hj | hd | hb => exact rfl); (fail_if_success (case hf => exact fun h => Bool.noConfusion h)); (fail_if_success (case ht => exact fun h => Bool.noConfusion h)); (first | (case ht => intro hb_; try simp only [pd_true, pd_false, Bool.not_eq_true', Bool.not_eq_false', Bool.and_eq_true, Bool.and_eq_false_iff, Bool.or_eq_true, Bool.or_eq_false_iff, not_true_eq_false, not_false_eq_true, Int.not_lt, Int.not_le] at hb_; first | done | (exfalso; first | omega | contradiction)) | (case hf => intro hb_; try simp only [pd_true, pd_false, Bool.not_eq_true', Bool.not_eq_false', Bool.and_eq_true, Bool.and_eq_false_iff, Bool.or_eq_true, Bool.or_eq_false_iff, not_true_eq_false, not_false_eq_true, Int.not_lt, Int.not_le] at hb_; first | done | (exfalso; first | omega | contradiction))); intro hb_; try simp only [pd_true, pd_false, Bool.not_eq_true', Bool.not_eq_false', Bool.and_eq_true, Bool.and_eq_false_iff, Bool.or_eq_true, Bool.or_eq_false_iff, not_true_eq_false, not_false_eq_true, Int.not_lt, Int.not_le] at hb_) | ((with_reducible apply XP.split); (case ho | hg | hj | hd | hb => exact rfl); (fail_if_success (case hf => exact fun h => Bool.noConfusion h)); (fail_if_success (case ht => exact fun h => Bool.noConfusion h)); (first | (case ht => intro hb_; try simp only [pd_true, pd_false, Bool.not_eq_true', Bool.not_eq_false', Bool.and_eq_true, Bool.and_eq_false_iff, Bool.or_eq_true, Bool.or_eq_false_iff, not_true_eq_false, not_false_eq_true, Int.not_lt, Int.not_le] at hb_; first | done | (exfalso; first | omega | contradiction)) | (case hf => intro hb_; try simp only [pd_true, pd_false, Bool.not_eq_true', Bool.not_eq_false', Bool.and_eq_true, Bool.and_eq_false_iff, Bool.or_eq_true, Bool.or_eq_false_iff, not_true_eq_false, not_false_eq_true, Int.not_lt, Int.not_le] at hb_; first | done | (exfalso; first | omega | contradiction))); intro hb_; try simp only [pd_true, pd_false, Bool.not_eq_true', Bool.not_eq_false', Bool.and_eq_true, Bool.and_eq_false_iff, Bool.or_eq_true, Bool.or_eq_false_iff, not_true_eq_false, not_false_eq_true, Int.not_lt, Int.not_le] at hb_) | ((with_reducible apply XC.cond); (case hc => exact rfl); (first | (case ht => intro hb_; try simp only [pd_true, pd_false, Bool.not_eq_true', Bool.not_eq_false', Bool.and_eq_true, Bool.and_eq_false_iff, Bool.or_eq_true, Bool.or_eq_false_iff, not_true_eq_false, not_false_eq_true, Int.not_lt, Int.not_le] at hb_; first | done | (exfalso; first | omega | contradiction)) | (case hf => intro hb_; try simp only [pd_true, pd_false, Bool.not_eq_true', Bool.not_eq_false', Bool.and_eq_true, Bool.and_eq_false_iff, Bool.or_eq_true, Bool.or_eq_false_iff, not_true_eq_false, not_false_eq_true, Int.not_lt, Int.not_le] at hb_; first | done | (exfalso; first | omega | contradiction))); intro hb_; try simp only [pd_true, pd_false, Bool.not_eq_true', Bool.not_eq_false', Bool.and_eq_true, Bool.and_eq_false_iff, Bool.or_eq_true, Bool.or_eq_false_iff, not_true_eq_false, not_false_eq_true, Int.not_lt, Int.not_le] at hb_))))
  ((with_reducible apply XOp.callQ (hF := eqWeightsT_fn x4 x (hx4.trans hwm))); (case hg => exact rfl); (case hc => exact rfl); (case ha => exact rfl); try (case hA => exact Known.true))
  case hA => exact Known.and (o4.held.known fun y hy => by simp [hy]) (Known.of_old hX (lw_mono _))
  rintro _ rfl
  (repeat (first | (with_reducible apply XL.op) | ((with_reducible apply XOp.p1); (case hg | hv => exact rfl)) | (with_reducible apply XL.nilT) | (with_reducible apply XC.seq) | (with_reducible apply XC.region (Γ := Γ)) | (with_reducible apply XQ.ret) | (first | ((with_reducible apply XOp.split); (case hg | hj | hd | hb => exact rfl); (fail_if_success (case hf => exact fun h => Bool.noConfusion h)); (fail_if_success (case ht => exact fun h => Bool.noConfusion h)); (first | (case ht => intro hb_; try simp only [pd_true, pd_false, Bool.not_eq_true', Bool.not_eq_false', Bool.and_eq_true, Bool.and_eq_false_iff, Bool.or_eq_true, Bool.or_eq_false_iff, not_true_eq_false, not_false_eq_true, Int.not_lt, Int.not_le] at hb_; first | done | (exfalso; first | omega | contradiction)) | (case hf => intro hb_; try simp only [pd_true, pd_false, Bool.not_eq_true', Bool.not_eq_false', Bool.and_eq_true, Bool.and_eq_false_iff, Bool.or_eq_true, Bool.or_eq_false_iff, not_true_eq_false, not_false_eq_true, Int.not_lt, Int.not_le] at hb_; first | done | (exfalso; first | omega | contradiction))); intro hb_; try simp only [pd_true, pd_false, Bool.not_eq_true', Bool.not_eq_false', Bool.and_eq_true, Bool.and_eq_false_iff, Bool.or_eq_true, Bool.or_eq_false_iff, not_true_eq_false, not_false_eq_true, Int.not_lt, Int.not_le] at hb_) | ((with_reducible apply XP.split); (case ho | hg | hj | hd | hb => exact rfl); (fail_if_success (case hf => exact fun h => Bool.noConfusion h)); (fail_if_success (case ht => exact fun h => Bool.noConfusion h)); (first | (case ht => intro hb_; try simp only [pd_true, pd_false, Bool.not_eq_true', Bool.not_eq_false', Bool.and_eq_true, Bool.and_eq_false_iff, Bool.or_eq_true, Bool.or_eq_false_iff, not_true_eq_false, not_false_eq_true, Int.not_lt, Int.not_le] at hb_; first | done | (exfalso; first | omega | contradiction)) | (case hf => intro hb_; try simp only [pd_true, pd_false, Bool.not_eq_true', Bool.not_eq_false', Bool.and_eq_true, Bool.and_eq_false_iff, Bool.or_eq_true, Bool.or_eq_false_iff, not_true_eq_false, not_false_eq_true, Int.not_lt, Int.not_le] at hb_; first | done | (exfalso; first | omega | contradiction))); intro hb_; try simp only [pd_true, pd_false, Bool.not_eq_true', Bool.not_eq_false', Bool.and_eq_true, Bool.and_eq_false_iff, Bool.or_eq_true, Bool.or_eq_false_iff, not_true_eq_false, not_false_eq_true, Int.not_lt, Int.not_le] at hb_) | ((with_reducible apply XC.cond); (case hc => exact rfl); (first | (case ht => intro hb_; try simp only [pd_true, pd_false, Bool.not_eq_true', Bool.not_eq_false', Bool.and_eq_true, Bool.and_eq_false_iff, Bool.or_eq_true, Bool.or_eq_false_iff, not_true_eq_false, not_false_eq_true, Int.not_lt, Int.not_le] at hb_; first | done | (exfalso; first | omega | contradiction)) | (case hf => intro hb_; try simp only [pd_true, pd_false, Bool.not_eq_true', Bool.not_eq_false', Bool.and_eq_true, Bool.and_eq_false_iff, Bool.or_eq_true, Bool.or_eq_false_iff, not_true_eq_false, not_false_eq_true, Int.not_lt, Int.not_le] at hb_; first | done | (exfalso; first | omega | contradiction))); intro hb_; try simp only [pd_true, pd_false, Bool.not_eq_true', Bool.not_eq_false', Bool.and_eq_true, Bool.and_eq_false_iff, Bool.or_eq_true, Bool.or_eq_false_iff, not_true_eq_false, not_false_eq_true, Int.not_lt, Int.not_le] at hb_))))
  ((with_reducible apply XQ.retE); (case hr => exact .t rfl .nil))
  rfl
end Go.Proofs.YtppggaiahkecoaaDoorX
