/- The reference's Parse. -/
import Derived.Test.YtepfnakabafhlaaDoorXPWPr5
import Derived.Test.YtepfnakabafhlaaDoorXPWPr3
import Derived.Test.YtepfnakabafhlaaDoorXPWPr1
import Derived.Test.YtepfnakabafhlaaDoorRows
import Derived.LaidMore
import Derived.LaidHandle
import Derived.MakeChecks
set_option linter.unusedSimpArgs false
set_option linter.unusedVariables false
namespace Go.SX
open Go
theorem vLit_len (t : List Int) (p : Nat) : (vLit t p).1.length ≤ t.length ∧ (p < t.length → p < (vLit t p).2) ∧ (vLit t p).2 ≤ p + t.length + 1 := by
  unfold vLit
  split
  · exact ⟨Nat.zero_le _, fun h => by omega, by simp only []; omega⟩
  · unfold unqR
    cases hu : unqS (t.drop p) with
    | none => exact ⟨Nat.zero_le _, fun h => by simp only []; omega, by simp only []; omega⟩
    | some q =>
      obtain ⟨b, rest⟩ := q
      obtain ⟨_, hq⟩ := unq_iff.1 hu
      have h1 := congrArg List.length hq
      have h2 := quoteL_length b
      rw [List.length_append, List.length_drop] at h1
      simp only [List.length_drop]
      exact ⟨by omega, fun h => by omega, by omega⟩
theorem vStops_len (t : List Int) : ∀ (k p : Nat), (vStops k t p).length ≤ k ∧ ∀ s ∈ vStops k t p, s.length ≤ t.length
  | 0, _ => ⟨Nat.le_refl _, fun s hs => by cases hs⟩
  | k + 1, p => by
    have ih := vStops_len t k (vLit t p).2
    unfold vStops
    split
    · refine ⟨by rw [List.length_cons]; omega, fun s hs => ?_⟩
      rcases List.mem_cons.1 hs with rfl | hs
      · exact (vLit_len t p).1
      · exact ih.2 s hs
    · exact ⟨Nat.zero_le _, fun s hs => by cases hs⟩
theorem vStops_no (t : List Int) {k p : Nat} (h : ¬ p < t.length) : vStops k t p = [] := by
  cases k with
  | zero => rfl
  | succ k => unfold vStops; rw [if_neg h]
theorem vStops_yes (t : List Int) {k p : Nat} (h : p < t.length) : vStops (k + 1) t p = (vLit t p).1 :: vStops k t (vLit t p).2 := by rw [vStops, if_pos h]
theorem litT_le (n : Nat) : ∀ ls : List (List Int), (∀ s ∈ ls, s.length ≤ n) → (litT ls).length ≤ ls.length * (4 * n + 3)
  | [], _ => Nat.zero_le _
  | a :: l, h => by
    have ih := litT_le n l fun s hs => h s (List.mem_cons_of_mem _ hs)
    have ha := h a (List.mem_cons_self ..)
    have hq := quoteL_length a
    have e : litT (a :: l) = (32 :: quoteL a) ++ litT l := by simp [litT]
    rw [e, List.length_append, List.length_cons, List.length_cons, Nat.add_mul]; omega
theorem view_small {t : List Int} (h : t.length ≤ 8192) : (viewL t).fits ∧ (viewL t).Text.length ≤ 8192 ∧ (viewL t).Stops.length ≤ 8193 := by
  have key : (viewL t).Text.length ≤ 8192 ∧ (viewL t).Guide.length ≤ 8192 ∧ (viewL t).Stops.length ≤ 8193 ∧ ∀ s ∈ (viewL t).Stops, s.length ≤ 8192 := by
    have hl := fun p => (vLit_len t p).1
    have hs := fun p => vStops_len t (t.length + 1) p
    unfold viewL
    refine ⟨?_, ?_, ?_, ?_⟩
    · simp only []
      split
      · have := hl; exact Nat.le_trans (this _) h
      · exact Nat.zero_le _
    · simp only []
      split
      · exact Nat.le_trans (hl _) h
      · exact Nat.zero_le _
    · simp only []
      split
      · exact Nat.le_trans (hs _).1 (by omega)
      · exact Nat.zero_le _
    · simp only []
      split
      · exact fun s h2 => Nat.le_trans ((hs _).2 s h2) h
      · exact fun s h2 => by cases h2
  obtain ⟨h1, h2, h3, h4⟩ := key
  have h5 := litT_le 8192 _ h4
  have h6 : (viewL t).Stops.length * (4 * 8192 + 3) ≤ 8193 * (4 * 8192 + 3) := Nat.mul_le_mul_right _ h3
  exact ⟨⟨by omega, by omega, fun s hs => by have := h4 s hs; omega, by omega⟩, h1, h3⟩
end Go.SX
namespace Go.Proofs.YtepfnakabafhlaaDoorX
open Go Go.SX
theorem print_isB {l : Ln} {s : List Int} (hl : l.ok) (h : printS l = some s) : isB s := by
  obtain ⟨_, rfl, _⟩ := print_iff.1 h
  intro x hx
  unfold lineT at hx
  have hq : ∀ b : List Int, isB b → ∀ y ∈ (32 :: quoteL b), 0 ≤ y ∧ y ≤ 255 := fun b hb y hy => by
    rcases List.mem_cons.1 hy with rfl | hy
    · omega
    · have hA := isA_B (quoteL_A hb); exact hA y hy
  have hi : ∀ n : Int, ∀ y ∈ (32 :: intL n), 0 ≤ y ∧ y ≤ 255 := fun n y hy => by
    rcases List.mem_cons.1 hy with rfl | hy
    · omega
    · exact intL_isB n y hy
  rcases List.mem_append.1 hx with h | hx
  · exact hl.word x h
  rcases List.mem_append.1 hx with h | hx
  · exact hi _ x h
  rcases List.mem_append.1 hx with h | hx
  · obtain ⟨n, _, h⟩ := List.mem_flatMap.1 h
    exact hi n x h
  unfold tailT at hx
  rcases List.mem_append.1 hx with h | hx
  · split at h
    · rcases List.mem_append.1 h with h | h
      · rcases List.mem_cons.1 h with rfl | h
        · omega
        · exact decL_isB _ x h
      · exact hq _ hl.guide x h
    · cases h
  rcases List.mem_append.1 hx with h | hx
  · split at h
    · exact hq _ hl.text x h
    · cases h
  · obtain ⟨s, hs, h⟩ := List.mem_flatMap.1 hx
    exact hq s (hl.stops s hs) x h
theorem ivt_le (t : List Int) (p : Nat) : ∀ n, (itV vInt n t p).2 ≤ p + n * (t.length + 1)
  | 0 => by simp [itV]
  | n + 1 => by
    have ih := ivt_le t p n
    have h := (vWord_len t (itV vInt n t p).2).2
    show (vWord t (itV vInt n t p).2).2 ≤ _
    rw [Nat.add_mul]; omega
set_option maxHeartbeats 16000000 in
theorem refParse_fn (t : List Int) (hB : isB t) (hl : t.length ≤ 100000000) : FC Tryd.prog 15 [.string (strOf t)] [] (fun _ => True) (fun v L => PrsR t v L) := by
  refine FC.sub2 ?_
  refine FC.intro Tryd.func15 rfl (by kernel_rfl) 102 [.cell 2 36, .tmp 3] rfl rfl rfl ?_
  intro w0 _
  have hsz : ((strOf t).size : Int) = (t.length : Int) := by rw [strOf_size]
  have hvok := view_ok hB
  obtain ⟨hv1, hv2, hv3⟩ := parse_view hB hvok
  (repeat (first | (with_reducible apply XL.op) | (with_reducible apply XC.seq) | (with_reducible apply XC.region (Γ := Γ))))
  ((with_reducible apply XOp.alloc); (case hg | ht | hx' => exact rfl); intro rs)
  (repeat (first | (with_reducible apply XL.op) | ((with_reducible apply XOp.p1); (case hg | hv => exact rfl)) | (with_reducible apply XL.nilT) | (with_reducible apply XC.seq) | (with_reducible apply XC.region (Γ := Γ))))
  rw [hsz]
  by_cases hlong : 8192 < t.length
  · have hp : parseS t = none := hv1 hlong
    (repeat (first | (with_reducible apply XL.op) | ((with_reducible apply XOp.p1); (case hg | hv => exact rfl)) | ((with_reducible apply XOp.storeN (i := 0)); (case hg | ht | hx | hv' | hk | h1 | hi | hs | ha => exact rfl)) | ((with_reducible apply XOp.pr); (case hg => exact rfl); (case hr => ((with_reducible apply PR.build); (case ht | hk | hok | hz | hf => exact rfl)))) | (with_reducible apply XL.nilT) | (with_reducible apply XC.seq) | (with_reducible apply XC.region (Γ := Γ)) | (with_reducible apply XQ.ret) | (with_reducible apply XQ.rt) | (first | ((with_reducible apply XOp.split); (case hg | hj | hd | hb => exact rfl); (fail_if_success (case hf => exact fun h => Bool.noConfusion h)); (fail_if_success (case ht => exact fun h => Bool.noConfusion h)); (first | (case ht => intro hb_; try simp only [pd_true, pd_false, Bool.not_eq_true', Bool.not_eq_false', Bool.and_eq_true, Bool.and_eq_false_iff, Bool.or_eq_true, Bool.or_eq_false_iff, not_true_eq_false, not_false_eq_true, Int.not_lt, Int.not_le] at hb_; first | done | (exfalso; first | omega | contradiction)) | (case hf => intro hb_; try simp only [pd_true, pd_false, Bool.not_eq_true', Bool.not_eq_false', Bool.and_eq_true, Bool.and_eq_false_iff, Bool.or_eq_true, Bool.or_eq_false_iff, not_true_eq_false, not_false_eq_true, Int.not_lt, Int.not_le] at hb_; first | done | (exfalso; first | omega | contradiction))); intro hb_; try simp only [pd_true, pd_false, Bool.not_eq_true', Bool.not_eq_false', Bool.and_eq_true, Bool.and_eq_false_iff, Bool.or_eq_true, Bool.or_eq_false_iff, not_true_eq_false, not_false_eq_true, Int.not_lt, Int.not_le] at hb_) | ((with_reducible apply XP.split); (case ho | hg | hj | hd | hb => exact rfl); (fail_if_success (case hf => exact fun h => Bool.noConfusion h)); (fail_if_success (case ht => exact fun h => Bool.noConfusion h)); (first | (case ht => intro hb_; try simp only [pd_true, pd_false, Bool.not_eq_true', Bool.not_eq_false', Bool.and_eq_true, Bool.and_eq_false_iff, Bool.or_eq_true, Bool.or_eq_false_iff, not_true_eq_false, not_false_eq_true, Int.not_lt, Int.not_le] at hb_; first | done | (exfalso; first | omega | contradiction)) | (case hf => intro hb_; try simp only [pd_true, pd_false, Bool.not_eq_true', Bool.not_eq_false', Bool.and_eq_true, Bool.and_eq_false_iff, Bool.or_eq_true, Bool.or_eq_false_iff, not_true_eq_false, not_false_eq_true, Int.not_lt, Int.not_le] at hb_; first | done | (exfalso; first | omega | contradiction))); intro hb_; try simp only [pd_true, pd_false, Bool.not_eq_true', Bool.not_eq_false', Bool.and_eq_true, Bool.and_eq_false_iff, Bool.or_eq_true, Bool.or_eq_false_iff, not_true_eq_false, not_false_eq_true, Int.not_lt, Int.not_le] at hb_) | ((with_reducible apply XC.cond); (case hc => exact rfl); (first | (case ht => intro hb_; try simp only [pd_true, pd_false, Bool.not_eq_true', Bool.not_eq_false', Bool.and_eq_true, Bool.and_eq_false_iff, Bool.or_eq_true, Bool.or_eq_false_iff, not_true_eq_false, not_false_eq_true, Int.not_lt, Int.not_le] at hb_; first | done | (exfalso; first | omega | contradiction)) | (case hf => intro hb_; try simp only [pd_true, pd_false, Bool.not_eq_true', Bool.not_eq_false', Bool.and_eq_true, Bool.and_eq_false_iff, Bool.or_eq_true, Bool.or_eq_false_iff, not_true_eq_false, not_false_eq_true, Int.not_lt, Int.not_le] at hb_; first | done | (exfalso; first | omega | contradiction))); intro hb_; try simp only [pd_true, pd_false, Bool.not_eq_true', Bool.not_eq_false', Bool.and_eq_true, Bool.and_eq_false_iff, Bool.or_eq_true, Bool.or_eq_false_iff, not_true_eq_false, not_false_eq_true, Int.not_lt, Int.not_le] at hb_))))
    ((with_reducible apply XQ.retE); (case hr => exact .row rfl (by kernel_rfl) (by kernel_rfl) (own_row (i := 0) (m := 7) rfl rfl) (.t rfl .nil)))
    refine ⟨[], .of (List.nil_sublist _), ?_⟩
    unfold PrsR; rw [hp]; exact ⟨rfl, rfl⟩
  have h8 : t.length ≤ 8192 := by omega
  obtain ⟨hvf, hvt, hvs⟩ := view_small h8
  (repeat (first | (with_reducible apply XL.op) | ((with_reducible apply XOp.p1); (case hg | hv => exact rfl)) | ((with_reducible apply XOp.pr); (case hg => exact rfl); (case hr => ((with_reducible apply PR.build); (case ht | hk | hok | hz | hf => exact rfl)))) | (with_reducible apply XC.seq) | (with_reducible apply XC.region (Γ := Γ)) | (with_reducible apply XQ.skip) | (with_reducible apply XQ.nt) | (first | ((with_reducible apply XOp.split); (case hg | hj | hd | hb => exact rfl); (fail_if_success (case hf => exact fun h => Bool.noConfusion h)); (fail_if_success (case ht => exact fun h => Bool.noConfusion h)); (first | (case ht => intro hb_; try simp only [pd_true, pd_false, Bool.not_eq_true', Bool.not_eq_false', Bool.and_eq_true, Bool.and_eq_false_iff, Bool.or_eq_true, Bool.or_eq_false_iff, not_true_eq_false, not_false_eq_true, Int.not_lt, Int.not_le] at hb_; first | done | (exfalso; first | omega | contradiction)) | (case hf => intro hb_; try simp only [pd_true, pd_false, Bool.not_eq_true', Bool.not_eq_false', Bool.and_eq_true, Bool.and_eq_false_iff, Bool.or_eq_true, Bool.or_eq_false_iff, not_true_eq_false, not_false_eq_true, Int.not_lt, Int.not_le] at hb_; first | done | (exfalso; first | omega | contradiction))); intro hb_; try simp only [pd_true, pd_false, Bool.not_eq_true', Bool.not_eq_false', Bool.and_eq_true, Bool.and_eq_false_iff, Bool.or_eq_true, Bool.or_eq_false_iff, not_true_eq_false, not_false_eq_true, Int.not_lt, Int.not_le] at hb_) | ((with_reducible apply XP.split); (case ho | hg | hj | hd | hb => exact rfl); (fail_if_success (case hf => exact fun h => Bool.noConfusion h)); (fail_if_success (case ht => exact fun h => Bool.noConfusion h)); (first | (case ht => intro hb_; try simp only [pd_true, pd_false, Bool.not_eq_true', Bool.not_eq_false', Bool.and_eq_true, Bool.and_eq_false_iff, Bool.or_eq_true, Bool.or_eq_false_iff, not_true_eq_false, not_false_eq_true, Int.not_lt, Int.not_le] at hb_; first | done | (exfalso; first | omega | contradiction)) | (case hf => intro hb_; try simp only [pd_true, pd_false, Bool.not_eq_true', Bool.not_eq_false', Bool.and_eq_true, Bool.and_eq_false_iff, Bool.or_eq_true, Bool.or_eq_false_iff, not_true_eq_false, not_false_eq_true, Int.not_lt, Int.not_le] at hb_; first | done | (exfalso; first | omega | contradiction))); intro hb_; try simp only [pd_true, pd_false, Bool.not_eq_true', Bool.not_eq_false', Bool.and_eq_true, Bool.and_eq_false_iff, Bool.or_eq_true, Bool.or_eq_false_iff, not_true_eq_false, not_false_eq_true, Int.not_lt, Int.not_le] at hb_) | ((with_reducible apply XC.cond); (case hc => exact rfl); (first | (case ht => intro hb_; try simp only [pd_true, pd_false, Bool.not_eq_true', Bool.not_eq_false', Bool.and_eq_true, Bool.and_eq_false_iff, Bool.or_eq_true, Bool.or_eq_false_iff, not_true_eq_false, not_false_eq_true, Int.not_lt, Int.not_le] at hb_; first | done | (exfalso; first | omega | contradiction)) | (case hf => intro hb_; try simp only [pd_true, pd_false, Bool.not_eq_true', Bool.not_eq_false', Bool.and_eq_true, Bool.and_eq_false_iff, Bool.or_eq_true, Bool.or_eq_false_iff, not_true_eq_false, not_false_eq_true, Int.not_lt, Int.not_le] at hb_; first | done | (exfalso; first | omega | contradiction))); intro hb_; try simp only [pd_true, pd_false, Bool.not_eq_true', Bool.not_eq_false', Bool.and_eq_true, Bool.and_eq_false_iff, Bool.or_eq_true, Bool.or_eq_false_iff, not_true_eq_false, not_false_eq_true, Int.not_lt, Int.not_le] at hb_))))
  ((with_reducible apply XOp.box); (case hg | hx' => exact rfl); intro vb)
  (repeat (first | (with_reducible apply XL.op) | ((with_reducible apply XOp.p1); (case hg | hv => exact rfl)) | ((with_reducible apply XOp.pr); (case hg => exact rfl); (case hr => ((with_reducible apply PR.build); (case ht | hk | hok | hz | hf => exact rfl)))) | (with_reducible apply XL.nilT) | (with_reducible apply XC.seq) | (with_reducible apply XC.region (Γ := Γ))))
  ((with_reducible apply XOp.alloc); (case hg | ht | hx' => exact rfl); intro lb)
  (repeat (first | (with_reducible apply XL.op) | ((with_reducible apply XOp.p1); (case hg | hv => exact rfl)) | ((with_reducible apply XOp.storeN (i := 0)); (case hg | ht | hx | hv' | hk | h1 | hi | hs | ha => exact rfl)) | (with_reducible apply XL.nilT) | (with_reducible apply XC.seq) | (with_reducible apply XC.region (Γ := Γ))))
  (refine (show XOp _ _ _ _ _ _ _ _ ([RLnB lb [] 0 nilV nilV 0 [] nilV, VwB vb t 0, (rs, Obj.cells ⟨lnC [] 0 nilV nilV 0 [] nilV⟩ 36 (0, 0))]) from XOp.perm (L' :=  [VwB vb t 0, RLnB lb [] 0 nilV nilV 0 [] nilV, (rs, Obj.cells ⟨lnC [] 0 nilV nilV 0 [] nilV⟩ 36 (0, 0))]) rfl ?_ (by (first | (with_reducible exact List.Perm.refl _) | refine perm_of_cnt fun p_ => ?_; simp only [List.countP_append, List.countP_cons, List.countP_nil]; omega))))
  ((with_reducible apply XOp.call (L0 := [VwB vb t 0]) (hF :=  vWord_fn vb t 0 hB (by omega) (by omega))); (case hg => exact rfl); (case hc => exact rfl); (case ha => exact rfl); (case hL => exact rfl))
  case hA => exact Known.true
  rintro _ _ ⟨rfl, rfl⟩
  have hV : viewL t = (let w := vWord t 0
    let i := vInt t w.2
    let n := itV vInt (numsW w.1).toNat t i.2
    let sd := if w.1 = wAsk then vNum t n.2 else (0, n.2)
    let g := if w.1 = wAsk then vLit t sd.2 else ([], sd.2)
    let x := if w.1 = wAsk ∨ w.1 = wText then vLit t g.2 else ([], g.2)
    let s := if w.1 = wAsk then vStops (t.length + 1) t x.2 else []
    ⟨w.1, i.1, x.1, n.1, sd.1, g.1, s⟩) := rfl
  simp only [] at hV
  have hwB : isB (vWord t 0).1 := vWord_isB hB
  have hwl := vWord_len t 0
  generalize vWord t 0 = w at *
  (repeat (first | (with_reducible apply XL.op) | ((with_reducible apply XOp.p1); (case hg | hv => exact rfl)) | ((with_reducible apply XOp.store (i := 1)); (case hg | ht | hk | hx | hv | h1 | hi | hs | ha => exact rfl)) | (with_reducible apply XL.nilT) | (with_reducible apply XC.seq) | (with_reducible apply XC.region (Γ := Γ))))
  ((with_reducible apply XOp.call (L0 := [VwB vb t w.2]) (hF :=  vNum_fn vb t w.2 hB (by omega) (by omega))); (case hg => exact rfl); (case hc => exact rfl); (case ha => exact rfl); (case hL => exact rfl))
  case hA => exact Known.true
  rintro _ _ ⟨rfl, rfl⟩
  have hil := (vWord_len t w.2).2
  have hiv : (IntKind.i64.wrap (vNum t w.2).1, (vNum t w.2).2) = vInt t w.2 := rfl
  have hi1 : IntKind.i64.wrap (vNum t w.2).1 = (vInt t w.2).1 := rfl
  have hi2 : (vNum t w.2).2 = (vInt t w.2).2 := rfl
  have hi3 : (vInt t w.2).2 ≤ w.2 + t.length + 1 := hil
  (repeat (first | (with_reducible apply XL.op) | ((with_reducible apply XOp.p1); (case hg | hv => exact rfl)) | ((with_reducible apply XOp.store (i := 1)); (case hg | ht | hk | hx | hv | h1 | hi | hs | ha => exact rfl)) | (with_reducible apply XL.nilT) | (with_reducible apply XC.seq) | (with_reducible apply XC.region (Γ := Γ)) | (with_reducible apply XC.block)))
  rw [hi1, hi2]
  clear hiv hi1 hi2
  generalize vInt t w.2 = i at *
  have hn6 : (numsW w.1).toNat ≤ 6 := by
    by_cases h : 0 ≤ numsW w.1
    · rcases words_of h with h | h | h | h | h | h <;> rw [h] <;> decide
    · omega
  refine XC.loopP (fun k ρ L => ∃ (j : Nat) (v : Value) (Fn : HL), j + k = (numsW w.1).toNat ∧ OwnS 3 1 v j ((itV vInt j t i.2).1.map (.int .i64)) Fn ∧ L = [VwB vb t (itV vInt j t i.2).2, RLnB lb w.1 (i.1) nilV v (0) [] nilV, (rs, Obj.cells ⟨lnC [] 0 nilV nilV 0 [] nilV⟩ 36 (0, 0))] ++ Fn ∧ Slots ρ [(0, .string (strOf t)), (2, .pointer (some ⟨rs, 0, none⟩)), (4, .pointer (some ⟨vb, 0, none⟩)), (5, .pointer (some ⟨lb, 0, none⟩)), (7, .int .i64 j)])
    (numsW w.1).toNat ⟨0, _, [], by simp, OwnS.nil _ _, rfl, rfl, rfl, rfl, rfl, rfl, trivial⟩ ?_
  rintro k ρ L ⟨j, v, Fn, hjk, hown, rfl, hs⟩
  obtain ⟨an, cn, rfl⟩ := hown.val
  refine XC.slots _ hs ?_
  have hql := ivt_le t i.2 j
  have hqk : j * (t.length + 1) ≤ 6 * (t.length + 1) := Nat.mul_le_mul_right _ (by omega)
  (repeat (first | (with_reducible apply XL.op) | ((with_reducible apply XOp.p1); (case hg | hv => exact rfl)) | ((with_reducible apply XOp.load); (case hg | ht | hk | hx => exact rfl); (case hc => exact own_cell (i := 1) rfl rfl)) | (with_reducible apply XC.seq) | (with_reducible apply XC.region (Γ := Γ))))
  ((with_reducible apply XOp.callQ (hF := refNumbers_fn w.1 hwB)); (case hg => exact rfl); (case hc => exact rfl); (case ha => exact rfl); try (case hA => exact Known.true))
  rintro _ rfl
  (repeat (first | (with_reducible apply XL.op) | ((with_reducible apply XOp.p1); (case hg | hv => exact rfl)) | (with_reducible apply XL.nilT)))
  by_cases hjn : ((j : Nat) : Int) < numsW w.1
  · have hsn : itV vInt (j + 1) t i.2 = ((itV vInt j t i.2).1 ++ [(vInt t (itV vInt j t i.2).2).1], (vInt t (itV vInt j t i.2).2).2) := rfl
    generalize itV vInt j t i.2 = q at *
    (repeat (first | (with_reducible apply XL.op) | ((with_reducible apply XOp.p1); (case hg | hv => exact rfl)) | (with_reducible apply XC.seq) | (with_reducible apply XC.region (Γ := Γ)) | (with_reducible apply XQ.skip) | (with_reducible apply XQ.nt) | (with_reducible apply XC.block) | (first | ((with_reducible apply XOp.split); (case hg | hj | hd | hb => exact rfl); (fail_if_success (case hf => exact fun h => Bool.noConfusion h)); (fail_if_success (case ht => exact fun h => Bool.noConfusion h)); (first | (case ht => intro hb_; try simp only [pd_true, pd_false, Bool.not_eq_true', Bool.not_eq_false', Bool.and_eq_true, Bool.and_eq_false_iff, Bool.or_eq_true, Bool.or_eq_false_iff, not_true_eq_false, not_false_eq_true, Int.not_lt, Int.not_le] at hb_; first | done | (exfalso; first | omega | contradiction)) | (case hf => intro hb_; try simp only [pd_true, pd_false, Bool.not_eq_true', Bool.not_eq_false', Bool.and_eq_true, Bool.and_eq_false_iff, Bool.or_eq_true, Bool.or_eq_false_iff, not_true_eq_false, not_false_eq_true, Int.not_lt, Int.not_le] at hb_; first | done | (exfalso; first | omega | contradiction))); intro hb_; try simp only [pd_true, pd_false, Bool.not_eq_true', Bool.not_eq_false', Bool.and_eq_true, Bool.and_eq_false_iff, Bool.or_eq_true, Bool.or_eq_false_iff, not_true_eq_false, not_false_eq_true, Int.not_lt, Int.not_le] at hb_) | ((with_reducible apply XP.split); (case ho | hg | hj | hd | hb => exact rfl); (fail_if_success (case hf => exact fun h => Bool.noConfusion h)); (fail_if_success (case ht => exact fun h => Bool.noConfusion h)); (first | (case ht => intro hb_; try simp only [pd_true, pd_false, Bool.not_eq_true', Bool.not_eq_false', Bool.and_eq_true, Bool.and_eq_false_iff, Bool.or_eq_true, Bool.or_eq_false_iff, not_true_eq_false, not_false_eq_true, Int.not_lt, Int.not_le] at hb_; first | done | (exfalso; first | omega | contradiction)) | (case hf => intro hb_; try simp only [pd_true, pd_false, Bool.not_eq_true', Bool.not_eq_false', Bool.and_eq_true, Bool.and_eq_false_iff, Bool.or_eq_true, Bool.or_eq_false_iff, not_true_eq_false, not_false_eq_true, Int.not_lt, Int.not_le] at hb_; first | done | (exfalso; first | omega | contradiction))); intro hb_; try simp only [pd_true, pd_false, Bool.not_eq_true', Bool.not_eq_false', Bool.and_eq_true, Bool.and_eq_false_iff, Bool.or_eq_true, Bool.or_eq_false_iff, not_true_eq_false, not_false_eq_true, Int.not_lt, Int.not_le] at hb_) | ((with_reducible apply XC.cond); (case hc => exact rfl); (first | (case ht => intro hb_; try simp only [pd_true, pd_false, Bool.not_eq_true', Bool.not_eq_false', Bool.and_eq_true, Bool.and_eq_false_iff, Bool.or_eq_true, Bool.or_eq_false_iff, not_true_eq_false, not_false_eq_true, Int.not_lt, Int.not_le] at hb_; first | done | (exfalso; first | omega | contradiction)) | (case hf => intro hb_; try simp only [pd_true, pd_false, Bool.not_eq_true', Bool.not_eq_false', Bool.and_eq_true, Bool.and_eq_false_iff, Bool.or_eq_true, Bool.or_eq_false_iff, not_true_eq_false, not_false_eq_true, Int.not_lt, Int.not_le] at hb_; first | done | (exfalso; first | omega | contradiction))); intro hb_; try simp only [pd_true, pd_false, Bool.not_eq_true', Bool.not_eq_false', Bool.and_eq_true, Bool.and_eq_false_iff, Bool.or_eq_true, Bool.or_eq_false_iff, not_true_eq_false, not_false_eq_true, Int.not_lt, Int.not_le] at hb_))))
    ((with_reducible apply XOp.call (L0 := [VwB vb t q.2]) (hF :=  vNum_fn vb t q.2 hB (by omega) (by omega))); (case hg => exact rfl); (case hc => exact rfl); (case ha => exact rfl); (case hL => exact rfl))
    case hA => exact Known.true
    rintro _ _ ⟨rfl, rfl⟩
    have e1 : IntKind.i64.wrap (vNum t q.2).1 = (vInt t q.2).1 := rfl
    have e2 : (vNum t q.2).2 = (vInt t q.2).2 := rfl
    (repeat (first | (with_reducible apply XL.op) | ((with_reducible apply XOp.p1); (case hg | hv => exact rfl)) | ((with_reducible apply XOp.load); (case hg | ht | hk | hx => exact rfl); (case hc => exact own_cell (i := 1) rfl rfl)) | (with_reducible apply XL.nilT) | (with_reducible apply XC.region (Γ := Γ))))
    rw [e1, e2]
    ((with_reducible apply XOp.buildSlice); (case hg | ht | hk | he | hz | hzl | hf => exact rfl); intro bb)
    (repeat ((with_reducible apply XL.op)))
    ((with_reducible apply XOp.append1R (R := [VwB vb t (vInt t q.2).2, RLnB lb w.1 (i.1) nilV (.slice an j cn) (0) [] nilV, (rs, Obj.cells ⟨lnC [] 0 nilV nilV 0 [] nilV⟩ 36 (0, 0))])); (case hg => exact rfl); (case ht => exact rfl); (case hk => exact rfl); (case he => exact rfl); (case hown => exact hown); (case hs => exact rfl); (case hx => exact rfl); (case hL => exact rfl); (case hl => exact rfl); (case h1 => exact rfl); (case hz => exact rfl); (case hsz => exact Nat.zero_lt_succ _); (case hk0 => exact Nat.zero_lt_succ _); (case h63 => simp only [maxLen]; omega); (case hb => simp only []; omega); intro v_ F_ hown_; obtain ⟨a_, c_, rfl⟩ := hown_.val)
    (repeat (first | (with_reducible apply XL.op) | ((with_reducible apply XOp.p1); (case hg | hv => exact rfl)) | ((with_reducible apply XOp.store (i := 1)); (case hg | ht | hk | hx | hv | h1 | hi | hs | ha => exact rfl)) | (with_reducible apply XL.nilT) | (with_reducible apply XC.region (Γ := Γ)) | (with_reducible apply XL.nilQ) | (with_reducible apply XQ.nt) | (with_reducible apply XQ.nb)))
    refine ⟨k - 1, by omega, _, .of (List.Sublist.refl _), j + 1, _, F_, by omega, hown_.conv rfl ?_, by rw [hsn]; rfl, rfl, rfl, rfl, rfl, intS (m := 6) (by omega) (by omega), trivial⟩
    rw [hsn]; simp [zerosL]
  have hjk2 : j = (numsW w.1).toNat := by omega
  subst hjk2
  (repeat (first | (with_reducible apply XL.op) | ((with_reducible apply XOp.p1); (case hg | hv => exact rfl)) | ((with_reducible apply XOp.load); (case hg | ht | hk | hx => exact rfl); (case hc => exact own_cell (i := 1) rfl rfl)) | (with_reducible apply XL.nilT) | (with_reducible apply XC.seq) | (with_reducible apply XC.region (Γ := Γ)) | (with_reducible apply XQ.exit) | (with_reducible apply XQ.nt) | (with_reducible apply XQ.et) | ((with_reducible apply XQ.eb); (case hb => exact rfl)) | (first | ((with_reducible apply XOp.split); (case hg | hj | hd | hb => exact rfl); (fail_if_success (case hf => exact fun h => Bool.noConfusion h)); (fail_if_success (case ht => exact fun h => Bool.noConfusion h)); (first | (case ht => intro hb_; try simp only [pd_true, pd_false, Bool.not_eq_true', Bool.not_eq_false', Bool.and_eq_true, Bool.and_eq_false_iff, Bool.or_eq_true, Bool.or_eq_false_iff, not_true_eq_false, not_false_eq_true, Int.not_lt, Int.not_le] at hb_; first | done | (exfalso; first | omega | contradiction)) | (case hf => intro hb_; try simp only [pd_true, pd_false, Bool.not_eq_true', Bool.not_eq_false', Bool.and_eq_true, Bool.and_eq_false_iff, Bool.or_eq_true, Bool.or_eq_false_iff, not_true_eq_false, not_false_eq_true, Int.not_lt, Int.not_le] at hb_; first | done | (exfalso; first | omega | contradiction))); intro hb_; try simp only [pd_true, pd_false, Bool.not_eq_true', Bool.not_eq_false', Bool.and_eq_true, Bool.and_eq_false_iff, Bool.or_eq_true, Bool.or_eq_false_iff, not_true_eq_false, not_false_eq_true, Int.not_lt, Int.not_le] at hb_) | ((with_reducible apply XP.split); (case ho | hg | hj | hd | hb => exact rfl); (fail_if_success (case hf => exact fun h => Bool.noConfusion h)); (fail_if_success (case ht => exact fun h => Bool.noConfusion h)); (first | (case ht => intro hb_; try simp only [pd_true, pd_false, Bool.not_eq_true', Bool.not_eq_false', Bool.and_eq_true, Bool.and_eq_false_iff, Bool.or_eq_true, Bool.or_eq_false_iff, not_true_eq_false, not_false_eq_true, Int.not_lt, Int.not_le] at hb_; first | done | (exfalso; first | omega | contradiction)) | (case hf => intro hb_; try simp only [pd_true, pd_false, Bool.not_eq_true', Bool.not_eq_false', Bool.and_eq_true, Bool.and_eq_false_iff, Bool.or_eq_true, Bool.or_eq_false_iff, not_true_eq_false, not_false_eq_true, Int.not_lt, Int.not_le] at hb_; first | done | (exfalso; first | omega | contradiction))); intro hb_; try simp only [pd_true, pd_false, Bool.not_eq_true', Bool.not_eq_false', Bool.and_eq_true, Bool.and_eq_false_iff, Bool.or_eq_true, Bool.or_eq_false_iff, not_true_eq_false, not_false_eq_true, Int.not_lt, Int.not_le] at hb_) | ((with_reducible apply XC.cond); (case hc => exact rfl); (first | (case ht => intro hb_; try simp only [pd_true, pd_false, Bool.not_eq_true', Bool.not_eq_false', Bool.and_eq_true, Bool.and_eq_false_iff, Bool.or_eq_true, Bool.or_eq_false_iff, not_true_eq_false, not_false_eq_true, Int.not_lt, Int.not_le] at hb_; first | done | (exfalso; first | omega | contradiction)) | (case hf => intro hb_; try simp only [pd_true, pd_false, Bool.not_eq_true', Bool.not_eq_false', Bool.and_eq_true, Bool.and_eq_false_iff, Bool.or_eq_true, Bool.or_eq_false_iff, not_true_eq_false, not_false_eq_true, Int.not_lt, Int.not_le] at hb_; first | done | (exfalso; first | omega | contradiction))); intro hb_; try simp only [pd_true, pd_false, Bool.not_eq_true', Bool.not_eq_false', Bool.and_eq_true, Bool.and_eq_false_iff, Bool.or_eq_true, Bool.or_eq_false_iff, not_true_eq_false, not_false_eq_true, Int.not_lt, Int.not_le] at hb_))))
  have hnl : (itV vInt (numsW w.1).toNat t i.2).1.length = (numsW w.1).toNat := itV_len _ _ _ _
  generalize itV vInt (numsW w.1).toNat t i.2 = n at *
  have hnp : n.2 ≤ 1000000 := by omega
  rw [kAsk, strOf_eq (isB_ok hwB) (isB_ok (by unfold isB; decide))]
  by_cases h1 : w.1 = wAsk
  · rw [pdt h1]
    (repeat (first | (with_reducible apply XL.op) | ((with_reducible apply XOp.p1); (case hg | hv => exact rfl)) | (with_reducible apply XC.seq) | (with_reducible apply XC.region (Γ := Γ)) | ((with_reducible apply XC.condT); (case hc => exact rfl))))
    have hV0 := hV
    simp only [if_pos h1, if_pos (show w.1 = wAsk ∨ w.1 = wText from .inl h1)] at hV0
    ((with_reducible apply XOp.call (L0 := [VwB vb t n.2]) (hF :=  vNum_fn vb t n.2 hB (by omega) (by omega))); (case hg => exact rfl); (case hc => exact rfl); (case ha => exact rfl); (case hL => exact rfl))
    case hA => exact Known.true
    rintro _ _ ⟨rfl, rfl⟩
    have hsp : (vNum t n.2).2 ≤ n.2 + t.length + 1 := (vWord_len t n.2).2
    generalize vNum t n.2 = sd at *
    (repeat (first | (with_reducible apply XL.op) | ((with_reducible apply XOp.p1); (case hg | hv => exact rfl)) | ((with_reducible apply XOp.store (i := 1)); (case hg | ht | hk | hx | hv | h1 | hi | hs | ha => exact rfl)) | (with_reducible apply XL.nilT) | (with_reducible apply XC.seq) | (with_reducible apply XC.region (Γ := Γ))))
    ((with_reducible apply XOp.call (L0 := [VwB vb t sd.2]) (hF :=  vLit_fn vb t sd.2 hB (by omega) (by omega))); (case hg => exact rfl); (case hc => exact rfl); (case ha => exact rfl); (case hL => exact rfl))
    case hA => exact Known.true
    rintro v1 _ ⟨Fg, rfl, hog⟩
    have hgB := vLit_isB t sd.2
    have hgl := vLit_len t sd.2
    generalize vLit t sd.2 = g at *
    obtain ⟨ag, cg, rfl, _, s1⟩ := own_by hog hgB (by omega)
    (repeat (first | (with_reducible apply XL.op) | ((with_reducible apply XOp.p1); (case hg | hv => exact rfl)) | (with_reducible apply XL.nilT) | (with_reducible apply XC.region (Γ := Γ)) | ((with_reducible apply XOp.pr); (case hg => exact rfl); (case hr => (with_reducible apply PR.toStr); (case hs => exact rfl); (case hk => exact rfl); (case he => exact rfl); (case hek => exact rfl); (case hd => exact rfl); (case hdk => exact rfl); (case hx => exact rfl); (case hl => exact rfl); (case hA => exact  s1.known fun y hy => by simp [hy])))))
    (refine (show XOp _ _ _ _ _ _ _ _ ((VwB vb t g.2 :: Fg) ++ ([RLnB lb w.1 (i.1) nilV (.slice an (numsW w.1).toNat cn) (sd.1) [] nilV, (rs, Obj.cells ⟨lnC [] 0 nilV nilV 0 [] nilV⟩ 36 (0, 0))] ++ Fn)) from XOp.perm (L' :=  [VwB vb t g.2, RLnB lb w.1 (i.1) nilV (.slice an (numsW w.1).toNat cn) (sd.1) [] nilV, (rs, Obj.cells ⟨lnC [] 0 nilV nilV 0 [] nilV⟩ 36 (0, 0))] ++ (Fg ++ Fn)) rfl ?_ (by (first | (with_reducible exact List.Perm.refl _) | refine perm_of_cnt fun p_ => ?_; simp only [List.countP_append, List.countP_cons, List.countP_nil]; omega))))
    (repeat (first | (with_reducible apply XL.op) | ((with_reducible apply XOp.p1); (case hg | hv => exact rfl)) | ((with_reducible apply XOp.load); (case hg | ht | hk | hx => exact rfl); (case hc => exact own_cell (i := 1) rfl rfl)) | ((with_reducible apply XOp.store (i := 1)); (case hg | ht | hk | hx | hv | h1 | hi | hs | ha => exact rfl)) | (with_reducible apply XL.nilT) | (with_reducible apply XC.seq) | (with_reducible apply XC.region (Γ := Γ))))
    rw [strOf_eq (isB_ok hwB) (isB_ok (show isB wAsk by unfold isB; decide)), pdt h1]
    (repeat (first | (with_reducible apply XL.op) | ((with_reducible apply XOp.p1); (case hg | hv => exact rfl)) | ((with_reducible apply XOp.p0); (case hg => exact rfl)) | (with_reducible apply XL.nilT) | (with_reducible apply XC.region (Γ := Γ)) | ((with_reducible apply XC.condT); (case hc => exact rfl))))
    ((with_reducible apply XOp.call (L0 := [VwB vb t g.2]) (hF :=  vLit_fn vb t g.2 hB (by omega) (by omega))); (case hg => exact rfl); (case hc => exact rfl); (case ha => exact rfl); (case hL => exact rfl))
    case hA => exact Known.true
    rintro v2 _ ⟨Ft, rfl, hot⟩
    obtain ⟨at_, ct_, rfl⟩ := hot.val
    have hxl := vLit_len t g.2
    generalize vLit t g.2 = x at *
    (repeat (first | (with_reducible apply XL.op) | ((with_reducible apply XOp.p1); (case hg | hv => exact rfl))))
    (refine (show XOp _ _ _ _ _ _ _ _ ((VwB vb t x.2 :: Ft) ++ ([RLnB lb w.1 (i.1) nilV (.slice an (numsW w.1).toNat cn) (sd.1) g.1 nilV, (rs, Obj.cells ⟨lnC [] 0 nilV nilV 0 [] nilV⟩ 36 (0, 0))] ++ (Fg ++ Fn))) from XOp.perm (L' :=  [VwB vb t x.2, RLnB lb w.1 (i.1) nilV (.slice an (numsW w.1).toNat cn) (sd.1) g.1 nilV, (rs, Obj.cells ⟨lnC [] 0 nilV nilV 0 [] nilV⟩ 36 (0, 0))] ++ (Ft ++ (Fn ++ Fg))) rfl ?_ (by (first | (with_reducible exact List.Perm.refl _) | refine perm_of_cnt fun p_ => ?_; simp only [List.countP_append, List.countP_cons, List.countP_nil]; omega))))
    (repeat (first | ((with_reducible apply XOp.store (i := 1)); (case hg | ht | hk | hx | hv | h1 | hi | hs | ha => exact rfl)) | (with_reducible apply XL.nilT) | (with_reducible apply XC.seq) | (with_reducible apply XC.block)))
    have hSS := vStops_len t (t.length + 1) x.2
    refine XC.loopP (fun k ρ L => ∃ (p : Nat) (acc : List (List Int)) (sv : Value) (G Fs : HL), p ≤ 2000000 ∧ t.length < p + k ∧ acc ++ vStops k t p = vStops (t.length + 1) t x.2 ∧ OwnS 9 1 sv acc.length (strsV acc) Fs ∧ L = [VwB vb t p, RLnB lb w.1 (i.1) (.slice at_ x.1.length ct_) (.slice an (numsW w.1).toNat cn) (sd.1) g.1 sv, (rs, Obj.cells ⟨lnC [] 0 nilV nilV 0 [] nilV⟩ 36 (0, 0))] ++ ((Ft ++ (Fn ++ G)) ++ Fs) ∧ Slots ρ [(0, .string (strOf t)), (2, .pointer (some ⟨rs, 0, none⟩)), (4, .pointer (some ⟨vb, 0, none⟩)), (5, .pointer (some ⟨lb, 0, none⟩))])
      (t.length + 1) ⟨x.2, [], _, Fg, [], by omega, by omega, rfl, OwnS.nil _ _, by rw [List.append_nil]; rfl, rfl, rfl, rfl, rfl, trivial⟩ ?_
    rintro k ρ L ⟨p, acc, sv, G, Fs, hp2, hpk, htot, hos, rfl, hs⟩
    obtain ⟨as_, cs_, rfl⟩ := hos.val
    have hal : acc.length ≤ 8193 := by have h := hSS.1; rw [← htot, List.length_append] at h; omega
    refine XC.slots _ hs ?_
    (repeat (first | (with_reducible apply XL.op) | ((with_reducible apply XOp.p1); (case hg | hv => exact rfl)) | ((with_reducible apply XOp.load); (case hg | ht | hk | hx => exact rfl); (case hc => exact own_cell (i := 1) rfl rfl)) | (with_reducible apply XC.seq) | (with_reducible apply XC.region (Γ := Γ))))
    rw [strOf_eq (isB_ok hwB) (isB_ok (show isB wAsk by unfold isB; decide)), pdt h1]
    (repeat (first | (with_reducible apply XL.op) | ((with_reducible apply XOp.p1); (case hg | hv => exact rfl)) | ((with_reducible apply XOp.load); (case hg | ht | hk | hx => exact rfl); (case hc => exact own_cell (i := 0) rfl rfl)) | (with_reducible apply XL.nilT)))
    rw [hsz]
    by_cases hpt : p < t.length
    · obtain ⟨k, rfl⟩ : ∃ m, k = m + 1 := ⟨k - 1, by omega⟩
      rw [vStops_yes t hpt] at htot
      (repeat (first | (with_reducible apply XL.op) | ((with_reducible apply XOp.p1); (case hg | hv => exact rfl)) | (with_reducible apply XC.seq) | (with_reducible apply XC.region (Γ := Γ)) | (with_reducible apply XQ.skip) | (with_reducible apply XQ.nt) | (with_reducible apply XC.block) | (first | ((with_reducible apply XOp.split); (case hg | hj | hd | hb => exact rfl); (fail_if_success (case hf => exact fun h => Bool.noConfusion h)); (fail_if_success (case ht => exact fun h => Bool.noConfusion h)); (first | (case ht => intro hb_; try simp only [pd_true, pd_false, Bool.not_eq_true', Bool.not_eq_false', Bool.and_eq_true, Bool.and_eq_false_iff, Bool.or_eq_true, Bool.or_eq_false_iff, not_true_eq_false, not_false_eq_true, Int.not_lt, Int.not_le] at hb_; first | done | (exfalso; first | omega | contradiction)) | (case hf => intro hb_; try simp only [pd_true, pd_false, Bool.not_eq_true', Bool.not_eq_false', Bool.and_eq_true, Bool.and_eq_false_iff, Bool.or_eq_true, Bool.or_eq_false_iff, not_true_eq_false, not_false_eq_true, Int.not_lt, Int.not_le] at hb_; first | done | (exfalso; first | omega | contradiction))); intro hb_; try simp only [pd_true, pd_false, Bool.not_eq_true', Bool.not_eq_false', Bool.and_eq_true, Bool.and_eq_false_iff, Bool.or_eq_true, Bool.or_eq_false_iff, not_true_eq_false, not_false_eq_true, Int.not_lt, Int.not_le] at hb_) | ((with_reducible apply XP.split); (case ho | hg | hj | hd | hb => exact rfl); (fail_if_success (case hf => exact fun h => Bool.noConfusion h)); (fail_if_success (case ht => exact fun h => Bool.noConfusion h)); (first | (case ht => intro hb_; try simp only [pd_true, pd_false, Bool.not_eq_true', Bool.not_eq_false', Bool.and_eq_true, Bool.and_eq_false_iff, Bool.or_eq_true, Bool.or_eq_false_iff, not_true_eq_false, not_false_eq_true, Int.not_lt, Int.not_le] at hb_; first | done | (exfalso; first | omega | contradiction)) | (case hf => intro hb_; try simp only [pd_true, pd_false, Bool.not_eq_true', Bool.not_eq_false', Bool.and_eq_true, Bool.and_eq_false_iff, Bool.or_eq_true, Bool.or_eq_false_iff, not_true_eq_false, not_false_eq_true, Int.not_lt, Int.not_le] at hb_; first | done | (exfalso; first | omega | contradiction))); intro hb_; try simp only [pd_true, pd_false, Bool.not_eq_true', Bool.not_eq_false', Bool.and_eq_true, Bool.and_eq_false_iff, Bool.or_eq_true, Bool.or_eq_false_iff, not_true_eq_false, not_false_eq_true, Int.not_lt, Int.not_le] at hb_) | ((with_reducible apply XC.cond); (case hc => exact rfl); (first | (case ht => intro hb_; try simp only [pd_true, pd_false, Bool.not_eq_true', Bool.not_eq_false', Bool.and_eq_true, Bool.and_eq_false_iff, Bool.or_eq_true, Bool.or_eq_false_iff, not_true_eq_false, not_false_eq_true, Int.not_lt, Int.not_le] at hb_; first | done | (exfalso; first | omega | contradiction)) | (case hf => intro hb_; try simp only [pd_true, pd_false, Bool.not_eq_true', Bool.not_eq_false', Bool.and_eq_true, Bool.and_eq_false_iff, Bool.or_eq_true, Bool.or_eq_false_iff, not_true_eq_false, not_false_eq_true, Int.not_lt, Int.not_le] at hb_; first | done | (exfalso; first | omega | contradiction))); intro hb_; try simp only [pd_true, pd_false, Bool.not_eq_true', Bool.not_eq_false', Bool.and_eq_true, Bool.and_eq_false_iff, Bool.or_eq_true, Bool.or_eq_false_iff, not_true_eq_false, not_false_eq_true, Int.not_lt, Int.not_le] at hb_))))
      ((with_reducible apply XOp.call (L0 := [VwB vb t p]) (hF :=  vLit_fn vb t p hB (by omega) (by omega))); (case hg => exact rfl); (case hc => exact rfl); (case ha => exact rfl); (case hL => exact rfl))
      case hA => exact Known.true
      rintro v4 _ ⟨F4, rfl, hown4⟩
      have hg4 := vLit_isB t p
      have hl4 := vLit_len t p
      generalize vLit t p = q at *
      obtain ⟨a5, c5, rfl, _, s4⟩ := own_by hown4 hg4 (by omega)
      (repeat (first | (with_reducible apply XL.op) | ((with_reducible apply XOp.p1); (case hg | hv => exact rfl)) | (with_reducible apply XL.nilT) | (with_reducible apply XC.region (Γ := Γ))))
      (refine (show XOp _ _ _ _ _ _ _ _ ((VwB vb t q.2 :: F4) ++ ([RLnB lb w.1 (i.1) (.slice at_ x.1.length ct_) (.slice an (numsW w.1).toNat cn) (sd.1) g.1 (.slice as_ acc.length cs_), (rs, Obj.cells ⟨lnC [] 0 nilV nilV 0 [] nilV⟩ 36 (0, 0))] ++ ((Ft ++ (Fn ++ G)) ++ Fs))) from XOp.perm (L' :=  [VwB vb t q.2, RLnB lb w.1 (i.1) (.slice at_ x.1.length ct_) (.slice an (numsW w.1).toNat cn) (sd.1) g.1 (.slice as_ acc.length cs_), (rs, Obj.cells ⟨lnC [] 0 nilV nilV 0 [] nilV⟩ 36 (0, 0))] ++ ((Ft ++ (Fn ++ (F4 ++ G))) ++ Fs)) rfl ?_ (by (first | (with_reducible exact List.Perm.refl _) | refine perm_of_cnt fun p_ => ?_; simp only [List.countP_append, List.countP_cons, List.countP_nil]; omega))))
      (repeat (first | (with_reducible apply XL.op) | ((with_reducible apply XOp.p1); (case hg | hv => exact rfl)) | ((with_reducible apply XOp.load); (case hg | ht | hk | hx => exact rfl); (case hc => exact own_cell (i := 1) rfl rfl)) | ((with_reducible apply XOp.pr); (case hg => exact rfl); (case hr => (with_reducible apply PR.toStr); (case hs => exact rfl); (case hk => exact rfl); (case he => exact rfl); (case hek => exact rfl); (case hd => exact rfl); (case hdk => exact rfl); (case hx => exact rfl); (case hl => exact rfl); (case hA => exact  s4.known fun y hy => by simp [hy])))))
      ((with_reducible apply XOp.buildSlice); (case hg | ht | hk | he | hz | hzl | hf => exact rfl); intro bb)
      (repeat ((with_reducible apply XL.op)))
      (refine (show XOp _ _ _ _ _ _ _ _ ((bb, Obj.cells ⟨[.string (strOf q.1)]⟩ 9 (0, 0)) :: ([VwB vb t q.2, RLnB lb w.1 (i.1) (.slice at_ x.1.length ct_) (.slice an (numsW w.1).toNat cn) (sd.1) g.1 (.slice as_ acc.length cs_), (rs, Obj.cells ⟨lnC [] 0 nilV nilV 0 [] nilV⟩ 36 (0, 0))] ++ ((Ft ++ (Fn ++ (F4 ++ G))) ++ Fs))) from XOp.perm (L' :=  (bb, Obj.cells ⟨[.string (strOf q.1)]⟩ 9 (0, 0)) :: (([VwB vb t q.2, RLnB lb w.1 (i.1) (.slice at_ x.1.length ct_) (.slice an (numsW w.1).toNat cn) (sd.1) g.1 (.slice as_ acc.length cs_), (rs, Obj.cells ⟨lnC [] 0 nilV nilV 0 [] nilV⟩ 36 (0, 0))] ++ (Ft ++ (Fn ++ (F4 ++ G)))) ++ Fs)) rfl ?_ (by (first | (with_reducible exact List.Perm.refl _) | refine perm_of_cnt fun p_ => ?_; simp only [List.countP_append, List.countP_cons, List.countP_nil]; omega))))
      ((with_reducible apply XOp.append1R (R := [VwB vb t q.2, RLnB lb w.1 (i.1) (.slice at_ x.1.length ct_) (.slice an (numsW w.1).toNat cn) (sd.1) g.1 (.slice as_ acc.length cs_), (rs, Obj.cells ⟨lnC [] 0 nilV nilV 0 [] nilV⟩ 36 (0, 0))] ++ (Ft ++ (Fn ++ (F4 ++ G))))); (case hg => exact rfl); (case ht => exact rfl); (case hk => exact rfl); (case he => exact rfl); (case hown => exact hos); (case hs => exact rfl); (case hx => exact rfl); (case hL => exact rfl); (case hl => exact rfl); (case h1 => exact rfl); (case hz => exact rfl); (case hsz => exact Nat.zero_lt_succ _); (case hk0 => exact Nat.zero_lt_succ _); (case h63 => simp only [maxLen]; omega); (case hb => simp only []; omega); intro v_ F_ hown_; obtain ⟨a_, c_, rfl⟩ := hown_.val)
      (repeat (first | (with_reducible apply XL.op) | ((with_reducible apply XOp.p1); (case hg | hv => exact rfl)) | ((with_reducible apply XOp.store (i := 1)); (case hg | ht | hk | hx | hv | h1 | hi | hs | ha => exact rfl)) | (with_reducible apply XL.nilQ) | (with_reducible apply XQ.nt) | (with_reducible apply XQ.nb)))
      refine ⟨k, by omega, _, .of (List.Sublist.refl _), q.2, acc ++ [q.1], _, F4 ++ G, F_, by omega, by omega, by rw [← htot]; simp, hown_.conv (by simp) (by simp [strsV, zerosL]), rfl, rfl, rfl, rfl, rfl, trivial⟩
    rw [vStops_no t hpt, List.append_nil] at htot
    (repeat (first | (with_reducible apply XL.op) | ((with_reducible apply XOp.loadO (i := 1)); (case hg | ht | hk | hx | hi | hc => exact rfl)) | (with_reducible apply XC.seq) | (with_reducible apply XC.region (Γ := Γ)) | (with_reducible apply XQ.exit) | (with_reducible apply XQ.nt) | (with_reducible apply XQ.et) | ((with_reducible apply XQ.eb); (case hb => exact rfl)) | (first | ((with_reducible apply XOp.split); (case hg | hj | hd | hb => exact rfl); (fail_if_success (case hf => exact fun h => Bool.noConfusion h)); (fail_if_success (case ht => exact fun h => Bool.noConfusion h)); (first | (case ht => intro hb_; try simp only [pd_true, pd_false, Bool.not_eq_true', Bool.not_eq_false', Bool.and_eq_true, Bool.and_eq_false_iff, Bool.or_eq_true, Bool.or_eq_false_iff, not_true_eq_false, not_false_eq_true, Int.not_lt, Int.not_le] at hb_; first | done | (exfalso; first | omega | contradiction)) | (case hf => intro hb_; try simp only [pd_true, pd_false, Bool.not_eq_true', Bool.not_eq_false', Bool.and_eq_true, Bool.and_eq_false_iff, Bool.or_eq_true, Bool.or_eq_false_iff, not_true_eq_false, not_false_eq_true, Int.not_lt, Int.not_le] at hb_; first | done | (exfalso; first | omega | contradiction))); intro hb_; try simp only [pd_true, pd_false, Bool.not_eq_true', Bool.not_eq_false', Bool.and_eq_true, Bool.and_eq_false_iff, Bool.or_eq_true, Bool.or_eq_false_iff, not_true_eq_false, not_false_eq_true, Int.not_lt, Int.not_le] at hb_) | ((with_reducible apply XP.split); (case ho | hg | hj | hd | hb => exact rfl); (fail_if_success (case hf => exact fun h => Bool.noConfusion h)); (fail_if_success (case ht => exact fun h => Bool.noConfusion h)); (first | (case ht => intro hb_; try simp only [pd_true, pd_false, Bool.not_eq_true', Bool.not_eq_false', Bool.and_eq_true, Bool.and_eq_false_iff, Bool.or_eq_true, Bool.or_eq_false_iff, not_true_eq_false, not_false_eq_true, Int.not_lt, Int.not_le] at hb_; first | done | (exfalso; first | omega | contradiction)) | (case hf => intro hb_; try simp only [pd_true, pd_false, Bool.not_eq_true', Bool.not_eq_false', Bool.and_eq_true, Bool.and_eq_false_iff, Bool.or_eq_true, Bool.or_eq_false_iff, not_true_eq_false, not_false_eq_true, Int.not_lt, Int.not_le] at hb_; first | done | (exfalso; first | omega | contradiction))); intro hb_; try simp only [pd_true, pd_false, Bool.not_eq_true', Bool.not_eq_false', Bool.and_eq_true, Bool.and_eq_false_iff, Bool.or_eq_true, Bool.or_eq_false_iff, not_true_eq_false, not_false_eq_true, Int.not_lt, Int.not_le] at hb_) | ((with_reducible apply XC.cond); (case hc => exact rfl); (first | (case ht => intro hb_; try simp only [pd_true, pd_false, Bool.not_eq_true', Bool.not_eq_false', Bool.and_eq_true, Bool.and_eq_false_iff, Bool.or_eq_true, Bool.or_eq_false_iff, not_true_eq_false, not_false_eq_true, Int.not_lt, Int.not_le] at hb_; first | done | (exfalso; first | omega | contradiction)) | (case hf => intro hb_; try simp only [pd_true, pd_false, Bool.not_eq_true', Bool.not_eq_false', Bool.and_eq_true, Bool.and_eq_false_iff, Bool.or_eq_true, Bool.or_eq_false_iff, not_true_eq_false, not_false_eq_true, Int.not_lt, Int.not_le] at hb_; first | done | (exfalso; first | omega | contradiction))); intro hb_; try simp only [pd_true, pd_false, Bool.not_eq_true', Bool.not_eq_false', Bool.and_eq_true, Bool.and_eq_false_iff, Bool.or_eq_true, Bool.or_eq_false_iff, not_true_eq_false, not_false_eq_true, Int.not_lt, Int.not_le] at hb_))))
    have hVl : viewL t = ⟨w.1, i.1, x.1, n.1, sd.1, g.1, acc⟩ := by rw [hV0, htot]
    (repeat (first | (with_reducible apply XL.nilT) | (with_reducible apply XC.seq) | (with_reducible apply XC.region (Γ := Γ)) | (with_reducible apply XQ.nt) | (with_reducible apply XQ.nb)))
    try (with_reducible apply XL.op)
    (refine (show XOp _ _ _ _ _ _ _ _ ([VwB vb t p, RLnB lb w.1 (i.1) (.slice at_ x.1.length ct_) (.slice an (numsW w.1).toNat cn) (sd.1) g.1 (.slice as_ acc.length cs_), (rs, Obj.cells ⟨lnC [] 0 nilV nilV 0 [] nilV⟩ 36 (0, 0))] ++ ((Ft ++ (Fn ++ G)) ++ Fs)) from XOp.perm (L' :=  [VwB vb t p, RLnB lb w.1 (i.1) (.slice at_ x.1.length ct_) (.slice an (numsW w.1).toNat cn) (sd.1) g.1 (.slice as_ acc.length cs_), (rs, Obj.cells ⟨lnC [] 0 nilV nilV 0 [] nilV⟩ 36 (0, 0))] ++ (Ft ++ (Fn ++ (Fs ++ G)))) rfl ?_ (by (first | (with_reducible exact List.Perm.refl _) | refine perm_of_cnt fun p_ => ?_; simp only [List.countP_append, List.countP_cons, List.countP_nil]; omega))))
    rw [hVl] at hvok hvf hvt hvs hv2 hv3
    obtain ⟨ta, tc, na, nc, sa, sc, et, en, es, k1, k2, k3⟩ := ln_held hvok ⟨by omega, by show n.1.length ≤ _; omega, by omega⟩ hot (hown.conv hnl.symm rfl) hos
    obtain ⟨rfl, _, rfl⟩ := Value.slice.inj et
    obtain ⟨rfl, _, rfl⟩ := Value.slice.inj en
    obtain ⟨rfl, _, rfl⟩ := Value.slice.inj es
    simp only [] at k1 k2 k3
    skip
    have hrp := refPrint_fn ⟨w.1, i.1, x.1, n.1, sd.1, g.1, acc⟩ hvok hvf at_ an as_ ct_ cn cs_
    simp only [] at hrp
    rw [hnl] at hrp
    ((with_reducible apply XOp.callQ (hF := hrp)); (case hg => exact rfl); (case hc => exact rfl); (case ha => exact rfl); try (case hA => exact Known.true))
    case hA => exact (k1.known fun y hy => by first | (simp [hy]; done) | cases hy).and ((k2.known fun y hy => by first | (simp [hy]; done) | cases hy).and (k3.known fun y hy => by first | (simp [hy]; done) | cases hy))
    rintro _ rfl
    cases hpr : printS ⟨w.1, i.1, x.1, n.1, sd.1, g.1, acc⟩ with
    | none =>
      have hp := hv3 (by rw [hpr]; simp)
      simp only []
      (repeat (first | (with_reducible apply XL.op) | ((with_reducible apply XOp.p1); (case hg | hv => exact rfl)) | ((with_reducible apply XOp.p0); (case hg => exact rfl)) | ((with_reducible apply XOp.storeN (i := 2)); (case hg | ht | hx | hv' | hk | h1 | hi | hs | ha => exact rfl)) | ((with_reducible apply XOp.pr); (case hg => exact rfl); (case hr => ((with_reducible apply PR.build); (case ht | hk | hok | hz | hf => exact rfl)))) | (with_reducible apply XL.nilT) | (with_reducible apply XC.seq) | (with_reducible apply XC.region (Γ := Γ)) | (with_reducible apply XQ.ret) | (with_reducible apply XQ.rt) | ((with_reducible apply XC.condT); (case hc => exact rfl)) | (first | ((with_reducible apply XOp.split); (case hg | hj | hd | hb => exact rfl); (fail_if_success (case hf => exact fun h => Bool.noConfusion h)); (fail_if_success (case ht => exact fun h => Bool.noConfusion h)); (first | (case ht => intro hb_; try simp only [pd_true, pd_false, Bool.not_eq_true', Bool.not_eq_false', Bool.and_eq_true, Bool.and_eq_false_iff, Bool.or_eq_true, Bool.or_eq_false_iff, not_true_eq_false, not_false_eq_true, Int.not_lt, Int.not_le] at hb_; first | done | (exfalso; first | omega | contradiction)) | (case hf => intro hb_; try simp only [pd_true, pd_false, Bool.not_eq_true', Bool.not_eq_false', Bool.and_eq_true, Bool.and_eq_false_iff, Bool.or_eq_true, Bool.or_eq_false_iff, not_true_eq_false, not_false_eq_true, Int.not_lt, Int.not_le] at hb_; first | done | (exfalso; first | omega | contradiction))); intro hb_; try simp only [pd_true, pd_false, Bool.not_eq_true', Bool.not_eq_false', Bool.and_eq_true, Bool.and_eq_false_iff, Bool.or_eq_true, Bool.or_eq_false_iff, not_true_eq_false, not_false_eq_true, Int.not_lt, Int.not_le] at hb_) | ((with_reducible apply XP.split); (case ho | hg | hj | hd | hb => exact rfl); (fail_if_success (case hf => exact fun h => Bool.noConfusion h)); (fail_if_success (case ht => exact fun h => Bool.noConfusion h)); (first | (case ht => intro hb_; try simp only [pd_true, pd_false, Bool.not_eq_true', Bool.not_eq_false', Bool.and_eq_true, Bool.and_eq_false_iff, Bool.or_eq_true, Bool.or_eq_false_iff, not_true_eq_false, not_false_eq_true, Int.not_lt, Int.not_le] at hb_; first | done | (exfalso; first | omega | contradiction)) | (case hf => intro hb_; try simp only [pd_true, pd_false, Bool.not_eq_true', Bool.not_eq_false', Bool.and_eq_true, Bool.and_eq_false_iff, Bool.or_eq_true, Bool.or_eq_false_iff, not_true_eq_false, not_false_eq_true, Int.not_lt, Int.not_le] at hb_; first | done | (exfalso; first | omega | contradiction))); intro hb_; try simp only [pd_true, pd_false, Bool.not_eq_true', Bool.not_eq_false', Bool.and_eq_true, Bool.and_eq_false_iff, Bool.or_eq_true, Bool.or_eq_false_iff, not_true_eq_false, not_false_eq_true, Int.not_lt, Int.not_le] at hb_) | ((with_reducible apply XC.cond); (case hc => exact rfl); (first | (case ht => intro hb_; try simp only [pd_true, pd_false, Bool.not_eq_true', Bool.not_eq_false', Bool.and_eq_true, Bool.and_eq_false_iff, Bool.or_eq_true, Bool.or_eq_false_iff, not_true_eq_false, not_false_eq_true, Int.not_lt, Int.not_le] at hb_; first | done | (exfalso; first | omega | contradiction)) | (case hf => intro hb_; try simp only [pd_true, pd_false, Bool.not_eq_true', Bool.not_eq_false', Bool.and_eq_true, Bool.and_eq_false_iff, Bool.or_eq_true, Bool.or_eq_false_iff, not_true_eq_false, not_false_eq_true, Int.not_lt, Int.not_le] at hb_; first | done | (exfalso; first | omega | contradiction))); intro hb_; try simp only [pd_true, pd_false, Bool.not_eq_true', Bool.not_eq_false', Bool.and_eq_true, Bool.and_eq_false_iff, Bool.or_eq_true, Bool.or_eq_false_iff, not_true_eq_false, not_false_eq_true, Int.not_lt, Int.not_le] at hb_))))
      ((with_reducible apply XQ.retE); (case hr => exact .row rfl (by kernel_rfl) (by kernel_rfl) (own_row (i := 2) (m := 7) rfl rfl) (.t rfl .nil)))
      refine ⟨[], .of (List.nil_sublist _), ?_⟩
      unfold PrsR; rw [hp]; exact ⟨rfl, rfl⟩
    | some s =>
      simp only []
      have hsB := print_isB hvok hpr
      (repeat (first | (with_reducible apply XL.op) | ((with_reducible apply XOp.p1); (case hg | hv => exact rfl)) | (with_reducible apply XL.nilT) | (with_reducible apply XC.seq) | (with_reducible apply XC.region (Γ := Γ)) | (first | ((with_reducible apply XOp.split); (case hg | hj | hd | hb => exact rfl); (fail_if_success (case hf => exact fun h => Bool.noConfusion h)); (fail_if_success (case ht => exact fun h => Bool.noConfusion h)); (first | (case ht => intro hb_; try simp only [pd_true, pd_false, Bool.not_eq_true', Bool.not_eq_false', Bool.and_eq_true, Bool.and_eq_false_iff, Bool.or_eq_true, Bool.or_eq_false_iff, not_true_eq_false, not_false_eq_true, Int.not_lt, Int.not_le] at hb_; first | done | (exfalso; first | omega | contradiction)) | (case hf => intro hb_; try simp only [pd_true, pd_false, Bool.not_eq_true', Bool.not_eq_false', Bool.and_eq_true, Bool.and_eq_false_iff, Bool.or_eq_true, Bool.or_eq_false_iff, not_true_eq_false, not_false_eq_true, Int.not_lt, Int.not_le] at hb_; first | done | (exfalso; first | omega | contradiction))); intro hb_; try simp only [pd_true, pd_false, Bool.not_eq_true', Bool.not_eq_false', Bool.and_eq_true, Bool.and_eq_false_iff, Bool.or_eq_true, Bool.or_eq_false_iff, not_true_eq_false, not_false_eq_true, Int.not_lt, Int.not_le] at hb_) | ((with_reducible apply XP.split); (case ho | hg | hj | hd | hb => exact rfl); (fail_if_success (case hf => exact fun h => Bool.noConfusion h)); (fail_if_success (case ht => exact fun h => Bool.noConfusion h)); (first | (case ht => intro hb_; try simp only [pd_true, pd_false, Bool.not_eq_true', Bool.not_eq_false', Bool.and_eq_true, Bool.and_eq_false_iff, Bool.or_eq_true, Bool.or_eq_false_iff, not_true_eq_false, not_false_eq_true, Int.not_lt, Int.not_le] at hb_; first | done | (exfalso; first | omega | contradiction)) | (case hf => intro hb_; try simp only [pd_true, pd_false, Bool.not_eq_true', Bool.not_eq_false', Bool.and_eq_true, Bool.and_eq_false_iff, Bool.or_eq_true, Bool.or_eq_false_iff, not_true_eq_false, not_false_eq_true, Int.not_lt, Int.not_le] at hb_; first | done | (exfalso; first | omega | contradiction))); intro hb_; try simp only [pd_true, pd_false, Bool.not_eq_true', Bool.not_eq_false', Bool.and_eq_true, Bool.and_eq_false_iff, Bool.or_eq_true, Bool.or_eq_false_iff, not_true_eq_false, not_false_eq_true, Int.not_lt, Int.not_le] at hb_) | ((with_reducible apply XC.cond); (case hc => exact rfl); (first | (case ht => intro hb_; try simp only [pd_true, pd_false, Bool.not_eq_true', Bool.not_eq_false', Bool.and_eq_true, Bool.and_eq_false_iff, Bool.or_eq_true, Bool.or_eq_false_iff, not_true_eq_false, not_false_eq_true, Int.not_lt, Int.not_le] at hb_; first | done | (exfalso; first | omega | contradiction)) | (case hf => intro hb_; try simp only [pd_true, pd_false, Bool.not_eq_true', Bool.not_eq_false', Bool.and_eq_true, Bool.and_eq_false_iff, Bool.or_eq_true, Bool.or_eq_false_iff, not_true_eq_false, not_false_eq_true, Int.not_lt, Int.not_le] at hb_; first | done | (exfalso; first | omega | contradiction))); intro hb_; try simp only [pd_true, pd_false, Bool.not_eq_true', Bool.not_eq_false', Bool.and_eq_true, Bool.and_eq_false_iff, Bool.or_eq_true, Bool.or_eq_false_iff, not_true_eq_false, not_false_eq_true, Int.not_lt, Int.not_le] at hb_))))
      rw [strOf_eq (isB_ok hsB) (isB_ok hB)]
      by_cases hst : s = t
      · have hp := hv2 (by rw [hpr, hst])
        rw [pdt hst]
        (repeat (first | (with_reducible apply XL.op) | ((with_reducible apply XOp.p1); (case hg | hv => exact rfl)) | ((with_reducible apply XOp.loadO (i := 1)); (case hg | ht | hk | hx | hi | hc => exact rfl)) | ((with_reducible apply XOp.storeN (i := 2)); (case hg | ht | hx | hv' | hk | h1 | hi | hs | ha => exact rfl)) | (with_reducible apply XL.nilT) | (with_reducible apply XC.seq) | (with_reducible apply XC.region (Γ := Γ)) | (with_reducible apply XQ.skip) | (with_reducible apply XQ.ret) | (with_reducible apply XQ.nt) | ((with_reducible apply XC.condF); (case hc => exact rfl))))
        ((with_reducible apply XQ.retE); (case hr => exact .row rfl (by kernel_rfl) (by kernel_rfl) (own_row (i := 2) (m := 7) rfl rfl) (.t rfl .nil)))
        refine ⟨Ft ++ (Fn ++ Fs), .of ?_, ?_⟩
        · refine List.Sublist.cons _ (List.Sublist.cons _ (List.Sublist.cons _ ?_))
          first | exact List.Sublist.append (List.Sublist.refl _) (List.Sublist.append (List.Sublist.refl _) (List.sublist_append_left _ _)) | (show List.Sublist ([] ++ (Fn ++ [])) ([] ++ (Fn ++ ([] ++ []))); exact List.Sublist.refl _) | (simp; done)
        unfold PrsR; rw [hp]
        exact ⟨_, _, _, Ft, Fn, Fs, rfl, hot, hown.conv hnl.symm rfl, hos, rfl⟩
      · have hp := hv3 (by rw [hpr]; simp [hst])
        rw [pdf hst]
        (repeat (first | (with_reducible apply XL.op) | ((with_reducible apply XOp.p1); (case hg | hv => exact rfl)) | ((with_reducible apply XOp.storeN (i := 2)); (case hg | ht | hx | hv' | hk | h1 | hi | hs | ha => exact rfl)) | ((with_reducible apply XOp.pr); (case hg => exact rfl); (case hr => ((with_reducible apply PR.build); (case ht | hk | hok | hz | hf => exact rfl)))) | (with_reducible apply XL.nilT) | (with_reducible apply XC.seq) | (with_reducible apply XC.region (Γ := Γ)) | (with_reducible apply XQ.ret) | (with_reducible apply XQ.rt) | ((with_reducible apply XC.condT); (case hc => exact rfl))))
        ((with_reducible apply XQ.retE); (case hr => exact .row rfl (by kernel_rfl) (by kernel_rfl) (own_row (i := 2) (m := 7) rfl rfl) (.t rfl .nil)))
        refine ⟨[], .of (List.nil_sublist _), ?_⟩
        unfold PrsR; rw [hp]; exact ⟨rfl, rfl⟩
  rw [pdf h1]
  (repeat (first | (with_reducible apply XL.op) | ((with_reducible apply XOp.p1); (case hg | hv => exact rfl)) | ((with_reducible apply XOp.load); (case hg | ht | hk | hx => exact rfl); (case hc => exact own_cell (i := 1) rfl rfl)) | (with_reducible apply XC.seq) | (with_reducible apply XC.region (Γ := Γ)) | (with_reducible apply XQ.skip) | (with_reducible apply XQ.nt) | ((with_reducible apply XC.condF); (case hc => exact rfl))))
  rw [strOf_eq (isB_ok hwB) (isB_ok (show isB wAsk by unfold isB; decide)), pdf h1]
  (repeat (first | (with_reducible apply XL.op) | ((with_reducible apply XOp.p1); (case hg | hv => exact rfl)) | ((with_reducible apply XOp.load); (case hg | ht | hk | hx => exact rfl); (case hc => exact own_cell (i := 1) rfl rfl)) | (with_reducible apply XL.nilT)))
  by_cases h2 : w.1 = wText
  · rw [kText, strOf_eq (isB_ok hwB) (isB_ok (show isB wText by unfold isB; decide)), pdt h2]
    have hVl : viewL t = ⟨w.1, i.1, (vLit t n.2).1, n.1, 0, [], []⟩ := by rw [hV]; simp only [if_neg h1, if_pos (show w.1 = wAsk ∨ w.1 = wText from .inr h2)]
    have hos : OwnS 9 1 nilV ([] : List (List Int)).length (strsV []) [] := OwnS.nil _ _
    (repeat (first | (with_reducible apply XL.op) | ((with_reducible apply XOp.p1); (case hg | hv => exact rfl)) | (with_reducible apply XC.region (Γ := Γ)) | ((with_reducible apply XC.condT); (case hc => exact rfl))))
    ((with_reducible apply XOp.call (L0 := [VwB vb t n.2]) (hF :=  vLit_fn vb t n.2 hB (by omega) (by omega))); (case hg => exact rfl); (case hc => exact rfl); (case ha => exact rfl); (case hL => exact rfl))
    case hA => exact Known.true
    rintro v _ ⟨Ft, rfl, hot⟩
    obtain ⟨at_, ct_, rfl⟩ := hot.val
    generalize vLit t n.2 = x at *
    (repeat (first | (with_reducible apply XL.op) | ((with_reducible apply XOp.p1); (case hg | hv => exact rfl))))
    (refine (show XOp _ _ _ _ _ _ _ _ ((VwB vb t x.2 :: Ft) ++ ([RLnB lb w.1 (i.1) nilV (.slice an (numsW w.1).toNat cn) (0) [] nilV, (rs, Obj.cells ⟨lnC [] 0 nilV nilV 0 [] nilV⟩ 36 (0, 0))] ++ Fn)) from XOp.perm (L' :=  [VwB vb t x.2, RLnB lb w.1 (i.1) nilV (.slice an (numsW w.1).toNat cn) (0) [] nilV, (rs, Obj.cells ⟨lnC [] 0 nilV nilV 0 [] nilV⟩ 36 (0, 0))] ++ (Ft ++ Fn)) rfl ?_ (by (first | (with_reducible exact List.Perm.refl _) | refine perm_of_cnt fun p_ => ?_; simp only [List.countP_append, List.countP_cons, List.countP_nil]; omega))))
    (repeat (first | ((with_reducible apply XOp.store (i := 1)); (case hg | ht | hk | hx | hv | h1 | hi | hs | ha => exact rfl)) | (with_reducible apply XL.nilT) | (with_reducible apply XC.seq) | (with_reducible apply XC.block)))
    refine XC.loopP (fun k ρ L => k = 0 ∧ L = [VwB vb t x.2, RLnB lb w.1 (i.1) (.slice at_ x.1.length ct_) (.slice an (numsW w.1).toNat cn) (0) [] nilV, (rs, Obj.cells ⟨lnC [] 0 nilV nilV 0 [] nilV⟩ 36 (0, 0))] ++ (Ft ++ Fn) ∧ Slots ρ [(0, .string (strOf t)), (2, .pointer (some ⟨rs, 0, none⟩)), (4, .pointer (some ⟨vb, 0, none⟩)), (5, .pointer (some ⟨lb, 0, none⟩))]) 0 ⟨rfl, rfl, rfl, rfl, rfl, rfl, trivial⟩ ?_
    rintro k ρ L ⟨rfl, rfl, hs⟩
    refine XC.slots _ hs ?_
    (repeat (first | (with_reducible apply XL.op) | ((with_reducible apply XOp.p1); (case hg | hv => exact rfl)) | ((with_reducible apply XOp.load); (case hg | ht | hk | hx => exact rfl); (case hc => exact own_cell (i := 1) rfl rfl)) | (with_reducible apply XC.seq) | (with_reducible apply XC.region (Γ := Γ))))
    rw [strOf_eq (isB_ok hwB) (isB_ok (show isB wAsk by unfold isB; decide)), pdf h1]
    (repeat (first | (with_reducible apply XL.op) | ((with_reducible apply XOp.p1); (case hg | hv => exact rfl)) | ((with_reducible apply XOp.p0); (case hg => exact rfl)) | ((with_reducible apply XOp.loadO (i := 1)); (case hg | ht | hk | hx | hi | hc => exact rfl)) | (with_reducible apply XL.nilT) | (with_reducible apply XC.seq) | (with_reducible apply XC.region (Γ := Γ)) | (with_reducible apply XQ.exit) | (with_reducible apply XQ.nt) | (with_reducible apply XQ.et) | ((with_reducible apply XQ.eb); (case hb => exact rfl)) | ((with_reducible apply XC.condF); (case hc => exact rfl))))
    (repeat (first | (with_reducible apply XL.nilT) | (with_reducible apply XC.seq) | (with_reducible apply XC.region (Γ := Γ)) | (with_reducible apply XQ.nt) | (with_reducible apply XQ.nb)))
    try (with_reducible apply XL.op)
    (refine (show XOp _ _ _ _ _ _ _ _ ([VwB vb t x.2, RLnB lb w.1 (i.1) (.slice at_ x.1.length ct_) (.slice an (numsW w.1).toNat cn) (0) [] nilV, (rs, Obj.cells ⟨lnC [] 0 nilV nilV 0 [] nilV⟩ 36 (0, 0))] ++ (Ft ++ Fn)) from XOp.perm (L' :=  [VwB vb t x.2, RLnB lb w.1 (i.1) (.slice at_ x.1.length ct_) (.slice an (numsW w.1).toNat cn) (0) [] nilV, (rs, Obj.cells ⟨lnC [] 0 nilV nilV 0 [] nilV⟩ 36 (0, 0))] ++ (Ft ++ (Fn ++ ([] ++ [])))) rfl ?_ (by (first | (with_reducible exact List.Perm.refl _) | refine perm_of_cnt fun p_ => ?_; simp only [List.countP_append, List.countP_cons, List.countP_nil]; omega))))
    rw [hVl] at hvok hvf hvt hvs hv2 hv3
    obtain ⟨ta, tc, na, nc, sa, sc, et, en, es, k1, k2, k3⟩ := ln_held hvok ⟨by omega, by show n.1.length ≤ _; omega, by omega⟩ hot (hown.conv hnl.symm rfl) hos
    obtain ⟨rfl, _, rfl⟩ := Value.slice.inj et
    obtain ⟨rfl, _, rfl⟩ := Value.slice.inj en
    obtain ⟨rfl, _, rfl⟩ := Value.slice.inj es
    simp only [] at k1 k2 k3
    skip
    have hrp := refPrint_fn ⟨w.1, i.1, x.1, n.1, 0, [], []⟩ hvok hvf at_ an none ct_ cn 0
    simp only [] at hrp
    rw [hnl] at hrp
    ((with_reducible apply XOp.callQ (hF := hrp)); (case hg => exact rfl); (case hc => exact rfl); (case ha => exact rfl); try (case hA => exact Known.true))
    case hA => exact (k1.known fun y hy => by first | (simp [hy]; done) | cases hy).and ((k2.known fun y hy => by first | (simp [hy]; done) | cases hy).and (k3.known fun y hy => by first | (simp [hy]; done) | cases hy))
    rintro _ rfl
    cases hpr : printS ⟨w.1, i.1, x.1, n.1, 0, [], []⟩ with
    | none =>
      have hp := hv3 (by rw [hpr]; simp)
      simp only []
      (repeat (first | (with_reducible apply XL.op) | ((with_reducible apply XOp.p1); (case hg | hv => exact rfl)) | ((with_reducible apply XOp.p0); (case hg => exact rfl)) | ((with_reducible apply XOp.storeN (i := 2)); (case hg | ht | hx | hv' | hk | h1 | hi | hs | ha => exact rfl)) | ((with_reducible apply XOp.pr); (case hg => exact rfl); (case hr => ((with_reducible apply PR.build); (case ht | hk | hok | hz | hf => exact rfl)))) | (with_reducible apply XL.nilT) | (with_reducible apply XC.seq) | (with_reducible apply XC.region (Γ := Γ)) | (with_reducible apply XQ.ret) | (with_reducible apply XQ.rt) | ((with_reducible apply XC.condT); (case hc => exact rfl)) | (first | ((with_reducible apply XOp.split); (case hg | hj | hd | hb => exact rfl); (fail_if_success (case hf => exact fun h => Bool.noConfusion h)); (fail_if_success (case ht => exact fun h => Bool.noConfusion h)); (first | (case ht => intro hb_; try simp only [pd_true, pd_false, Bool.not_eq_true', Bool.not_eq_false', Bool.and_eq_true, Bool.and_eq_false_iff, Bool.or_eq_true, Bool.or_eq_false_iff, not_true_eq_false, not_false_eq_true, Int.not_lt, Int.not_le] at hb_; first | done | (exfalso; first | omega | contradiction)) | (case hf => intro hb_; try simp only [pd_true, pd_false, Bool.not_eq_true', Bool.not_eq_false', Bool.and_eq_true, Bool.and_eq_false_iff, Bool.or_eq_true, Bool.or_eq_false_iff, not_true_eq_false, not_false_eq_true, Int.not_lt, Int.not_le] at hb_; first | done | (exfalso; first | omega | contradiction))); intro hb_; try simp only [pd_true, pd_false, Bool.not_eq_true', Bool.not_eq_false', Bool.and_eq_true, Bool.and_eq_false_iff, Bool.or_eq_true, Bool.or_eq_false_iff, not_true_eq_false, not_false_eq_true, Int.not_lt, Int.not_le] at hb_) | ((with_reducible apply XP.split); (case ho | hg | hj | hd | hb => exact rfl); (fail_if_success (case hf => exact fun h => Bool.noConfusion h)); (fail_if_success (case ht => exact fun h => Bool.noConfusion h)); (first | (case ht => intro hb_; try simp only [pd_true, pd_false, Bool.not_eq_true', Bool.not_eq_false', Bool.and_eq_true, Bool.and_eq_false_iff, Bool.or_eq_true, Bool.or_eq_false_iff, not_true_eq_false, not_false_eq_true, Int.not_lt, Int.not_le] at hb_; first | done | (exfalso; first | omega | contradiction)) | (case hf => intro hb_; try simp only [pd_true, pd_false, Bool.not_eq_true', Bool.not_eq_false', Bool.and_eq_true, Bool.and_eq_false_iff, Bool.or_eq_true, Bool.or_eq_false_iff, not_true_eq_false, not_false_eq_true, Int.not_lt, Int.not_le] at hb_; first | done | (exfalso; first | omega | contradiction))); intro hb_; try simp only [pd_true, pd_false, Bool.not_eq_true', Bool.not_eq_false', Bool.and_eq_true, Bool.and_eq_false_iff, Bool.or_eq_true, Bool.or_eq_false_iff, not_true_eq_false, not_false_eq_true, Int.not_lt, Int.not_le] at hb_) | ((with_reducible apply XC.cond); (case hc => exact rfl); (first | (case ht => intro hb_; try simp only [pd_true, pd_false, Bool.not_eq_true', Bool.not_eq_false', Bool.and_eq_true, Bool.and_eq_false_iff, Bool.or_eq_true, Bool.or_eq_false_iff, not_true_eq_false, not_false_eq_true, Int.not_lt, Int.not_le] at hb_; first | done | (exfalso; first | omega | contradiction)) | (case hf => intro hb_; try simp only [pd_true, pd_false, Bool.not_eq_true', Bool.not_eq_false', Bool.and_eq_true, Bool.and_eq_false_iff, Bool.or_eq_true, Bool.or_eq_false_iff, not_true_eq_false, not_false_eq_true, Int.not_lt, Int.not_le] at hb_; first | done | (exfalso; first | omega | contradiction))); intro hb_; try simp only [pd_true, pd_false, Bool.not_eq_true', Bool.not_eq_false', Bool.and_eq_true, Bool.and_eq_false_iff, Bool.or_eq_true, Bool.or_eq_false_iff, not_true_eq_false, not_false_eq_true, Int.not_lt, Int.not_le] at hb_))))
      ((with_reducible apply XQ.retE); (case hr => exact .row rfl (by kernel_rfl) (by kernel_rfl) (own_row (i := 2) (m := 7) rfl rfl) (.t rfl .nil)))
      refine ⟨[], .of (List.nil_sublist _), ?_⟩
      unfold PrsR; rw [hp]; exact ⟨rfl, rfl⟩
    | some s =>
      simp only []
      have hsB := print_isB hvok hpr
      (repeat (first | (with_reducible apply XL.op) | ((with_reducible apply XOp.p1); (case hg | hv => exact rfl)) | (with_reducible apply XL.nilT) | (with_reducible apply XC.seq) | (with_reducible apply XC.region (Γ := Γ)) | (first | ((with_reducible apply XOp.split); (case hg | hj | hd | hb => exact rfl); (fail_if_success (case hf => exact fun h => Bool.noConfusion h)); (fail_if_success (case ht => exact fun h => Bool.noConfusion h)); (first | (case ht => intro hb_; try simp only [pd_true, pd_false, Bool.not_eq_true', Bool.not_eq_false', Bool.and_eq_true, Bool.and_eq_false_iff, Bool.or_eq_true, Bool.or_eq_false_iff, not_true_eq_false, not_false_eq_true, Int.not_lt, Int.not_le] at hb_; first | done | (exfalso; first | omega | contradiction)) | (case hf => intro hb_; try simp only [pd_true, pd_false, Bool.not_eq_true', Bool.not_eq_false', Bool.and_eq_true, Bool.and_eq_false_iff, Bool.or_eq_true, Bool.or_eq_false_iff, not_true_eq_false, not_false_eq_true, Int.not_lt, Int.not_le] at hb_; first | done | (exfalso; first | omega | contradiction))); intro hb_; try simp only [pd_true, pd_false, Bool.not_eq_true', Bool.not_eq_false', Bool.and_eq_true, Bool.and_eq_false_iff, Bool.or_eq_true, Bool.or_eq_false_iff, not_true_eq_false, not_false_eq_true, Int.not_lt, Int.not_le] at hb_) | ((with_reducible apply XP.split); (case ho | hg | hj | hd | hb => exact rfl); (fail_if_success (case hf => exact fun h => Bool.noConfusion h)); (fail_if_success (case ht => exact fun h => Bool.noConfusion h)); (first | (case ht => intro hb_; try simp only [pd_true, pd_false, Bool.not_eq_true', Bool.not_eq_false', Bool.and_eq_true, Bool.and_eq_false_iff, Bool.or_eq_true, Bool.or_eq_false_iff, not_true_eq_false, not_false_eq_true, Int.not_lt, Int.not_le] at hb_; first | done | (exfalso; first | omega | contradiction)) | (case hf => intro hb_; try simp only [pd_true, pd_false, Bool.not_eq_true', Bool.not_eq_false', Bool.and_eq_true, Bool.and_eq_false_iff, Bool.or_eq_true, Bool.or_eq_false_iff, not_true_eq_false, not_false_eq_true, Int.not_lt, Int.not_le] at hb_; first | done | (exfalso; first | omega | contradiction))); intro hb_; try simp only [pd_true, pd_false, Bool.not_eq_true', Bool.not_eq_false', Bool.and_eq_true, Bool.and_eq_false_iff, Bool.or_eq_true, Bool.or_eq_false_iff, not_true_eq_false, not_false_eq_true, Int.not_lt, Int.not_le] at hb_) | ((with_reducible apply XC.cond); (case hc => exact rfl); (first | (case ht => intro hb_; try simp only [pd_true, pd_false, Bool.not_eq_true', Bool.not_eq_false', Bool.and_eq_true, Bool.and_eq_false_iff, Bool.or_eq_true, Bool.or_eq_false_iff, not_true_eq_false, not_false_eq_true, Int.not_lt, Int.not_le] at hb_; first | done | (exfalso; first | omega | contradiction)) | (case hf => intro hb_; try simp only [pd_true, pd_false, Bool.not_eq_true', Bool.not_eq_false', Bool.and_eq_true, Bool.and_eq_false_iff, Bool.or_eq_true, Bool.or_eq_false_iff, not_true_eq_false, not_false_eq_true, Int.not_lt, Int.not_le] at hb_; first | done | (exfalso; first | omega | contradiction))); intro hb_; try simp only [pd_true, pd_false, Bool.not_eq_true', Bool.not_eq_false', Bool.and_eq_true, Bool.and_eq_false_iff, Bool.or_eq_true, Bool.or_eq_false_iff, not_true_eq_false, not_false_eq_true, Int.not_lt, Int.not_le] at hb_))))
      rw [strOf_eq (isB_ok hsB) (isB_ok hB)]
      by_cases hst : s = t
      · have hp := hv2 (by rw [hpr, hst])
        rw [pdt hst]
        (repeat (first | (with_reducible apply XL.op) | ((with_reducible apply XOp.p1); (case hg | hv => exact rfl)) | ((with_reducible apply XOp.loadO (i := 1)); (case hg | ht | hk | hx | hi | hc => exact rfl)) | ((with_reducible apply XOp.storeN (i := 2)); (case hg | ht | hx | hv' | hk | h1 | hi | hs | ha => exact rfl)) | (with_reducible apply XL.nilT) | (with_reducible apply XC.seq) | (with_reducible apply XC.region (Γ := Γ)) | (with_reducible apply XQ.skip) | (with_reducible apply XQ.ret) | (with_reducible apply XQ.nt) | ((with_reducible apply XC.condF); (case hc => exact rfl))))
        ((with_reducible apply XQ.retE); (case hr => exact .row rfl (by kernel_rfl) (by kernel_rfl) (own_row (i := 2) (m := 7) rfl rfl) (.t rfl .nil)))
        refine ⟨Ft ++ (Fn ++ []), .of ?_, ?_⟩
        · refine List.Sublist.cons _ (List.Sublist.cons _ (List.Sublist.cons _ ?_))
          first | exact List.Sublist.append (List.Sublist.refl _) (List.Sublist.append (List.Sublist.refl _) (List.sublist_append_left _ _)) | (show List.Sublist ([] ++ (Fn ++ [])) ([] ++ (Fn ++ ([] ++ []))); exact List.Sublist.refl _) | (simp; done)
        unfold PrsR; rw [hp]
        exact ⟨_, _, _, Ft, Fn, [], rfl, hot, hown.conv hnl.symm rfl, hos, rfl⟩
      · have hp := hv3 (by rw [hpr]; simp [hst])
        rw [pdf hst]
        (repeat (first | (with_reducible apply XL.op) | ((with_reducible apply XOp.p1); (case hg | hv => exact rfl)) | ((with_reducible apply XOp.storeN (i := 2)); (case hg | ht | hx | hv' | hk | h1 | hi | hs | ha => exact rfl)) | ((with_reducible apply XOp.pr); (case hg => exact rfl); (case hr => ((with_reducible apply PR.build); (case ht | hk | hok | hz | hf => exact rfl)))) | (with_reducible apply XL.nilT) | (with_reducible apply XC.seq) | (with_reducible apply XC.region (Γ := Γ)) | (with_reducible apply XQ.ret) | (with_reducible apply XQ.rt) | ((with_reducible apply XC.condT); (case hc => exact rfl))))
        ((with_reducible apply XQ.retE); (case hr => exact .row rfl (by kernel_rfl) (by kernel_rfl) (own_row (i := 2) (m := 7) rfl rfl) (.t rfl .nil)))
        refine ⟨[], .of (List.nil_sublist _), ?_⟩
        unfold PrsR; rw [hp]; exact ⟨rfl, rfl⟩
  rw [kText, strOf_eq (isB_ok hwB) (isB_ok (show isB wText by unfold isB; decide)), pdf h2]
  have hVl : viewL t = ⟨w.1, i.1, [], n.1, 0, [], []⟩ := by rw [hV]; simp only [if_neg h1, if_neg (show ¬ (w.1 = wAsk ∨ w.1 = wText) from fun h => h.elim h1 h2)]
  have hot : OwnS 5 1 nilV ([] : List Int).length (([] : List Int).map (.int .u8)) [] := OwnS.nil _ _
  have hos : OwnS 9 1 nilV ([] : List (List Int)).length (strsV []) [] := OwnS.nil _ _
  (repeat (first | (with_reducible apply XC.seq) | (with_reducible apply XQ.skip) | (with_reducible apply XQ.nt) | (with_reducible apply XC.block) | ((with_reducible apply XC.condF); (case hc => exact rfl))))
  refine XC.loopP (fun k ρ L => k = 0 ∧ L = [VwB vb t n.2, RLnB lb w.1 (i.1) nilV (.slice an (numsW w.1).toNat cn) (0) [] nilV, (rs, Obj.cells ⟨lnC [] 0 nilV nilV 0 [] nilV⟩ 36 (0, 0))] ++ Fn ∧ Slots ρ [(0, .string (strOf t)), (2, .pointer (some ⟨rs, 0, none⟩)), (4, .pointer (some ⟨vb, 0, none⟩)), (5, .pointer (some ⟨lb, 0, none⟩))]) 0 ⟨rfl, rfl, rfl, rfl, rfl, rfl, trivial⟩ ?_
  rintro k ρ L ⟨rfl, rfl, hs⟩
  refine XC.slots _ hs ?_
  (repeat (first | (with_reducible apply XL.op) | ((with_reducible apply XOp.p1); (case hg | hv => exact rfl)) | ((with_reducible apply XOp.load); (case hg | ht | hk | hx => exact rfl); (case hc => exact own_cell (i := 1) rfl rfl)) | (with_reducible apply XC.seq) | (with_reducible apply XC.region (Γ := Γ))))
  rw [strOf_eq (isB_ok hwB) (isB_ok (show isB wAsk by unfold isB; decide)), pdf h1]
  (repeat (first | (with_reducible apply XL.op) | ((with_reducible apply XOp.p1); (case hg | hv => exact rfl)) | ((with_reducible apply XOp.p0); (case hg => exact rfl)) | ((with_reducible apply XOp.loadO (i := 1)); (case hg | ht | hk | hx | hi | hc => exact rfl)) | (with_reducible apply XL.nilT) | (with_reducible apply XC.seq) | (with_reducible apply XC.region (Γ := Γ)) | (with_reducible apply XQ.exit) | (with_reducible apply XQ.nt) | (with_reducible apply XQ.et) | ((with_reducible apply XQ.eb); (case hb => exact rfl)) | ((with_reducible apply XC.condF); (case hc => exact rfl))))
  (repeat (first | (with_reducible apply XL.nilT) | (with_reducible apply XC.seq) | (with_reducible apply XC.region (Γ := Γ)) | (with_reducible apply XQ.nt) | (with_reducible apply XQ.nb)))
  try (with_reducible apply XL.op)
  (refine (show XOp _ _ _ _ _ _ _ _ ([VwB vb t n.2, RLnB lb w.1 (i.1) nilV (.slice an (numsW w.1).toNat cn) (0) [] nilV, (rs, Obj.cells ⟨lnC [] 0 nilV nilV 0 [] nilV⟩ 36 (0, 0))] ++ Fn) from XOp.perm (L' :=  [VwB vb t n.2, RLnB lb w.1 (i.1) nilV (.slice an (numsW w.1).toNat cn) (0) [] nilV, (rs, Obj.cells ⟨lnC [] 0 nilV nilV 0 [] nilV⟩ 36 (0, 0))] ++ ([] ++ (Fn ++ ([] ++ [])))) rfl ?_ (by (first | (with_reducible exact List.Perm.refl _) | refine perm_of_cnt fun p_ => ?_; simp only [List.countP_append, List.countP_cons, List.countP_nil]; omega))))
  rw [hVl] at hvok hvf hvt hvs hv2 hv3
  obtain ⟨ta, tc, na, nc, sa, sc, et, en, es, k1, k2, k3⟩ := ln_held hvok ⟨by omega, by show n.1.length ≤ _; omega, by omega⟩ hot (hown.conv hnl.symm rfl) hos
  obtain ⟨rfl, _, rfl⟩ := Value.slice.inj et
  obtain ⟨rfl, _, rfl⟩ := Value.slice.inj en
  obtain ⟨rfl, _, rfl⟩ := Value.slice.inj es
  simp only [] at k1 k2 k3
  skip
  have hrp := refPrint_fn ⟨w.1, i.1, [], n.1, 0, [], []⟩ hvok hvf none an none 0 cn 0
  simp only [] at hrp
  rw [hnl] at hrp
  ((with_reducible apply XOp.callQ (hF := hrp)); (case hg => exact rfl); (case hc => exact rfl); (case ha => exact rfl); try (case hA => exact Known.true))
  case hA => exact (k1.known fun y hy => by first | (simp [hy]; done) | cases hy).and ((k2.known fun y hy => by first | (simp [hy]; done) | cases hy).and (k3.known fun y hy => by first | (simp [hy]; done) | cases hy))
  rintro _ rfl
  cases hpr : printS ⟨w.1, i.1, [], n.1, 0, [], []⟩ with
  | none =>
    have hp := hv3 (by rw [hpr]; simp)
    simp only []
    (repeat (first | (with_reducible apply XL.op) | ((with_reducible apply XOp.p1); (case hg | hv => exact rfl)) | ((with_reducible apply XOp.p0); (case hg => exact rfl)) | ((with_reducible apply XOp.storeN (i := 2)); (case hg | ht | hx | hv' | hk | h1 | hi | hs | ha => exact rfl)) | ((with_reducible apply XOp.pr); (case hg => exact rfl); (case hr => ((with_reducible apply PR.build); (case ht | hk | hok | hz | hf => exact rfl)))) | (with_reducible apply XL.nilT) | (with_reducible apply XC.seq) | (with_reducible apply XC.region (Γ := Γ)) | (with_reducible apply XQ.ret) | (with_reducible apply XQ.rt) | ((with_reducible apply XC.condT); (case hc => exact rfl)) | (first | ((with_reducible apply XOp.split); (case hg | hj | hd | hb => exact rfl); (fail_if_success (case hf => exact fun h => Bool.noConfusion h)); (fail_if_success (case ht => exact fun h => Bool.noConfusion h)); (first | (case ht => intro hb_; try simp only [pd_true, pd_false, Bool.not_eq_true', Bool.not_eq_false', Bool.and_eq_true, Bool.and_eq_false_iff, Bool.or_eq_true, Bool.or_eq_false_iff, not_true_eq_false, not_false_eq_true, Int.not_lt, Int.not_le] at hb_; first | done | (exfalso; first | omega | contradiction)) | (case hf => intro hb_; try simp only [pd_true, pd_false, Bool.not_eq_true', Bool.not_eq_false', Bool.and_eq_true, Bool.and_eq_false_iff, Bool.or_eq_true, Bool.or_eq_false_iff, not_true_eq_false, not_false_eq_true, Int.not_lt, Int.not_le] at hb_; first | done | (exfalso; first | omega | contradiction))); intro hb_; try simp only [pd_true, pd_false, Bool.not_eq_true', Bool.not_eq_false', Bool.and_eq_true, Bool.and_eq_false_iff, Bool.or_eq_true, Bool.or_eq_false_iff, not_true_eq_false, not_false_eq_true, Int.not_lt, Int.not_le] at hb_) | ((with_reducible apply XP.split); (case ho | hg | hj | hd | hb => exact rfl); (fail_if_success (case hf => exact fun h => Bool.noConfusion h)); (fail_if_success (case ht => exact fun h => Bool.noConfusion h)); (first | (case ht => intro hb_; try simp only [pd_true, pd_false, Bool.not_eq_true', Bool.not_eq_false', Bool.and_eq_true, Bool.and_eq_false_iff, Bool.or_eq_true, Bool.or_eq_false_iff, not_true_eq_false, not_false_eq_true, Int.not_lt, Int.not_le] at hb_; first | done | (exfalso; first | omega | contradiction)) | (case hf => intro hb_; try simp only [pd_true, pd_false, Bool.not_eq_true', Bool.not_eq_false', Bool.and_eq_true, Bool.and_eq_false_iff, Bool.or_eq_true, Bool.or_eq_false_iff, not_true_eq_false, not_false_eq_true, Int.not_lt, Int.not_le] at hb_; first | done | (exfalso; first | omega | contradiction))); intro hb_; try simp only [pd_true, pd_false, Bool.not_eq_true', Bool.not_eq_false', Bool.and_eq_true, Bool.and_eq_false_iff, Bool.or_eq_true, Bool.or_eq_false_iff, not_true_eq_false, not_false_eq_true, Int.not_lt, Int.not_le] at hb_) | ((with_reducible apply XC.cond); (case hc => exact rfl); (first | (case ht => intro hb_; try simp only [pd_true, pd_false, Bool.not_eq_true', Bool.not_eq_false', Bool.and_eq_true, Bool.and_eq_false_iff, Bool.or_eq_true, Bool.or_eq_false_iff, not_true_eq_false, not_false_eq_true, Int.not_lt, Int.not_le] at hb_; first | done | (exfalso; first | omega | contradiction)) | (case hf => intro hb_; try simp only [pd_true, pd_false, Bool.not_eq_true', Bool.not_eq_false', Bool.and_eq_true, Bool.and_eq_false_iff, Bool.or_eq_true, Bool.or_eq_false_iff, not_true_eq_false, not_false_eq_true, Int.not_lt, Int.not_le] at hb_; first | done | (exfalso; first | omega | contradiction))); intro hb_; try simp only [pd_true, pd_false, Bool.not_eq_true', Bool.not_eq_false', Bool.and_eq_true, Bool.and_eq_false_iff, Bool.or_eq_true, Bool.or_eq_false_iff, not_true_eq_false, not_false_eq_true, Int.not_lt, Int.not_le] at hb_))))
    ((with_reducible apply XQ.retE); (case hr => exact .row rfl (by kernel_rfl) (by kernel_rfl) (own_row (i := 2) (m := 7) rfl rfl) (.t rfl .nil)))
    refine ⟨[], .of (List.nil_sublist _), ?_⟩
    unfold PrsR; rw [hp]; exact ⟨rfl, rfl⟩
  | some s =>
    simp only []
    have hsB := print_isB hvok hpr
    (repeat (first | (with_reducible apply XL.op) | ((with_reducible apply XOp.p1); (case hg | hv => exact rfl)) | (with_reducible apply XL.nilT) | (with_reducible apply XC.seq) | (with_reducible apply XC.region (Γ := Γ)) | (first | ((with_reducible apply XOp.split); (case hg | hj | hd | hb => exact rfl); (fail_if_success (case hf => exact fun h => Bool.noConfusion h)); (fail_if_success (case ht => exact fun h => Bool.noConfusion h)); (first | (case ht => intro hb_; try simp only [pd_true, pd_false, Bool.not_eq_true', Bool.not_eq_false', Bool.and_eq_true, Bool.and_eq_false_iff, Bool.or_eq_true, Bool.or_eq_false_iff, not_true_eq_false, not_false_eq_true, Int.not_lt, Int.not_le] at hb_; first | done | (exfalso; first | omega | contradiction)) | (case hf => intro hb_; try simp only [pd_true, pd_false, Bool.not_eq_true', Bool.not_eq_false', Bool.and_eq_true, Bool.and_eq_false_iff, Bool.or_eq_true, Bool.or_eq_false_iff, not_true_eq_false, not_false_eq_true, Int.not_lt, Int.not_le] at hb_; first | done | (exfalso; first | omega | contradiction))); intro hb_; try simp only [pd_true, pd_false, Bool.not_eq_true', Bool.not_eq_false', Bool.and_eq_true, Bool.and_eq_false_iff, Bool.or_eq_true, Bool.or_eq_false_iff, not_true_eq_false, not_false_eq_true, Int.not_lt, Int.not_le] at hb_) | ((with_reducible apply XP.split); (case ho | hg | hj | hd | hb => exact rfl); (fail_if_success (case hf => exact fun h => Bool.noConfusion h)); (fail_if_success (case ht => exact fun h => Bool.noConfusion h)); (first | (case ht => intro hb_; try simp only [pd_true, pd_false, Bool.not_eq_true', Bool.not_eq_false', Bool.and_eq_true, Bool.and_eq_false_iff, Bool.or_eq_true, Bool.or_eq_false_iff, not_true_eq_false, not_false_eq_true, Int.not_lt, Int.not_le] at hb_; first | done | (exfalso; first | omega | contradiction)) | (case hf => intro hb_; try simp only [pd_true, pd_false, Bool.not_eq_true', Bool.not_eq_false', Bool.and_eq_true, Bool.and_eq_false_iff, Bool.or_eq_true, Bool.or_eq_false_iff, not_true_eq_false, not_false_eq_true, Int.not_lt, Int.not_le] at hb_; first | done | (exfalso; first | omega | contradiction))); intro hb_; try simp only [pd_true, pd_false, Bool.not_eq_true', Bool.not_eq_false', Bool.and_eq_true, Bool.and_eq_false_iff, Bool.or_eq_true, Bool.or_eq_false_iff, not_true_eq_false, not_false_eq_true, Int.not_lt, Int.not_le] at hb_) | ((with_reducible apply XC.cond); (case hc => exact rfl); (first | (case ht => intro hb_; try simp only [pd_true, pd_false, Bool.not_eq_true', Bool.not_eq_false', Bool.and_eq_true, Bool.and_eq_false_iff, Bool.or_eq_true, Bool.or_eq_false_iff, not_true_eq_false, not_false_eq_true, Int.not_lt, Int.not_le] at hb_; first | done | (exfalso; first | omega | contradiction)) | (case hf => intro hb_; try simp only [pd_true, pd_false, Bool.not_eq_true', Bool.not_eq_false', Bool.and_eq_true, Bool.and_eq_false_iff, Bool.or_eq_true, Bool.or_eq_false_iff, not_true_eq_false, not_false_eq_true, Int.not_lt, Int.not_le] at hb_; first | done | (exfalso; first | omega | contradiction))); intro hb_; try simp only [pd_true, pd_false, Bool.not_eq_true', Bool.not_eq_false', Bool.and_eq_true, Bool.and_eq_false_iff, Bool.or_eq_true, Bool.or_eq_false_iff, not_true_eq_false, not_false_eq_true, Int.not_lt, Int.not_le] at hb_))))
    rw [strOf_eq (isB_ok hsB) (isB_ok hB)]
    by_cases hst : s = t
    · have hp := hv2 (by rw [hpr, hst])
      rw [pdt hst]
      (repeat (first | (with_reducible apply XL.op) | ((with_reducible apply XOp.p1); (case hg | hv => exact rfl)) | ((with_reducible apply XOp.loadO (i := 1)); (case hg | ht | hk | hx | hi | hc => exact rfl)) | ((with_reducible apply XOp.storeN (i := 2)); (case hg | ht | hx | hv' | hk | h1 | hi | hs | ha => exact rfl)) | (with_reducible apply XL.nilT) | (with_reducible apply XC.seq) | (with_reducible apply XC.region (Γ := Γ)) | (with_reducible apply XQ.skip) | (with_reducible apply XQ.ret) | (with_reducible apply XQ.nt) | ((with_reducible apply XC.condF); (case hc => exact rfl))))
      ((with_reducible apply XQ.retE); (case hr => exact .row rfl (by kernel_rfl) (by kernel_rfl) (own_row (i := 2) (m := 7) rfl rfl) (.t rfl .nil)))
      refine ⟨[] ++ (Fn ++ []), .of ?_, ?_⟩
      · refine List.Sublist.cons _ (List.Sublist.cons _ (List.Sublist.cons _ ?_))
        first | exact List.Sublist.append (List.Sublist.refl _) (List.Sublist.append (List.Sublist.refl _) (List.sublist_append_left _ _)) | (show List.Sublist ([] ++ (Fn ++ [])) ([] ++ (Fn ++ ([] ++ []))); exact List.Sublist.refl _) | (simp; done)
      unfold PrsR; rw [hp]
      exact ⟨_, _, _, [], Fn, [], rfl, hot, hown.conv hnl.symm rfl, hos, rfl⟩
    · have hp := hv3 (by rw [hpr]; simp [hst])
      rw [pdf hst]
      (repeat (first | (with_reducible apply XL.op) | ((with_reducible apply XOp.p1); (case hg | hv => exact rfl)) | ((with_reducible apply XOp.storeN (i := 2)); (case hg | ht | hx | hv' | hk | h1 | hi | hs | ha => exact rfl)) | ((with_reducible apply XOp.pr); (case hg => exact rfl); (case hr => ((with_reducible apply PR.build); (case ht | hk | hok | hz | hf => exact rfl)))) | (with_reducible apply XL.nilT) | (with_reducible apply XC.seq) | (with_reducible apply XC.region (Γ := Γ)) | (with_reducible apply XQ.ret) | (with_reducible apply XQ.rt) | ((with_reducible apply XC.condT); (case hc => exact rfl))))
      ((with_reducible apply XQ.retE); (case hr => exact .row rfl (by kernel_rfl) (by kernel_rfl) (own_row (i := 2) (m := 7) rfl rfl) (.t rfl .nil)))
      refine ⟨[], .of (List.nil_sublist _), ?_⟩
      unfold PrsR; rw [hp]; exact ⟨rfl, rfl⟩
end Go.Proofs.YtepfnakabafhlaaDoorX
/- The law of Unquote: the literal at the head of any text, or the error. -/
namespace Go.Proofs.YtepfnakabafhlaaDoorX
open Go Go.SX
theorem slNone {k : IntKind} {by_ : Nat} {h : HV} : SlA (Kd.int k) by_ h [] none 0 := ⟨by simp, by simp, fun _ => rfl, fun h => absurd h (by simp), fun i x h => by simp at h⟩
theorem wireUnquotes_fn (t : List Int) (hB : isB t) (hl : t.length ≤ 1048576) : FC Tryd.prog 3 [.string (strOf t)] [] libK (fun v _ => v = .bool true) := by
  refine FC.intro Tryd.func3 rfl (by kernel_rfl) 41 [.tmp 2] rfl rfl rfl ?_
  intro w0 hK
  (repeat (first | (with_reducible apply XL.op) | ((with_reducible apply XOp.p1); (case hg | hv => exact rfl)) | (with_reducible apply XL.nilT) | (with_reducible apply XC.seq) | (with_reducible apply XC.region (Γ := Γ))))
  ((with_reducible apply XOp.callQ (hF := works_fn)); (case hg => exact rfl); (case hc => exact rfl); (case ha => exact rfl); try (case hA => exact Known.true))
  case hA => exact Known.of_old hK lib_mono
  rintro _ rfl
  (repeat (first | (with_reducible apply XL.op) | ((with_reducible apply XOp.p1); (case hg | hv => exact rfl)) | (with_reducible apply XL.nilT) | (with_reducible apply XC.seq) | (with_reducible apply XC.region (Γ := Γ))))
  ((with_reducible apply XOp.callN (hF := unquote_fn t hB (by omega))); (case hg => exact rfl); (case hc => exact rfl); (case ha => exact rfl); try (case hA => exact Known.true))
  rintro v1 F1 h1
  cases hu : unqS t with
  | none =>
    unfold UnqR at h1
    rw [hu] at h1
    obtain ⟨rfl, rfl⟩ := h1
    (repeat (first | (with_reducible apply XL.op) | ((with_reducible apply XOp.p1); (case hg | hv => exact rfl)) | (with_reducible apply XL.nilT) | (with_reducible apply XC.seq) | (with_reducible apply XC.region (Γ := Γ))))
    ((with_reducible apply XOp.callN (hF := refUnquote_fn t hB (by omega))); (case hg => exact rfl); (case hc => exact rfl); (case ha => exact rfl); try (case hA => exact Known.true))
    rintro v2 F2 h2
    unfold UnqR at h2
    rw [hu] at h2
    obtain ⟨rfl, rfl⟩ := h2
    (repeat (first | (with_reducible apply XL.op) | ((with_reducible apply XOp.p1); (case hg | hv => exact rfl)) | (with_reducible apply XL.nilT) | (with_reducible apply XC.seq) | (with_reducible apply XC.region (Γ := Γ))))
    ((with_reducible apply XOp.callQ (hF := eqBytes_fn [] [] none none 0 0)); (case hg => exact rfl); (case hc => exact rfl); (case ha => exact rfl); try (case hA => exact Known.true))
    case hA => exact (Held.nil fun h => ⟨slNone, slNone⟩).known (fun y hy => hy)
    rintro _ rfl
    (repeat (first | (with_reducible apply XL.op) | ((with_reducible apply XOp.p1); (case hg | hv => exact rfl)) | (with_reducible apply XL.nilT) | (with_reducible apply XC.seq) | (with_reducible apply XC.region (Γ := Γ)) | (with_reducible apply XQ.ret) | (first | ((with_reducible apply XOp.split); (case hg | hj | hd | hb => exact rfl); (fail_if_success (case hf => exact fun h => Bool.noConfusion h)); (fail_if_success (case ht => exact fun h => Bool.noConfusion h)); (first | (case ht => intro hb_; try simp only [pd_true, pd_false, Bool.not_eq_true', Bool.not_eq_false', Bool.and_eq_true, Bool.and_eq_false_iff, Bool.or_eq_true, Bool.or_eq_false_iff, not_true_eq_false, not_false_eq_true, Int.not_lt, Int.not_le] at hb_; first | done | (exfalso; first | omega | contradiction)) | (case hf => intro hb_; try simp only [pd_true, pd_false, Bool.not_eq_true', Bool.not_eq_false', Bool.and_eq_true, Bool.and_eq_false_iff, Bool.or_eq_true, Bool.or_eq_false_iff, not_true_eq_false, not_false_eq_true, Int.not_lt, Int.not_le] at hb_; first | done | (exfalso; first | omega | contradiction))); intro hb_; try simp only [pd_true, pd_false, Bool.not_eq_true', Bool.not_eq_false', Bool.and_eq_true, Bool.and_eq_false_iff, Bool.or_eq_true, Bool.or_eq_false_iff, not_true_eq_false, not_false_eq_true, Int.not_lt, Int.not_le] at hb_) | ((with_reducible apply XP.split); (case ho | hg | hj | hd | hb => exact rfl); (fail_if_success (case hf => exact fun h => Bool.noConfusion h)); (fail_if_success (case ht => exact fun h => Bool.noConfusion h)); (first | (case ht => intro hb_; try simp only [pd_true, pd_false, Bool.not_eq_true', Bool.not_eq_false', Bool.and_eq_true, Bool.and_eq_false_iff, Bool.or_eq_true, Bool.or_eq_false_iff, not_true_eq_false, not_false_eq_true, Int.not_lt, Int.not_le] at hb_; first | done | (exfalso; first | omega | contradiction)) | (case hf => intro hb_; try simp only [pd_true, pd_false, Bool.not_eq_true', Bool.not_eq_false', Bool.and_eq_true, Bool.and_eq_false_iff, Bool.or_eq_true, Bool.or_eq_false_iff, not_true_eq_false, not_false_eq_true, Int.not_lt, Int.not_le] at hb_; first | done | (exfalso; first | omega | contradiction))); intro hb_; try simp only [pd_true, pd_false, Bool.not_eq_true', Bool.not_eq_false', Bool.and_eq_true, Bool.and_eq_false_iff, Bool.or_eq_true, Bool.or_eq_false_iff, not_true_eq_false, not_false_eq_true, Int.not_lt, Int.not_le] at hb_) | ((with_reducible apply XC.cond); (case hc => exact rfl); (first | (case ht => intro hb_; try simp only [pd_true, pd_false, Bool.not_eq_true', Bool.not_eq_false', Bool.and_eq_true, Bool.and_eq_false_iff, Bool.or_eq_true, Bool.or_eq_false_iff, not_true_eq_false, not_false_eq_true, Int.not_lt, Int.not_le] at hb_; first | done | (exfalso; first | omega | contradiction)) | (case hf => intro hb_; try simp only [pd_true, pd_false, Bool.not_eq_true', Bool.not_eq_false', Bool.and_eq_true, Bool.and_eq_false_iff, Bool.or_eq_true, Bool.or_eq_false_iff, not_true_eq_false, not_false_eq_true, Int.not_lt, Int.not_le] at hb_; first | done | (exfalso; first | omega | contradiction))); intro hb_; try simp only [pd_true, pd_false, Bool.not_eq_true', Bool.not_eq_false', Bool.and_eq_true, Bool.and_eq_false_iff, Bool.or_eq_true, Bool.or_eq_false_iff, not_true_eq_false, not_false_eq_true, Int.not_lt, Int.not_le] at hb_))))
    ((with_reducible apply XQ.retE); (case hr => exact .t rfl .nil))
    rw [pdt rfl]; rfl
  | some p =>
    unfold UnqR at h1
    rw [hu] at h1
    obtain ⟨u, rfl, h1⟩ := h1
    obtain ⟨b, rest⟩ := p
    obtain ⟨hbB, hq⟩ := unq_iff.1 hu
    have hbl : b.length ≤ t.length := by have := quoteL_length b; rw [hq, List.length_append]; omega
    simp only [] at h1 ⊢
    obtain ⟨a1, c1, rfl, _, k1⟩ := own_by h1 hbB (by omega)
    (repeat (first | (with_reducible apply XL.op) | ((with_reducible apply XOp.p1); (case hg | hv => exact rfl)) | (with_reducible apply XL.nilT) | (with_reducible apply XC.seq) | (with_reducible apply XC.region (Γ := Γ))))
    ((with_reducible apply XOp.callN (hF := refUnquote_fn t hB (by omega))); (case hg => exact rfl); (case hc => exact rfl); (case ha => exact rfl); try (case hA => exact Known.true))
    rintro v2 F2 h2
    unfold UnqR at h2
    rw [hu] at h2
    obtain ⟨u2, rfl, h2⟩ := h2
    simp only [] at h2 ⊢
    obtain ⟨a2, c2, rfl, _, k2⟩ := own_by h2 hbB (by omega)
    (repeat (first | (with_reducible apply XL.op) | ((with_reducible apply XOp.p1); (case hg | hv => exact rfl)) | (with_reducible apply XL.nilT) | (with_reducible apply XC.seq) | (with_reducible apply XC.region (Γ := Γ))))
    ((with_reducible apply XOp.callQ (hF := eqBytes_fn b b a1 a2 c1 c2)); (case hg => exact rfl); (case hc => exact rfl); (case ha => exact rfl); try (case hA => exact Known.true))
    case hA => exact (k1.known fun y hy => by simp [hy]).and (k2.known fun y hy => by simp [hy])
    rintro _ rfl
    rw [pdt (rfl : b = b)]
    (repeat (first | (with_reducible apply XL.op) | ((with_reducible apply XOp.p1); (case hg | hv => exact rfl)) | (with_reducible apply XL.nilT) | (with_reducible apply XC.seq) | (with_reducible apply XC.region (Γ := Γ)) | (with_reducible apply XQ.ret) | (first | ((with_reducible apply XOp.split); (case hg | hj | hd | hb => exact rfl); (fail_if_success (case hf => exact fun h => Bool.noConfusion h)); (fail_if_success (case ht => exact fun h => Bool.noConfusion h)); (first | (case ht => intro hb_; try simp only [pd_true, pd_false, Bool.not_eq_true', Bool.not_eq_false', Bool.and_eq_true, Bool.and_eq_false_iff, Bool.or_eq_true, Bool.or_eq_false_iff, not_true_eq_false, not_false_eq_true, Int.not_lt, Int.not_le] at hb_; first | done | (exfalso; first | omega | contradiction)) | (case hf => intro hb_; try simp only [pd_true, pd_false, Bool.not_eq_true', Bool.not_eq_false', Bool.and_eq_true, Bool.and_eq_false_iff, Bool.or_eq_true, Bool.or_eq_false_iff, not_true_eq_false, not_false_eq_true, Int.not_lt, Int.not_le] at hb_; first | done | (exfalso; first | omega | contradiction))); intro hb_; try simp only [pd_true, pd_false, Bool.not_eq_true', Bool.not_eq_false', Bool.and_eq_true, Bool.and_eq_false_iff, Bool.or_eq_true, Bool.or_eq_false_iff, not_true_eq_false, not_false_eq_true, Int.not_lt, Int.not_le] at hb_) | ((with_reducible apply XP.split); (case ho | hg | hj | hd | hb => exact rfl); (fail_if_success (case hf => exact fun h => Bool.noConfusion h)); (fail_if_success (case ht => exact fun h => Bool.noConfusion h)); (first | (case ht => intro hb_; try simp only [pd_true, pd_false, Bool.not_eq_true', Bool.not_eq_false', Bool.and_eq_true, Bool.and_eq_false_iff, Bool.or_eq_true, Bool.or_eq_false_iff, not_true_eq_false, not_false_eq_true, Int.not_lt, Int.not_le] at hb_; first | done | (exfalso; first | omega | contradiction)) | (case hf => intro hb_; try simp only [pd_true, pd_false, Bool.not_eq_true', Bool.not_eq_false', Bool.and_eq_true, Bool.and_eq_false_iff, Bool.or_eq_true, Bool.or_eq_false_iff, not_true_eq_false, not_false_eq_true, Int.not_lt, Int.not_le] at hb_; first | done | (exfalso; first | omega | contradiction))); intro hb_; try simp only [pd_true, pd_false, Bool.not_eq_true', Bool.not_eq_false', Bool.and_eq_true, Bool.and_eq_false_iff, Bool.or_eq_true, Bool.or_eq_false_iff, not_true_eq_false, not_false_eq_true, Int.not_lt, Int.not_le] at hb_) | ((with_reducible apply XC.cond); (case hc => exact rfl); (first | (case ht => intro hb_; try simp only [pd_true, pd_false, Bool.not_eq_true', Bool.not_eq_false', Bool.and_eq_true, Bool.and_eq_false_iff, Bool.or_eq_true, Bool.or_eq_false_iff, not_true_eq_false, not_false_eq_true, Int.not_lt, Int.not_le] at hb_; first | done | (exfalso; first | omega | contradiction)) | (case hf => intro hb_; try simp only [pd_true, pd_false, Bool.not_eq_true', Bool.not_eq_false', Bool.and_eq_true, Bool.and_eq_false_iff, Bool.or_eq_true, Bool.or_eq_false_iff, not_true_eq_false, not_false_eq_true, Int.not_lt, Int.not_le] at hb_; first | done | (exfalso; first | omega | contradiction))); intro hb_; try simp only [pd_true, pd_false, Bool.not_eq_true', Bool.not_eq_false', Bool.and_eq_true, Bool.and_eq_false_iff, Bool.or_eq_true, Bool.or_eq_false_iff, not_true_eq_false, not_false_eq_true, Int.not_lt, Int.not_le] at hb_))))
    ((with_reducible apply XQ.retE); (case hr => exact .t rfl .nil))
    rw [pdt rfl]; rfl
end Go.Proofs.YtepfnakabafhlaaDoorX
/- The law of Parse: the line that any text is, or the error. -/
namespace Go.Proofs.YtepfnakabafhlaaDoorX
open Go Go.SX
theorem eqTexts_fn (xs : List (List Int)) (a b : Option Addr) (ca cb : Nat) : FC Tryd.prog 37 [.slice a xs.length ca, .slice b xs.length cb] []
    (fun h => SlA strK 16 h xs a ca ∧ SlA strK 16 h xs b cb) (fun v L => v = .bool true ∧ L = []) := by
  refine FC.intro Tryd.func37 rfl (by kernel_rfl) 26 [.tmp 4] rfl rfl rfl ?_
  rintro w0 ⟨hA, hB⟩
  have hsm := hA.small (by decide)
  (repeat (first | (with_reducible apply XL.op) | ((with_reducible apply XOp.p1); (case hg | hv => exact rfl)) | (with_reducible apply XL.nilT) | (with_reducible apply XC.seq) | (with_reducible apply XC.region (Γ := Γ)) | (with_reducible apply XQ.skip) | (with_reducible apply XQ.nt) | (with_reducible apply XC.block) | (first | ((with_reducible apply XOp.split); (case hg | hj | hd | hb => exact rfl); (fail_if_success (case hf => exact fun h => Bool.noConfusion h)); (fail_if_success (case ht => exact fun h => Bool.noConfusion h)); (first | (case ht => intro hb_; try simp only [pd_true, pd_false, Bool.not_eq_true', Bool.not_eq_false', Bool.and_eq_true, Bool.and_eq_false_iff, Bool.or_eq_true, Bool.or_eq_false_iff, not_true_eq_false, not_false_eq_true, Int.not_lt, Int.not_le] at hb_; first | done | (exfalso; first | omega | contradiction)) | (case hf => intro hb_; try simp only [pd_true, pd_false, Bool.not_eq_true', Bool.not_eq_false', Bool.and_eq_true, Bool.and_eq_false_iff, Bool.or_eq_true, Bool.or_eq_false_iff, not_true_eq_false, not_false_eq_true, Int.not_lt, Int.not_le] at hb_; first | done | (exfalso; first | omega | contradiction))); intro hb_; try simp only [pd_true, pd_false, Bool.not_eq_true', Bool.not_eq_false', Bool.and_eq_true, Bool.and_eq_false_iff, Bool.or_eq_true, Bool.or_eq_false_iff, not_true_eq_false, not_false_eq_true, Int.not_lt, Int.not_le] at hb_) | ((with_reducible apply XP.split); (case ho | hg | hj | hd | hb => exact rfl); (fail_if_success (case hf => exact fun h => Bool.noConfusion h)); (fail_if_success (case ht => exact fun h => Bool.noConfusion h)); (first | (case ht => intro hb_; try simp only [pd_true, pd_false, Bool.not_eq_true', Bool.not_eq_false', Bool.and_eq_true, Bool.and_eq_false_iff, Bool.or_eq_true, Bool.or_eq_false_iff, not_true_eq_false, not_false_eq_true, Int.not_lt, Int.not_le] at hb_; first | done | (exfalso; first | omega | contradiction)) | (case hf => intro hb_; try simp only [pd_true, pd_false, Bool.not_eq_true', Bool.not_eq_false', Bool.and_eq_true, Bool.and_eq_false_iff, Bool.or_eq_true, Bool.or_eq_false_iff, not_true_eq_false, not_false_eq_true, Int.not_lt, Int.not_le] at hb_; first | done | (exfalso; first | omega | contradiction))); intro hb_; try simp only [pd_true, pd_false, Bool.not_eq_true', Bool.not_eq_false', Bool.and_eq_true, Bool.and_eq_false_iff, Bool.or_eq_true, Bool.or_eq_false_iff, not_true_eq_false, not_false_eq_true, Int.not_lt, Int.not_le] at hb_) | ((with_reducible apply XC.cond); (case hc => exact rfl); (first | (case ht => intro hb_; try simp only [pd_true, pd_false, Bool.not_eq_true', Bool.not_eq_false', Bool.and_eq_true, Bool.and_eq_false_iff, Bool.or_eq_true, Bool.or_eq_false_iff, not_true_eq_false, not_false_eq_true, Int.not_lt, Int.not_le] at hb_; first | done | (exfalso; first | omega | contradiction)) | (case hf => intro hb_; try simp only [pd_true, pd_false, Bool.not_eq_true', Bool.not_eq_false', Bool.and_eq_true, Bool.and_eq_false_iff, Bool.or_eq_true, Bool.or_eq_false_iff, not_true_eq_false, not_false_eq_true, Int.not_lt, Int.not_le] at hb_; first | done | (exfalso; first | omega | contradiction))); intro hb_; try simp only [pd_true, pd_false, Bool.not_eq_true', Bool.not_eq_false', Bool.and_eq_true, Bool.and_eq_false_iff, Bool.or_eq_true, Bool.or_eq_false_iff, not_true_eq_false, not_false_eq_true, Int.not_lt, Int.not_le] at hb_))))
  refine XC.loop (fun k ρ L => ∃ (i : Nat), i + k = xs.length ∧ L = [] ∧ Slots ρ [(0, .slice a xs.length ca), (1, .slice b xs.length cb), (5, .int .i64 i)])
    xs.length ⟨0, by simp, rfl, rfl, rfl, rfl, trivial⟩ ?_
  rintro k ρ L ⟨i, hik, rfl, hs⟩
  refine XC.slots _ hs ?_
  (repeat (first | (with_reducible apply XL.op) | ((with_reducible apply XOp.p1); (case hg | hv => exact rfl)) | (with_reducible apply XL.nilT) | (with_reducible apply XC.seq) | (with_reducible apply XC.region (Γ := Γ))))
  ((with_reducible apply XC.cond); (case hc => exact rfl); all_goals (intro hb_; try simp only [pd_true, pd_false, Bool.not_eq_true', Bool.not_eq_false', Bool.and_eq_true, Bool.and_eq_false_iff, Bool.or_eq_true, Bool.or_eq_false_iff, not_true_eq_false, not_false_eq_true, Int.not_lt, Int.not_le] at hb_))
  · obtain ⟨s, hsi⟩ : ∃ s, xs[i]? = some s := ⟨_, List.getElem?_eq_getElem (by omega)⟩
    (repeat (first | (with_reducible apply XC.seq) | (with_reducible apply XQ.skip) | (with_reducible apply XQ.nt) | (with_reducible apply XC.block)))
    ((with_reducible apply XC.regionD (Γ := Γ) mixed (.q 0 (.q 1 (.q 2 (.q 3 (.q 4 (.q 5 (.q 6 (.q 7 (.q 8 (.done)))))))))) [] []); (case hc => kernel_rfl))
    (repeat (first | (with_reducible apply XQ.nt) | ((with_reducible apply XP.p1); (case ho | hg | hv => exact rfl)) | ((with_reducible apply XP.pr); (case ho => exact rfl); (case hg => exact rfl); (case hr => ((with_reducible apply PR.idxA); (case ht | hk | he | hx | hi => exact rfl); (case hr => first | assumption | omega); (case ha => first | assumption | exact SlA.at_ (by assumption))))) | (with_reducible apply XP.done) | (first | ((with_reducible apply XOp.load); (case hg | ht | hk | hx => exact rfl); (case hc => exact Known.of_old (hA.rawAt hsi 0 _ rfl) (Mono.cell _ _))) | ((with_reducible apply XP.load); (case ho | hg | ht | hk | hx => exact rfl); (case hc => exact Known.of_old (hA.rawAt hsi 0 _ rfl) (Mono.cell _ _)))) | (first | ((with_reducible apply XOp.load); (case hg | ht | hk | hx => exact rfl); (case hc => exact Known.of_old (hB.rawAt hsi 0 _ rfl) (Mono.cell _ _))) | ((with_reducible apply XP.load); (case ho | hg | ht | hk | hx => exact rfl); (case hc => exact Known.of_old (hB.rawAt hsi 0 _ rfl) (Mono.cell _ _))))))
    rw [pdt (rfl : strOf s = strOf s)]
    (repeat (first | (with_reducible apply XL.op) | ((with_reducible apply XOp.p1); (case hg | hv => exact rfl)) | (with_reducible apply XL.nilT) | (with_reducible apply XC.region (Γ := Γ)) | (with_reducible apply XQ.skip) | (with_reducible apply XQ.nt) | (with_reducible apply XQ.nb) | ((with_reducible apply XC.condF); (case hc => exact rfl))))
    exact ⟨k - 1, by omega, i + 1, by omega, rfl, rfl, rfl, intS (m := xs.length) (by omega) (by omega), trivial⟩
  (repeat (first | (with_reducible apply XL.op) | ((with_reducible apply XOp.p1); (case hg | hv => exact rfl)) | (with_reducible apply XL.nilT) | (with_reducible apply XC.seq) | (with_reducible apply XC.region (Γ := Γ)) | (with_reducible apply XQ.ret) | (with_reducible apply XQ.exit) | (with_reducible apply XQ.nt) | (with_reducible apply XQ.et) | ((with_reducible apply XQ.eb); (case hb => exact rfl))))
  ((with_reducible apply XQ.retE); (case hr => exact .t rfl .nil))
  exact ⟨rfl, rfl⟩
theorem eqLines_fn (l : Ln) (ta na sa ta' na' sa' : Option Addr) (tc nc sc tc' nc' sc' : Nat) :
    FC Tryd.prog 16 [.agg ⟨lnC l.Word l.Id (.slice ta l.Text.length tc) (.slice na l.Numbers.length nc) l.Seed l.Guide (.slice sa l.Stops.length sc)⟩, .agg ⟨lnC l.Word l.Id (.slice ta' l.Text.length tc') (.slice na' l.Numbers.length nc') l.Seed l.Guide (.slice sa' l.Stops.length sc')⟩] []
      (fun h => lnK l ta na sa tc nc sc h ∧ lnK l ta' na' sa' tc' nc' sc' h) (fun v L => v = .bool true ∧ L = []) := by
  refine FC.nil ?_
  refine FC.intro Tryd.func16 rfl (by kernel_rfl) 54 [.tmp 4] rfl rfl rfl ?_
  rintro w0 ⟨⟨hT, hN, hS⟩, ⟨hT', hN', hS'⟩⟩
  (repeat (first | (with_reducible apply XL.op) | (with_reducible apply XC.seq) | (with_reducible apply XC.region (Γ := Γ))))
  ((with_reducible apply XOp.box); (case hg | hx' => exact rfl); intro lb)
  (repeat ((with_reducible apply XL.op)))
  ((with_reducible apply XOp.box); (case hg | hx' => exact rfl); intro mb)
  (repeat (first | (with_reducible apply XL.op) | ((with_reducible apply XOp.p1); (case hg | hv => exact rfl)) | ((with_reducible apply XOp.load); (case hg | ht | hk | hx => exact rfl); (case hc => exact own_cell (i := 0) rfl rfl)) | ((with_reducible apply XOp.load); (case hg | ht | hk | hx => exact rfl); (case hc => exact own_cell (i := 1) rfl rfl)) | (with_reducible apply XL.nilT) | (with_reducible apply XC.seq) | (with_reducible apply XC.region (Γ := Γ))))
  ((with_reducible apply XOp.callQ (hF := eqBytes_fn l.Text l.Text ta ta' tc tc')); (case hg => exact rfl); (case hc => exact rfl); (case ha => exact rfl); try (case hA => exact Known.true))
  case hA => exact (Known.of_old hT (Mono.sl _ _ _ _ _)).and (Known.of_old hT' (Mono.sl _ _ _ _ _))
  rintro _ rfl
  rw [pdt (rfl : l.Text = l.Text)]
  (repeat (first | (with_reducible apply XL.op) | ((with_reducible apply XOp.p1); (case hg | hv => exact rfl)) | ((with_reducible apply XOp.load); (case hg | ht | hk | hx => exact rfl); (case hc => exact own_cell (i := 0) rfl rfl)) | ((with_reducible apply XOp.load); (case hg | ht | hk | hx => exact rfl); (case hc => exact own_cell (i := 1) rfl rfl))))
  ((with_reducible apply XOp.callQ (hF := eqInts_fn l.Numbers l.Numbers na na' nc nc')); (case hg => exact rfl); (case hc => exact rfl); (case ha => exact rfl); try (case hA => exact Known.true))
  case hA => exact (Known.of_old hN (Mono.sl _ _ _ _ _)).and (Known.of_old hN' (Mono.sl _ _ _ _ _))
  rintro _ rfl
  rw [pdt (rfl : l.Numbers = l.Numbers)]
  (repeat (first | (with_reducible apply XL.op) | ((with_reducible apply XOp.p1); (case hg | hv => exact rfl)) | ((with_reducible apply XOp.load); (case hg | ht | hk | hx => exact rfl); (case hc => exact own_cell (i := 0) rfl rfl)) | ((with_reducible apply XOp.load); (case hg | ht | hk | hx => exact rfl); (case hc => exact own_cell (i := 1) rfl rfl))))
  ((with_reducible apply XOp.callQ (hF := eqTexts_fn l.Stops sa sa' sc sc')); (case hg => exact rfl); (case hc => exact rfl); (case ha => exact rfl); try (case hA => exact Known.true))
  case hA => exact (Known.of_old hS (Mono.sl _ _ _ _ _)).and (Known.of_old hS' (Mono.sl _ _ _ _ _))
  rintro _ rfl
  (repeat (first | (with_reducible apply XL.op) | ((with_reducible apply XOp.p1); (case hg | hv => exact rfl)) | ((with_reducible apply XOp.load); (case hg | ht | hk | hx => exact rfl); (case hc => exact own_cell (i := 0) rfl rfl)) | ((with_reducible apply XOp.load); (case hg | ht | hk | hx => exact rfl); (case hc => exact own_cell (i := 1) rfl rfl)) | (with_reducible apply XL.nilT) | (with_reducible apply XC.seq) | (with_reducible apply XC.region (Γ := Γ)) | (with_reducible apply XQ.ret) | (first | ((with_reducible apply XOp.split); (case hg | hj | hd | hb => exact rfl); (fail_if_success (case hf => exact fun h => Bool.noConfusion h)); (fail_if_success (case ht => exact fun h => Bool.noConfusion h)); (first | (case ht => intro hb_; try simp only [pd_true, pd_false, Bool.not_eq_true', Bool.not_eq_false', Bool.and_eq_true, Bool.and_eq_false_iff, Bool.or_eq_true, Bool.or_eq_false_iff, not_true_eq_false, not_false_eq_true, Int.not_lt, Int.not_le] at hb_; first | done | (exfalso; first | omega | contradiction)) | (case hf => intro hb_; try simp only [pd_true, pd_false, Bool.not_eq_true', Bool.not_eq_false', Bool.and_eq_true, Bool.and_eq_false_iff, Bool.or_eq_true, Bool.or_eq_false_iff, not_true_eq_false, not_false_eq_true, Int.not_lt, Int.not_le] at hb_; first | done | (exfalso; first | omega | contradiction))); intro hb_; try simp only [pd_true, pd_false, Bool.not_eq_true', Bool.not_eq_false', Bool.and_eq_true, Bool.and_eq_false_iff, Bool.or_eq_true, Bool.or_eq_false_iff, not_true_eq_false, not_false_eq_true, Int.not_lt, Int.not_le] at hb_) | ((with_reducible apply XP.split); (case ho | hg | hj | hd | hb => exact rfl); (fail_if_success (case hf => exact fun h => Bool.noConfusion h)); (fail_if_success (case ht => exact fun h => Bool.noConfusion h)); (first | (case ht => intro hb_; try simp only [pd_true, pd_false, Bool.not_eq_true', Bool.not_eq_false', Bool.and_eq_true, Bool.and_eq_false_iff, Bool.or_eq_true, Bool.or_eq_false_iff, not_true_eq_false, not_false_eq_true, Int.not_lt, Int.not_le] at hb_; first | done | (exfalso; first | omega | contradiction)) | (case hf => intro hb_; try simp only [pd_true, pd_false, Bool.not_eq_true', Bool.not_eq_false', Bool.and_eq_true, Bool.and_eq_false_iff, Bool.or_eq_true, Bool.or_eq_false_iff, not_true_eq_false, not_false_eq_true, Int.not_lt, Int.not_le] at hb_; first | done | (exfalso; first | omega | contradiction))); intro hb_; try simp only [pd_true, pd_false, Bool.not_eq_true', Bool.not_eq_false', Bool.and_eq_true, Bool.and_eq_false_iff, Bool.or_eq_true, Bool.or_eq_false_iff, not_true_eq_false, not_false_eq_true, Int.not_lt, Int.not_le] at hb_) | ((with_reducible apply XC.cond); (case hc => exact rfl); (first | (case ht => intro hb_; try simp only [pd_true, pd_false, Bool.not_eq_true', Bool.not_eq_false', Bool.and_eq_true, Bool.and_eq_false_iff, Bool.or_eq_true, Bool.or_eq_false_iff, not_true_eq_false, not_false_eq_true, Int.not_lt, Int.not_le] at hb_; first | done | (exfalso; first | omega | contradiction)) | (case hf => intro hb_; try simp only [pd_true, pd_false, Bool.not_eq_true', Bool.not_eq_false', Bool.and_eq_true, Bool.and_eq_false_iff, Bool.or_eq_true, Bool.or_eq_false_iff, not_true_eq_false, not_false_eq_true, Int.not_lt, Int.not_le] at hb_; first | done | (exfalso; first | omega | contradiction))); intro hb_; try simp only [pd_true, pd_false, Bool.not_eq_true', Bool.not_eq_false', Bool.and_eq_true, Bool.and_eq_false_iff, Bool.or_eq_true, Bool.or_eq_false_iff, not_true_eq_false, not_false_eq_true, Int.not_lt, Int.not_le] at hb_))))
  ((with_reducible apply XQ.retE); (case hr => exact .t rfl .nil))
  rw [pdt (rfl : strOf l.Guide = strOf l.Guide)]; rfl
theorem parse_any (t : List Int) (hB : isB t) : FC Tryd.prog 14 [.string (strOf t)] [] libK (fun v L => PrsR t v L) := by
  by_cases hl : t.length ≤ 100000000
  · exact parse_fn t hB hl
  refine FC.sub2 ?_
  refine FC.intro Tryd.func14 rfl (by kernel_rfl) 71 [.cell 2 33, .tmp 3] rfl rfl rfl ?_
  intro w0 hK
  have hsz : ((strOf t).size : Int) = (t.length : Int) := by rw [strOf_size]
  (repeat (first | (with_reducible apply XL.op) | (with_reducible apply XC.seq) | (with_reducible apply XC.region (Γ := Γ))))
  ((with_reducible apply XOp.alloc); (case hg | ht | hx' => exact rfl); intro rs)
  (repeat (first | (with_reducible apply XL.op) | ((with_reducible apply XOp.p1); (case hg | hv => exact rfl)) | (with_reducible apply XL.nilT) | (with_reducible apply XC.seq) | (with_reducible apply XC.region (Γ := Γ))))
  rw [hsz]
  have hp : parseS t = none := by unfold parseS; rw [if_pos (by omega)]
  (repeat (first | (with_reducible apply XL.op) | ((with_reducible apply XOp.p1); (case hg | hv => exact rfl)) | ((with_reducible apply XOp.storeN (i := 0)); (case hg | ht | hx | hv' | hk | h1 | hi | hs | ha => exact rfl)) | ((with_reducible apply XOp.pr); (case hg => exact rfl); (case hr => ((with_reducible apply PR.build); (case ht | hk | hok | hz | hf => exact rfl)))) | (with_reducible apply XL.nilT) | (with_reducible apply XC.seq) | (with_reducible apply XC.region (Γ := Γ)) | (with_reducible apply XQ.ret) | (with_reducible apply XQ.rt) | (first | ((with_reducible apply XOp.split); (case hg | hj | hd | hb => exact rfl); (fail_if_success (case hf => exact fun h => Bool.noConfusion h)); (fail_if_success (case ht => exact fun h => Bool.noConfusion h)); (first | (case ht => intro hb_; try simp only [pd_true, pd_false, Bool.not_eq_true', Bool.not_eq_false', Bool.and_eq_true, Bool.and_eq_false_iff, Bool.or_eq_true, Bool.or_eq_false_iff, not_true_eq_false, not_false_eq_true, Int.not_lt, Int.not_le] at hb_; first | done | (exfalso; first | omega | contradiction)) | (case hf => intro hb_; try simp only [pd_true, pd_false, Bool.not_eq_true', Bool.not_eq_false', Bool.and_eq_true, Bool.and_eq_false_iff, Bool.or_eq_true, Bool.or_eq_false_iff, not_true_eq_false, not_false_eq_true, Int.not_lt, Int.not_le] at hb_; first | done | (exfalso; first | omega | contradiction))); intro hb_; try simp only [pd_true, pd_false, Bool.not_eq_true', Bool.not_eq_false', Bool.and_eq_true, Bool.and_eq_false_iff, Bool.or_eq_true, Bool.or_eq_false_iff, not_true_eq_false, not_false_eq_true, Int.not_lt, Int.not_le] at hb_) | ((with_reducible apply XP.split); (case ho | hg | hj | hd | hb => exact rfl); (fail_if_success (case hf => exact fun h => Bool.noConfusion h)); (fail_if_success (case ht => exact fun h => Bool.noConfusion h)); (first | (case ht => intro hb_; try simp only [pd_true, pd_false, Bool.not_eq_true', Bool.not_eq_false', Bool.and_eq_true, Bool.and_eq_false_iff, Bool.or_eq_true, Bool.or_eq_false_iff, not_true_eq_false, not_false_eq_true, Int.not_lt, Int.not_le] at hb_; first | done | (exfalso; first | omega | contradiction)) | (case hf => intro hb_; try simp only [pd_true, pd_false, Bool.not_eq_true', Bool.not_eq_false', Bool.and_eq_true, Bool.and_eq_false_iff, Bool.or_eq_true, Bool.or_eq_false_iff, not_true_eq_false, not_false_eq_true, Int.not_lt, Int.not_le] at hb_; first | done | (exfalso; first | omega | contradiction))); intro hb_; try simp only [pd_true, pd_false, Bool.not_eq_true', Bool.not_eq_false', Bool.and_eq_true, Bool.and_eq_false_iff, Bool.or_eq_true, Bool.or_eq_false_iff, not_true_eq_false, not_false_eq_true, Int.not_lt, Int.not_le] at hb_) | ((with_reducible apply XC.cond); (case hc => exact rfl); (first | (case ht => intro hb_; try simp only [pd_true, pd_false, Bool.not_eq_true', Bool.not_eq_false', Bool.and_eq_true, Bool.and_eq_false_iff, Bool.or_eq_true, Bool.or_eq_false_iff, not_true_eq_false, not_false_eq_true, Int.not_lt, Int.not_le] at hb_; first | done | (exfalso; first | omega | contradiction)) | (case hf => intro hb_; try simp only [pd_true, pd_false, Bool.not_eq_true', Bool.not_eq_false', Bool.and_eq_true, Bool.and_eq_false_iff, Bool.or_eq_true, Bool.or_eq_false_iff, not_true_eq_false, not_false_eq_true, Int.not_lt, Int.not_le] at hb_; first | done | (exfalso; first | omega | contradiction))); intro hb_; try simp only [pd_true, pd_false, Bool.not_eq_true', Bool.not_eq_false', Bool.and_eq_true, Bool.and_eq_false_iff, Bool.or_eq_true, Bool.or_eq_false_iff, not_true_eq_false, not_false_eq_true, Int.not_lt, Int.not_le] at hb_))))
  ((with_reducible apply XQ.retE); (case hr => exact .row rfl (by kernel_rfl) (by kernel_rfl) (own_row (i := 0) (m := 7) rfl rfl) (.t rfl .nil)))
  refine ⟨[], .of (List.nil_sublist _), ?_⟩
  unfold PrsR; rw [hp]; exact ⟨rfl, rfl⟩
theorem refParse_any (t : List Int) (hB : isB t) : FC Tryd.prog 15 [.string (strOf t)] [] (fun _ => True) (fun v L => PrsR t v L) := by
  by_cases hl : t.length ≤ 100000000
  · exact refParse_fn t hB hl
  refine FC.sub2 ?_
  refine FC.intro Tryd.func15 rfl (by kernel_rfl) 102 [.cell 2 36, .tmp 3] rfl rfl rfl ?_
  intro w0 _
  have hsz : ((strOf t).size : Int) = (t.length : Int) := by rw [strOf_size]
  (repeat (first | (with_reducible apply XL.op) | (with_reducible apply XC.seq) | (with_reducible apply XC.region (Γ := Γ))))
  ((with_reducible apply XOp.alloc); (case hg | ht | hx' => exact rfl); intro rs)
  (repeat (first | (with_reducible apply XL.op) | ((with_reducible apply XOp.p1); (case hg | hv => exact rfl)) | (with_reducible apply XL.nilT) | (with_reducible apply XC.seq) | (with_reducible apply XC.region (Γ := Γ))))
  rw [hsz]
  have hp : parseS t = none := by unfold parseS; rw [if_pos (by omega)]
  (repeat (first | (with_reducible apply XL.op) | ((with_reducible apply XOp.p1); (case hg | hv => exact rfl)) | ((with_reducible apply XOp.storeN (i := 0)); (case hg | ht | hx | hv' | hk | h1 | hi | hs | ha => exact rfl)) | ((with_reducible apply XOp.pr); (case hg => exact rfl); (case hr => ((with_reducible apply PR.build); (case ht | hk | hok | hz | hf => exact rfl)))) | (with_reducible apply XL.nilT) | (with_reducible apply XC.seq) | (with_reducible apply XC.region (Γ := Γ)) | (with_reducible apply XQ.ret) | (with_reducible apply XQ.rt) | (first | ((with_reducible apply XOp.split); (case hg | hj | hd | hb => exact rfl); (fail_if_success (case hf => exact fun h => Bool.noConfusion h)); (fail_if_success (case ht => exact fun h => Bool.noConfusion h)); (first | (case ht => intro hb_; try simp only [pd_true, pd_false, Bool.not_eq_true', Bool.not_eq_false', Bool.and_eq_true, Bool.and_eq_false_iff, Bool.or_eq_true, Bool.or_eq_false_iff, not_true_eq_false, not_false_eq_true, Int.not_lt, Int.not_le] at hb_; first | done | (exfalso; first | omega | contradiction)) | (case hf => intro hb_; try simp only [pd_true, pd_false, Bool.not_eq_true', Bool.not_eq_false', Bool.and_eq_true, Bool.and_eq_false_iff, Bool.or_eq_true, Bool.or_eq_false_iff, not_true_eq_false, not_false_eq_true, Int.not_lt, Int.not_le] at hb_; first | done | (exfalso; first | omega | contradiction))); intro hb_; try simp only [pd_true, pd_false, Bool.not_eq_true', Bool.not_eq_false', Bool.and_eq_true, Bool.and_eq_false_iff, Bool.or_eq_true, Bool.or_eq_false_iff, not_true_eq_false, not_false_eq_true, Int.not_lt, Int.not_le] at hb_) | ((with_reducible apply XP.split); (case ho | hg | hj | hd | hb => exact rfl); (fail_if_success (case hf => exact fun h => Bool.noConfusion h)); (fail_if_success (case ht => exact fun h => Bool.noConfusion h)); (first | (case ht => intro hb_; try simp only [pd_true, pd_false, Bool.not_eq_true', Bool.not_eq_false', Bool.and_eq_true, Bool.and_eq_false_iff, Bool.or_eq_true, Bool.or_eq_false_iff, not_true_eq_false, not_false_eq_true, Int.not_lt, Int.not_le] at hb_; first | done | (exfalso; first | omega | contradiction)) | (case hf => intro hb_; try simp only [pd_true, pd_false, Bool.not_eq_true', Bool.not_eq_false', Bool.and_eq_true, Bool.and_eq_false_iff, Bool.or_eq_true, Bool.or_eq_false_iff, not_true_eq_false, not_false_eq_true, Int.not_lt, Int.not_le] at hb_; first | done | (exfalso; first | omega | contradiction))); intro hb_; try simp only [pd_true, pd_false, Bool.not_eq_true', Bool.not_eq_false', Bool.and_eq_true, Bool.and_eq_false_iff, Bool.or_eq_true, Bool.or_eq_false_iff, not_true_eq_false, not_false_eq_true, Int.not_lt, Int.not_le] at hb_) | ((with_reducible apply XC.cond); (case hc => exact rfl); (first | (case ht => intro hb_; try simp only [pd_true, pd_false, Bool.not_eq_true', Bool.not_eq_false', Bool.and_eq_true, Bool.and_eq_false_iff, Bool.or_eq_true, Bool.or_eq_false_iff, not_true_eq_false, not_false_eq_true, Int.not_lt, Int.not_le] at hb_; first | done | (exfalso; first | omega | contradiction)) | (case hf => intro hb_; try simp only [pd_true, pd_false, Bool.not_eq_true', Bool.not_eq_false', Bool.and_eq_true, Bool.and_eq_false_iff, Bool.or_eq_true, Bool.or_eq_false_iff, not_true_eq_false, not_false_eq_true, Int.not_lt, Int.not_le] at hb_; first | done | (exfalso; first | omega | contradiction))); intro hb_; try simp only [pd_true, pd_false, Bool.not_eq_true', Bool.not_eq_false', Bool.and_eq_true, Bool.and_eq_false_iff, Bool.or_eq_true, Bool.or_eq_false_iff, not_true_eq_false, not_false_eq_true, Int.not_lt, Int.not_le] at hb_))))
  ((with_reducible apply XQ.retE); (case hr => exact .row rfl (by kernel_rfl) (by kernel_rfl) (own_row (i := 0) (m := 7) rfl rfl) (.t rfl .nil)))
  refine ⟨[], .of (List.nil_sublist _), ?_⟩
  unfold PrsR; rw [hp]; exact ⟨rfl, rfl⟩
theorem none_held : Held [] (lnK Ln.none none none none 0 0 0) := Held.nil fun h => ⟨slNone, slNone, ⟨by simp [Ln.none], by simp [Ln.none], fun _ => rfl, fun h => absurd h (by simp [Ln.none]), fun i x h => by simp [Ln.none] at h⟩⟩
theorem wireParses_fn (t : List Int) (hB : isB t) : FC Tryd.prog 4 [.string (strOf t)] [] libK (fun v _ => v = .bool true) := by
  refine FC.intro Tryd.func4 rfl (by kernel_rfl) 32 [.tmp 2] rfl rfl rfl ?_
  intro w0 hK
  (repeat (first | (with_reducible apply XL.op) | ((with_reducible apply XOp.p1); (case hg | hv => exact rfl)) | (with_reducible apply XL.nilT) | (with_reducible apply XC.seq) | (with_reducible apply XC.region (Γ := Γ))))
  ((with_reducible apply XOp.callQ (hF := works_fn)); (case hg => exact rfl); (case hc => exact rfl); (case ha => exact rfl); try (case hA => exact Known.true))
  case hA => exact Known.of_old hK lib_mono
  rintro _ rfl
  (repeat (first | (with_reducible apply XL.op) | ((with_reducible apply XOp.p1); (case hg | hv => exact rfl)) | (with_reducible apply XL.nilT) | (with_reducible apply XC.seq) | (with_reducible apply XC.region (Γ := Γ))))
  ((with_reducible apply XOp.callN (hF := parse_any t hB)); (case hg => exact rfl); (case hc => exact rfl); (case ha => exact rfl); try (case hA => exact Known.true))
  · exact Known.of_old hK lib_mono
  rintro v1 F1 h1
  unfold PrsR at h1
  cases hp : parseS t with
  | none =>
    rw [hp] at h1
    obtain ⟨rfl, rfl⟩ := h1
    (repeat (first | (with_reducible apply XL.op) | ((with_reducible apply XOp.p1); (case hg | hv => exact rfl))))
    ((with_reducible apply XOp.alloc); (case hg | ht | hx' => exact rfl); intro lb)
    (repeat (first | (with_reducible apply XL.op) | ((with_reducible apply XOp.p1); (case hg | hv => exact rfl)) | ((with_reducible apply XOp.storeN (i := 0)); (case hg | ht | hx | hv' | hk | h1 | hi | hs | ha => exact rfl)) | (with_reducible apply XL.nilT) | (with_reducible apply XC.seq) | (with_reducible apply XC.region (Γ := Γ))))
    ((with_reducible apply XOp.callN (hF := refParse_any t hB)); (case hg => exact rfl); (case hc => exact rfl); (case ha => exact rfl); try (case hA => exact Known.true))
    rintro v2 F2 h2
    unfold PrsR at h2
    rw [hp] at h2
    obtain ⟨rfl, rfl⟩ := h2
    (repeat (first | (with_reducible apply XL.op) | ((with_reducible apply XOp.p1); (case hg | hv => exact rfl))))
    ((with_reducible apply XOp.alloc); (case hg | ht | hx' => exact rfl); intro mb)
    (repeat (first | (with_reducible apply XL.op) | ((with_reducible apply XOp.p1); (case hg | hv => exact rfl)) | ((with_reducible apply XOp.loadO (i := 0)); (case hg | ht | hk | hx | hi | hc => exact rfl)) | ((with_reducible apply XOp.loadO (i := 1)); (case hg | ht | hk | hx | hi | hc => exact rfl)) | ((with_reducible apply XOp.storeN (i := 0)); (case hg | ht | hx | hv' | hk | h1 | hi | hs | ha => exact rfl)) | (with_reducible apply XL.nilT) | (with_reducible apply XC.seq) | (with_reducible apply XC.region (Γ := Γ))))
    ((with_reducible apply XOp.callQ (hF := eqLines_fn Ln.none none none none none none none 0 0 0 0 0 0)); (case hg => exact rfl); (case hc => exact rfl); (case ha => exact rfl); try (case hA => exact Known.true))
    case hA => exact (none_held.known fun y hy => by cases hy).and (none_held.known fun y hy => by cases hy)
    rintro _ rfl
    (repeat (first | (with_reducible apply XL.op) | ((with_reducible apply XOp.p1); (case hg | hv => exact rfl)) | (with_reducible apply XL.nilT) | (with_reducible apply XC.seq) | (with_reducible apply XC.region (Γ := Γ)) | (with_reducible apply XQ.ret)))
    ((with_reducible apply XQ.retE); (case hr => exact .t rfl .nil))
    rw [pdt rfl]; rfl
  | some l =>
    rw [hp] at h1
    obtain ⟨hlok, hlp⟩ := parse_sound hB hp
    obtain ⟨hm, hle, hl8⟩ := print_iff.1 hlp
    obtain ⟨z1, _, _, _, z5, z6, _⟩ := line_small hm (show (lineT l).length ≤ 8192 by rw [hle]; exact hl8)
    obtain ⟨tv, nv, sv, Ft, Fn, Fs, rfl, h1, h2, h3, rfl⟩ := h1
    obtain ⟨ta, tc, na, nc, sa, sc, rfl, rfl, rfl, h1, h2, h3⟩ := ln_held hlok ⟨by omega, by omega, by omega⟩ h1 h2 h3
    (repeat (first | (with_reducible apply XL.op) | ((with_reducible apply XOp.p1); (case hg | hv => exact rfl))))
    ((with_reducible apply XOp.alloc); (case hg | ht | hx' => exact rfl); intro lb)
    (repeat (first | (with_reducible apply XL.op) | ((with_reducible apply XOp.p1); (case hg | hv => exact rfl)) | ((with_reducible apply XOp.storeN (i := 0)); (case hg | ht | hx | hv' | hk | h1 | hi | hs | ha => exact rfl)) | (with_reducible apply XL.nilT) | (with_reducible apply XC.seq) | (with_reducible apply XC.region (Γ := Γ))))
    ((with_reducible apply XOp.callN (hF := refParse_any t hB)); (case hg => exact rfl); (case hc => exact rfl); (case ha => exact rfl); try (case hA => exact Known.true))
    rintro v2 F2 g1
    unfold PrsR at g1
    rw [hp] at g1
    obtain ⟨tv2, nv2, sv2, Ft2, Fn2, Fs2, rfl, g1, g2, g3, rfl⟩ := g1
    obtain ⟨ta2, tc2, na2, nc2, sa2, sc2, rfl, rfl, rfl, g1, g2, g3⟩ := ln_held hlok ⟨by omega, by omega, by omega⟩ g1 g2 g3
    (repeat (first | (with_reducible apply XL.op) | ((with_reducible apply XOp.p1); (case hg | hv => exact rfl))))
    ((with_reducible apply XOp.alloc); (case hg | ht | hx' => exact rfl); intro mb)
    (repeat (first | (with_reducible apply XL.op) | ((with_reducible apply XOp.p1); (case hg | hv => exact rfl)) | ((with_reducible apply XOp.loadO (i := 0)); (case hg | ht | hk | hx | hi | hc => exact rfl)) | ((with_reducible apply XOp.loadO (i := 1)); (case hg | ht | hk | hx | hi | hc => exact rfl)) | ((with_reducible apply XOp.storeN (i := 0)); (case hg | ht | hx | hv' | hk | h1 | hi | hs | ha => exact rfl)) | (with_reducible apply XL.nilT) | (with_reducible apply XC.seq) | (with_reducible apply XC.region (Γ := Γ))))
    ((with_reducible apply XOp.callQ (hF := eqLines_fn l ta na sa ta2 na2 sa2 tc nc sc tc2 nc2 sc2)); (case hg => exact rfl); (case hc => exact rfl); (case ha => exact rfl); try (case hA => exact Known.true))
    case hA => exact ((h1.known fun y hy => by simp [hy]).and ((h2.known fun y hy => by simp [hy]).and (h3.known fun y hy => by simp [hy]))).and ((g1.known fun y hy => by simp [hy]).and ((g2.known fun y hy => by simp [hy]).and (g3.known fun y hy => by simp [hy])))
    rintro _ rfl
    (repeat (first | (with_reducible apply XL.op) | ((with_reducible apply XOp.p1); (case hg | hv => exact rfl)) | (with_reducible apply XL.nilT) | (with_reducible apply XC.seq) | (with_reducible apply XC.region (Γ := Γ)) | (with_reducible apply XQ.ret)))
    ((with_reducible apply XQ.retE); (case hr => exact .t rfl .nil))
    rw [pdt rfl]; rfl
end Go.Proofs.YtepfnakabafhlaaDoorX
/- given: the program's line of the document's, its lists with spare room, in which marks stand. -/
namespace Go.Proofs.YtepfnakabafhlaaDoorX
open Go Go.SX
def kMark : List Int := [109, 97, 114, 107]
def GivenR (l : Ln) (v : Value) (L : HL) : Prop :=
  ∃ gt ct gn cn gs cs Ft Fn Fs, OwnS 5 1 (.slice (some ⟨gt, 0, none⟩) (l.Text.length + 64) ct) (l.Text.length + 64) ((l.Text ++ List.replicate 64 77).map (.int .u8)) Ft ∧
    OwnS 3 1 (.slice (some ⟨gn, 0, none⟩) (l.Numbers.length + 64) cn) (l.Numbers.length + 64) ((l.Numbers ++ List.replicate 64 77).map (.int .i64)) Fn ∧
    OwnS 9 1 (.slice (some ⟨gs, 0, none⟩) (l.Stops.length + 64) cs) (l.Stops.length + 64) (strsV (l.Stops ++ List.replicate 64 kMark)) Fs ∧
    v = .agg ⟨lnC l.Word l.Id (.slice (some ⟨gt, 0, none⟩) l.Text.length ct) (.slice (some ⟨gn, 0, none⟩) l.Numbers.length cn) l.Seed l.Guide (.slice (some ⟨gs, 0, none⟩) l.Stops.length cs)⟩ ∧ L = Ft ++ (Fn ++ Fs)
set_option maxHeartbeats 16000000 in
theorem given_fn (l : Ln) (hz : l.Text.length ≤ 1048576 ∧ l.Numbers.length ≤ 1048576 ∧ l.Stops.length ≤ 1048576) (ta na sa : Option Addr) (tc nc sc : Nat) :
    FC Tryd.prog 17 [.agg ⟨lnC l.Word l.Id (.slice ta l.Text.length tc) (.slice na l.Numbers.length nc) l.Seed l.Guide (.slice sa l.Stops.length sc)⟩] [] (fun h => lnK l ta na sa tc nc sc h) (fun v L => GivenR l v L) := by
  refine FC.sub2 ?_
  refine FC.intro Tryd.func17 rfl (by kernel_rfl) 66 [.cell 2 33] rfl rfl rfl ?_
  rintro w0 ⟨hT, hN, hS⟩
  have hts := hT.small (by decide)
  have hns := hN.small (by decide)
  have hss := hS.small (by decide)
  (repeat (first | (with_reducible apply XL.op) | (with_reducible apply XC.seq) | (with_reducible apply XC.region (Γ := Γ))))
  ((with_reducible apply XOp.box); (case hg | hx' => exact rfl); intro lb)
  (repeat ((with_reducible apply XL.op)))
  ((with_reducible apply XOp.alloc); (case hg | ht | hx' => exact rfl); intro rs)
  (repeat (first | (with_reducible apply XL.op) | ((with_reducible apply XOp.p1); (case hg | hv => exact rfl)) | ((with_reducible apply XOp.load); (case hg | ht | hk | hx => exact rfl); (case hc => exact own_cell (i := 1) rfl rfl)) | (with_reducible apply XL.nilT) | (with_reducible apply XC.seq) | (with_reducible apply XC.region (Γ := Γ))))
  ((with_reducible apply XOp.callN (hF := copyBytes_fn l.Text ta tc)); (case hg => exact rfl); (case hc => exact rfl); (case ha => exact rfl); try (case hA => exact Known.true))
  · exact Known.of_old hT (Mono.sl _ _ _ _ _)
  rintro v1 Ft ht
  obtain ⟨a1, c1, rfl⟩ := ht.val
  (repeat (first | (with_reducible apply XL.op) | ((with_reducible apply XOp.p1); (case hg | hv => exact rfl)) | ((with_reducible apply XOp.load); (case hg | ht | hk | hx => exact rfl); (case hc => exact own_cell (i := 1) rfl rfl)) | (with_reducible apply XL.nilT) | (with_reducible apply XC.seq) | (with_reducible apply XC.region (Γ := Γ))))
  ((with_reducible apply XOp.callN (hF := copyInts_fn l.Numbers na nc)); (case hg => exact rfl); (case hc => exact rfl); (case ha => exact rfl); try (case hA => exact Known.true))
  · exact Known.of_old hN (Mono.sl _ _ _ _ _)
  rintro v2 Fn hn
  obtain ⟨a2, c2, rfl⟩ := hn.val
  (repeat (first | (with_reducible apply XL.op) | ((with_reducible apply XOp.p1); (case hg | hv => exact rfl)) | (with_reducible apply XL.nilT) | (with_reducible apply XC.seq) | (with_reducible apply XC.region (Γ := Γ)) | (with_reducible apply XC.block)))
  refine XC.loopP (fun k ρ L => ∃ (j : Nat) (v : Value) (Fs : HL), j + k = l.Stops.length ∧ OwnS 9 1 v j (strsV (l.Stops.take j)) Fs ∧ L = ([(rs, Obj.cells ⟨lnC [] 0 nilV nilV 0 [] nilV⟩ 33 (0, 0)), RLnB lb l.Word l.Id (.slice ta l.Text.length tc) (.slice na l.Numbers.length nc) l.Seed l.Guide (.slice sa l.Stops.length sc)] ++ (Ft ++ Fn)) ++ Fs ∧
      Slots ρ [(1, .pointer (some ⟨lb, 0, none⟩)), (2, .pointer (some ⟨rs, 0, none⟩)), (3, .slice a1 l.Text.length c1), (4, .slice a2 l.Numbers.length c2), (5, v), (6, .int .i64 j)])
    l.Stops.length ⟨0, _, [], by simp, OwnS.nil _ _, by simp only [List.append_assoc, List.append_nil]; rfl, rfl, rfl, rfl, rfl, rfl, rfl, trivial⟩ ?_
  rintro k ρ L ⟨j, v, Fs, hjk, hos, rfl, hs⟩
  obtain ⟨a3, c3, rfl⟩ := hos.val
  refine XC.slots _ hs ?_
  (repeat (first | (with_reducible apply XL.op) | ((with_reducible apply XOp.p1); (case hg | hv => exact rfl)) | ((with_reducible apply XOp.load); (case hg | ht | hk | hx => exact rfl); (case hc => exact own_cell (i := 1) rfl rfl)) | (with_reducible apply XL.nilT) | (with_reducible apply XC.seq) | (with_reducible apply XC.region (Γ := Γ))))
  ((with_reducible apply XC.cond); (case hc => exact rfl); all_goals (intro hb_; try simp only [pd_true, pd_false, Bool.not_eq_true', Bool.not_eq_false', Bool.and_eq_true, Bool.and_eq_false_iff, Bool.or_eq_true, Bool.or_eq_false_iff, not_true_eq_false, not_false_eq_true, Int.not_lt, Int.not_le] at hb_))
  · obtain ⟨s, hsj⟩ : ∃ s, l.Stops[j]? = some s := ⟨_, List.getElem?_eq_getElem (by omega)⟩
    (repeat (first | (with_reducible apply XL.op) | ((with_reducible apply XOp.p1); (case hg | hv => exact rfl)) | ((with_reducible apply XOp.load); (case hg | ht | hk | hx => exact rfl); (case hc => exact own_cell (i := 1) rfl rfl)) | ((with_reducible apply XOp.pr); (case hg => exact rfl); (case hr => ((with_reducible apply PR.idxA); (case ht | hk | he | hx | hi => exact rfl); (case hr => first | assumption | omega); (case ha => first | assumption | exact SlA.at_ (by assumption))))) | (with_reducible apply XC.seq) | (with_reducible apply XC.region (Γ := Γ)) | (with_reducible apply XQ.skip) | (with_reducible apply XQ.nt) | (with_reducible apply XC.block) | (first | ((with_reducible apply XOp.load); (case hg | ht | hk | hx => exact rfl); (case hc => exact Known.of_old (hS.rawAt hsj 0 _ rfl) (Mono.cell _ _))) | ((with_reducible apply XP.load); (case ho | hg | ht | hk | hx => exact rfl); (case hc => exact Known.of_old (hS.rawAt hsj 0 _ rfl) (Mono.cell _ _))))))
    ((with_reducible apply XOp.buildSlice); (case hg | ht | hk | he | hz | hzl | hf => exact rfl); intro bb)
    (repeat ((with_reducible apply XL.op)))
    ((with_reducible apply XOp.append1R (R := [(rs, Obj.cells ⟨lnC [] 0 nilV nilV 0 [] nilV⟩ 33 (0, 0)), RLnB lb l.Word l.Id (.slice ta l.Text.length tc) (.slice na l.Numbers.length nc) l.Seed l.Guide (.slice sa l.Stops.length sc)] ++ (Ft ++ Fn))); (case hg => exact rfl); (case ht => exact rfl); (case hk => exact rfl); (case he => exact rfl); (case hown => exact hos); (case hs => exact rfl); (case hx => exact rfl); (case hL => exact rfl); (case hl => exact rfl); (case h1 => exact rfl); (case hz => exact rfl); (case hsz => exact Nat.zero_lt_succ _); (case hk0 => exact Nat.zero_lt_succ _); (case h63 => simp only [maxLen]; omega); (case hb => simp only []; omega); intro v_ F_ hown_; obtain ⟨a_, c_, rfl⟩ := hown_.val)
    (repeat (first | (with_reducible apply XL.op) | ((with_reducible apply XOp.p1); (case hg | hv => exact rfl)) | (with_reducible apply XL.nilT) | (with_reducible apply XC.region (Γ := Γ)) | (with_reducible apply XL.nilQ) | (with_reducible apply XQ.nt) | (with_reducible apply XQ.nb)))
    refine ⟨k - 1, by omega, _, .of (List.Sublist.refl _), j + 1, _, F_, by omega, hown_.conv rfl (by rw [take_snoc hsj]; simp [strsV, zerosL]), rfl, rfl, rfl, rfl, rfl, rfl, intS (m := l.Stops.length) (by omega) (by omega), trivial⟩
  obtain rfl : j = l.Stops.length := by omega
  rw [List.take_length] at hos
  (repeat (first | (with_reducible apply XL.op) | ((with_reducible apply XOp.p1); (case hg | hv => exact rfl)) | (with_reducible apply XL.nilT) | (with_reducible apply XC.seq) | (with_reducible apply XC.region (Γ := Γ)) | (with_reducible apply XQ.exit) | (with_reducible apply XQ.nt) | (with_reducible apply XQ.et) | (with_reducible apply XC.block) | ((with_reducible apply XQ.eb); (case hb => exact rfl))))
  refine XC.loopP (fun k ρ L => ∃ (j : Nat) (v3 v4 v5 : Value) (Ft Fn Fs : HL), j + k = 64 ∧ OwnS 5 1 v3 (l.Text.length + j) ((l.Text ++ List.replicate j 77).map (.int .u8)) Ft ∧ OwnS 3 1 v4 (l.Numbers.length + j) ((l.Numbers ++ List.replicate j 77).map (.int .i64)) Fn ∧
      OwnS 9 1 v5 (l.Stops.length + j) (strsV (l.Stops ++ List.replicate j kMark)) Fs ∧ L = [(rs, Obj.cells ⟨lnC [] 0 nilV nilV 0 [] nilV⟩ 33 (0, 0)), RLnB lb l.Word l.Id (.slice ta l.Text.length tc) (.slice na l.Numbers.length nc) l.Seed l.Guide (.slice sa l.Stops.length sc)] ++ (Ft ++ (Fn ++ Fs)) ∧
      Slots ρ [(1, .pointer (some ⟨lb, 0, none⟩)), (2, .pointer (some ⟨rs, 0, none⟩)), (3, v3), (4, v4), (5, v5), (7, .int .i64 j)])
    64 ⟨0, _, _, _, Ft, Fn, Fs, by simp, ht.conv rfl (by simp), hn.conv rfl (by simp), hos.conv rfl (by simp), by simp, rfl, rfl, rfl, rfl, rfl, rfl, trivial⟩ ?_
  clear ht hn hos hs
  rintro k ρ L ⟨j, v3, v4, v5, Ft, Fn, Fs, hjk, ht, hn, hos, rfl, hs⟩
  obtain ⟨a1, c1, rfl⟩ := ht.val
  obtain ⟨a2, c2, rfl⟩ := hn.val
  obtain ⟨a3, c3, rfl⟩ := hos.val
  refine XC.slots _ hs ?_
  (repeat (first | (with_reducible apply XL.op) | ((with_reducible apply XOp.p1); (case hg | hv => exact rfl)) | (with_reducible apply XL.nilT) | (with_reducible apply XC.seq) | (with_reducible apply XC.region (Γ := Γ))))
  ((with_reducible apply XC.cond); (case hc => exact rfl); all_goals (intro hb_; try simp only [pd_true, pd_false, Bool.not_eq_true', Bool.not_eq_false', Bool.and_eq_true, Bool.and_eq_false_iff, Bool.or_eq_true, Bool.or_eq_false_iff, not_true_eq_false, not_false_eq_true, Int.not_lt, Int.not_le] at hb_))
  · (repeat (first | (with_reducible apply XL.op) | ((with_reducible apply XOp.p1); (case hg | hv => exact rfl)) | (with_reducible apply XC.seq) | (with_reducible apply XC.region (Γ := Γ)) | (with_reducible apply XQ.skip) | (with_reducible apply XQ.nt) | (with_reducible apply XC.block)))
    ((with_reducible apply XOp.buildSlice); (case hg | ht | hk | he | hz | hzl | hf => exact rfl); intro bb)
    (repeat ((with_reducible apply XL.op)))
    (refine (show XOp _ _ _ _ _ _ _ _ ((bb, Obj.cells ⟨[.int .u8 77]⟩ 5 (0, 0)) :: ([(rs, Obj.cells ⟨lnC [] 0 nilV nilV 0 [] nilV⟩ 33 (0, 0)), RLnB lb l.Word l.Id (.slice ta l.Text.length tc) (.slice na l.Numbers.length nc) l.Seed l.Guide (.slice sa l.Stops.length sc)] ++ (Ft ++ (Fn ++ Fs)))) from XOp.perm (L' :=  (bb, Obj.cells ⟨[.int .u8 77]⟩ 5 (0, 0)) :: (([(rs, Obj.cells ⟨lnC [] 0 nilV nilV 0 [] nilV⟩ 33 (0, 0)), RLnB lb l.Word l.Id (.slice ta l.Text.length tc) (.slice na l.Numbers.length nc) l.Seed l.Guide (.slice sa l.Stops.length sc)] ++ (Fn ++ Fs)) ++ Ft)) rfl ?_ (by (first | (with_reducible exact List.Perm.refl _) | refine perm_of_cnt fun p_ => ?_; simp only [List.countP_append, List.countP_cons, List.countP_nil]; omega))))
    ((with_reducible apply XOp.append1R (R := [(rs, Obj.cells ⟨lnC [] 0 nilV nilV 0 [] nilV⟩ 33 (0, 0)), RLnB lb l.Word l.Id (.slice ta l.Text.length tc) (.slice na l.Numbers.length nc) l.Seed l.Guide (.slice sa l.Stops.length sc)] ++ (Fn ++ Fs))); (case hg => exact rfl); (case ht => exact rfl); (case hk => exact rfl); (case he => exact rfl); (case hown => exact ht); (case hs => exact rfl); (case hx => exact rfl); (case hL => exact rfl); (case hl => exact rfl); (case h1 => exact rfl); (case hz => exact rfl); (case hsz => exact Nat.zero_lt_succ _); (case hk0 => exact Nat.zero_lt_succ _); (case h63 => simp only [maxLen]; omega); (case hb => simp only []; omega); intro v_ F_ hown_; obtain ⟨a_, c_, rfl⟩ := hown_.val)
    generalize F_ = Ft2 at *
    have ht2 := hown_
    clear hown_
    (repeat (first | (with_reducible apply XL.op) | ((with_reducible apply XOp.p1); (case hg | hv => exact rfl)) | (with_reducible apply XL.nilT) | (with_reducible apply XC.seq) | (with_reducible apply XC.region (Γ := Γ))))
    ((with_reducible apply XOp.buildSlice); (case hg | ht | hk | he | hz | hzl | hf => exact rfl); intro bc)
    (repeat ((with_reducible apply XL.op)))
    (refine (show XOp _ _ _ _ _ _ _ _ ((bc, Obj.cells ⟨[.int .i64 77]⟩ 3 (0, 0)) :: (([(rs, Obj.cells ⟨lnC [] 0 nilV nilV 0 [] nilV⟩ 33 (0, 0)), RLnB lb l.Word l.Id (.slice ta l.Text.length tc) (.slice na l.Numbers.length nc) l.Seed l.Guide (.slice sa l.Stops.length sc)] ++ (Fn ++ Fs)) ++ Ft2)) from XOp.perm (L' :=  (bc, Obj.cells ⟨[.int .i64 77]⟩ 3 (0, 0)) :: (([(rs, Obj.cells ⟨lnC [] 0 nilV nilV 0 [] nilV⟩ 33 (0, 0)), RLnB lb l.Word l.Id (.slice ta l.Text.length tc) (.slice na l.Numbers.length nc) l.Seed l.Guide (.slice sa l.Stops.length sc)] ++ (Ft2 ++ Fs)) ++ Fn)) rfl ?_ (by (first | (with_reducible exact List.Perm.refl _) | refine perm_of_cnt fun p_ => ?_; simp only [List.countP_append, List.countP_cons, List.countP_nil]; omega))))
    ((with_reducible apply XOp.append1R (R := [(rs, Obj.cells ⟨lnC [] 0 nilV nilV 0 [] nilV⟩ 33 (0, 0)), RLnB lb l.Word l.Id (.slice ta l.Text.length tc) (.slice na l.Numbers.length nc) l.Seed l.Guide (.slice sa l.Stops.length sc)] ++ (Ft2 ++ Fs))); (case hg => exact rfl); (case ht => exact rfl); (case hk => exact rfl); (case he => exact rfl); (case hown => exact hn); (case hs => exact rfl); (case hx => exact rfl); (case hL => exact rfl); (case hl => exact rfl); (case h1 => exact rfl); (case hz => exact rfl); (case hsz => exact Nat.zero_lt_succ _); (case hk0 => exact Nat.zero_lt_succ _); (case h63 => simp only [maxLen]; omega); (case hb => simp only []; omega); intro v_ F_ hown_; obtain ⟨a_, c_, rfl⟩ := hown_.val)
    generalize F_ = Fn2 at *
    have hn2 := hown_
    clear hown_
    (repeat (first | (with_reducible apply XL.op) | ((with_reducible apply XOp.p1); (case hg | hv => exact rfl)) | (with_reducible apply XL.nilT) | (with_reducible apply XC.region (Γ := Γ))))
    ((with_reducible apply XOp.buildSlice); (case hg | ht | hk | he | hz | hzl | hf => exact rfl); intro bd)
    (repeat ((with_reducible apply XL.op)))
    (refine (show XOp _ _ _ _ _ _ _ _ ((bd, Obj.cells ⟨[.string ⟨#[109, 97, 114, 107]⟩]⟩ 9 (0, 0)) :: (([(rs, Obj.cells ⟨lnC [] 0 nilV nilV 0 [] nilV⟩ 33 (0, 0)), RLnB lb l.Word l.Id (.slice ta l.Text.length tc) (.slice na l.Numbers.length nc) l.Seed l.Guide (.slice sa l.Stops.length sc)] ++ (Ft2 ++ Fs)) ++ Fn2)) from XOp.perm (L' :=  (bd, Obj.cells ⟨[.string ⟨#[109, 97, 114, 107]⟩]⟩ 9 (0, 0)) :: (([(rs, Obj.cells ⟨lnC [] 0 nilV nilV 0 [] nilV⟩ 33 (0, 0)), RLnB lb l.Word l.Id (.slice ta l.Text.length tc) (.slice na l.Numbers.length nc) l.Seed l.Guide (.slice sa l.Stops.length sc)] ++ (Ft2 ++ Fn2)) ++ Fs)) rfl ?_ (by (first | (with_reducible exact List.Perm.refl _) | refine perm_of_cnt fun p_ => ?_; simp only [List.countP_append, List.countP_cons, List.countP_nil]; omega))))
    ((with_reducible apply XOp.append1R (R := [(rs, Obj.cells ⟨lnC [] 0 nilV nilV 0 [] nilV⟩ 33 (0, 0)), RLnB lb l.Word l.Id (.slice ta l.Text.length tc) (.slice na l.Numbers.length nc) l.Seed l.Guide (.slice sa l.Stops.length sc)] ++ (Ft2 ++ Fn2))); (case hg => exact rfl); (case ht => exact rfl); (case hk => exact rfl); (case he => exact rfl); (case hown => exact hos); (case hs => exact rfl); (case hx => exact rfl); (case hL => exact rfl); (case hl => exact rfl); (case h1 => exact rfl); (case hz => exact rfl); (case hsz => exact Nat.zero_lt_succ _); (case hk0 => exact Nat.zero_lt_succ _); (case h63 => simp only [maxLen]; omega); (case hb => simp only []; omega); intro v_ F_ hown_; obtain ⟨a_, c_, rfl⟩ := hown_.val)
    (repeat (first | (with_reducible apply XL.op) | ((with_reducible apply XOp.p1); (case hg | hv => exact rfl)) | (with_reducible apply XL.nilT) | (with_reducible apply XC.region (Γ := Γ)) | (with_reducible apply XL.nilQ) | (with_reducible apply XQ.nt) | (with_reducible apply XQ.nb)))
    refine ⟨k - 1, by omega, _, .of (List.Sublist.refl _), j + 1, _, _, _, Ft2, Fn2, F_, by omega, ht2.conv (by omega) ?_, hn2.conv (by omega) ?_, hown_.conv (by omega) ?_, by simp only [List.append_assoc], rfl, rfl, rfl, rfl, rfl, intS (m := 64) (by omega) (by omega), trivial⟩
    · rw [List.replicate_succ']; simp [zerosL]
    · rw [List.replicate_succ']; simp [zerosL]
    · rw [List.replicate_succ']; simp [zerosL, strsV]; rfl
  obtain rfl : j = 64 := by omega
  obtain ⟨gt, hmc1, rfl⟩ : ∃ g, l.Text.length + 64 ≤ c1 ∧ a1 = some ⟨g, 0, none⟩ := by obtain ⟨g, cp, sp, he, _, hle, _⟩ := ht.blk (by omega); exact ⟨g, by have := (Value.slice.inj he).2.2; omega, (Value.slice.inj he).1⟩
  obtain ⟨gn, hmc2, rfl⟩ : ∃ g, l.Numbers.length + 64 ≤ c2 ∧ a2 = some ⟨g, 0, none⟩ := by obtain ⟨g, cp, sp, he, _, hle, _⟩ := hn.blk (by omega); exact ⟨g, by have := (Value.slice.inj he).2.2; omega, (Value.slice.inj he).1⟩
  obtain ⟨gs, hmc3, rfl⟩ : ∃ g, l.Stops.length + 64 ≤ c3 ∧ a3 = some ⟨g, 0, none⟩ := by obtain ⟨g, cp, sp, he, _, hle, _⟩ := hos.blk (by omega); exact ⟨g, by have := (Value.slice.inj he).2.2; omega, (Value.slice.inj he).1⟩
  (repeat (first | (with_reducible apply XC.seq) | (with_reducible apply XQ.exit) | (with_reducible apply XQ.nt) | (with_reducible apply XQ.et) | ((with_reducible apply XQ.eb); (case hb => exact rfl))))
  ((with_reducible apply XC.regionL (Γ := Γ) mixed (.q 0 (.q 1 (.q 2 (.q 3 (.q 4 (.q 5 (.q 6 (.q 7 (.q 8 (.q 9 (.q 10 (.q 11 (.q 12 (.q 13 (.q 14 (.q 15 (.q 16 (.q 17 (.q 18 (.q 19 (.q 20 (.q 21 (.q 22 (.q 23 (.e 24 (.done)))))))))))))))))))))))))) [24] ([(rs, Obj.cells ⟨lnC [] 0 nilV nilV 0 [] nilV⟩ 33 (0, 0)), RLnB lb l.Word l.Id (.slice ta l.Text.length tc) (.slice na l.Numbers.length nc) l.Seed l.Guide (.slice sa l.Stops.length sc)])); (case hc => kernel_rfl); (case hs => first | exact List.nil_sublist _ | exact List.Sublist.refl _ | exact List.sublist_append_right _ _ | (refine List.Sublist.cons_cons _ (List.nil_sublist _)) | (refine List.Sublist.cons_cons _ (List.Sublist.cons_cons _ (List.nil_sublist _))) | (refine List.Sublist.cons_cons _ (List.Sublist.cons_cons _ (List.Sublist.cons_cons _ (List.nil_sublist _)))) | (refine List.Sublist.cons_cons _ (List.Sublist.cons_cons _ (List.Sublist.cons_cons _ (List.Sublist.cons_cons _ (List.nil_sublist _))))) | ((try simp only [List.append_eq, List.cons_append, List.nil_append, List.append_assoc]); (repeat (first | exact List.Sublist.refl _ | exact List.nil_sublist _ | (with_reducible apply List.Sublist.cons_cons) | (with_reducible apply List.Sublist.cons))); done)))
  (repeat (first | ((with_reducible apply XP.p1); (case ho | hg | hv => exact rfl)) | ((with_reducible apply XP.load); (case ho | hg | ht | hk | hx => exact rfl); (case hc => exact own_cell (i := 1) rfl rfl))))
  (first | ((with_reducible apply XOp.pr); (case hg => exact rfl); (case hr => (with_reducible apply PR.sliceTo); (case ht => exact rfl); (case hk => exact rfl); (case he => exact rfl); (case hx => exact rfl); (case hh => exact rfl); (case hb => omega))) | ((with_reducible apply XP.pr); (case ho => exact rfl); (case hg => exact rfl); (case hr => (with_reducible apply PR.sliceTo); (case ht => exact rfl); (case hk => exact rfl); (case he => exact rfl); (case hx => exact rfl); (case hh => exact rfl); (case hb => omega))))
  (repeat (first | ((with_reducible apply XP.p1); (case ho | hg | hv => exact rfl)) | ((with_reducible apply XP.load); (case ho | hg | ht | hk | hx => exact rfl); (case hc => exact own_cell (i := 1) rfl rfl))))
  (first | ((with_reducible apply XOp.pr); (case hg => exact rfl); (case hr => (with_reducible apply PR.sliceTo); (case ht => exact rfl); (case hk => exact rfl); (case he => exact rfl); (case hx => exact rfl); (case hh => exact rfl); (case hb => omega))) | ((with_reducible apply XP.pr); (case ho => exact rfl); (case hg => exact rfl); (case hr => (with_reducible apply PR.sliceTo); (case ht => exact rfl); (case hk => exact rfl); (case he => exact rfl); (case hx => exact rfl); (case hh => exact rfl); (case hb => omega))))
  (repeat (first | ((with_reducible apply XP.p1); (case ho | hg | hv => exact rfl)) | ((with_reducible apply XP.load); (case ho | hg | ht | hk | hx => exact rfl); (case hc => exact own_cell (i := 1) rfl rfl))))
  (first | ((with_reducible apply XOp.pr); (case hg => exact rfl); (case hr => (with_reducible apply PR.sliceTo); (case ht => exact rfl); (case hk => exact rfl); (case he => exact rfl); (case hx => exact rfl); (case hh => exact rfl); (case hb => omega))) | ((with_reducible apply XP.pr); (case ho => exact rfl); (case hg => exact rfl); (case hr => (with_reducible apply PR.sliceTo); (case ht => exact rfl); (case hk => exact rfl); (case he => exact rfl); (case hx => exact rfl); (case hh => exact rfl); (case hb => omega))))
  (repeat (first | ((with_reducible apply XOp.storeN (i := 0)); (case hg | ht | hx | hv' | hk | h1 | hi | hs | ha => exact rfl)) | (with_reducible apply XQ.ret) | (with_reducible apply XQ.nt) | ((with_reducible apply XP.pr); (case ho => exact rfl); (case hg => exact rfl); (case hr => ((with_reducible apply PR.build); (case ht | hk | hok | hz | hf => exact rfl)))) | (with_reducible apply XP.done) | ((with_reducible apply XP.e); (first | ((with_reducible apply XE.d); (case ho => exact rfl); (case hd => exact rfl)) | ((with_reducible apply XE.e); (case ho => exact rfl))))))
  ((with_reducible apply XQ.retE); (case hr => exact .row rfl (by kernel_rfl) (by kernel_rfl) (own_row (i := 0) (m := 7) rfl rfl) .nil))
  refine ⟨Ft ++ (Fn ++ Fs), .of (by repeat (first | exact List.Sublist.refl _ | apply List.Sublist.cons)), gt, c1, gn, c2, gs, c3, Ft, Fn, Fs, ht, hn, hos, ?_, rfl⟩
  simp only [Int.toNat_natCast]; rfl
end Go.Proofs.YtepfnakabafhlaaDoorX
/- What the seat's laid variables hold. -/
namespace Go.Proofs.YtepfnakabafhlaaDoorX
open Go Go.SX

theorem len2w {α : Type} {l : List α} (h : l.length = 2) : ∃ a b, l = [a, b] := by
  match l, h with
  | [a, b], _ => exact ⟨a, b, rfl⟩
theorem len6w {α : Type} {l : List α} (h : l.length = 6) : ∃ x0 x1 x2 x3 x4 x5, l = [x0, x1, x2, x3, x4, x5] := by
  match l, h with
  | [x0, x1, x2, x3, x4, x5], _ => exact ⟨x0, x1, x2, x3, x4, x5, rfl⟩
theorem len12w {α : Type} {l : List α} (h : l.length = 12) : ∃ c0 c1 c2 c3 c4 c5 c6 c7 c8 c9 c10 c11, l = [c0, c1, c2, c3, c4, c5, c6, c7, c8, c9, c10, c11] := by
  match l, h with
  | [c0, c1, c2, c3, c4, c5, c6, c7, c8, c9, c10, c11], _ => exact ⟨c0, c1, c2, c3, c4, c5, c6, c7, c8, c9, c10, c11, rfl⟩
theorem laid_at {P : Program} {w : World} : ∀ {laid : List (String × DataW Unit)} {ps : List MemPlace}, DataW.LaidVars P w laid ps → ∀ {n : String} {d : DataW Unit}, (n, d) ∈ laid →
    ∃ g t cs f p, P.globalNamed n = some g ∧ (P.globals[g]?).map (·.type) = some t ∧ w.var? P n = some cs ∧ DataW.trod (fun _ => ()) P w 0 (fun _ => true) false f t cs.toList = some (d, p)
  | [], _, _, _, _, hx => by cases hx
  | (m, e) :: r, _, ⟨g, t, cs, f, p, q, h1, h2, h3, h4, h5, _⟩, n, d, hx => by
    rcases List.mem_cons.1 hx with h | h
    · cases h; exact ⟨g, t, cs, f, p, h1, h2, h3, h4⟩
    · exact laid_at h5 h
theorem var_blk {w : World} {nm : String} {g : Nat} {cs : Array Value} {l : List Value} (hg : Tryd.prog.globalNamed nm = some g) (h : w.var? Tryd.prog nm = some cs) (hl : cs.toList = l) : ∃ t fz, hv w g = some (.cells ⟨l⟩ t fz) := by
  obtain ⟨l2⟩ := cs
  obtain rfl : l2 = l := hl
  simp only [World.var?, hg, Option.bind_some] at h
  split at h
  · rename_i c t fz e
    cases h
    exact ⟨t, fz, e⟩
  · cases h
theorem ints_of {W : World} {t e n : Nat} {k : IntKind} {l : List Int} {cs : List Value} {f : Nat} {p : List MemPlace} (ht : Tryd.prog.underlying t = some (.array n e)) (he : Tryd.prog.underlying e = some (.int k)) (hk : Tryd.prog.cellsOf e = 1) (hc : Tryd.prog.cellsOf t = n)
    (h : DataW.trod (fun _ => ()) Tryd.prog W 0 (fun _ => true) false f t cs = some (.agg (l.map fun i => DataW.lit (.int k i)), p)) : cs = l.map (.int k) := by
  obtain ⟨xs, m, rfl, hx, hl, hn, hf⟩ := DataW.trod_array ht h
  have hx1 : l.map (fun i => (DataW.lit (.int k i) : DataW Unit)) = xs.map (·.1) := DataW.agg.inj (congrArg Prod.fst hx)
  have hlen : l.length = n := by have := congrArg List.length hx1; simp only [List.length_map] at this; omega
  refine List.ext_getElem? fun i => ?_
  by_cases hi : i < n
  · have hh := hf i hi
    rw [hk] at hh
    obtain ⟨y, hy⟩ : ∃ y, xs[i]? = some y := ⟨_, List.getElem?_eq_getElem (by omega)⟩
    obtain ⟨v, hv, hy1, _⟩ := DataW.trod_int he (hh.trans hy)
    have e1 : cs[i]? = some (.int k v) := by
      have := congrArg (fun z : List Value => z[0]?) hv
      simpa using this
    obtain ⟨u, hu⟩ : ∃ u, l[i]? = some u := ⟨_, List.getElem?_eq_getElem (by omega)⟩
    have e2 := congrArg (fun z : List (DataW Unit) => z[i]?) hx1
    simp only [List.getElem?_map, hu, hy, hy1, Option.map_some, Option.some.injEq, DataW.lit.injEq, Lit.int.injEq, true_and] at e2
    rw [e1, List.getElem?_map, hu, e2]; rfl
  · rw [List.getElem?_eq_none (by omega), List.getElem?_eq_none (by rw [List.length_map]; omega)]
theorem wpair_of {W : World} {f : Nat} {cs : List Value} {d : DataW Unit} {p : List MemPlace} {a : List UInt8} {b : Int} (h : DataW.trod (fun _ => ()) Tryd.prog W 0 (fun _ => true) false f 83 cs = some (d, p))
    (hd : d = .agg [.lit (.string a), .lit (.int .i64 b)]) : cs = [.string ⟨⟨a⟩⟩, .int .i64 b] := by
  obtain ⟨y0, y1, n, hx, hl, h0, h1⟩ := Go.ChangeShapes.trod_struct2 Tryd.underlying83 h
  obtain ⟨s, e0, r0, _⟩ := DataW.trod_string Tryd.underlying9 h0
  obtain ⟨n1, e1, r1, _⟩ := DataW.trod_int Tryd.underlying3 h1
  subst hd
  simp only [Prod.mk.injEq, DataW.agg.injEq, List.cons.injEq, and_true] at hx
  rw [r0, r1] at hx
  simp only [DataW.lit.injEq, Lit.int.injEq, Lit.string.injEq, true_and] at hx
  obtain ⟨⟨rfl, rfl⟩, _⟩ := hx
  have hl2 : cs.length = 2 := hl.trans (by kernel_rfl)
  obtain ⟨c0, c1, rfl⟩ := len2w hl2
  have k1 : Tryd.prog.cellsOf 3 = 1 := by kernel_rfl
  have k2 : Tryd.prog.cellsOf 9 = 1 := by kernel_rfl
  simp only [k1, k2] at e0 e1
  simp at e0 e1
  rw [e0, e1]
theorem iface_of {P : Program} {W : World} {f t : Nat} {cs : List Value} {nm : String} {d : DataW Unit} {p : List MemPlace} {ms : Array (String × Nat)} (ht : P.underlying t = some (.interface ms)) (h : DataW.trod (fun _ => ()) P W 0 (fun _ => true) false f t cs = some (.iface nm d, p)) :
    ∃ u v, cs = [.iface u v] := by
  cases f with
  | zero => simp [DataW.trod] at h
  | succ f =>
    unfold DataW.trod at h
    rw [ht] at h
    split at h <;> simp_all
theorem lib_of {W : World} (h : laidMetH Tryd.prog [("math/bits.deBruijn32tab", Go.Proofs.YtepfnakabafhlaaDoor.Rows.laid_math_bits_deBruijn32tab), ("math/bits.deBruijn64tab", Go.Proofs.YtepfnakabafhlaaDoor.Rows.laid_math_bits_deBruijn64tab), ("internal/strconv.uint64pow10", Go.Proofs.YtepfnakabafhlaaDoor.Rows.laid_internal_strconv_uint64pow10), ("strconv.ErrRange", Go.Proofs.YtepfnakabafhlaaDoor.Rows.laid_strconv_ErrRange), ("strconv.ErrSyntax", Go.Proofs.YtepfnakabafhlaaDoor.Rows.laid_strconv_ErrSyntax), ("augur/wire.words", Go.Proofs.YtepfnakabafhlaaDoor.Rows.laid_augur_wire_words)] W) : libK (hv W) := by
  rw [MakeChecks.laidMetH_plain _ _ _ (by kernel_rfl)] at h
  obtain ⟨ps, hL, _, _⟩ := h
  refine ⟨?_, ?_, ?_, ?_⟩
  · obtain ⟨g, t, cs, f, p, h1, h2, h3, h4⟩ := laid_at hL (n := "internal/strconv.uint64pow10") (d := Go.Proofs.YtepfnakabafhlaaDoor.Rows.laid_internal_strconv_uint64pow10) (by simp)
    obtain rfl := Option.some.inj (gPow.symm.trans h1)
    obtain rfl : t = 112 := (Option.some.inj ((show (Tryd.prog.globals[4]?).map (·.type) = some 112 by kernel_rfl).symm.trans h2)).symm
    have e : Go.Proofs.YtepfnakabafhlaaDoor.Rows.laid_internal_strconv_uint64pow10 (H := Unit) = .agg (Lib.pow10Tab.map fun i => DataW.lit (.int .u64 i)) := by with_unfolding_all rfl
    rw [e] at h4
    exact var_blk gPow h3 (ints_of Tryd.underlying112 Tryd.underlying30 (by kernel_rfl) (by kernel_rfl) h4)
  · obtain ⟨g, t, cs, f, p, h1, h2, h3, h4⟩ := laid_at hL (n := "strconv.ErrSyntax") (d := Go.Proofs.YtepfnakabafhlaaDoor.Rows.laid_strconv_ErrSyntax) (by simp)
    obtain rfl := Option.some.inj (gSyn.symm.trans h1)
    obtain rfl : t = 86 := (Option.some.inj ((show (Tryd.prog.globals[2]?).map (·.type) = some 86 by kernel_rfl).symm.trans h2)).symm
    obtain ⟨u, v, e⟩ := iface_of Tryd.underlying86 h4
    obtain ⟨t, fz, hb⟩ := var_blk gSyn h3 e
    exact ⟨u, v, t, fz, hb⟩
  · obtain ⟨g, t, cs, f, p, h1, h2, h3, h4⟩ := laid_at hL (n := "strconv.ErrRange") (d := Go.Proofs.YtepfnakabafhlaaDoor.Rows.laid_strconv_ErrRange) (by simp)
    obtain rfl := Option.some.inj (gRng.symm.trans h1)
    obtain rfl : t = 86 := (Option.some.inj ((show (Tryd.prog.globals[3]?).map (·.type) = some 86 by kernel_rfl).symm.trans h2)).symm
    obtain ⟨u, v, e⟩ := iface_of Tryd.underlying86 h4
    obtain ⟨t, fz, hb⟩ := var_blk gRng h3 e
    exact ⟨u, v, t, fz, hb⟩
  · obtain ⟨g, t, cs, f, p, h1, h2, h3, h4⟩ := laid_at hL (n := "augur/wire.words") (d := Go.Proofs.YtepfnakabafhlaaDoor.Rows.laid_augur_wire_words) (by simp)
    obtain rfl := Option.some.inj (gWords.symm.trans h1)
    obtain rfl : t = 84 := (Option.some.inj ((show (Tryd.prog.globals[0]?).map (·.type) = some 84 by kernel_rfl).symm.trans h2)).symm
    obtain ⟨xs, m, rfl, hx, hl, hn, hf⟩ := DataW.trod_array Tryd.underlying84 h4
    have hl12 : cs.toList.length = 12 := hl.trans (by kernel_rfl)
    have k2 : Tryd.prog.cellsOf 83 = 2 := by kernel_rfl
    simp only [Go.Proofs.YtepfnakabafhlaaDoor.Rows.laid_augur_wire_words, Prod.mk.injEq, DataW.agg.injEq] at hx
    obtain ⟨hx, _⟩ := hx
    obtain ⟨x0, x1, x2, x3, x4, x5, rfl⟩ := len6w hn
    simp only [List.map_cons, List.map_nil, List.cons.injEq, and_true] at hx
    obtain ⟨d0, d1, d2, d3, d4, d5⟩ := hx
    have g0 := wpair_of (f := m) (d := x0.1) (p := x0.2) (hf 0 (by omega)) d0.symm
    have g1 := wpair_of (f := m) (d := x1.1) (p := x1.2) (hf 1 (by omega)) d1.symm
    have g2 := wpair_of (f := m) (d := x2.1) (p := x2.2) (hf 2 (by omega)) d2.symm
    have g3 := wpair_of (f := m) (d := x3.1) (p := x3.2) (hf 3 (by omega)) d3.symm
    have g4 := wpair_of (f := m) (d := x4.1) (p := x4.2) (hf 4 (by omega)) d4.symm
    have g5 := wpair_of (f := m) (d := x5.1) (p := x5.2) (hf 5 (by omega)) d5.symm
    obtain ⟨c0, c1, c2, c3, c4, c5, c6, c7, c8, c9, c10, c11, hcs⟩ := len12w hl12
    rw [hcs] at g0 g1 g2 g3 g4 g5
    simp [k2] at g0 g1 g2 g3 g4 g5
    refine var_blk gWords h3 ?_
    rw [hcs, g0.1, g0.2, g1.1, g1.2, g2.1, g2.2, g3.1, g3.2, g4.1, g4.2, g5.1, g5.2]; rfl
end Go.Proofs.YtepfnakabafhlaaDoorX
/- Reading a line of the document's out of an argument. -/
namespace Go.Proofs.YtepfnakabafhlaaDoorX
open Go Go.SX
structure LnV where
  l : Ln
  ta : Option Addr
  na : Option Addr
  sa : Option Addr
  tc : Nat
  nc : Nat
  sc : Nat
def LnV.cells (x : LnV) : List Value := lnC x.l.Word x.l.Id (.slice x.ta x.l.Text.length x.tc) (.slice x.na x.l.Numbers.length x.nc) x.l.Seed x.l.Guide (.slice x.sa x.l.Stops.length x.sc)
def lnKd : Kd LnV := ⟨7, fun h x cs => cs = x.cells ∧ lnK x.l x.ta x.na x.sa x.tc x.nc x.sc h ∧ x.l.ok, fun h => by rw [h.1]; rfl, fun s h => ⟨h.1, lnK_mono _ _ _ _ _ _ _ _ _ s h.2.1, h.2.2⟩⟩
def strKd : Kd (List Int) := ⟨1, fun _ s cs => cs = [.string (strOf s)] ∧ isB s, fun h => by rw [h.1]; rfl, fun _ h => h⟩
section
variable {H : Type} (enc : TypeId × Value → H) (W : World)
theorem rdrStr : Rdr enc Tryd.prog W 9 strKd := fun fuel cs x h hw => by
  obtain ⟨s, rfl, _⟩ := DataW.trod_string Tryd.underlying9 h
  exact ⟨numsOf s, by rw [strOf_nums], fun y hy => inK_u8.1 (numsOf_ok s y hy)⟩
theorem strs_of {h : HV} {l : List (List Int)} {a : Option Addr} {c : Nat} (s : SlA strKd 16 h l a c) : SlA strK 16 h l a c ∧ ∀ x ∈ l, isB x :=
  ⟨⟨s.le, s.bytes, s.nil, s.at_, fun i x hx => by obtain ⟨c, ⟨hc, _⟩, hr⟩ := s.row i x hx; exact ⟨c, hc, hr⟩⟩, fun x hx => by
    obtain ⟨i, hi⟩ := List.mem_iff_getElem?.1 hx
    obtain ⟨c, ⟨_, hb⟩, _⟩ := s.row i x hi
    exact hb⟩
theorem len7w {α : Type} {l : List α} (h : l.length = 7) : ∃ a0 a1 a2 a3 a4 a5 a6, l = [a0, a1, a2, a3, a4, a5, a6] := by
  match l, h with
  | [a0, a1, a2, a3, a4, a5, a6], _ => exact ⟨a0, a1, a2, a3, a4, a5, a6, rfl⟩
theorem rdrLn : Rdr enc Tryd.prog W 36 lnKd := fun fuel cs x h hw => by
  have hl := (rdr_struct_len Tryd.underlying36 h).trans (by kernel_rfl : Tryd.prog.cellsOf 36 = 7)
  have k9 : Tryd.prog.cellsOf 9 = 1 := by kernel_rfl
  have k3 : Tryd.prog.cellsOf 3 = 1 := by kernel_rfl
  have k23 : Tryd.prog.cellsOf 23 = 1 := by kernel_rfl
  have k29 : Tryd.prog.cellsOf 29 = 1 := by kernel_rfl
  have k30 : Tryd.prog.cellsOf 30 = 1 := by kernel_rfl
  have k31 : Tryd.prog.cellsOf 31 = 1 := by kernel_rfl
  obtain ⟨w, ew, bw⟩ := rdr_field Tryd.underlying36 h hw (i := 0) rfl (rdrStr enc W) rfl k9
  obtain ⟨n, en, bn⟩ := rdr_field Tryd.underlying36 h hw (i := 1) rfl (rdr_int Tryd.underlying3) rfl k3
  obtain ⟨t, v2, e2, ta, tc, r2, s2, _⟩ := rdr_field Tryd.underlying36 h hw (i := 2) rfl (rdr_slice Tryd.underlying23 (sz := 1) (by_ := 1) (by kernel_rfl) (by kernel_rfl) rfl (by omega) (rdr_int Tryd.underlying5)) rfl k23
  obtain ⟨ns, v3, e3, na, nc, r3, s3, _⟩ := rdr_field Tryd.underlying36 h hw (i := 3) rfl (rdr_slice Tryd.underlying29 (sz := 1) (by_ := 8) (by kernel_rfl) (by kernel_rfl) rfl (by omega) (rdr_int Tryd.underlying3)) rfl k29
  obtain ⟨sd, esd, bsd⟩ := rdr_field Tryd.underlying36 h hw (i := 4) rfl (rdr_int Tryd.underlying30) rfl k30
  obtain ⟨g, eg, bg⟩ := rdr_field Tryd.underlying36 h hw (i := 5) rfl (rdrStr enc W) rfl k9
  obtain ⟨ss, v6, e6, sa, sc, r6, s6, _⟩ := rdr_field Tryd.underlying36 h hw (i := 6) rfl (rdr_slice Tryd.underlying31 (sz := 1) (by_ := 16) (by kernel_rfl) (by kernel_rfl) rfl (by omega) (rdrStr enc W)) rfl k31
  obtain ⟨c0, c1, c2, c3, c4, c5, c6, rfl⟩ := len7w hl
  simp at ew en e2 e3 esd eg e6
  obtain ⟨s6', b6⟩ := strs_of s6
  refine ⟨⟨⟨w, n, t, ns, sd, g, ss⟩, ta, na, sa, tc, nc, sc⟩, ?_, ⟨s2, s3, s6'⟩, ⟨bw, bn, fun y hy => inK_u8.1 (all_ok s2 y hy), all_ok s3, by have := inK_u64.1 bsd; omega, bg, b6⟩⟩
  simp [LnV.cells, lnC, ew, en, e2, r2, e3, r3, esd, eg, e6, r6]
end
end Go.Proofs.YtepfnakabafhlaaDoorX
/- kept: a given line is as it was, with the marks behind its lists. -/
namespace Go.Proofs.YtepfnakabafhlaaDoorX
open Go Go.SX
def markK (l : Ln) (gt gn gs : Nat) (ct cn cs : Nat) (h : HV) : Prop :=
  byAt h (l.Text ++ List.replicate 64 77) (some ⟨gt, 0, none⟩) ct ∧ SlA (Kd.int .i64) 8 h (l.Numbers ++ List.replicate 64 77) (some ⟨gn, 0, none⟩) cn ∧ SlA strK 16 h (l.Stops ++ List.replicate 64 kMark) (some ⟨gs, 0, none⟩) cs
theorem markK_mono (l : Ln) (gt gn gs ct cn cs : Nat) : Mono (markK l gt gn gs ct cn cs) := fun h h' s e => ⟨e.1.mono s, e.2.1.mono s, e.2.2.mono s⟩
set_option maxHeartbeats 16000000 in
theorem kept_fn (l : Ln) (gt gn gs ct cn cs : Nat) (ta na sa : Option Addr) (tc nc sc : Nat) :
    FC Tryd.prog 20 [.agg ⟨lnC l.Word l.Id (.slice (some ⟨gt, 0, none⟩) l.Text.length ct) (.slice (some ⟨gn, 0, none⟩) l.Numbers.length cn) l.Seed l.Guide (.slice (some ⟨gs, 0, none⟩) l.Stops.length cs)⟩,
      .agg ⟨lnC l.Word l.Id (.slice ta l.Text.length tc) (.slice na l.Numbers.length nc) l.Seed l.Guide (.slice sa l.Stops.length sc)⟩] []
      (fun h => markK l gt gn gs ct cn cs h ∧ lnK l ta na sa tc nc sc h) (fun v L => v = .bool true ∧ L = []) := by
  refine FC.nil ?_
  refine FC.intro Tryd.func20 rfl (by kernel_rfl) 68 [.tmp 4] rfl rfl rfl ?_
  rintro w0 ⟨⟨hT, hN, hS⟩, ⟨hT', hN', hS'⟩⟩
  have h1 := hT.le
  have h2 := hN.le
  have h3 := hS.le
  have b1 := hT.bytes
  have b2 := hN.bytes
  have b3 := hS.bytes
  rw [List.length_append, List.length_replicate] at h1 h2 h3 b1 b2 b3
  have e1 : IntKind.i64.wrap ((l.Text.length : Int) + 64) = ((l.Text.length + 64 : Nat) : Int) := by rw [wrap64_of (by omega) (by omega)]; rfl
  have e2 : IntKind.i64.wrap ((l.Numbers.length : Int) + 64) = ((l.Numbers.length + 64 : Nat) : Int) := by rw [wrap64_of (by omega) (by omega)]; rfl
  have e3 : IntKind.i64.wrap ((l.Stops.length : Int) + 64) = ((l.Stops.length + 64 : Nat) : Int) := by rw [wrap64_of (by omega) (by omega)]; rfl
  (repeat (first | (with_reducible apply XL.op) | (with_reducible apply XC.seq) | (with_reducible apply XC.region (Γ := Γ))))
  ((with_reducible apply XOp.box); (case hg | hx' => exact rfl); intro lb)
  (repeat ((with_reducible apply XL.op)))
  ((with_reducible apply XOp.box); (case hg | hx' => exact rfl); intro mb)
  (repeat (first | (with_reducible apply XL.op) | ((with_reducible apply XOp.p1); (case hg | hv => exact rfl)) | ((with_reducible apply XOp.load); (case hg | ht | hk | hx => exact rfl); (case hc => exact own_cell (i := 0) rfl rfl)) | ((with_reducible apply XOp.load); (case hg | ht | hk | hx => exact rfl); (case hc => exact own_cell (i := 1) rfl rfl)) | (with_reducible apply XL.nilT) | (with_reducible apply XC.seq) | (with_reducible apply XC.region (Γ := Γ))))
  rw [e1]
  (first | ((with_reducible apply XOp.pr); (case hg => exact rfl); (case hr => (with_reducible apply PR.sliceTo); (case ht => exact rfl); (case hk => exact rfl); (case he => exact rfl); (case hx => exact rfl); (case hh => exact rfl); (case hb => omega))) | ((with_reducible apply XP.pr); (case ho => exact rfl); (case hg => exact rfl); (case hr => (with_reducible apply PR.sliceTo); (case ht => exact rfl); (case hk => exact rfl); (case he => exact rfl); (case hx => exact rfl); (case hh => exact rfl); (case hb => omega))))
  (repeat (first | (with_reducible apply XL.op) | ((with_reducible apply XOp.p1); (case hg | hv => exact rfl)) | ((with_reducible apply XOp.load); (case hg | ht | hk | hx => exact rfl); (case hc => exact own_cell (i := 0) rfl rfl)) | ((with_reducible apply XOp.load); (case hg | ht | hk | hx => exact rfl); (case hc => exact own_cell (i := 1) rfl rfl)) | (with_reducible apply XL.nilT) | (with_reducible apply XC.seq) | (with_reducible apply XC.region (Γ := Γ))))
  rw [e2]
  (first | ((with_reducible apply XOp.pr); (case hg => exact rfl); (case hr => (with_reducible apply PR.sliceTo); (case ht => exact rfl); (case hk => exact rfl); (case he => exact rfl); (case hx => exact rfl); (case hh => exact rfl); (case hb => omega))) | ((with_reducible apply XP.pr); (case ho => exact rfl); (case hg => exact rfl); (case hr => (with_reducible apply PR.sliceTo); (case ht => exact rfl); (case hk => exact rfl); (case he => exact rfl); (case hx => exact rfl); (case hh => exact rfl); (case hb => omega))))
  (repeat (first | (with_reducible apply XL.op) | ((with_reducible apply XOp.p1); (case hg | hv => exact rfl)) | ((with_reducible apply XOp.load); (case hg | ht | hk | hx => exact rfl); (case hc => exact own_cell (i := 0) rfl rfl)) | ((with_reducible apply XOp.load); (case hg | ht | hk | hx => exact rfl); (case hc => exact own_cell (i := 1) rfl rfl)) | (with_reducible apply XL.nilT) | (with_reducible apply XC.seq) | (with_reducible apply XC.region (Γ := Γ))))
  rw [e3]
  (first | ((with_reducible apply XOp.pr); (case hg => exact rfl); (case hr => (with_reducible apply PR.sliceTo); (case ht => exact rfl); (case hk => exact rfl); (case he => exact rfl); (case hx => exact rfl); (case hh => exact rfl); (case hb => omega))) | ((with_reducible apply XP.pr); (case ho => exact rfl); (case hg => exact rfl); (case hr => (with_reducible apply PR.sliceTo); (case ht => exact rfl); (case hk => exact rfl); (case he => exact rfl); (case hx => exact rfl); (case hh => exact rfl); (case hb => omega))))
  (repeat (first | (with_reducible apply XL.op) | ((with_reducible apply XOp.p1); (case hg | hv => exact rfl)) | (with_reducible apply XL.nilT) | (with_reducible apply XC.seq) | (with_reducible apply XC.region (Γ := Γ)) | (with_reducible apply XC.block)))
  refine XC.loopP (fun k ρ L => ∃ (j : Nat), j + k = 64 ∧ L = [RLnB mb l.Word l.Id (.slice ta l.Text.length tc) (.slice na l.Numbers.length nc) l.Seed l.Guide (.slice sa l.Stops.length sc), LnB lb l.Word l.Id (.slice (some ⟨gt, 0, none⟩) l.Text.length ct) (.slice (some ⟨gn, 0, none⟩) l.Numbers.length cn) l.Seed l.Guide (.slice (some ⟨gs, 0, none⟩) l.Stops.length cs)] ∧
      Slots ρ [(2, .pointer (some ⟨lb, 0, none⟩)), (3, .pointer (some ⟨mb, 0, none⟩)), (5, .slice (some ⟨gt, 0, none⟩) (l.Text.length + 64) ct), (6, .slice (some ⟨gn, 0, none⟩) (l.Numbers.length + 64) cn), (7, .slice (some ⟨gs, 0, none⟩) (l.Stops.length + 64) cs), (8, .int .i64 j)])
    64 ⟨0, by simp, rfl, rfl, rfl, rfl, rfl, rfl, rfl, trivial⟩ ?_
  rintro k ρ L ⟨j, hjk, rfl, hs⟩
  refine XC.slots _ hs ?_
  (repeat (first | (with_reducible apply XL.op) | ((with_reducible apply XOp.p1); (case hg | hv => exact rfl)) | (with_reducible apply XL.nilT) | (with_reducible apply XC.seq) | (with_reducible apply XC.region (Γ := Γ))))
  ((with_reducible apply XC.cond); (case hc => exact rfl); all_goals (intro hb_; try simp only [pd_true, pd_false, Bool.not_eq_true', Bool.not_eq_false', Bool.and_eq_true, Bool.and_eq_false_iff, Bool.or_eq_true, Bool.or_eq_false_iff, not_true_eq_false, not_false_eq_true, Int.not_lt, Int.not_le] at hb_))
  · have f1 : IntKind.i64.wrap ((l.Text.length : Int) + ((j : Nat) : Int)) = ((l.Text.length + j : Nat) : Int) := by rw [wrap64_of (by omega) (by omega)]; rfl
    have f2 : IntKind.i64.wrap ((l.Numbers.length : Int) + ((j : Nat) : Int)) = ((l.Numbers.length + j : Nat) : Int) := by rw [wrap64_of (by omega) (by omega)]; rfl
    have f3 : IntKind.i64.wrap ((l.Stops.length : Int) + ((j : Nat) : Int)) = ((l.Stops.length + j : Nat) : Int) := by rw [wrap64_of (by omega) (by omega)]; rfl
    have g1 : (l.Text ++ List.replicate 64 77)[l.Text.length + j]? = some 77 := by rw [List.getElem?_append_right (by omega), Nat.add_sub_cancel_left, List.getElem?_replicate, if_pos (by omega)]
    have g2 : (l.Numbers ++ List.replicate 64 77)[l.Numbers.length + j]? = some 77 := by rw [List.getElem?_append_right (by omega), Nat.add_sub_cancel_left, List.getElem?_replicate, if_pos (by omega)]
    have g3 : (l.Stops ++ List.replicate 64 kMark)[l.Stops.length + j]? = some kMark := by rw [List.getElem?_append_right (by omega), Nat.add_sub_cancel_left, List.getElem?_replicate, if_pos (by omega)]
    have d1 : (l.Text ++ List.replicate 64 77)[l.Text.length + j]?.getD 0 = 77 := by rw [g1]; rfl
    have d2 : (l.Numbers ++ List.replicate 64 77)[l.Numbers.length + j]?.getD 0 = 77 := by rw [g2]; rfl
    (repeat (first | (with_reducible apply XL.op) | ((with_reducible apply XOp.p1); (case hg | hv => exact rfl)) | ((with_reducible apply XOp.load); (case hg | ht | hk | hx => exact rfl); (case hc => exact own_cell (i := 0) rfl rfl)) | ((with_reducible apply XOp.pr); (case hg => exact rfl); (case hr => ((with_reducible apply PR.idx); (case ht | hk | he | hx | hi => exact rfl); (case hr => first | assumption | omega)))) | (with_reducible apply XC.seq) | (with_reducible apply XC.region (Γ := Γ)) | (with_reducible apply XQ.skip) | (with_reducible apply XQ.nt) | (with_reducible apply XC.block)))
    rw [f1]
    (repeat (first | (with_reducible apply XL.op) | ((with_reducible apply XOp.p1); (case hg | hv => exact rfl)) | (first | ((with_reducible apply XOp.load); (case hg | ht | hk | hx => exact rfl); (case hc => exact Known.of_old (hT.int (l.Text.length + j) (by rw [List.length_append, List.length_replicate]; omega)).1 (Mono.cell _ _))) | ((with_reducible apply XP.load); (case ho | hg | ht | hk | hx => exact rfl); (case hc => exact Known.of_old (hT.int (l.Text.length + j) (by rw [List.length_append, List.length_replicate]; omega)).1 (Mono.cell _ _))))))
    rw [d1]
    (repeat (first | (with_reducible apply XL.op) | ((with_reducible apply XOp.p1); (case hg | hv => exact rfl)) | ((with_reducible apply XOp.load); (case hg | ht | hk | hx => exact rfl); (case hc => exact own_cell (i := 0) rfl rfl)) | ((with_reducible apply XOp.pr); (case hg => exact rfl); (case hr => ((with_reducible apply PR.idx); (case ht | hk | he | hx | hi => exact rfl); (case hr => first | assumption | omega)))) | (first | ((with_reducible apply XOp.split); (case hg | hj | hd | hb => exact rfl); (fail_if_success (case hf => exact fun h => Bool.noConfusion h)); (fail_if_success (case ht => exact fun h => Bool.noConfusion h)); (first | (case ht => intro hb_; try simp only [pd_true, pd_false, Bool.not_eq_true', Bool.not_eq_false', Bool.and_eq_true, Bool.and_eq_false_iff, Bool.or_eq_true, Bool.or_eq_false_iff, not_true_eq_false, not_false_eq_true, Int.not_lt, Int.not_le] at hb_; first | done | (exfalso; first | omega | contradiction)) | (case hf => intro hb_; try simp only [pd_true, pd_false, Bool.not_eq_true', Bool.not_eq_false', Bool.and_eq_true, Bool.and_eq_false_iff, Bool.or_eq_true, Bool.or_eq_false_iff, not_true_eq_false, not_false_eq_true, Int.not_lt, Int.not_le] at hb_; first | done | (exfalso; first | omega | contradiction))); intro hb_; try simp only [pd_true, pd_false, Bool.not_eq_true', Bool.not_eq_false', Bool.and_eq_true, Bool.and_eq_false_iff, Bool.or_eq_true, Bool.or_eq_false_iff, not_true_eq_false, not_false_eq_true, Int.not_lt, Int.not_le] at hb_) | ((with_reducible apply XP.split); (case ho | hg | hj | hd | hb => exact rfl); (fail_if_success (case hf => exact fun h => Bool.noConfusion h)); (fail_if_success (case ht => exact fun h => Bool.noConfusion h)); (first | (case ht => intro hb_; try simp only [pd_true, pd_false, Bool.not_eq_true', Bool.not_eq_false', Bool.and_eq_true, Bool.and_eq_false_iff, Bool.or_eq_true, Bool.or_eq_false_iff, not_true_eq_false, not_false_eq_true, Int.not_lt, Int.not_le] at hb_; first | done | (exfalso; first | omega | contradiction)) | (case hf => intro hb_; try simp only [pd_true, pd_false, Bool.not_eq_true', Bool.not_eq_false', Bool.and_eq_true, Bool.and_eq_false_iff, Bool.or_eq_true, Bool.or_eq_false_iff, not_true_eq_false, not_false_eq_true, Int.not_lt, Int.not_le] at hb_; first | done | (exfalso; first | omega | contradiction))); intro hb_; try simp only [pd_true, pd_false, Bool.not_eq_true', Bool.not_eq_false', Bool.and_eq_true, Bool.and_eq_false_iff, Bool.or_eq_true, Bool.or_eq_false_iff, not_true_eq_false, not_false_eq_true, Int.not_lt, Int.not_le] at hb_) | ((with_reducible apply XC.cond); (case hc => exact rfl); (first | (case ht => intro hb_; try simp only [pd_true, pd_false, Bool.not_eq_true', Bool.not_eq_false', Bool.and_eq_true, Bool.and_eq_false_iff, Bool.or_eq_true, Bool.or_eq_false_iff, not_true_eq_false, not_false_eq_true, Int.not_lt, Int.not_le] at hb_; first | done | (exfalso; first | omega | contradiction)) | (case hf => intro hb_; try simp only [pd_true, pd_false, Bool.not_eq_true', Bool.not_eq_false', Bool.and_eq_true, Bool.and_eq_false_iff, Bool.or_eq_true, Bool.or_eq_false_iff, not_true_eq_false, not_false_eq_true, Int.not_lt, Int.not_le] at hb_; first | done | (exfalso; first | omega | contradiction))); intro hb_; try simp only [pd_true, pd_false, Bool.not_eq_true', Bool.not_eq_false', Bool.and_eq_true, Bool.and_eq_false_iff, Bool.or_eq_true, Bool.or_eq_false_iff, not_true_eq_false, not_false_eq_true, Int.not_lt, Int.not_le] at hb_))))
    rw [f2]
    (repeat (first | (with_reducible apply XL.op) | ((with_reducible apply XOp.p1); (case hg | hv => exact rfl)) | (first | ((with_reducible apply XOp.load); (case hg | ht | hk | hx => exact rfl); (case hc => exact Known.of_old (hN.int (l.Numbers.length + j) (by rw [List.length_append, List.length_replicate]; omega)).1 (Mono.cell _ _))) | ((with_reducible apply XP.load); (case ho | hg | ht | hk | hx => exact rfl); (case hc => exact Known.of_old (hN.int (l.Numbers.length + j) (by rw [List.length_append, List.length_replicate]; omega)).1 (Mono.cell _ _))))))
    rw [d2]
    (repeat (first | (with_reducible apply XL.op) | ((with_reducible apply XOp.p1); (case hg | hv => exact rfl)) | ((with_reducible apply XOp.load); (case hg | ht | hk | hx => exact rfl); (case hc => exact own_cell (i := 0) rfl rfl)) | ((with_reducible apply XOp.pr); (case hg => exact rfl); (case hr => ((with_reducible apply PR.idx); (case ht | hk | he | hx | hi => exact rfl); (case hr => first | assumption | omega)))) | (first | ((with_reducible apply XOp.split); (case hg | hj | hd | hb => exact rfl); (fail_if_success (case hf => exact fun h => Bool.noConfusion h)); (fail_if_success (case ht => exact fun h => Bool.noConfusion h)); (first | (case ht => intro hb_; try simp only [pd_true, pd_false, Bool.not_eq_true', Bool.not_eq_false', Bool.and_eq_true, Bool.and_eq_false_iff, Bool.or_eq_true, Bool.or_eq_false_iff, not_true_eq_false, not_false_eq_true, Int.not_lt, Int.not_le] at hb_; first | done | (exfalso; first | omega | contradiction)) | (case hf => intro hb_; try simp only [pd_true, pd_false, Bool.not_eq_true', Bool.not_eq_false', Bool.and_eq_true, Bool.and_eq_false_iff, Bool.or_eq_true, Bool.or_eq_false_iff, not_true_eq_false, not_false_eq_true, Int.not_lt, Int.not_le] at hb_; first | done | (exfalso; first | omega | contradiction))); intro hb_; try simp only [pd_true, pd_false, Bool.not_eq_true', Bool.not_eq_false', Bool.and_eq_true, Bool.and_eq_false_iff, Bool.or_eq_true, Bool.or_eq_false_iff, not_true_eq_false, not_false_eq_true, Int.not_lt, Int.not_le] at hb_) | ((with_reducible apply XP.split); (case ho | hg | hj | hd | hb => exact rfl); (fail_if_success (case hf => exact fun h => Bool.noConfusion h)); (fail_if_success (case ht => exact fun h => Bool.noConfusion h)); (first | (case ht => intro hb_; try simp only [pd_true, pd_false, Bool.not_eq_true', Bool.not_eq_false', Bool.and_eq_true, Bool.and_eq_false_iff, Bool.or_eq_true, Bool.or_eq_false_iff, not_true_eq_false, not_false_eq_true, Int.not_lt, Int.not_le] at hb_; first | done | (exfalso; first | omega | contradiction)) | (case hf => intro hb_; try simp only [pd_true, pd_false, Bool.not_eq_true', Bool.not_eq_false', Bool.and_eq_true, Bool.and_eq_false_iff, Bool.or_eq_true, Bool.or_eq_false_iff, not_true_eq_false, not_false_eq_true, Int.not_lt, Int.not_le] at hb_; first | done | (exfalso; first | omega | contradiction))); intro hb_; try simp only [pd_true, pd_false, Bool.not_eq_true', Bool.not_eq_false', Bool.and_eq_true, Bool.and_eq_false_iff, Bool.or_eq_true, Bool.or_eq_false_iff, not_true_eq_false, not_false_eq_true, Int.not_lt, Int.not_le] at hb_) | ((with_reducible apply XC.cond); (case hc => exact rfl); (first | (case ht => intro hb_; try simp only [pd_true, pd_false, Bool.not_eq_true', Bool.not_eq_false', Bool.and_eq_true, Bool.and_eq_false_iff, Bool.or_eq_true, Bool.or_eq_false_iff, not_true_eq_false, not_false_eq_true, Int.not_lt, Int.not_le] at hb_; first | done | (exfalso; first | omega | contradiction)) | (case hf => intro hb_; try simp only [pd_true, pd_false, Bool.not_eq_true', Bool.not_eq_false', Bool.and_eq_true, Bool.and_eq_false_iff, Bool.or_eq_true, Bool.or_eq_false_iff, not_true_eq_false, not_false_eq_true, Int.not_lt, Int.not_le] at hb_; first | done | (exfalso; first | omega | contradiction))); intro hb_; try simp only [pd_true, pd_false, Bool.not_eq_true', Bool.not_eq_false', Bool.and_eq_true, Bool.and_eq_false_iff, Bool.or_eq_true, Bool.or_eq_false_iff, not_true_eq_false, not_false_eq_true, Int.not_lt, Int.not_le] at hb_))))
    rw [f3]
    (repeat (first | (with_reducible apply XL.op) | ((with_reducible apply XOp.p1); (case hg | hv => exact rfl)) | (with_reducible apply XL.nilT) | (first | ((with_reducible apply XOp.load); (case hg | ht | hk | hx => exact rfl); (case hc => exact Known.of_old (hS.rawAt g3 0 _ rfl) (Mono.cell _ _))) | ((with_reducible apply XP.load); (case ho | hg | ht | hk | hx => exact rfl); (case hc => exact Known.of_old (hS.rawAt g3 0 _ rfl) (Mono.cell _ _))))))
    rw [pdt (show strOf kMark = ⟨#[109, 97, 114, 107]⟩ from rfl)]
    (repeat (first | (with_reducible apply XL.op) | ((with_reducible apply XOp.p1); (case hg | hv => exact rfl)) | (with_reducible apply XL.nilT) | (with_reducible apply XC.region (Γ := Γ)) | (with_reducible apply XQ.skip) | (with_reducible apply XQ.nt) | (with_reducible apply XQ.nb) | ((with_reducible apply XC.condF); (case hc => exact rfl))))
    exact ⟨k - 1, by omega, _, .of (List.Sublist.refl _), j + 1, by omega, rfl, rfl, rfl, rfl, rfl, rfl, intS (m := 64) (by omega) (by omega), trivial⟩
  have kT := hT.takeS l.Text.length
  have kN := hN.takeS l.Numbers.length
  have kS := hS.takeS l.Stops.length
  rw [List.take_left] at kT kN kS
  (repeat (first | (with_reducible apply XL.op) | ((with_reducible apply XOp.loadO (i := 0)); (case hg | ht | hk | hx | hi | hc => exact rfl)) | ((with_reducible apply XOp.loadO (i := 1)); (case hg | ht | hk | hx | hi | hc => exact rfl)) | (with_reducible apply XC.seq) | (with_reducible apply XC.region (Γ := Γ)) | (with_reducible apply XQ.exit) | (with_reducible apply XQ.nt) | (with_reducible apply XQ.et) | ((with_reducible apply XQ.eb); (case hb => exact rfl))))
  ((with_reducible apply XOp.callQ (hF := eqLines_fn l (some ⟨gt, 0, none⟩) (some ⟨gn, 0, none⟩) (some ⟨gs, 0, none⟩) ta na sa ct cn cs tc nc sc)); (case hg => exact rfl); (case hc => exact rfl); (case ha => exact rfl); try (case hA => exact Known.true))
  case hA => exact Known.of_old ⟨⟨kT, kN, kS⟩, ⟨hT', hN', hS'⟩⟩ ((lnK_mono l _ _ _ _ _ _).and (lnK_mono l _ _ _ _ _ _))
  rintro _ rfl
  (repeat (first | (with_reducible apply XL.op) | ((with_reducible apply XOp.p1); (case hg | hv => exact rfl)) | (with_reducible apply XL.nilT) | (with_reducible apply XQ.ret)))
  ((with_reducible apply XQ.retE); (case hr => exact .t rfl .nil))
  rfl
end Go.Proofs.YtepfnakabafhlaaDoorX
/- The law of Print. -/
namespace Go.Proofs.YtepfnakabafhlaaDoorX
open Go Go.SX
theorem given_held {l : Ln} {gt ct gn cn gs cs : Nat} {Ft Fn Fs : HL} (hl : l.ok) (hz : l.Text.length ≤ 1048576 ∧ l.Numbers.length ≤ 1048576 ∧ l.Stops.length ≤ 1048576)
    (h1 : OwnS 5 1 (.slice (some ⟨gt, 0, none⟩) (l.Text.length + 64) ct) (l.Text.length + 64) ((l.Text ++ List.replicate 64 77).map (.int .u8)) Ft)
    (h2 : OwnS 3 1 (.slice (some ⟨gn, 0, none⟩) (l.Numbers.length + 64) cn) (l.Numbers.length + 64) ((l.Numbers ++ List.replicate 64 77).map (.int .i64)) Fn)
    (h3 : OwnS 9 1 (.slice (some ⟨gs, 0, none⟩) (l.Stops.length + 64) cs) (l.Stops.length + 64) (strsV (l.Stops ++ List.replicate 64 kMark)) Fs) :
    Held (Ft ++ (Fn ++ Fs)) (markK l gt gn gs ct cn cs) := by
  have ok1 : ∀ x ∈ l.Text ++ List.replicate 64 77, inK .u8 x := fun x hx => by
    rcases List.mem_append.1 hx with h | h
    · exact inK_u8.2 (hl.text x h)
    · rw [(List.mem_replicate.1 h).2]; exact inK_u8.2 (by omega)
  have ok2 : ∀ x ∈ l.Numbers ++ List.replicate 64 77, inK .i64 x := fun x hx => by
    rcases List.mem_append.1 hx with h | h
    · exact hl.nums x h
    · rw [(List.mem_replicate.1 h).2]; exact inK_i64.2 (by omega)
  obtain ⟨_, _, e1, _, k1⟩ := h1.slA (by_ := 1) ok1 (by rw [List.length_append, List.length_replicate]; omega)
  obtain ⟨_, _, e2, _, k2⟩ := h2.slA (by_ := 8) ok2 (by rw [List.length_append, List.length_replicate]; omega)
  obtain ⟨_, _, e3, k3⟩ := (show OwnS 9 1 _ (l.Stops.length + 64) ((l.Stops ++ List.replicate 64 kMark).flatMap fun s => [Value.string (strOf s)]) Fs by rw [fm_one]; exact h3).raw (l := l.Stops ++ List.replicate 64 kMark) (f := fun s => [Value.string (strOf s)]) (k := 1) (hk := fun _ => rfl) (by_ := 16) (by simp) (by rw [List.length_append, List.length_replicate]; omega)
  obtain ⟨rfl, _, rfl⟩ := Value.slice.inj e1
  obtain ⟨rfl, _, rfl⟩ := Value.slice.inj e2
  obtain ⟨rfl, _, rfl⟩ := Value.slice.inj e3
  exact ((Held.frag k1 (Mono.sl _ _ _ _ _)).left).and ((((Held.frag k2 (Mono.sl _ _ _ _ _)).left).right).and (((Held.frag k3 (Mono.sl _ _ _ _ _)).right).right))
end Go.Proofs.YtepfnakabafhlaaDoorX
/- The law of Print. -/
namespace Go.Proofs.YtepfnakabafhlaaDoorX
open Go Go.SX
theorem XOp.storeE {P : Program} {Γ : Env P} {n : Nat} {w0 : World} {K : List Nat} {ops : List Oper} {N : Fr → HL → Prop} {ρ : Fr} {L : HL} {d : Option Nat} {t ty i b off : Nat} {x y : Operand} {pos : String} {af : Array Edge} {g : Option (Nat × Bool)} {r : TR} {v : Value} {cs cs' : List Value} {te : Nat} {L' : HL}
    (hg : gval n ρ ops g = some true) (ht : Γ.get t = some r) (hk : r.sz = 1) (hx : ev n ρ x = .pointer (some ⟨b, off, none⟩)) (hv' : force (ev n ρ y) = some v) (h1 : v.oneCell' = true)
    (hi : L[i]? = some (b, .cells ⟨cs⟩ te (0, 0))) (hs : off < cs.length ∧ cs.set off v = cs') (ha : aset L i (b, .cells ⟨cs'⟩ te (0, 0)) = some L')
    (h : N (updO ρ d undef) L') :
    XOp Γ n w0 K ops { dst := d, op := .store t x y, type := ty, pos := pos, after := af, guard := g } N ρ L := by
  obtain ⟨hs, rfl⟩ := hs
  exact XOp.storeAt hg ht hk hx hv' h1 hi hs ha h
def prtV : Option (List Int) → Value
  | some t => .tuple #[.string (strOf t), .int .i64 0]
  | none => .tuple #[.string (strOf []), .int .i64 220]
theorem prtV_ex (p : Option (List Int)) : ∃ s e, prtV p = .tuple #[.string (strOf s), .int .i64 e] := by cases p <;> exact ⟨_, _, rfl⟩
theorem print_fn2 (l : Ln) (hl : l.ok) (hf : l.fits) (ta na sa : Option Addr) (tc nc sc : Nat) :
    FC Tryd.prog 18 [.agg ⟨lnC l.Word l.Id (.slice ta l.Text.length tc) (.slice na l.Numbers.length nc) l.Seed l.Guide (.slice sa l.Stops.length sc)⟩] [] (fun h => libK h ∧ lnK l ta na sa tc nc sc h)
      (fun v L => v = prtV (printS l) ∧ L = []) :=
  (print_fn l hl hf ta na sa tc nc sc).mono fun v L ⟨e, h⟩ => ⟨by rw [e]; cases printS l <;> rfl, h⟩
theorem refPrint_fn2 (l : Ln) (hl : l.ok) (hf : l.fits) (ta na sa : Option Addr) (tc nc sc : Nat) :
    FC Tryd.prog 19 [.agg ⟨lnC l.Word l.Id (.slice ta l.Text.length tc) (.slice na l.Numbers.length nc) l.Seed l.Guide (.slice sa l.Stops.length sc)⟩] [] (fun h => lnK l ta na sa tc nc sc h)
      (fun v L => v = prtV (printS l) ∧ L = []) :=
  (refPrint_fn l hl hf ta na sa tc nc sc).mono fun v L ⟨e, h⟩ => ⟨by rw [e]; cases printS l <;> rfl, h⟩
def stL {α : Type} (f : α → α) (xs : List α) (i : Nat) : List α := (xs.take i).map f ++ xs.drop i
theorem stL_len {α : Type} (f : α → α) (xs : List α) (i : Nat) : (stL f xs i).length = xs.length := by simp [stL]; omega
theorem stL_get {α : Type} (f : α → α) (xs : List α) (i : Nat) : (stL f xs i)[i]? = xs[i]? := by
  unfold stL
  rcases Nat.lt_or_ge i xs.length with h | h
  · rw [List.getElem?_append_right (by simp; omega)]; simp [Nat.min_eq_left (Nat.le_of_lt h)]
  · rw [List.getElem?_eq_none (by simp; omega), List.getElem?_eq_none (by omega)]
theorem stL_zero {α : Type} (f : α → α) (xs : List α) : stL f xs 0 = xs := by simp [stL]
theorem stL_all {α : Type} (f : α → α) (xs : List α) : stL f xs xs.length = xs.map f := by simp [stL]
theorem stL_set {α : Type} (f : α → α) (xs : List α) (i : Nat) (x : α) (h : xs[i]? = some x) : (stL f xs i).set i (f x) = stL f xs (i + 1) := by
  have hl := (List.getElem?_eq_some_iff.1 h).1
  unfold stL
  rw [List.set_append_right _ _ (by simp; omega), List.drop_eq_getElem_cons hl, take_snoc h]
  have e : i - ((xs.take i).map f).length = 0 := by simp; omega
  rw [e]; simp [(List.getElem?_eq_some_iff.1 h).2]
theorem stV_get {α : Type} (f : α → α) (g : α → Value) (xs : List α) (sp : List Value) (i : Nat) (x : α) (h : xs[i]? = some x) : ((stL f xs i).map g ++ sp)[i]? = some (g x) := by
  have hl := (List.getElem?_eq_some_iff.1 h).1
  rw [List.getElem?_append_left (by rw [List.length_map, stL_len]; exact hl), List.getElem?_map, stL_get, h]; rfl
theorem stV_set {α : Type} (f : α → α) (g : α → Value) (xs : List α) (sp : List Value) (i : Nat) (x : α) (h : xs[i]? = some x) : i < ((stL f xs i).map g ++ sp).length ∧ ((stL f xs i).map g ++ sp).set i (g (f x)) = (stL f xs (i + 1)).map g ++ sp := by
  have hl := (List.getElem?_eq_some_iff.1 h).1
  refine ⟨by rw [List.length_append, List.length_map, stL_len]; omega, ?_⟩
  rw [List.set_append_left _ _ (by rw [List.length_map, stL_len]; exact hl), ← List.map_set, stL_set f xs i x h]
def x1 (x : Int) : Int := bitsV .xor .u8 x 1
def x2 (x : Int) : Int := IntKind.i64.wrap (x.tdiv 2)
def x3 (s : List Int) : List Int := s ++ [120]
abbrev sV (s : List Int) : Value := .string (strOf s)
abbrev PB (l : Ln) (mb xb gt gn gs : Nat) (ta na sa : Option Addr) (tc nc sc ct cn cs : Nat) (T N S : List Value) : HL :=
  [LnB xb l.Word l.Id (.slice (some ⟨gt, 0, none⟩) l.Text.length ct) (.slice (some ⟨gn, 0, none⟩) l.Numbers.length cn) l.Seed l.Guide (.slice (some ⟨gs, 0, none⟩) l.Stops.length cs), RLnB mb l.Word l.Id (.slice ta l.Text.length tc) (.slice na l.Numbers.length nc) l.Seed l.Guide (.slice sa l.Stops.length sc), (gt, .cells ⟨T⟩ 5 (0, 0)), (gn, .cells ⟨N⟩ 3 (0, 0)), (gs, .cells ⟨S⟩ 9 (0, 0))]
structure Small (l : Ln) (B : Nat) : Prop where
  text : l.Text.length ≤ B
  guide : l.Guide.length ≤ B
  nums : l.Numbers.length ≤ B
  stops : l.Stops.length ≤ B
  tot : (l.Stops.map List.length).sum ≤ B
theorem litT_tot : ∀ ls : List (List Int), (litT ls).length ≤ 4 * (ls.map List.length).sum + 3 * ls.length ∧ ∀ s ∈ ls, s.length ≤ (ls.map List.length).sum
  | [] => ⟨Nat.le_refl _, fun s hs => by cases hs⟩
  | a :: l => by
    have e : litT (a :: l) = (32 :: quoteL a) ++ litT l := by simp [litT]
    have hq := quoteL_length a
    have ih := litT_tot l
    rw [e, List.length_append, List.length_cons, List.length_cons, List.map_cons, List.sum_cons]
    refine ⟨by omega, fun s hs => ?_⟩
    rcases List.mem_cons.1 hs with rfl | hs
    · omega
    · have := ih.2 s hs; omega
theorem Small.fits {l : Ln} (h : Small l 4000000) : l.fits := by
  have h1 := litT_tot l.Stops
  have h2 := h.tot
  have h3 := h.stops
  exact ⟨by have := h.text; omega, by have := h.guide; omega, fun s hs => by have := h1.2 s hs; omega, by omega⟩
theorem Small.up {l : Ln} {A B : Nat} (h : Small l A) (e : A ≤ B) : Small l B := ⟨Nat.le_trans h.text e, Nat.le_trans h.guide e, Nat.le_trans h.nums e, Nat.le_trans h.stops e, Nat.le_trans h.tot e⟩
/-- The line whose lists are written over. -/
def overL (l : Ln) : Ln := { l with Text := l.Text.map x1, Numbers := l.Numbers.map x2, Stops := l.Stops.map x3 }
theorem over_sum (ls : List (List Int)) : ((ls.map x3).map List.length).sum = (ls.map List.length).sum + ls.length := by
  induction ls with
  | nil => rfl
  | cons a l ih => simp only [List.map_cons, List.sum_cons, ih, x3, List.length_append, List.length_cons, List.length_nil]; omega
theorem over_small {l : Ln} {B : Nat} (h : Small l B) : Small (overL l) (2 * B) := by
  have h1 := h.text; have h2 := h.guide; have h3 := h.nums; have h4 := h.stops; have h5 := h.tot
  exact ⟨by simp only [overL, List.length_map]; omega, by simp only [overL]; omega, by simp only [overL, List.length_map]; omega, by simp only [overL, List.length_map]; omega, by simp only [overL]; rw [over_sum]; omega⟩
theorem over_ok {l : Ln} (h : l.ok) : (overL l).ok := by
  refine ⟨h.word, h.id, fun y hy => ?_, fun y hy => ?_, h.seed, h.guide, fun y hy => ?_⟩
  · obtain ⟨x, _, rfl⟩ := List.mem_map.1 hy; exact inK_u8.1 (inK_wrap _ _)
  · obtain ⟨x, _, rfl⟩ := List.mem_map.1 hy; exact inK_wrap _ _
  · obtain ⟨x, hx, rfl⟩ := List.mem_map.1 hy
    intro z hz
    rcases List.mem_append.1 hz with hz | hz
    · exact h.stops x hx z hz
    · rw [List.mem_singleton.1 hz]; omega
theorem rowv_pre {h : HV} {b : Nat} {xs ys : List Value} (r : rowv h b 0 (xs ++ ys)) : rowv h b 0 xs := fun i v hv => r i v (by rw [List.getElem?_append_left (List.getElem?_eq_some_iff.1 hv).1]; exact hv)
set_option maxHeartbeats 16000000 in
theorem wirePrints_fn (l : Ln) (hl : l.ok) (hsm : Small l 1048576) (ta na sa : Option Addr) (tc nc sc : Nat) :
    FC Tryd.prog 5 [.agg ⟨lnC l.Word l.Id (.slice ta l.Text.length tc) (.slice na l.Numbers.length nc) l.Seed l.Guide (.slice sa l.Stops.length sc)⟩] [] (fun h => libK h ∧ lnK l ta na sa tc nc sc h) (fun v _ => v = .bool true) := by
  have hf : l.fits := (hsm.up (by decide)).fits
  have hz : l.Text.length ≤ 1048576 ∧ l.Numbers.length ≤ 1048576 ∧ l.Stops.length ≤ 1048576 := ⟨hsm.text, hsm.nums, hsm.stops⟩
  have hsm2 := over_small hsm
  have hf2 : (overL l).fits := (hsm2.up (by decide)).fits
  refine FC.intro Tryd.func5 rfl (by kernel_rfl) 133 [.tmp 2] rfl rfl rfl ?_
  rintro w0 ⟨hK, hL⟩
  (repeat (first | (with_reducible apply XL.op) | (with_reducible apply XC.seq) | (with_reducible apply XC.region (Γ := Γ))))
  ((with_reducible apply XOp.box); (case hg | hx' => exact rfl); intro mb)
  (repeat (first | (with_reducible apply XL.op) | ((with_reducible apply XOp.p1); (case hg | hv => exact rfl)) | (with_reducible apply XL.nilT) | (with_reducible apply XC.seq) | (with_reducible apply XC.region (Γ := Γ))))
  ((with_reducible apply XOp.callQ (hF := works_fn)); (case hg => exact rfl); (case hc => exact rfl); (case ha => exact rfl); try (case hA => exact Known.true))
  case hA => exact Known.of_old hK lib_mono
  rintro _ rfl
  (repeat (first | (with_reducible apply XL.op) | ((with_reducible apply XOp.p1); (case hg | hv => exact rfl)) | ((with_reducible apply XOp.loadO (i := 0)); (case hg | ht | hk | hx | hi | hc => exact rfl)) | (with_reducible apply XL.nilT) | (with_reducible apply XC.seq) | (with_reducible apply XC.region (Γ := Γ))))
  ((with_reducible apply XOp.callN (hF := given_fn l hz ta na sa tc nc sc)); (case hg => exact rfl); (case hc => exact rfl); (case ha => exact rfl); try (case hA => exact Known.true))
  · exact Known.of_old hL (lnK_mono l _ _ _ _ _ _)
  rintro v F ⟨gt, ct, gn, cn, gs, cs, Ft, Fn, Fs, h1, h2, h3, rfl, rfl⟩
  have hM := given_held hl hz h1 h2 h3
  have hX : Held (Ft ++ (Fn ++ Fs)) (lnK l (some ⟨gt, 0, none⟩) (some ⟨gn, 0, none⟩) (some ⟨gs, 0, none⟩) ct cn cs) := hM.imp fun h e => by
    have kT := e.1.takeS l.Text.length
    have kN := e.2.1.takeS l.Numbers.length
    have kS := e.2.2.takeS l.Stops.length
    rw [List.take_left] at kT kN kS
    exact ⟨kT, kN, kS⟩
  (repeat ((with_reducible apply XL.op)))
  ((with_reducible apply XOp.alloc); (case hg | ht | hx' => exact rfl); intro xb)
  (repeat (first | (with_reducible apply XL.op) | ((with_reducible apply XOp.loadO (i := 0)); (case hg | ht | hk | hx | hi | hc => exact rfl)) | ((with_reducible apply XOp.storeN (i := 0)); (case hg | ht | hx | hv' | hk | h1 | hi | hs | ha => exact rfl)) | (with_reducible apply XL.nilT) | (with_reducible apply XC.seq) | (with_reducible apply XC.region (Γ := Γ))))
  ((with_reducible apply XOp.callQ (hF := print_fn2 l hl hf (some ⟨gt, 0, none⟩) (some ⟨gn, 0, none⟩) (some ⟨gs, 0, none⟩) ct cn cs)); (case hg => exact rfl); (case hc => exact rfl); (case ha => exact rfl); try (case hA => exact Known.true))
  case hA => exact (Known.of_old hK lib_mono).and (hX.known (fun z_ hz_ => by first | exact hz_ | (simp only [List.mem_cons, List.mem_append, hz_, true_or, or_true]; done) | ((repeat (first | exact hz_ | exact List.mem_append_left _ hz_ | (apply List.mem_cons_of_mem) | (apply List.mem_append_right))); done)))
  rintro _ rfl
  obtain ⟨s, e, hse⟩ := prtV_ex (printS l)
  rw [hse]
  (repeat (first | (with_reducible apply XL.op) | ((with_reducible apply XOp.p1); (case hg | hv => exact rfl)) | ((with_reducible apply XOp.loadO (i := 1)); (case hg | ht | hk | hx | hi | hc => exact rfl)) | (with_reducible apply XL.nilT) | (with_reducible apply XC.seq) | (with_reducible apply XC.region (Γ := Γ))))
  ((with_reducible apply XOp.callQ (hF := refPrint_fn2 l hl hf ta na sa tc nc sc)); (case hg => exact rfl); (case hc => exact rfl); (case ha => exact rfl); try (case hA => exact Known.true))
  case hA => exact Known.of_old hL (lnK_mono l _ _ _ _ _ _)
  rintro _ rfl
  rw [hse]
  (repeat (first | (with_reducible apply XL.op) | ((with_reducible apply XOp.p1); (case hg | hv => exact rfl)) | ((with_reducible apply XOp.loadO (i := 0)); (case hg | ht | hk | hx | hi | hc => exact rfl)) | ((with_reducible apply XOp.loadO (i := 1)); (case hg | ht | hk | hx | hi | hc => exact rfl)) | (with_reducible apply XL.nilT) | (with_reducible apply XC.seq) | (with_reducible apply XC.region (Γ := Γ))))
  ((with_reducible apply XOp.callQ (hF := kept_fn l gt gn gs ct cn cs ta na sa tc nc sc)); (case hg => exact rfl); (case hc => exact rfl); (case ha => exact rfl); try (case hA => exact Known.true))
  case hA => exact (hM.known (fun z_ hz_ => by first | exact hz_ | (simp only [List.mem_cons, List.mem_append, hz_, true_or, or_true]; done) | ((repeat (first | exact hz_ | exact List.mem_append_left _ hz_ | (apply List.mem_cons_of_mem) | (apply List.mem_append_right))); done))).and (Known.of_old hL (lnK_mono l _ _ _ _ _ _))
  rintro _ rfl
  (repeat (first | (with_reducible apply XL.op) | ((with_reducible apply XOp.p1); (case hg | hv => exact rfl)) | (with_reducible apply XL.nilT) | (with_reducible apply XC.seq) | (with_reducible apply XC.region (Γ := Γ)) | (with_reducible apply XC.block)))
  obtain ⟨_, _, tm, e1, rfl, t1, t2, t3, t4⟩ := h1.blk (by omega)
  obtain ⟨_, _, nm, e2, rfl, n1, n2, n3, n4⟩ := h2.blk (by omega)
  obtain ⟨_, _, sm, e3, rfl, s1, s2, s3, s4⟩ := h3.blk (by omega)
  obtain ⟨e1a, _, rfl⟩ := Value.slice.inj e1
  obtain ⟨e2a, _, rfl⟩ := Value.slice.inj e2
  obtain ⟨e3a, _, rfl⟩ := Value.slice.inj e3
  obtain rfl := (Addr.mk.inj (Option.some.inj e1a)).1
  obtain rfl := (Addr.mk.inj (Option.some.inj e2a)).1
  obtain rfl := (Addr.mk.inj (Option.some.inj e3a)).1
  have strs_app : ∀ a b : List (List Int), strsV (a ++ b) = strsV a ++ strsV b := fun a b => List.map_append
  simp only [List.map_append, strs_app, List.append_assoc] at *
  generalize hTM : (List.replicate 64 (77 : Int)).map (Value.int .u8) ++ tm = TM at *
  generalize hNM : (List.replicate 64 (77 : Int)).map (Value.int .i64) ++ nm = NM at *
  generalize hSM : strsV (List.replicate 64 kMark) ++ sm = SM at *
  refine XC.loop (fun k ρ L => ∃ j : Nat, j + k = l.Text.length ∧ L = PB l mb xb gt gn gs ta na sa tc nc sc ct cn cs ((stL x1 l.Text j).map (.int .u8) ++ TM) (l.Numbers.map (.int .i64) ++ NM) (l.Stops.map sV ++ SM) ∧
      Slots ρ [(1, .pointer (some ⟨mb, 0, none⟩)), (3, .bool true), (4, .pointer (some ⟨xb, 0, none⟩)), (5, .string (strOf s)), (6, .int .i64 e), (7, .string (strOf s)), (8, .int .i64 e), (9, .bool true), (10, .int .i64 j)])
    l.Text.length ⟨0, by simp, by rw [stL_zero]; rfl, rfl, rfl, rfl, rfl, rfl, rfl, rfl, rfl, rfl, trivial⟩ ?_
  rintro k ρ L ⟨j, hjk, rfl, hs⟩
  refine XC.slots _ hs ?_
  (repeat (first | (with_reducible apply XL.op) | ((with_reducible apply XOp.p1); (case hg | hv => exact rfl)) | ((with_reducible apply XOp.load); (case hg | ht | hk | hx => exact rfl); (case hc => exact own_cell (i := 0) rfl rfl)) | (with_reducible apply XL.nilT) | (with_reducible apply XC.seq) | (with_reducible apply XC.region (Γ := Γ))))
  ((with_reducible apply XC.cond); (case hc => exact rfl); all_goals (intro hb_; try simp only [pd_true, pd_false, Bool.not_eq_true', Bool.not_eq_false', Bool.and_eq_true, Bool.and_eq_false_iff, Bool.or_eq_true, Bool.or_eq_false_iff, not_true_eq_false, not_false_eq_true, Int.not_lt, Int.not_le] at hb_))
  · obtain ⟨x, hx⟩ : ∃ x, l.Text[j]? = some x := ⟨_, List.getElem?_eq_getElem (by omega)⟩
    (repeat (first | (with_reducible apply XC.seq) | (with_reducible apply XQ.skip) | (with_reducible apply XQ.nt) | (with_reducible apply XC.block)))
    ((with_reducible apply XC.regionD (Γ := Γ) mixed (.q 0 (.q 1 (.q 2 (.q 3 (.q 4 (.q 5 (.q 6 (.q 7 (.q 8 (.q 9 (.e 10 (.done)))))))))))) [10] []); (case hc => kernel_rfl))
    (repeat (first | ((with_reducible apply XP.p1); (case ho | hg | hv => exact rfl)) | ((with_reducible apply XP.load); (case ho | hg | ht | hk | hx => exact rfl); (case hc => exact own_cell (i := 0) rfl rfl)) | ((with_reducible apply XP.pr); (case ho => exact rfl); (case hg => exact rfl); (case hr => ((with_reducible apply PR.idx); (case ht | hk | he | hx | hi => exact rfl); (case hr => first | assumption | omega)))) | ((with_reducible apply XP.e); (first | ((with_reducible apply XE.d); (case ho => exact rfl); (case hd => exact rfl)) | ((with_reducible apply XE.e); (case ho => exact rfl)))) | (first | ((with_reducible apply XOp.load); (case hg | ht | hk | hx => exact rfl); (case hc => exact own_cell (i := 2) rfl (by rw [show 0 + ((j : Nat) : Int).toNat * 1 = j by omega]; exact stV_get _ _ _ _ _ _ hx))) | ((with_reducible apply XP.load); (case ho | hg | ht | hk | hx => exact rfl); (case hc => exact own_cell (i := 2) rfl (by rw [show 0 + ((j : Nat) : Int).toNat * 1 = j by omega]; exact stV_get _ _ _ _ _ _ hx))))))
    ((with_reducible apply XOp.storeE (i := 2) (cs' := ((stL x1 l.Text (j + 1)).map (.int .u8) ++ TM))); (case hg => exact rfl); (case ht => exact rfl); (case hk => exact rfl); (case hx => exact rfl); (case hv' => exact rfl); (case h1 => exact rfl); (case hi => exact rfl); (case hs => exact (show 0 + ((j : Nat) : Int).toNat * 1 < _ ∧ List.set _ (0 + ((j : Nat) : Int).toNat * 1) _ = _ from (by rw [show 0 + ((j : Nat) : Int).toNat * 1 = j by omega]; exact stV_set x1 (.int .u8) l.Text TM j x hx))); (case ha => exact rfl))
    (repeat (first | (with_reducible apply XL.op) | ((with_reducible apply XOp.p1); (case hg | hv => exact rfl)) | (with_reducible apply XL.nilT) | (with_reducible apply XC.region (Γ := Γ)) | (with_reducible apply XQ.nt) | (with_reducible apply XQ.nb) | (with_reducible apply XP.done)))
    exact ⟨k - 1, by omega, j + 1, by omega, rfl, rfl, rfl, rfl, rfl, rfl, rfl, rfl, rfl, intS (m := l.Text.length) (by omega) (by omega), trivial⟩
  obtain rfl : j = l.Text.length := by omega
  rw [stL_all]
  (repeat (first | (with_reducible apply XL.op) | ((with_reducible apply XOp.p1); (case hg | hv => exact rfl)) | (with_reducible apply XL.nilT) | (with_reducible apply XC.seq) | (with_reducible apply XC.region (Γ := Γ)) | (with_reducible apply XQ.exit) | (with_reducible apply XQ.nt) | (with_reducible apply XQ.et) | (with_reducible apply XC.block) | ((with_reducible apply XQ.eb); (case hb => exact rfl))))
  refine XC.loop (fun k ρ L => ∃ j : Nat, j + k = l.Numbers.length ∧ L = PB l mb xb gt gn gs ta na sa tc nc sc ct cn cs ((l.Text.map x1).map (.int .u8) ++ TM) ((stL x2 l.Numbers j).map (.int .i64) ++ NM) (l.Stops.map sV ++ SM) ∧
      Slots ρ [(1, .pointer (some ⟨mb, 0, none⟩)), (3, .bool true), (4, .pointer (some ⟨xb, 0, none⟩)), (5, .string (strOf s)), (6, .int .i64 e), (7, .string (strOf s)), (8, .int .i64 e), (9, .bool true), (11, .int .i64 j)])
    l.Numbers.length ⟨0, by simp, by rw [stL_zero], rfl, rfl, rfl, rfl, rfl, rfl, rfl, rfl, rfl, trivial⟩ ?_
  clear hs hjk
  rintro k ρ L ⟨j, hjk, rfl, hs⟩
  refine XC.slots _ hs ?_
  (repeat (first | (with_reducible apply XL.op) | ((with_reducible apply XOp.p1); (case hg | hv => exact rfl)) | ((with_reducible apply XOp.load); (case hg | ht | hk | hx => exact rfl); (case hc => exact own_cell (i := 0) rfl rfl)) | (with_reducible apply XL.nilT) | (with_reducible apply XC.seq) | (with_reducible apply XC.region (Γ := Γ))))
  ((with_reducible apply XC.cond); (case hc => exact rfl); all_goals (intro hb_; try simp only [pd_true, pd_false, Bool.not_eq_true', Bool.not_eq_false', Bool.and_eq_true, Bool.and_eq_false_iff, Bool.or_eq_true, Bool.or_eq_false_iff, not_true_eq_false, not_false_eq_true, Int.not_lt, Int.not_le] at hb_))
  · obtain ⟨x, hx⟩ : ∃ x, l.Numbers[j]? = some x := ⟨_, List.getElem?_eq_getElem (by omega)⟩
    (repeat (first | (with_reducible apply XC.seq) | (with_reducible apply XQ.skip) | (with_reducible apply XQ.nt) | (with_reducible apply XC.block)))
    ((with_reducible apply XC.regionD (Γ := Γ) mixed (.q 0 (.q 1 (.q 2 (.q 3 (.q 4 (.q 5 (.q 6 (.q 7 (.q 8 (.q 9 (.e 10 (.done)))))))))))) [10] []); (case hc => kernel_rfl))
    (repeat (first | ((with_reducible apply XP.p1); (case ho | hg | hv => exact rfl)) | ((with_reducible apply XP.load); (case ho | hg | ht | hk | hx => exact rfl); (case hc => exact own_cell (i := 0) rfl rfl)) | ((with_reducible apply XP.pr); (case ho => exact rfl); (case hg => exact rfl); (case hr => ((with_reducible apply PR.idx); (case ht | hk | he | hx | hi => exact rfl); (case hr => first | assumption | omega)))) | ((with_reducible apply XP.e); (first | ((with_reducible apply XE.d); (case ho => exact rfl); (case hd => exact rfl)) | ((with_reducible apply XE.e); (case ho => exact rfl)))) | (first | ((with_reducible apply XOp.load); (case hg | ht | hk | hx => exact rfl); (case hc => exact own_cell (i := 3) rfl (by rw [show 0 + ((j : Nat) : Int).toNat * 1 = j by omega]; exact stV_get _ _ _ _ _ _ hx))) | ((with_reducible apply XP.load); (case ho | hg | ht | hk | hx => exact rfl); (case hc => exact own_cell (i := 3) rfl (by rw [show 0 + ((j : Nat) : Int).toNat * 1 = j by omega]; exact stV_get _ _ _ _ _ _ hx))))))
    ((with_reducible apply XOp.storeE (i := 3) (cs' := ((stL x2 l.Numbers (j + 1)).map (.int .i64) ++ NM))); (case hg => exact rfl); (case ht => exact rfl); (case hk => exact rfl); (case hx => exact rfl); (case hv' => exact rfl); (case h1 => exact rfl); (case hi => exact rfl); (case hs => exact (show 0 + ((j : Nat) : Int).toNat * 1 < _ ∧ List.set _ (0 + ((j : Nat) : Int).toNat * 1) _ = _ from (by rw [show 0 + ((j : Nat) : Int).toNat * 1 = j by omega]; exact stV_set x2 (.int .i64) l.Numbers NM j x hx))); (case ha => exact rfl))
    (repeat (first | (with_reducible apply XL.op) | ((with_reducible apply XOp.p1); (case hg | hv => exact rfl)) | (with_reducible apply XL.nilT) | (with_reducible apply XC.region (Γ := Γ)) | (with_reducible apply XQ.nt) | (with_reducible apply XQ.nb) | (with_reducible apply XP.done)))
    exact ⟨k - 1, by omega, j + 1, by omega, rfl, rfl, rfl, rfl, rfl, rfl, rfl, rfl, rfl, intS (m := l.Numbers.length) (by omega) (by omega), trivial⟩
  obtain rfl : j = l.Numbers.length := by omega
  rw [stL_all]
  (repeat (first | (with_reducible apply XL.op) | ((with_reducible apply XOp.p1); (case hg | hv => exact rfl)) | (with_reducible apply XL.nilT) | (with_reducible apply XC.seq) | (with_reducible apply XC.region (Γ := Γ)) | (with_reducible apply XQ.exit) | (with_reducible apply XQ.nt) | (with_reducible apply XQ.et) | (with_reducible apply XC.block) | ((with_reducible apply XQ.eb); (case hb => exact rfl))))
  refine XC.loop (fun k ρ L => ∃ j : Nat, j + k = l.Stops.length ∧ L = PB l mb xb gt gn gs ta na sa tc nc sc ct cn cs ((l.Text.map x1).map (.int .u8) ++ TM) ((l.Numbers.map x2).map (.int .i64) ++ NM) ((stL x3 l.Stops j).map sV ++ SM) ∧
      Slots ρ [(1, .pointer (some ⟨mb, 0, none⟩)), (3, .bool true), (4, .pointer (some ⟨xb, 0, none⟩)), (5, .string (strOf s)), (6, .int .i64 e), (7, .string (strOf s)), (8, .int .i64 e), (9, .bool true), (12, .int .i64 j)])
    l.Stops.length ⟨0, by simp, by rw [stL_zero], rfl, rfl, rfl, rfl, rfl, rfl, rfl, rfl, rfl, trivial⟩ ?_
  clear hs hjk
  rintro k ρ L ⟨j, hjk, rfl, hs⟩
  refine XC.slots _ hs ?_
  (repeat (first | (with_reducible apply XL.op) | ((with_reducible apply XOp.p1); (case hg | hv => exact rfl)) | ((with_reducible apply XOp.load); (case hg | ht | hk | hx => exact rfl); (case hc => exact own_cell (i := 0) rfl rfl)) | (with_reducible apply XL.nilT) | (with_reducible apply XC.seq) | (with_reducible apply XC.region (Γ := Γ))))
  ((with_reducible apply XC.cond); (case hc => exact rfl); all_goals (intro hb_; try simp only [pd_true, pd_false, Bool.not_eq_true', Bool.not_eq_false', Bool.and_eq_true, Bool.and_eq_false_iff, Bool.or_eq_true, Bool.or_eq_false_iff, not_true_eq_false, not_false_eq_true, Int.not_lt, Int.not_le] at hb_))
  · obtain ⟨x, hx⟩ : ∃ x, l.Stops[j]? = some x := ⟨_, List.getElem?_eq_getElem (by omega)⟩
    (repeat (first | (with_reducible apply XC.seq) | (with_reducible apply XQ.skip) | (with_reducible apply XQ.nt) | (with_reducible apply XC.block)))
    ((with_reducible apply XC.regionD (Γ := Γ) mixed (.q 0 (.q 1 (.q 2 (.q 3 (.q 4 (.q 5 (.q 6 (.q 7 (.q 8 (.q 9 (.e 10 (.done)))))))))))) [10] []); (case hc => kernel_rfl))
    (repeat (first | ((with_reducible apply XP.p1); (case ho | hg | hv => exact rfl)) | ((with_reducible apply XP.load); (case ho | hg | ht | hk | hx => exact rfl); (case hc => exact own_cell (i := 0) rfl rfl)) | ((with_reducible apply XP.pr); (case ho => exact rfl); (case hg => exact rfl); (case hr => ((with_reducible apply PR.idx); (case ht | hk | he | hx | hi => exact rfl); (case hr => first | assumption | omega)))) | (first | ((with_reducible apply XOp.load); (case hg | ht | hk | hx => exact rfl); (case hc => exact own_cell (i := 4) rfl (by rw [show 0 + ((j : Nat) : Int).toNat * 1 = j by omega]; exact stV_get _ _ _ _ _ _ hx))) | ((with_reducible apply XP.load); (case ho | hg | ht | hk | hx => exact rfl); (case hc => exact own_cell (i := 4) rfl (by rw [show 0 + ((j : Nat) : Int).toNat * 1 = j by omega]; exact stV_get _ _ _ _ _ _ hx))))))
    have hxs := hf.stop x (List.mem_of_getElem? hx)
    (first | ((with_reducible apply XOp.pr); (case hg => exact rfl); (case hr => (with_reducible apply PR.cat (xs := x) (ys :=  [120])); (case hx => exact rfl); (case hy => exact rfl); (case hl => ((try simp only [List.length_append, List.length_cons, List.length_nil]); omega)))) | ((with_reducible apply XP.pr); (case ho => exact rfl); (case hg => exact rfl); (case hr => (with_reducible apply PR.cat (xs := x) (ys :=  [120])); (case hx => exact rfl); (case hy => exact rfl); (case hl => ((try simp only [List.length_append, List.length_cons, List.length_nil]); omega)))))
    (repeat (first | ((with_reducible apply XP.pr); (case ho => exact rfl); (case hg => exact rfl); (case hr => ((with_reducible apply PR.idx); (case ht | hk | he | hx | hi => exact rfl); (case hr => first | assumption | omega)))) | ((with_reducible apply XP.e); (first | ((with_reducible apply XE.d); (case ho => exact rfl); (case hd => exact rfl)) | ((with_reducible apply XE.e); (case ho => exact rfl))))))
    ((with_reducible apply XOp.storeE (i := 4) (cs' := ((stL x3 l.Stops (j + 1)).map sV ++ SM))); (case hg => exact rfl); (case ht => exact rfl); (case hk => exact rfl); (case hx => exact rfl); (case hv' => exact rfl); (case h1 => exact rfl); (case hi => exact rfl); (case hs => exact (show 0 + ((j : Nat) : Int).toNat * 1 < _ ∧ List.set _ (0 + ((j : Nat) : Int).toNat * 1) _ = _ from (by rw [show 0 + ((j : Nat) : Int).toNat * 1 = j by omega]; exact stV_set x3 sV l.Stops SM j x hx))); (case ha => exact rfl))
    (repeat (first | (with_reducible apply XL.op) | ((with_reducible apply XOp.p1); (case hg | hv => exact rfl)) | (with_reducible apply XL.nilT) | (with_reducible apply XC.region (Γ := Γ)) | (with_reducible apply XQ.nt) | (with_reducible apply XQ.nb) | (with_reducible apply XP.done)))
    exact ⟨k - 1, by omega, j + 1, by omega, rfl, rfl, rfl, rfl, rfl, rfl, rfl, rfl, rfl, intS (m := l.Stops.length) (by omega) (by omega), trivial⟩
  obtain rfl : j = l.Stops.length := by omega
  rw [stL_all]
  (repeat (first | (with_reducible apply XL.op) | ((with_reducible apply XOp.loadO (i := 1)); (case hg | ht | hk | hx | hi | hc => exact rfl)) | (with_reducible apply XC.seq) | (with_reducible apply XC.region (Γ := Γ)) | (with_reducible apply XQ.exit) | (with_reducible apply XQ.nt) | (with_reducible apply XQ.et) | ((with_reducible apply XQ.eb); (case hb => exact rfl))))
  have oT : OwnS 5 1 (.slice (some ⟨gt, 0, none⟩) (overL l).Text.length ct) (overL l).Text.length ((overL l).Text.map (.int .u8)) [(gt, .cells ⟨(l.Text.map x1).map (.int .u8) ++ TM⟩ 5 (0, 0))] :=
    ⟨by simp, .inr ⟨gt, ct, TM, rfl, rfl, by simp only [overL, List.length_map]; omega, t2, by simp only [overL, List.length_append, List.length_map] at t4 ⊢; omega⟩⟩
  have oN : OwnS 3 1 (.slice (some ⟨gn, 0, none⟩) (overL l).Numbers.length cn) (overL l).Numbers.length ((overL l).Numbers.map (.int .i64)) [(gn, .cells ⟨(l.Numbers.map x2).map (.int .i64) ++ NM⟩ 3 (0, 0))] :=
    ⟨by simp, .inr ⟨gn, cn, NM, rfl, rfl, by simp only [overL, List.length_map]; omega, n2, by simp only [overL, List.length_append, List.length_map] at n4 ⊢; omega⟩⟩
  have oS : OwnS 9 1 (.slice (some ⟨gs, 0, none⟩) (overL l).Stops.length cs) (overL l).Stops.length (strsV (overL l).Stops) [(gs, .cells ⟨(l.Stops.map x3).map sV ++ SM⟩ 9 (0, 0))] :=
    ⟨by simp [strsV], .inr ⟨gs, cs, SM, rfl, rfl, by simp only [overL, List.length_map]; omega, s2, by simp only [overL, List.length_append, List.length_map, strsV] at s4 ⊢; omega⟩⟩
  obtain ⟨_, _, _, _, _, _, q1, q2, q3, kT, kN, kS⟩ := ln_held (over_ok hl) ⟨by have := hsm2.text; omega, by have := hsm2.nums; omega, by have := hsm2.stops; omega⟩ oT oN oS
  obtain ⟨rfl, _, rfl⟩ := Value.slice.inj q1
  obtain ⟨rfl, _, rfl⟩ := Value.slice.inj q2
  obtain ⟨rfl, _, rfl⟩ := Value.slice.inj q3
  ((with_reducible apply XOp.alloc); (case hg | ht | hx' => exact rfl); intro yb)
  (repeat (first | (with_reducible apply XL.op) | ((with_reducible apply XOp.p1); (case hg | hv => exact rfl)) | ((with_reducible apply XOp.load); (case hg | ht | hk | hx => exact rfl); (case hc => exact own_cell (i := 1) rfl rfl)) | ((with_reducible apply XOp.storeN (i := 0)); (case hg | ht | hx | hv' | hk | h1 | hi | hs | ha => exact rfl)) | (with_reducible apply XL.nilT) | (with_reducible apply XC.seq) | (with_reducible apply XC.region (Γ := Γ))))
  have c1 := copyBytes_fn (overL l).Text (some ⟨gt, 0, none⟩) ct
  rw [show (overL l).Text.length = l.Text.length from List.length_map ..] at c1
  ((with_reducible apply XOp.callN (hF := c1)); (case hg => exact rfl); (case hc => exact rfl); (case ha => exact rfl); try (case hA => exact Known.true))
  · exact kT.known (fun z_ hz_ => by first | exact hz_ | (simp only [List.mem_cons, List.mem_append, hz_, true_or, or_true]; done) | ((repeat (first | exact hz_ | exact List.mem_append_left _ hz_ | (apply List.mem_cons_of_mem) | (apply List.mem_append_right))); done))
  rintro v1 F1 o1
  obtain ⟨a1, d1, rfl⟩ := o1.val
  (repeat (first | (with_reducible apply XL.op) | ((with_reducible apply XOp.p1); (case hg | hv => exact rfl)) | ((with_reducible apply XOp.load); (case hg | ht | hk | hx => exact rfl); (case hc => exact own_cell (i := 1) rfl rfl)) | ((with_reducible apply XOp.store (i := 0)); (case hg | ht | hk | hx | hv | h1 | hi | hs | ha => exact rfl)) | (with_reducible apply XL.nilT) | (with_reducible apply XC.seq) | (with_reducible apply XC.region (Γ := Γ))))
  have c2 := copyInts_fn (overL l).Numbers (some ⟨gn, 0, none⟩) cn
  rw [show (overL l).Numbers.length = l.Numbers.length from List.length_map ..] at c2
  ((with_reducible apply XOp.callN (hF := c2)); (case hg => exact rfl); (case hc => exact rfl); (case ha => exact rfl); try (case hA => exact Known.true))
  · refine kN.known fun z_ hz_ => ?_
    obtain rfl := List.mem_singleton.1 hz_
    simp
  rintro v2 F2 o2
  obtain ⟨a2, d2, rfl⟩ := o2.val
  (repeat (first | (with_reducible apply XL.op) | ((with_reducible apply XOp.p1); (case hg | hv => exact rfl)) | ((with_reducible apply XOp.store (i := 0)); (case hg | ht | hk | hx | hv | h1 | hi | hs | ha => exact rfl)) | (with_reducible apply XL.nilT) | (with_reducible apply XC.seq) | (with_reducible apply XC.region (Γ := Γ))))
  ((with_reducible apply XOp.buildSlice0); (case hg | ht | hk | he => exact rfl); intro bb)
  (repeat (first | (with_reducible apply XL.op) | ((with_reducible apply XOp.p1); (case hg | hv => exact rfl)) | ((with_reducible apply XOp.load); (case hg | ht | hk | hx => exact rfl); (case hc => exact own_cell (i := 2) rfl rfl))))
  (refine (show XOp _ _ _ _ _ _ _ _ ((bb, Obj.cells ⟨[]⟩ 9 (0, 0)) :: (RLnB yb l.Word l.Id (.slice a1 l.Text.length d1) (.slice a2 l.Numbers.length d2) l.Seed l.Guide (.slice sa l.Stops.length sc) :: ((PB l mb xb gt gn gs ta na sa tc nc sc ct cn cs ((l.Text.map x1).map (.int .u8) ++ TM) ((l.Numbers.map x2).map (.int .i64) ++ NM) ((l.Stops.map x3).map sV ++ SM) ++ F1) ++ F2))) from XOp.perm (L' :=  (RLnB yb l.Word l.Id (.slice a1 l.Text.length d1) (.slice a2 l.Numbers.length d2) l.Seed l.Guide (.slice sa l.Stops.length sc) :: ((PB l mb xb gt gn gs ta na sa tc nc sc ct cn cs ((l.Text.map x1).map (.int .u8) ++ TM) ((l.Numbers.map x2).map (.int .i64) ++ NM) ((l.Stops.map x3).map sV ++ SM) ++ F1) ++ F2)) ++ [(bb, Obj.cells ⟨[]⟩ 9 (0, 0))]) rfl ?_ (by (first | (with_reducible exact List.Perm.refl _) | refine perm_of_cnt fun p_ => ?_; simp only [List.countP_append, List.countP_cons, List.countP_nil]; omega))))
  ((with_reducible apply XOp.appendGR (R := RLnB yb l.Word l.Id (.slice a1 l.Text.length d1) (.slice a2 l.Numbers.length d2) l.Seed l.Guide (.slice sa l.Stops.length sc) :: ((PB l mb xb gt gn gs ta na sa tc nc sc ct cn cs ((l.Text.map x1).map (.int .u8) ++ TM) ((l.Numbers.map x2).map (.int .i64) ++ NM) ((l.Stops.map x3).map sV ++ SM) ++ F1) ++ F2))); (case hg => exact rfl); (case ht => exact rfl); (case hk => exact rfl); (case he => exact rfl); (case hs => exact rfl); (case hx => exact rfl); (case hown => exact OwnS.empty); (case hL => rfl); (case ha => exact fun _ => rfl); (case hc => exact fun _ => (Known.blk (b := gs) (t := 9) (fz := (0, 0)) (cs := (l.Stops.map x3).map sV ++ SM) (by simp)).imp fun h r => rowv_pre r); (case hl => exact (by simp)); (case h1 => exact (by simp [Value.oneCell'])); (case hz => exact rfl); (case hsz => exact Nat.zero_lt_succ _); (case h63 => simp only [maxLen]; omega); (case hb => simp only []; omega); intro v_ F_ hown_; obtain ⟨a_, c_, rfl⟩ := hown_.val)
  (repeat (first | (with_reducible apply XL.op) | ((with_reducible apply XOp.p1); (case hg | hv => exact rfl)) | ((with_reducible apply XOp.loadO (i := 0)); (case hg | ht | hk | hx | hi | hc => exact rfl)) | ((with_reducible apply XOp.store (i := 0)); (case hg | ht | hk | hx | hv | h1 | hi | hs | ha => exact rfl)) | (with_reducible apply XL.nilT) | (with_reducible apply XC.seq) | (with_reducible apply XC.region (Γ := Γ))))
  obtain ⟨_, _, _, _, _, _, q1, q2, q3, jT, jN, jS⟩ := ln_held (over_ok hl) ⟨by have := hsm2.text; omega, by have := hsm2.nums; omega, by have := hsm2.stops; omega⟩ (o1.conv (by simp [overL]) rfl) (o2.conv (by simp [overL]) rfl) (hown_.conv (by simp [overL]) (by simp [overL, strsV]))
  obtain ⟨rfl, q1b, rfl⟩ := Value.slice.inj q1
  obtain ⟨rfl, q2b, rfl⟩ := Value.slice.inj q2
  obtain ⟨rfl, q3b, rfl⟩ := Value.slice.inj q3
  rw [show 0 + l.Stops.length = l.Stops.length from Nat.zero_add _]
  have c3 := refPrint_fn2 (overL l) (over_ok hl) hf2 a1 a2 a_ d1 d2 c_
  rw [show (overL l).Text.length = l.Text.length from List.length_map .., show (overL l).Numbers.length = l.Numbers.length from List.length_map .., show (overL l).Stops.length = l.Stops.length from List.length_map ..] at c3
  ((with_reducible apply XOp.callQ (hF := c3)); (case hg => exact rfl); (case hc => exact rfl); (case ha => exact rfl); try (case hA => exact Known.true))
  case hA => exact (jT.known (fun z_ hz_ => by simp [hz_])).and ((jN.known (fun z_ hz_ => by simp [hz_])).and (jS.known (fun z_ hz_ => by simp [hz_])))
  rintro _ rfl
  obtain ⟨s', e', hse'⟩ := prtV_ex (printS (overL l))
  rw [hse']
  (repeat (first | (with_reducible apply XL.op) | ((with_reducible apply XOp.p1); (case hg | hv => exact rfl)) | ((with_reducible apply XOp.loadO (i := 1)); (case hg | ht | hk | hx | hi | hc => exact rfl)) | (with_reducible apply XL.nilT) | (with_reducible apply XC.seq) | (with_reducible apply XC.region (Γ := Γ))))
  have c4 := print_fn2 (overL l) (over_ok hl) hf2 (some ⟨gt, 0, none⟩) (some ⟨gn, 0, none⟩) (some ⟨gs, 0, none⟩) ct cn cs
  rw [show (overL l).Text.length = l.Text.length from List.length_map .., show (overL l).Numbers.length = l.Numbers.length from List.length_map .., show (overL l).Stops.length = l.Stops.length from List.length_map ..] at c4
  ((with_reducible apply XOp.callQ (hF := c4)); (case hg => exact rfl); (case hc => exact rfl); (case ha => exact rfl); try (case hA => exact Known.true))
  case hA => exact (Known.of_old hK lib_mono).and ((kT.known (fun z_ hz_ => by simp [List.mem_singleton.1 hz_])).and ((kN.known (fun z_ hz_ => by simp [List.mem_singleton.1 hz_])).and (kS.known (fun z_ hz_ => by simp [List.mem_singleton.1 hz_]))))
  rintro _ rfl
  rw [hse']
  (repeat (first | (with_reducible apply XL.op) | ((with_reducible apply XOp.p1); (case hg | hv => exact rfl)) | (with_reducible apply XL.nilT) | (with_reducible apply XC.seq) | (with_reducible apply XC.region (Γ := Γ)) | (with_reducible apply XQ.ret) | (first | ((with_reducible apply XOp.split); (case hg | hj | hd | hb => exact rfl); (fail_if_success (case hf => exact fun h => Bool.noConfusion h)); (fail_if_success (case ht => exact fun h => Bool.noConfusion h)); (first | (case ht => intro hb_; try simp only [pd_true, pd_false, Bool.not_eq_true', Bool.not_eq_false', Bool.and_eq_true, Bool.and_eq_false_iff, Bool.or_eq_true, Bool.or_eq_false_iff, not_true_eq_false, not_false_eq_true, Int.not_lt, Int.not_le] at hb_; first | done | (exfalso; first | omega | contradiction)) | (case hf => intro hb_; try simp only [pd_true, pd_false, Bool.not_eq_true', Bool.not_eq_false', Bool.and_eq_true, Bool.and_eq_false_iff, Bool.or_eq_true, Bool.or_eq_false_iff, not_true_eq_false, not_false_eq_true, Int.not_lt, Int.not_le] at hb_; first | done | (exfalso; first | omega | contradiction))); intro hb_; try simp only [pd_true, pd_false, Bool.not_eq_true', Bool.not_eq_false', Bool.and_eq_true, Bool.and_eq_false_iff, Bool.or_eq_true, Bool.or_eq_false_iff, not_true_eq_false, not_false_eq_true, Int.not_lt, Int.not_le] at hb_) | ((with_reducible apply XP.split); (case ho | hg | hj | hd | hb => exact rfl); (fail_if_success (case hf => exact fun h => Bool.noConfusion h)); (fail_if_success (case ht => exact fun h => Bool.noConfusion h)); (first | (case ht => intro hb_; try simp only [pd_true, pd_false, Bool.not_eq_true', Bool.not_eq_false', Bool.and_eq_true, Bool.and_eq_false_iff, Bool.or_eq_true, Bool.or_eq_false_iff, not_true_eq_false, not_false_eq_true, Int.not_lt, Int.not_le] at hb_; first | done | (exfalso; first | omega | contradiction)) | (case hf => intro hb_; try simp only [pd_true, pd_false, Bool.not_eq_true', Bool.not_eq_false', Bool.and_eq_true, Bool.and_eq_false_iff, Bool.or_eq_true, Bool.or_eq_false_iff, not_true_eq_false, not_false_eq_true, Int.not_lt, Int.not_le] at hb_; first | done | (exfalso; first | omega | contradiction))); intro hb_; try simp only [pd_true, pd_false, Bool.not_eq_true', Bool.not_eq_false', Bool.and_eq_true, Bool.and_eq_false_iff, Bool.or_eq_true, Bool.or_eq_false_iff, not_true_eq_false, not_false_eq_true, Int.not_lt, Int.not_le] at hb_) | ((with_reducible apply XC.cond); (case hc => exact rfl); (first | (case ht => intro hb_; try simp only [pd_true, pd_false, Bool.not_eq_true', Bool.not_eq_false', Bool.and_eq_true, Bool.and_eq_false_iff, Bool.or_eq_true, Bool.or_eq_false_iff, not_true_eq_false, not_false_eq_true, Int.not_lt, Int.not_le] at hb_; first | done | (exfalso; first | omega | contradiction)) | (case hf => intro hb_; try simp only [pd_true, pd_false, Bool.not_eq_true', Bool.not_eq_false', Bool.and_eq_true, Bool.and_eq_false_iff, Bool.or_eq_true, Bool.or_eq_false_iff, not_true_eq_false, not_false_eq_true, Int.not_lt, Int.not_le] at hb_; first | done | (exfalso; first | omega | contradiction))); intro hb_; try simp only [pd_true, pd_false, Bool.not_eq_true', Bool.not_eq_false', Bool.and_eq_true, Bool.and_eq_false_iff, Bool.or_eq_true, Bool.or_eq_false_iff, not_true_eq_false, not_false_eq_true, Int.not_lt, Int.not_le] at hb_))))
  ((with_reducible apply XQ.retE); (case hr => exact .t rfl .nil))
  exact congrArg Value.bool (pdt rfl)
end Go.Proofs.YtepfnakabafhlaaDoorX
/- How large the lines of an argument are that is read with a bound on its bulk. -/
namespace Go.Proofs.YtepfnakabafhlaaDoorX
open Go Go.SX Go.Proofs.YtepfnakabafhlaaDoor
section
variable {H : Type} {enc : TypeId × Value → H} {W : World}
theorem bulk_all {l : List (DataW H)} : ∀ {i : Nat} {d : DataW H}, l[i]? = some d → Rows.uptoBulk d ≤ Rows.uptoBulkAll l := by
  induction l with
  | nil => intro i d h; simp at h
  | cons x l ih =>
    intro i d h
    simp only [Rows.uptoBulkAll]
    cases i with
    | zero => simp at h; subst h; omega
    | succ i => have := ih (by simpa using h); omega
theorem bulk_one (d : DataW H) : 1 ≤ Rows.uptoBulk d := by
  cases d with
  | lit x => cases x <;> simp [Rows.uptoBulk]
  | _ => simp [Rows.uptoBulk]
theorem bulk_count : ∀ l : List (DataW H), l.length ≤ Rows.uptoBulkAll l
  | [] => Nat.le_refl _
  | d :: l => by
    have h1 := bulk_count l
    have h2 := bulk_one d
    simp only [Rows.uptoBulkAll, List.length_cons]; omega
/-- The parts of a slice that is read. -/
theorem slice_parts {α : Type} {K : Kd α} {t e sz by_ fuel : Nat} {l : List α} {a : Option Addr} {c : Nat} {x : DataW H × List MemPlace} (hu : Tryd.prog.underlying t = some (.slice e)) (hs : Tryd.prog.cellsOf e = sz) (hk : K.sz = sz) (hsz : 0 < sz)
    (h : DataW.trod enc Tryd.prog W 0 (fun _ => true) true fuel t [.slice a l.length c] = some x) (s : SlA K by_ (hv W) l a c) :
    ∃ (n : Nat) (ds : List (DataW H × List MemPlace)), ds.length = l.length ∧ Rows.uptoBulkAll (ds.map (·.1)) + 1 ≤ Rows.uptoBulk x.1 ∧ ∀ (i : Nat) (y : α), l[i]? = some y → ∃ cs d, ds[i]? = some d ∧ K.enc (hv W) y cs ∧ DataW.trod enc Tryd.prog W 0 (fun _ => true) true n e cs = some d := by
  rcases DataW.trod_slice hu h with ⟨h1, h2⟩ | ⟨a', len, cap, elems, rest, n, _, h1, hx, _, hl, hc, hel, hat, _, _⟩
  · have h1 := (List.cons.inj h1).1
    simp only [Value.slice.injEq] at h1
    obtain rfl := List.eq_nil_of_length_eq_zero h1.2.1
    refine ⟨0, [], rfl, ?_, fun i y h => by simp at h⟩
    rw [h2]
    simp [Rows.uptoBulkAll, Rows.uptoBulk]
  · have h1 := (List.cons.inj h1).1
    simp only [Value.slice.injEq] at h1
    obtain ⟨rfl, rfl, rfl⟩ := h1
    refine ⟨n, elems, hel, ?_, fun i y hi => ?_⟩
    · rw [hx]; simp only [Rows.uptoBulk]; omega
    · have hil := (List.getElem?_eq_some_iff.1 hi).1
      have h1 := hat i hil
      rw [List.getElem?_eq_getElem (by omega)] at h1
      obtain ⟨cs, hc1, hc2⟩ := bind_some_iff h1
      obtain ⟨_, hc3, hc4⟩ := World.cells?_some hc1
      obtain ⟨cs', he, hr⟩ := s.row i y hi
      have hlen := K.len he
      have e := s.at_ (by omega)
      obtain ⟨b, off, sp⟩ := a'
      obtain ⟨_, _, rfl⟩ := Addr.mk.inj (Option.some.inj e)
      have : cs = cs' := by
        refine List.ext_getElem? fun j => ?_
        rcases Nat.lt_or_ge j sz with hj | hj
        · have h2 := hc4 j (by omega)
          have h3 := hr j (cs'[j]'(by omega)) (List.getElem?_eq_getElem _)
          rw [hs, add_off, add_off] at h2
          rw [cellv_hv, hk] at h3
          simp only [ablk, aoff] at h3
          rw [← h2, h3, List.getElem?_eq_getElem]
        · rw [List.getElem?_eq_none (by omega), List.getElem?_eq_none (by omega)]
      subst this
      exact ⟨cs, elems[i], List.getElem?_eq_getElem _, he, hc2⟩
theorem str_bulkC {n : Nat} {s : List Int} {x : DataW H × List MemPlace} (h : DataW.trod enc Tryd.prog W 0 (fun _ => true) true n 9 [.string (strOf s)] = some x) : s.length + 1 ≤ Rows.uptoBulk x.1 := by
  obtain ⟨b, h1, h2, _⟩ := DataW.trod_string Tryd.underlying9 h
  obtain rfl : strOf s = b := by simpa using h1
  rw [h2]
  simp only [Rows.uptoBulk, Array.length_toList]
  have := strOf_size s
  simp only [ByteArray.size] at this; omega
theorem strs_bulk {n : Nat} {l : List (List Int)} {a : Option Addr} {c : Nat} {x : DataW H × List MemPlace} (h : DataW.trod enc Tryd.prog W 0 (fun _ => true) true n 31 [.slice a l.length c] = some x) (s : SlA strK 16 (hv W) l a c) :
    (l.map List.length).sum + l.length + 1 ≤ Rows.uptoBulk x.1 := by
  obtain ⟨m, ds, hl, hb, hd⟩ := slice_parts Tryd.underlying31 (by kernel_rfl) rfl (by decide) h s
  refine Nat.le_trans (Nat.succ_le_succ ?_) hb
  clear hb h s
  induction l generalizing ds with
  | nil => exact Nat.zero_le _
  | cons y l ih =>
    cases ds with
    | nil => simp at hl
    | cons d ds =>
      obtain ⟨cs, d', h1, h2, h3⟩ := hd 0 y rfl
      obtain rfl : d = d' := by simpa using h1
      obtain rfl : cs = [Value.string (strOf y)] := h2
      have h4 := str_bulkC h3
      have h5 := ih ds (by simpa using hl) fun i z hz => hd (i + 1) z hz
      simp only [List.map_cons, List.sum_cons, List.length_cons, Rows.uptoBulkAll]; omega
theorem sl_bulkC {α : Type} {K : Kd α} {t e sz by_ n : Nat} {l : List α} {a : Option Addr} {c : Nat} {x : DataW H × List MemPlace} (hu : Tryd.prog.underlying t = some (.slice e)) (hs : Tryd.prog.cellsOf e = sz) (hk : K.sz = sz) (hsz : 0 < sz)
    (h : DataW.trod enc Tryd.prog W 0 (fun _ => true) true n t [.slice a l.length c] = some x) (s : SlA K by_ (hv W) l a c) : l.length + 1 ≤ Rows.uptoBulk x.1 := by
  obtain ⟨m, ds, hl, hb, hd⟩ := slice_parts hu hs hk hsz h s
  have := bulk_count (ds.map (·.1))
  rw [List.length_map, hl] at this; omega
theorem ln_bulkC {n : Nat} {y : LnV} {cs : List Value} {x : DataW H × List MemPlace} (h : DataW.trod enc Tryd.prog W 0 (fun _ => true) true n 36 cs = some x) (e : lnKd.enc (hv W) y cs) : Small y.l (Rows.uptoBulk x.1) := by
  obtain ⟨rfl, ⟨s1, s2, s3⟩, hok⟩ := e
  obtain ⟨xs, m, _, hx, _, hl, hat⟩ := DataW.trod_struct Tryd.underlying36 h
  have k9 : Tryd.prog.cellsOf 9 = 1 := by kernel_rfl
  have k23 : Tryd.prog.cellsOf 23 = 1 := by kernel_rfl
  have k29 : Tryd.prog.cellsOf 29 = 1 := by kernel_rfl
  have k31 : Tryd.prog.cellsOf 31 = 1 := by kernel_rfl
  obtain ⟨x0, x1, x2, x3, x4, x5, x6, rfl⟩ := len7w (hl.trans rfl)
  have h2 : DataW.trod enc Tryd.prog W 0 (fun _ => true) true m 23 ((y.cells.drop 2).take (Tryd.prog.cellsOf 23)) = some x2 := hat 2 _ rfl
  rw [k23] at h2
  have h3 : DataW.trod enc Tryd.prog W 0 (fun _ => true) true m 29 ((y.cells.drop 3).take (Tryd.prog.cellsOf 29)) = some x3 := hat 3 _ rfl
  rw [k29] at h3
  have h5 : DataW.trod enc Tryd.prog W 0 (fun _ => true) true m 9 ((y.cells.drop 5).take (Tryd.prog.cellsOf 9)) = some x5 := hat 5 _ rfl
  rw [k9] at h5
  have h6 : DataW.trod enc Tryd.prog W 0 (fun _ => true) true m 31 ((y.cells.drop 6).take (Tryd.prog.cellsOf 31)) = some x6 := hat 6 _ rfl
  rw [k31] at h6
  have b2 := sl_bulkC (K := Kd.int .u8) (by_ := 1) (n := m) (l := y.l.Text) (a := y.ta) (c := y.tc) (x := x2) Tryd.underlying23 (by kernel_rfl) rfl (by decide) h2 s1
  have b3 := sl_bulkC (K := Kd.int .i64) (by_ := 8) (n := m) (l := y.l.Numbers) (a := y.na) (c := y.nc) (x := x3) Tryd.underlying29 (by kernel_rfl) rfl (by decide) h3 s2
  have b5 := str_bulkC (n := m) (s := y.l.Guide) (x := x5) h5
  have b6 := strs_bulk (n := m) (l := y.l.Stops) (a := y.sa) (c := y.sc) (x := x6) h6 s3
  have hb : Rows.uptoBulk x.1 = Rows.uptoBulkAll [x0.1, x1.1, x2.1, x3.1, x4.1, x5.1, x6.1] + 1 := by rw [hx]; rfl
  simp only [Rows.uptoBulkAll] at hb
  exact ⟨by omega, by omega, by omega, by omega, by omega⟩
theorem ln_bulk {v : Value} {d : DataW H} {p : List MemPlace} {x : LnV} (h : DataW.Trod enc Tryd.prog W 0 (fun _ => true) true 36 v d p) (e : agg lnKd (hv W) x v) : Small x.l (Rows.uptoBulk d) := by
  obtain ⟨fuel, hf⟩ := h
  obtain ⟨cs, rfl, he⟩ := e
  exact ln_bulkC hf he
theorem lns_bulk {v : Value} {d : DataW H} {p : List MemPlace} {xs : List LnV} {t : Nat} (hu : Tryd.prog.underlying t = some (.slice 36)) (h : DataW.Trod enc Tryd.prog W 0 (fun _ => true) true t v d p) (e : one (Kd.slice lnKd 120) (hv W) xs v) : xs.length ≤ Rows.uptoBulk d ∧ ∀ x ∈ xs, Small x.l (Rows.uptoBulk d) := by
  obtain ⟨fuel, hf⟩ := h
  obtain ⟨_, hv', a, c, rfl, hs, _⟩ := e
  obtain rfl := (List.cons.inj hv').1
  obtain ⟨m, ds, hl, hb, hd⟩ := slice_parts hu (by kernel_rfl) rfl (by decide) hf hs
  refine ⟨?_, fun x hx => ?_⟩
  · have := bulk_count (ds.map (·.1))
    rw [List.length_map, hl] at this
    simp only at hb
    omega
  · obtain ⟨i, hi⟩ := List.mem_iff_getElem?.1 hx
    obtain ⟨cs, d', h1, h2, h3⟩ := hd i x hi
    have h4 := ln_bulkC h3 h2
    have h5 := bulk_all (l := ds.map (·.1)) (i := i) (d := d'.1) (by rw [List.getElem?_map, h1]; rfl)
    simp only at hb
    exact h4.up (by omega)
end
end Go.Proofs.YtepfnakabafhlaaDoorX
