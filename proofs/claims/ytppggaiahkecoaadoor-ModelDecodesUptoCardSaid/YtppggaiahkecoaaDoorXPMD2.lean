/- The document's reader: bytes, numbers, matrices. -/
import Derived.Test.YtppggaiahkecoaaDoorXPMR5
import Derived.Test.YtppggaiahkecoaaDoorXPMD1
import Derived.Test.YtppggaiahkecoaaDoorXPMR4
set_option linter.unusedSimpArgs false
set_option linter.unusedVariables false
namespace Go.Proofs.YtppggaiahkecoaaDoorX
open Go Go.SX

/-- The view's block. -/
abbrev VwB (vb : Nat) (a : Option Addr) (c : Nat) (b : List Int) (p : Nat) : Nat × Obj := (vb, .cells ⟨[.slice a b.length c, .int .i64 p]⟩ 108 (0, 0))
theorem sel_nil (l : HL) : sel [] l = l := by cases l <;> rfl
theorem bytV_snoc (b : List Int) (p i : Nat) : bytV (i + 1) b p = bytV i b p ++ [b.getD (p + i) 0] := by unfold bytV; rw [List.range_succ, List.map_append]; rfl
set_option maxHeartbeats 4000000 in
theorem vnarrow_fn (vb : Nat) (a : Option Addr) (c : Nat) (b : List Int) (p n : Nat) (hp : p + n ≤ 1000000000) : FC Tryd.prog 66 [.pointer (some ⟨vb, 0, none⟩), .int .i64 n] [VwB vb a c b p] (fun h => byAt h b a c)
    (fun v L => ∃ (x : LV) (F : HL), v = slv x ∧ x.1 = (narV n b p).1 ∧ L = VwB vb a c b (p + n) :: F ∧ Held F (fun h => lvAt h x) ∧ (0 < n → x.2.1 = some ⟨ablk x.2.1, aoff x.2.1, none⟩)) := by
  refine FC.sub2 ?_
  refine FC.intro Tryd.func66 rfl (by kernel_rfl) 46 [.tmp 4] rfl rfl rfl ?_
  intro w0 hA
  have hBb : isB b := fun y hy => inK_u8.1 (hA.okAll y hy)
  have hbl := hA.bytes
  have hat := hA.at_
  (repeat (first | (with_reducible apply XL.op) | ((with_reducible apply XOp.p1); (case hg | hv => exact rfl)) | (with_reducible apply XL.nilT) | (with_reducible apply XC.seq) | (with_reducible apply XC.region (Γ := Γ)) | (with_reducible apply XC.block)))
  refine XC.loopP (fun k ρ L => ∃ (i : Nat) (v : Value) (Fv : HL), i + k = n ∧ OwnS 39 1 v i (((bytV i b p).map toN).map (.int .i8)) Fv ∧ L = VwB vb a c b (p + i) :: Fv ∧ Slots ρ [(0, .pointer (some ⟨vb, 0, none⟩)), (1, .int .i64 n), (5, v), (6, .int .i64 i)])
    n ⟨0, _, [], by simp, OwnS.nil _ _, rfl, rfl, rfl, rfl, rfl, trivial⟩ ?_
  rintro k ρ L ⟨i, v, Fv, hik, hown, rfl, hs⟩
  obtain ⟨a2, c2, rfl⟩ := hown.val
  refine XC.slots _ hs ?_
  (repeat (first | (with_reducible apply XL.op) | ((with_reducible apply XOp.p1); (case hg | hv => exact rfl)) | (with_reducible apply XL.nilT) | (with_reducible apply XC.seq) | (with_reducible apply XC.region (Γ := Γ))))
  ((with_reducible apply XC.cond); (case hc => exact rfl); all_goals (intro hb_; try simp only [pd_true, pd_false, Bool.not_eq_true', Bool.not_eq_false', Bool.and_eq_true, Bool.and_eq_false_iff, Bool.or_eq_true, Bool.or_eq_false_iff, not_true_eq_false, not_false_eq_true, Int.not_lt, Int.not_le] at hb_))
  · have hx : 0 ≤ b.getD (p + i) 0 ∧ b.getD (p + i) 0 ≤ 255 := by have := bytV_isB hBb 1 (p + i) (b.getD (p + i) 0) (by simp [bytV]); exact this
    (repeat (first | (with_reducible apply XL.op) | ((with_reducible apply XOp.p1); (case hg | hv => exact rfl)) | (with_reducible apply XL.nilT) | (with_reducible apply XC.seq) | (with_reducible apply XC.region (Γ := Γ)) | (with_reducible apply XQ.skip) | (with_reducible apply XQ.nt) | (with_reducible apply XC.block)))
    ((with_reducible apply XC.regionD (Γ := Γ) mixed (.q 0 (.q 1 (.q 2 (.q 3 (.q 4 (.q 5 (.q 6 (.q 7 (.q 8 (.q 9 (.done))))))))))) [] []); (case hc => kernel_rfl))
    (repeat (first | (with_reducible apply XQ.nt) | ((with_reducible apply XP.p1); (case ho | hg | hv => exact rfl)) | ((with_reducible apply XP.load); (case ho | hg | ht | hk | hx => exact rfl); (case hc => exact own_cell (i := 0) rfl rfl)) | (with_reducible apply XP.done)))
    refine XC.cut (fun ρ L => L = VwB vb a c b (p + i) :: Fv ∧ Slots ρ [(0, .pointer (some ⟨vb, 0, none⟩)), (1, .int .i64 n), (5, .slice a2 i c2), (6, .int .i64 i), (7, .int .u8 (b.getD (p + i) 0))]) _ ?_ ?_
    · ((with_reducible apply XC.cond); (case hc => exact rfl); all_goals (intro hb_; try simp only [pd_true, pd_false, Bool.not_eq_true', Bool.not_eq_false', Bool.and_eq_true, Bool.and_eq_false_iff, Bool.or_eq_true, Bool.or_eq_false_iff, not_true_eq_false, not_false_eq_true, Int.not_lt, Int.not_le] at hb_))
      · have hlt : p + i < b.length := by omega
        have hc := (hA.int (p + i) hlt).1
        ((with_reducible apply XC.regionD (Γ := Γ) mixed (.q 0 (.q 1 (.q 2 (.q 3 (.q 4 (.q 5 (.q 6 (.q 7 (.q 8 (.q 9 (.q 10 (.done)))))))))))) [] []); (case hc => kernel_rfl))
        (repeat (first | (with_reducible apply XQ.nt) | ((with_reducible apply XP.p1); (case ho | hg | hv => exact rfl)) | ((with_reducible apply XP.load); (case ho | hg | ht | hk | hx => exact rfl); (case hc => exact own_cell (i := 0) rfl rfl)) | ((with_reducible apply XP.pr); (case ho => exact rfl); (case hg => exact rfl); (case hr => ((with_reducible apply PR.idxA); (case ht | hk | he | hx | hi => exact rfl); (case hr => first | assumption | omega); (case ha => first | assumption | exact SlA.at_ (by assumption))))) | (with_reducible apply XP.done) | (first | ((with_reducible apply XOp.load); (case hg | ht | hk | hx => exact rfl); (case hc => exact Known.of_old hc (Mono.cell _ _))) | ((with_reducible apply XP.load); (case ho | hg | ht | hk | hx => exact rfl); (case hc => exact Known.of_old hc (Mono.cell _ _))))))
        refine ⟨rfl, rfl, rfl, rfl, rfl, ?_, trivial⟩
        show Value.int _ _ = Value.int _ _
        rw [List.getD_eq_getElem?_getD]
      · (repeat (first | (with_reducible apply XQ.skip) | (with_reducible apply XQ.nt)))
        refine ⟨rfl, rfl, rfl, rfl, rfl, ?_, trivial⟩
        show Value.int _ _ = Value.int _ _
        rw [List.getD_eq_getElem?_getD, List.getElem?_eq_none (by omega)]; rfl
    rintro ρ L ⟨rfl, hs⟩
    refine XC.slots _ hs ?_
    (repeat (first | (with_reducible apply XL.op) | ((with_reducible apply XOp.p1); (case hg | hv => exact rfl)) | (with_reducible apply XC.seq) | (with_reducible apply XC.region (Γ := Γ))))
    ((with_reducible apply XOp.buildSlice); (case hg | ht | hk | he | hz | hzl | hf => exact rfl); intro bb)
    (repeat ((with_reducible apply XL.op)))
    ((with_reducible apply XOp.append1R (R := [VwB vb a c b (p + i)])); (case hg => exact rfl); (case ht => exact rfl); (case hk => exact rfl); (case he => exact rfl); (case hown => exact hown); (case hs => exact rfl); (case hx => exact rfl); (case hL => exact rfl); (case hl => exact rfl); (case h1 => exact rfl); (case hz => exact rfl); (case hsz => exact Nat.zero_lt_succ _); (case hk0 => exact Nat.zero_lt_succ _); (case h63 => simp only [maxLen]; omega); (case hb => simp only []; omega); intro v_ F_ hown_; obtain ⟨a_, c_, rfl⟩ := hown_.val)
    (repeat (first | (with_reducible apply XL.op) | ((with_reducible apply XOp.p1); (case hg | hv => exact rfl)) | ((with_reducible apply XOp.load); (case hg | ht | hk | hx => exact rfl); (case hc => exact own_cell (i := 0) rfl rfl)) | ((with_reducible apply XOp.store (i := 0)); (case hg | ht | hk | hx | hv | h1 | hi | hs | ha => exact rfl)) | (with_reducible apply XL.nilT) | (with_reducible apply XC.region (Γ := Γ)) | (with_reducible apply XL.nilQ) | (with_reducible apply XQ.nt) | (with_reducible apply XQ.nb)))
    refine ⟨k - 1, by omega, _, .of (List.Sublist.refl _), i + 1, _, F_, by omega, hown_.conv rfl ?_, ?_, rfl, rfl, rfl, intS2 (m := n) (by omega) (by omega), trivial⟩
    · rw [bytV_snoc, i8_toN hx]; simp [zerosL]
    · rw [intS2 (i := p + i) (m := 1000000000) (by omega) (by omega)]; rfl
  · obtain rfl : i = n := by omega
    (repeat (first | (with_reducible apply XL.op) | ((with_reducible apply XOp.p1); (case hg | hv => exact rfl)) | (with_reducible apply XL.nilT) | (with_reducible apply XC.seq) | (with_reducible apply XC.region (Γ := Γ)) | (with_reducible apply XQ.ret) | (with_reducible apply XQ.exit) | (with_reducible apply XQ.nt) | (with_reducible apply XQ.et) | ((with_reducible apply XQ.eb); (case hb => exact rfl))))
    ((with_reducible apply XQ.retE); (case hr => exact .t rfl .nil))
    have hNo : isN ((bytV i b p).map toN) := isN_map (bytV_isB hBb _ _)
    have hli := bytV_len i b p
    obtain ⟨a3, c3, e3, _, s3⟩ := hown.slA (by_ := 1) (fun y hy => inK_i8.2 (hNo y hy)) (by rw [List.length_map]; omega)
    rw [List.length_map, hli] at e3
    obtain ⟨rfl, _, rfl⟩ := Value.slice.inj e3
    exact ⟨VwB vb a c b (p + i) :: Fv, .of (List.Sublist.refl _), ((bytV i b p).map toN, a2, c2), Fv, by simp [resV, hli], rfl, rfl, Held.frag s3 (Mono.sl _ _ _ _ _), fun h0 => s3.at_ (by rw [List.length_map]; omega)⟩
theorem vnarrowI_fn (vb : Nat) (a : Option Addr) (c : Nat) (b : List Int) (p : Nat) (n : Int) (hn : 0 ≤ n) (hp : p + n ≤ 1000000000) : FC Tryd.prog 66 [.pointer (some ⟨vb, 0, none⟩), .int .i64 n] [VwB vb a c b p] (fun h => byAt h b a c)
    (fun v L => ∃ (x : LV) (F : HL), v = slv x ∧ x.1 = (narV n.toNat b p).1 ∧ L = VwB vb a c b (p + n.toNat) :: F ∧ Held F (fun h => lvAt h x)) := by
  have h := (vnarrow_fn vb a c b p n.toNat (by omega)).mono (Post' := fun v L => ∃ (x : LV) (F : HL), v = slv x ∧ x.1 = (narV n.toNat b p).1 ∧ L = VwB vb a c b (p + n.toNat) :: F ∧ Held F (fun h => lvAt h x)) fun v L ⟨x, F, h1, h2, h3, h4, _⟩ => ⟨x, F, h1, h2, h3, h4⟩
  rwa [show ((n.toNat : Nat) : Int) = n by omega] at h
theorem vmat_fn (vb : Nat) (a : Option Addr) (c : Nat) (b : List Int) (p : Nat) (rows cols : Int) (hn : 0 ≤ rows * cols ∧ rows * cols ≤ 100000000) (hp : p ≤ 100000000) : FC Tryd.prog 63 [.pointer (some ⟨vb, 0, none⟩), .int .i64 rows, .int .i64 cols] [VwB vb a c b p] (fun h => byAt h b a c)
    (fun v L => ∃ (x : LM) (F : HL), v = .agg ⟨x.cells⟩ ∧ x.mat = (matV rows cols b p).1 ∧ L = VwB vb a c b (p + (rows * cols).toNat) :: F ∧ Held F (fun h => lmAt h x)) := by
  refine FC.sub2 ?_
  refine FC.intro Tryd.func63 rfl (by kernel_rfl) 15 [.cell 6 26] rfl rfl rfl ?_
  intro w0 hA
  have en : IntKind.i64.wrap (rows * cols) = (((rows * cols).toNat : Nat) : Int) := by rw [wrap64_of (by omega) (by omega)]; omega
  (repeat (first | (with_reducible apply XL.op) | (with_reducible apply XC.seq) | (with_reducible apply XC.region (Γ := Γ))))
  ((with_reducible apply XOp.alloc); (case hg | ht | hx' => exact rfl); intro mb)
  (repeat (first | (with_reducible apply XL.op) | ((with_reducible apply XOp.p1); (case hg | hv => exact rfl)) | (with_reducible apply XL.nilT) | (with_reducible apply XC.seq) | (with_reducible apply XC.region (Γ := Γ))))
  rw [en]
  ((with_reducible apply XOp.callR (R := [_]) (F := [VwB vb a c b p]) (hF := vnarrow_fn vb a c b p (rows * cols).toNat (by omega))); (case hg => exact rfl); (case hc => exact rfl); (case ha => exact rfl); (case hL => exact rfl); try (case hA => exact Known.true))
  case hA => exact Known.of_old hA (Mono.sl _ _ _ _ _)
  rintro _ _ ⟨x, F, rfl, hx, rfl, hF, _⟩
  (repeat (first | (with_reducible apply XL.op) | ((with_reducible apply XOp.storeN (i := 0)); (case hg | ht | hx | hv' | hk | h1 | hi | hs | ha => exact rfl)) | ((with_reducible apply XOp.pr); (case hg => exact rfl); (case hr => ((with_reducible apply PR.build); (case ht | hk | hok | hz | hf => exact rfl)))) | (with_reducible apply XL.nilT) | (with_reducible apply XQ.ret)))
  ((with_reducible apply XQ.retE); (case hr => exact .row rfl (by kernel_rfl) (by kernel_rfl) (own_row (i := 0) (m := 3) rfl rfl) .nil))
  exact ⟨_, .of (List.sublist_cons_self _ _), ⟨rows, cols, x⟩, F, rfl, by simp only [LM.mat, hx]; rfl, rfl, hF⟩
set_option maxHeartbeats 4000000 in
theorem refNumber_fn (a : Option Addr) (c : Nat) (b : List Int) (p n : Nat) (hn : n ≤ 7) (hp : p ≤ 1000000000) : FC Tryd.prog 93 [.slice a b.length c, .int .i64 p, .int .i64 n] [] (fun h => byAt h b a c)
    (fun v L => v = .int .u64 (valB (bytV n b p)) ∧ L = []) := by
  refine FC.nil ?_
  refine FC.intro Tryd.func93 rfl (by kernel_rfl) 33 [.tmp 6] rfl rfl rfl ?_
  intro w0 hA
  have hBb : isB b := fun y hy => inK_u8.1 (hA.okAll y hy)
  have hbl := hA.bytes
  have hat := hA.at_
  have hl := bytV_len n b p
  have hBB := bytV_isB hBb n p
  have hgD : ∀ i, i < n → (bytV n b p).getD i 0 = b.getD (p + i) 0 := fun i hi => by
    unfold bytV; rw [List.getD_eq_getElem?_getD, List.getElem?_map, List.getElem?_range hi]; rfl
  (repeat (first | (with_reducible apply XL.op) | ((with_reducible apply XOp.p1); (case hg | hv => exact rfl)) | (with_reducible apply XL.nilT) | (with_reducible apply XC.seq) | (with_reducible apply XC.region (Γ := Γ)) | (with_reducible apply XC.block)))
  refine XC.loop (fun k ρ L => ∃ i : Nat, i = k ∧ i ≤ n ∧ L = [] ∧ Slots ρ [(0, .slice a b.length c), (1, .int .i64 p), (7, .int .u64 (valB ((bytV n b p).drop i))), (8, .int .i64 ((i : Int) - 1))])
    n ⟨n, rfl, Nat.le_refl _, rfl, rfl, rfl, by rw [List.drop_of_length_le (by omega)]; rfl, (by show Value.int _ _ = Value.int _ _; rw [wrap64_of (by omega) (by omega)]), trivial⟩ ?_
  rintro k ρ L ⟨i, rfl, hil, rfl, hs⟩
  refine XC.slots _ hs ?_
  (repeat (first | (with_reducible apply XL.op) | ((with_reducible apply XOp.p1); (case hg | hv => exact rfl)) | (with_reducible apply XL.nilT) | (with_reducible apply XC.seq) | (with_reducible apply XC.region (Γ := Γ))))
  ((with_reducible apply XC.cond); (case hc => exact rfl); all_goals (intro hb_; try simp only [pd_true, pd_false, Bool.not_eq_true', Bool.not_eq_false', Bool.and_eq_true, Bool.and_eq_false_iff, Bool.or_eq_true, Bool.or_eq_false_iff, not_true_eq_false, not_false_eq_true, Int.not_lt, Int.not_le] at hb_))
  · obtain ⟨i, rfl⟩ : ∃ q, i = q + 1 := ⟨i - 1, by omega⟩
    have ei : ((i + 1 : Nat) : Int) - 1 = (i : Int) := by omega
    rw [ei]
    have hbd := valB_bnd ((bytV n b p).drop (i + 1)) fun y hy => hBB y (List.drop_subset _ _ hy)
    have hlen : ((bytV n b p).drop (i + 1)).length ≤ 6 := by rw [List.length_drop]; omega
    have hpow : 256 ^ ((bytV n b p).drop (i + 1)).length ≤ 256 ^ 6 := Nat.pow_le_pow_right (by omega) hlen
    have h7 : 256 ^ 6 = 281474976710656 := by rfl
    have hd := valB_drop (bytV n b p) (i := i) (by omega)
    rw [hgD i (by omega)] at hd
    have hx : 0 ≤ b.getD (p + i) 0 ∧ b.getD (p + i) 0 ≤ 255 := by have := hBB ((bytV n b p).getD i 0) (by rw [List.getD_eq_getElem?_getD, List.getElem?_eq_getElem (by omega)]; exact List.getElem_mem _); rw [hgD i (by omega)] at this; exact this
    have epi : IntKind.i64.wrap ((p : Int) + (i : Int)) = ((p + i : Nat) : Int) := by rw [wrap64_of (by omega) (by omega)]; omega
    have e256 : IntKind.u64.wrap (valB ((bytV n b p).drop (i + 1)) * 256) = valB ((bytV n b p).drop (i + 1)) * 256 := wrap_of (inK_u64.2 (by omega))
    (repeat (first | (with_reducible apply XL.op) | ((with_reducible apply XOp.p1); (case hg | hv => exact rfl)) | (with_reducible apply XL.nilT) | (with_reducible apply XC.seq) | (with_reducible apply XC.region (Γ := Γ)) | (with_reducible apply XQ.skip) | (with_reducible apply XQ.nt) | (with_reducible apply XC.block)))
    rw [epi, e256]
    skip
    refine XC.cutB (fun ρ L => L = [] ∧ Slots ρ [(0, .slice a b.length c), (1, .int .i64 p), (7, .int .u64 (valB ((bytV n b p).drop i))), (8, .int .i64 i)]) ?_ ?_
    · ((with_reducible apply XC.cond); (case hc => exact rfl); all_goals (intro hb_; try simp only [pd_true, pd_false, Bool.not_eq_true', Bool.not_eq_false', Bool.and_eq_true, Bool.and_eq_false_iff, Bool.or_eq_true, Bool.or_eq_false_iff, not_true_eq_false, not_false_eq_true, Int.not_lt, Int.not_le] at hb_))
      · have hlt : p + i < b.length := by omega
        have hc := (hA.int (p + i) hlt).1
        (repeat (first | (with_reducible apply XL.op) | ((with_reducible apply XOp.p1); (case hg | hv => exact rfl)) | ((with_reducible apply XOp.pr); (case hg => exact rfl); (case hr => ((with_reducible apply PR.idxA); (case ht | hk | he | hx | hi => exact rfl); (case hr => first | assumption | omega); (case ha => first | assumption | exact SlA.at_ (by assumption))))) | (with_reducible apply XC.region (Γ := Γ))))
        rw [epi]
        (repeat (first | (with_reducible apply XL.op) | ((with_reducible apply XOp.p1); (case hg | hv => exact rfl)) | (with_reducible apply XL.nilQ) | (with_reducible apply XQ.nt) | (with_reducible apply XQ.nb) | (first | ((with_reducible apply XOp.load); (case hg | ht | hk | hx => exact rfl); (case hc => exact Known.of_old hc (Mono.cell _ _))) | ((with_reducible apply XP.load); (case ho | hg | ht | hk | hx => exact rfl); (case hc => exact Known.of_old hc (Mono.cell _ _))))))
        refine ⟨rfl, rfl, rfl, ?_, rfl, trivial⟩
        show Value.int _ _ = Value.int _ _
        rw [← List.getD_eq_getElem?_getD, hd, show IntKind.u64.wrap (b.getD (p + i) 0) = b.getD (p + i) 0 from wrap_of (inK_u64.2 (by omega)), wrap_of (inK_u64.2 (by omega))]
        congr 1; omega
      · (repeat (first | (with_reducible apply XQ.skip) | (with_reducible apply XQ.nt) | (with_reducible apply XQ.nb)))
        refine ⟨rfl, rfl, rfl, ?_, rfl, trivial⟩
        show Value.int _ _ = Value.int _ _
        rw [hd, List.getD_eq_getElem?_getD, List.getElem?_eq_none (by omega)]
        congr 1; simp only [Option.getD_none]; omega
    rintro ρ L ⟨rfl, hs⟩
    refine XQ.nt ?_
    refine XC.slots _ hs ?_
    (repeat (first | (with_reducible apply XL.op) | ((with_reducible apply XOp.p1); (case hg | hv => exact rfl)) | (with_reducible apply XL.nilT) | (with_reducible apply XC.region (Γ := Γ))))
    refine ⟨i, by omega, i, rfl, by omega, rfl, rfl, rfl, rfl, ?_, trivial⟩
    show Value.int _ _ = Value.int _ _
    rw [wrap64_of (by omega) (by omega)]
  · obtain rfl : i = 0 := by omega
    (repeat (first | (with_reducible apply XL.op) | ((with_reducible apply XOp.p1); (case hg | hv => exact rfl)) | (with_reducible apply XL.nilT) | (with_reducible apply XC.seq) | (with_reducible apply XC.region (Γ := Γ)) | (with_reducible apply XQ.ret) | (with_reducible apply XQ.exit) | (with_reducible apply XQ.nt) | (with_reducible apply XQ.et) | ((with_reducible apply XQ.eb); (case hb => exact rfl))))
    ((with_reducible apply XQ.retE); (case hr => exact .t rfl .nil))
    rfl
theorem vsmall_fn (vb : Nat) (a : Option Addr) (c : Nat) (b : List Int) (p : Nat) (hp : p ≤ 100000000) : FC Tryd.prog 64 [.pointer (some ⟨vb, 0, none⟩)] [VwB vb a c b p] (fun h => byAt h b a c)
    (fun v L => v = .int .i64 (s16 (valB (bytV 2 b p))) ∧ L = [VwB vb a c b (p + 2)]) := by
  refine FC.intro Tryd.func64 rfl (by kernel_rfl) 24 [.tmp 2] rfl rfl rfl ?_
  intro w0 hA
  have hBb : isB b := fun y hy => inK_u8.1 (hA.okAll y hy)
  have hB2 : 0 ≤ valB (bytV 2 b p) ∧ valB (bytV 2 b p) < 65536 := by
    have := valB_bnd (bytV 2 b p) (bytV_isB hBb _ _)
    rw [bytV_len] at this; exact this
  have e2 : IntKind.i64.wrap ((p : Int) + 2) = ((p + 2 : Nat) : Int) := by rw [wrap64_of (by omega) (by omega)]; omega
  (repeat (first | (with_reducible apply XL.op) | ((with_reducible apply XOp.p1); (case hg | hv => exact rfl)) | (with_reducible apply XL.nilT) | (with_reducible apply XC.seq) | (with_reducible apply XC.region (Γ := Γ))))
  ((with_reducible apply XC.regionD (Γ := Γ) mixed (.q 0 (.q 1 (.q 2 (.q 3 (.q 4 (.q 5 (.q 6 (.q 7 (.e 8 (.q 9 (.done))))))))))) [] []); (case hc => kernel_rfl))
  (repeat (first | (with_reducible apply XL.op) | ((with_reducible apply XOp.p1); (case hg | hv => exact rfl)) | ((with_reducible apply XOp.load); (case hg | ht | hk | hx => exact rfl); (case hc => exact own_cell (i := 0) rfl rfl)) | ((with_reducible apply XOp.store (i := 0)); (case hg | ht | hk | hx | hv | h1 | hi | hs | ha => exact rfl)) | (with_reducible apply XL.nilT) | (with_reducible apply XC.seq) | (with_reducible apply XC.region (Γ := Γ)) | (with_reducible apply XQ.ret) | (with_reducible apply XQ.nt) | ((with_reducible apply XP.p1); (case ho | hg | hv => exact rfl)) | ((with_reducible apply XP.load); (case ho | hg | ht | hk | hx => exact rfl); (case hc => exact own_cell (i := 0) rfl rfl)) | (with_reducible apply XP.done) | ((with_reducible apply XP.e); (first | ((with_reducible apply XE.d); (case ho => exact rfl); (case hd => exact rfl)) | ((with_reducible apply XE.e); (case ho => exact rfl)))) | ((with_reducible apply XP.keep); (case hk => first | ((repeat' (first | exact List.forall_mem_nil _ | (with_reducible refine List.forall_mem_cons.2 ⟨?_, ?_⟩) | exact List.mem_cons_self .. | (with_reducible apply List.mem_cons_of_mem) | (with_reducible apply List.mem_append_right))); done) | (intro x hx; first | exact sel_in hx | exact List.mem_cons_of_mem _ (sel_in hx) | exact List.mem_append_right _ (sel_in hx) | exact hx | exact List.mem_cons_of_mem _ hx | exact List.mem_append_right _ hx | ((repeat (first | exact sel_in hx | exact hx | (with_reducible apply List.mem_cons_of_mem) | (with_reducible apply List.mem_append_right))); done) | (rw [List.mem_singleton.1 hx]; (simp; done)) | (rcases List.mem_cons.1 hx with rfl | hx; (simp; done); (rw [List.mem_singleton.1 hx]; (simp; done))) | cases hx))) | (((with_reducible apply XOp.callQ (hF := refNumber_fn a c b p 2 (by omega) (by omega))); (case hg => exact rfl); (case hc => exact rfl); (case ha => exact rfl); try (case hA => exact Known.true)); (case hA => exact Known.of_old hA (Mono.sl _ _ _ _ _)); rintro _ rfl)))
  rw [e2]
  ((with_reducible apply XQ.retE); (case hr => exact .t rfl .nil))
  exact ⟨by rw [i16_s16 hB2]; rfl, rfl⟩
set_option maxHeartbeats 4000000 in
theorem vconfig_fn (vb : Nat) (a : Option Addr) (c : Nat) (b : List Int) (p : Nat) (hp : p ≤ 100000000) : FC Tryd.prog 62 [.pointer (some ⟨vb, 0, none⟩)] [VwB vb a c b p] (fun h => byAt h b a c)
    (fun v L => v = .agg ⟨(cfgOf (narV 8 b (p + 5)).1).cells⟩ ∧ L = [VwB vb a c b (p + 13)]) := by
  refine FC.sub2 ?_
  refine FC.intro Tryd.func62 rfl (by kernel_rfl) 47 [.cell 2 23] rfl rfl rfl ?_
  intro w0 hA
  have hBb : isB b := fun y hy => inK_u8.1 (hA.okAll y hy)
  have e5 : IntKind.i64.wrap ((p : Int) + 5) = ((p + 5 : Nat) : Int) := by rw [wrap64_of (by omega) (by omega)]; omega
  (repeat (first | (with_reducible apply XL.op) | (with_reducible apply XC.seq) | (with_reducible apply XC.region (Γ := Γ))))
  ((with_reducible apply XOp.alloc); (case hg | ht | hx' => exact rfl); intro rb)
  (repeat (first | (with_reducible apply XL.op) | ((with_reducible apply XOp.p1); (case hg | hv => exact rfl)) | ((with_reducible apply XOp.load); (case hg | ht | hk | hx => exact rfl); (case hc => exact own_cell (i := 1) rfl rfl)) | ((with_reducible apply XOp.store (i := 1)); (case hg | ht | hk | hx | hv | h1 | hi | hs | ha => exact rfl)) | (with_reducible apply XL.nilT) | (with_reducible apply XC.seq) | (with_reducible apply XC.region (Γ := Γ))))
  rw [e5]
  ((with_reducible apply XOp.callR (R := [_]) (F := [VwB vb a c b (p + 5)]) (hF := vnarrow_fn vb a c b (p + 5) 8 (by omega))); (case hg => exact rfl); (case hc => exact rfl); (case ha => exact rfl); (case hL => exact rfl); try (case hA => exact Known.true))
  case hA => exact Known.of_old hA (Mono.sl _ _ _ _ _)
  rintro _ _ ⟨⟨x1, xa, xc⟩, F, rfl, hx, rfl, hF, hxat⟩
  have hN : isN x1 := by simp only [] at hx; rw [hx]; exact isN_map (bytV_isB hBb _ _)
  obtain ⟨m0, m1, m2, m3, m4, m5, m6, m7, hm⟩ := len8 (l := x1) (by simp only [] at hx; rw [hx]; simp [narV, bytV_len])
  have hat := hxat (by omega)
  simp only [] at hx hat
  subst hm
  have hwr : ∀ o ∈ [m0, m1, m2, m3, m4, m5, m6, m7], IntKind.i64.wrap o = o := fun o h => by have := hN o h; exact wrap64_of (by omega) (by omega)
  have hK : ∀ {L : HL}, (∀ x ∈ F, x ∈ L) → Known w0 (keys [VwB vb a c b p]) L (fun h => lvAt h ([m0, m1, m2, m3, m4, m5, m6, m7], xa, xc)) := fun s => hF.known s
  rw [show slv ([m0, m1, m2, m3, m4, m5, m6, m7], xa, xc) = Value.slice xa 8 xc from rfl]
  (repeat (first | (with_reducible apply XL.op) | ((with_reducible apply XOp.p1); (case hg | hv => exact rfl)) | (with_reducible apply XL.nilT) | (with_reducible apply XC.seq)))
  ((with_reducible apply XC.regionD (Γ := Γ) mixed (.q 0 (.q 1 (.q 2 (.q 3 (.q 4 (.q 5 (.q 6 (.q 7 (.q 8 (.q 9 (.q 10 (.q 11 (.q 12 (.q 13 (.q 14 (.q 15 (.q 16 (.q 17 (.q 18 (.q 19 (.q 20 (.q 21 (.q 22 (.q 23 (.q 24 (.q 25 (.q 26 (.q 27 (.q 28 (.q 29 (.q 30 (.q 31 (.q 32 (.e 33 (.done))))))))))))))))))))))))))))))))))) [33] []); (case hc => kernel_rfl))
  (repeat (first | ((with_reducible apply XOp.storeN (i := 0)); (case hg | ht | hx | hv' | hk | h1 | hi | hs | ha => exact rfl)) | (with_reducible apply XQ.ret) | (with_reducible apply XQ.nt) | ((with_reducible apply XP.p1); (case ho | hg | hv => exact rfl)) | ((with_reducible apply XP.pr); (case ho => exact rfl); (case hg => exact rfl); (case hr => ((with_reducible apply PR.idxA); (case ht | hk | he | hx | hi => exact rfl); (case hr => first | assumption | omega); (case ha => first | assumption | exact SlA.at_ (by assumption))))) | ((with_reducible apply XP.pr); (case ho => exact rfl); (case hg => exact rfl); (case hr => ((with_reducible apply PR.build); (case ht | hk | hok | hz | hf => exact rfl)))) | (with_reducible apply XP.done) | ((with_reducible apply XP.e); (first | ((with_reducible apply XE.d); (case ho => exact rfl); (case hd => exact rfl)) | ((with_reducible apply XE.e); (case ho => exact rfl)))) | (first | ((with_reducible apply XOp.load); (case hg | ht | hk | hx => exact rfl); (case hc => exact (hK (fun y hy => by rw [sel_nil]; simp [hy])).imp fun h s => (s.int 0 (by simp)).1)) | ((with_reducible apply XP.load); (case ho | hg | ht | hk | hx => exact rfl); (case hc => exact (hK (fun y hy => by rw [sel_nil]; simp [hy])).imp fun h s => (s.int 0 (by simp)).1))) | (first | ((with_reducible apply XOp.load); (case hg | ht | hk | hx => exact rfl); (case hc => exact (hK (fun y hy => by rw [sel_nil]; simp [hy])).imp fun h s => (s.int 1 (by simp)).1)) | ((with_reducible apply XP.load); (case ho | hg | ht | hk | hx => exact rfl); (case hc => exact (hK (fun y hy => by rw [sel_nil]; simp [hy])).imp fun h s => (s.int 1 (by simp)).1))) | (first | ((with_reducible apply XOp.load); (case hg | ht | hk | hx => exact rfl); (case hc => exact (hK (fun y hy => by rw [sel_nil]; simp [hy])).imp fun h s => (s.int 2 (by simp)).1)) | ((with_reducible apply XP.load); (case ho | hg | ht | hk | hx => exact rfl); (case hc => exact (hK (fun y hy => by rw [sel_nil]; simp [hy])).imp fun h s => (s.int 2 (by simp)).1))) | (first | ((with_reducible apply XOp.load); (case hg | ht | hk | hx => exact rfl); (case hc => exact (hK (fun y hy => by rw [sel_nil]; simp [hy])).imp fun h s => (s.int 3 (by simp)).1)) | ((with_reducible apply XP.load); (case ho | hg | ht | hk | hx => exact rfl); (case hc => exact (hK (fun y hy => by rw [sel_nil]; simp [hy])).imp fun h s => (s.int 3 (by simp)).1))) | (first | ((with_reducible apply XOp.load); (case hg | ht | hk | hx => exact rfl); (case hc => exact (hK (fun y hy => by rw [sel_nil]; simp [hy])).imp fun h s => (s.int 4 (by simp)).1)) | ((with_reducible apply XP.load); (case ho | hg | ht | hk | hx => exact rfl); (case hc => exact (hK (fun y hy => by rw [sel_nil]; simp [hy])).imp fun h s => (s.int 4 (by simp)).1))) | (first | ((with_reducible apply XOp.load); (case hg | ht | hk | hx => exact rfl); (case hc => exact (hK (fun y hy => by rw [sel_nil]; simp [hy])).imp fun h s => (s.int 5 (by simp)).1)) | ((with_reducible apply XP.load); (case ho | hg | ht | hk | hx => exact rfl); (case hc => exact (hK (fun y hy => by rw [sel_nil]; simp [hy])).imp fun h s => (s.int 5 (by simp)).1))) | (first | ((with_reducible apply XOp.load); (case hg | ht | hk | hx => exact rfl); (case hc => exact (hK (fun y hy => by rw [sel_nil]; simp [hy])).imp fun h s => (s.int 6 (by simp)).1)) | ((with_reducible apply XP.load); (case ho | hg | ht | hk | hx => exact rfl); (case hc => exact (hK (fun y hy => by rw [sel_nil]; simp [hy])).imp fun h s => (s.int 6 (by simp)).1))) | (first | ((with_reducible apply XOp.load); (case hg | ht | hk | hx => exact rfl); (case hc => exact (hK (fun y hy => by rw [sel_nil]; simp [hy])).imp fun h s => (s.int 7 (by simp)).1)) | ((with_reducible apply XP.load); (case ho | hg | ht | hk | hx => exact rfl); (case hc => exact (hK (fun y hy => by rw [sel_nil]; simp [hy])).imp fun h s => (s.int 7 (by simp)).1)))))
  ((with_reducible apply XQ.retE); (case hr => exact .row rfl (by kernel_rfl) (by kernel_rfl) (own_row (i := 0) (m := 8) rfl rfl) .nil))
  refine ⟨[VwB vb a c b (p + 13)], .of (List.Sublist.cons _ (List.Sublist.cons_cons _ (List.nil_sublist _))), ?_, rfl⟩
  rw [← hx]
  show Value.agg ⟨[.int .i64 (IntKind.i64.wrap m0), .int .i64 (IntKind.i64.wrap m1), .int .i64 (IntKind.i64.wrap m2), .int .i64 (IntKind.i64.wrap m3), .int .i64 (IntKind.i64.wrap m4), .int .i64 (IntKind.i64.wrap m5), .int .i64 (IntKind.i64.wrap m6), .int .i64 (IntKind.i64.wrap m7)]⟩ = _
  rw [hwr m0 (by simp), hwr m1 (by simp), hwr m2 (by simp), hwr m3 (by simp), hwr m4 (by simp), hwr m5 (by simp), hwr m6 (by simp), hwr m7 (by simp)]; rfl
end Go.Proofs.YtppggaiahkecoaaDoorX
/- The document's reader: a layer. -/
namespace Go.Proofs.YtppggaiahkecoaaDoorX
open Go Go.SX

theorem layV_eq (cf : Cfg) (b : List Int) (p : Nat) : secV (layV cf) b p =
  (let p0 := p + 5
   let p1 := p0 + cf.Width.toNat
   let p2 := p1 + cf.Width.toNat
   let p3 := p2 + (cf.Width * cf.Width).toNat
   let p4 := p3 + (cf.keys * cf.Width).toNat
   let p5 := p4 + (cf.keys * cf.Width).toNat
   let p6 := p5 + (cf.Width * cf.Width).toNat
   let p7 := p6 + (cf.Hidden * cf.Width).toNat
   let p8 := p7 + (cf.Hidden * cf.Width).toNat
   let p9 := p8 + (cf.Width * cf.Hidden).toNat
   (⟨(narV cf.Width.toNat b p0).1, (narV cf.Width.toNat b p1).1, (matV cf.Width cf.Width b p2).1, (matV cf.keys cf.Width b p3).1, (matV cf.keys cf.Width b p4).1, (matV cf.Width cf.Width b p5).1,
     (matV cf.Hidden cf.Width b p6).1, (matV cf.Hidden cf.Width b p7).1, (matV cf.Width cf.Hidden b p8).1, (narV 7 b p9).1⟩, p9 + 7)) := rfl
set_option maxHeartbeats 16000000 in
set_option maxRecDepth 10000 in
theorem vlayer_fn (vb : Nat) (a : Option Addr) (c : Nat) (b : List Int) (p : Nat) (hp : p ≤ 10000000) (cf : Cfg) (hc : cf.may) : FC Tryd.prog 65 [.pointer (some ⟨vb, 0, none⟩), .agg ⟨cf.cells⟩] [VwB vb a c b p] (fun h => byAt h b a c)
    (fun v L => ∃ (l : LL) (F : HL), v = .agg ⟨l.cells⟩ ∧ l.lay = (secV (layV cf) b p).1 ∧ L = VwB vb a c b (secV (layV cf) b p).2 :: F ∧ Held F (fun h => llAt h l)) := by
  refine FC.sub2 ?_
  refine FC.intro Tryd.func65 rfl (by kernel_rfl) 87 [.cell 4 67] rfl rfl rfl ?_
  intro w0 hA
  have hBb : isB b := fun y hy => inK_u8.1 (hA.okAll y hy)
  obtain ⟨nn1, nn2, nn3, nn4⟩ := may_nn hc
  have hW := hc.2.1
  have hH := hc.2.2.2.2.1
  have bWW := mul_bnd (a := cf.Width) (b := cf.Width) (x := 32) (y := 32) (by omega) (by omega)
  have bKW := mul_bnd (a := cf.keys) (b := cf.Width) (x := 128) (y := 32) (by omega) (by omega)
  have bHW := mul_bnd (a := cf.Hidden) (b := cf.Width) (x := 64) (y := 32) (by omega) (by omega)
  have bWH := mul_bnd (a := cf.Width) (b := cf.Hidden) (x := 32) (y := 64) (by omega) (by omega)
  have ek : IntKind.i64.wrap (cf.KV * cf.head) = cf.keys := wrap64_of (by unfold Cfg.keys at nn3 nn4; omega) (by unfold Cfg.keys at nn3 nn4; omega)
  have e5 : IntKind.i64.wrap ((p : Int) + 5) = ((p + 5 : Nat) : Int) := by rw [wrap64_of (by omega) (by omega)]; omega
  rw [layV_eq]
  simp only []
  obtain ⟨p0, hp0⟩ : ∃ q, q = p + 5 := ⟨_, rfl⟩
  rw [← hp0]
  (repeat (first | (with_reducible apply XL.op) | (with_reducible apply XC.seq) | (with_reducible apply XC.region (Γ := Γ))))
  ((with_reducible apply XOp.box); (case hg | hx' => exact rfl); intro cb)
  (repeat ((with_reducible apply XL.op)))
  ((with_reducible apply XOp.alloc); (case hg | ht | hx' => exact rfl); intro rs)
  (repeat (first | (with_reducible apply XL.op) | ((with_reducible apply XOp.p1); (case hg | hv => exact rfl)) | ((with_reducible apply XOp.load); (case hg | ht | hk | hx => exact rfl); (case hc => exact own_cell (i := 1) rfl rfl)) | (with_reducible apply XL.nilT) | (with_reducible apply XC.seq) | (with_reducible apply XC.region (Γ := Γ))))
  ((with_reducible apply XC.regionD (Γ := Γ) mixed (.q 0 (.q 1 (.q 2 (.e 3 (.q 4 (.q 5 (.done))))))) [] []); (case hc => kernel_rfl))
  (repeat (first | (with_reducible apply XL.op) | ((with_reducible apply XOp.p1); (case hg | hv => exact rfl)) | ((with_reducible apply XOp.load); (case hg | ht | hk | hx => exact rfl); (case hc => exact own_cell (i := 2) rfl rfl)) | ((with_reducible apply XOp.store (i := 2)); (case hg | ht | hk | hx | hv | h1 | hi | hs | ha => exact rfl)) | ((with_reducible apply XOp.pr); (case hg => exact rfl); (case hr => ((with_reducible apply PR.build); (case ht | hk | hok | hz | hf => exact rfl)))) | (with_reducible apply XL.nilT) | (with_reducible apply XC.seq) | (with_reducible apply XC.region (Γ := Γ)) | (with_reducible apply XQ.nt) | ((with_reducible apply XP.p1); (case ho | hg | hv => exact rfl)) | ((with_reducible apply XP.load); (case ho | hg | ht | hk | hx => exact rfl); (case hc => exact own_cell (i := 1) rfl rfl)) | ((with_reducible apply XP.loadO (j := 1)); (case ho | hg | ht | hk | hx | hi | hc => exact rfl)) | (with_reducible apply XP.done) | ((with_reducible apply XP.e); (first | ((with_reducible apply XE.d); (case ho => exact rfl); (case hd => exact rfl)) | ((with_reducible apply XE.e); (case ho => exact rfl)))) | ((with_reducible apply XP.keep); (case hk => first | ((repeat' (first | exact List.forall_mem_nil _ | (with_reducible refine List.forall_mem_cons.2 ⟨?_, ?_⟩) | exact List.mem_cons_self .. | (with_reducible apply List.mem_cons_of_mem) | (with_reducible apply List.mem_append_right))); done) | (intro x hx; first | exact sel_in hx | exact List.mem_cons_of_mem _ (sel_in hx) | exact List.mem_append_right _ (sel_in hx) | exact hx | exact List.mem_cons_of_mem _ hx | exact List.mem_append_right _ hx | ((repeat (first | exact sel_in hx | exact hx | (with_reducible apply List.mem_cons_of_mem) | (with_reducible apply List.mem_append_right))); done) | (rw [List.mem_singleton.1 hx]; (simp; done)) | (rcases List.mem_cons.1 hx with rfl | hx; (simp; done); (rw [List.mem_singleton.1 hx]; (simp; done))) | cases hx))) | (((with_reducible apply XOp.callQ (hF := refHead_fn cf hc)); (case hg => exact rfl); (case hc => exact rfl); (case ha => exact rfl); try (case hA => exact Known.true)); rintro _ rfl)))
  rw [ek]
  skip
  rw [e5, ← hp0]
  skip
  ((with_reducible apply XOp.alloc); (case hg | ht | hx' => exact rfl); intro lb)
  (repeat (first | (with_reducible apply XL.op) | ((with_reducible apply XOp.p1); (case hg | hv => exact rfl)) | ((with_reducible apply XOp.storeN (i := 0)); (case hg | ht | hx | hv' | hk | h1 | hi | hs | ha => exact rfl)) | (with_reducible apply XL.nilT) | (with_reducible apply XC.seq) | (with_reducible apply XC.region (Γ := Γ))))
  ((with_reducible apply XOp.callM (R := [_, _, _]) (hF := vnarrowI_fn vb a c b p0 cf.Width (by omega) (by omega))); (case hg => exact rfl); (case hc => exact rfl); (case ha => exact rfl); (case hL => exact rfl); try (case hA => exact Known.true))
  case hA => exact Known.of_old hA (Mono.sl _ _ _ _ _)
  rintro _ _ ⟨xn1, F0, rfl, hxn1, rfl, hF0⟩
  obtain ⟨p1, hp1⟩ : ∃ q, q = p0 + cf.Width.toNat := ⟨_, rfl⟩
  rw [← hp1]
  (repeat (first | (with_reducible apply XL.op) | ((with_reducible apply XOp.p1); (case hg | hv => exact rfl)) | ((with_reducible apply XOp.store (i := 0)); (case hg | ht | hk | hx | hv | h1 | hi | hs | ha => exact rfl)) | (with_reducible apply XL.nilT) | (with_reducible apply XC.seq) | (with_reducible apply XC.region (Γ := Γ))))
  ((with_reducible apply XOp.callM (R := [_, _, _]) (hF := vnarrowI_fn vb a c b p1 cf.Width (by omega) (by omega))); (case hg => exact rfl); (case hc => exact rfl); (case ha => exact rfl); (case hL => exact rfl); try (case hA => exact Known.true))
  case hA => exact Known.of_old hA (Mono.sl _ _ _ _ _)
  rintro _ _ ⟨xn2, F1, rfl, hxn2, rfl, hF1⟩
  obtain ⟨p2, hp2⟩ : ∃ q, q = p1 + cf.Width.toNat := ⟨_, rfl⟩
  rw [← hp2]
  (repeat (first | (with_reducible apply XL.op) | ((with_reducible apply XOp.p1); (case hg | hv => exact rfl)) | ((with_reducible apply XOp.store (i := 0)); (case hg | ht | hk | hx | hv | h1 | hi | hs | ha => exact rfl)) | (with_reducible apply XL.nilT) | (with_reducible apply XC.seq) | (with_reducible apply XC.region (Γ := Γ))))
  ((with_reducible apply XOp.callM (R := [_, _, _]) (hF := vmat_fn vb a c b p2 (cf.Width) (cf.Width) (by omega) (by omega))); (case hg => exact rfl); (case hc => exact rfl); (case ha => exact rfl); (case hL => exact rfl); try (case hA => exact Known.true))
  case hA => exact Known.of_old hA (Mono.sl _ _ _ _ _)
  rintro _ _ ⟨xq, F2, rfl, hxq, rfl, hF2⟩
  obtain ⟨p3, hp3⟩ : ∃ q, q = p2 + (cf.Width * cf.Width).toNat := ⟨_, rfl⟩
  rw [← hp3]
  (repeat (first | (with_reducible apply XL.op) | ((with_reducible apply XOp.p1); (case hg | hv => exact rfl)) | ((with_reducible apply XOp.storeN (i := 0)); (case hg | ht | hx | hv' | hk | h1 | hi | hs | ha => exact rfl)) | (with_reducible apply XL.nilT) | (with_reducible apply XC.seq) | (with_reducible apply XC.region (Γ := Γ))))
  ((with_reducible apply XOp.callM (R := [_, _, _]) (hF := vmat_fn vb a c b p3 (cf.keys) (cf.Width) (by omega) (by omega))); (case hg => exact rfl); (case hc => exact rfl); (case ha => exact rfl); (case hL => exact rfl); try (case hA => exact Known.true))
  case hA => exact Known.of_old hA (Mono.sl _ _ _ _ _)
  rintro _ _ ⟨xk, F3, rfl, hxk, rfl, hF3⟩
  obtain ⟨p4, hp4⟩ : ∃ q, q = p3 + (cf.keys * cf.Width).toNat := ⟨_, rfl⟩
  rw [← hp4]
  (repeat (first | (with_reducible apply XL.op) | ((with_reducible apply XOp.p1); (case hg | hv => exact rfl)) | ((with_reducible apply XOp.storeN (i := 0)); (case hg | ht | hx | hv' | hk | h1 | hi | hs | ha => exact rfl)) | (with_reducible apply XL.nilT) | (with_reducible apply XC.seq) | (with_reducible apply XC.region (Γ := Γ))))
  ((with_reducible apply XOp.callM (R := [_, _, _]) (hF := vmat_fn vb a c b p4 (cf.keys) (cf.Width) (by omega) (by omega))); (case hg => exact rfl); (case hc => exact rfl); (case ha => exact rfl); (case hL => exact rfl); try (case hA => exact Known.true))
  case hA => exact Known.of_old hA (Mono.sl _ _ _ _ _)
  rintro _ _ ⟨xv, F4, rfl, hxv, rfl, hF4⟩
  obtain ⟨p5, hp5⟩ : ∃ q, q = p4 + (cf.keys * cf.Width).toNat := ⟨_, rfl⟩
  rw [← hp5]
  (repeat (first | (with_reducible apply XL.op) | ((with_reducible apply XOp.p1); (case hg | hv => exact rfl)) | ((with_reducible apply XOp.storeN (i := 0)); (case hg | ht | hx | hv' | hk | h1 | hi | hs | ha => exact rfl)) | (with_reducible apply XL.nilT) | (with_reducible apply XC.seq) | (with_reducible apply XC.region (Γ := Γ))))
  ((with_reducible apply XOp.callM (R := [_, _, _]) (hF := vmat_fn vb a c b p5 (cf.Width) (cf.Width) (by omega) (by omega))); (case hg => exact rfl); (case hc => exact rfl); (case ha => exact rfl); (case hL => exact rfl); try (case hA => exact Known.true))
  case hA => exact Known.of_old hA (Mono.sl _ _ _ _ _)
  rintro _ _ ⟨xo, F5, rfl, hxo, rfl, hF5⟩
  obtain ⟨p6, hp6⟩ : ∃ q, q = p5 + (cf.Width * cf.Width).toNat := ⟨_, rfl⟩
  rw [← hp6]
  (repeat (first | (with_reducible apply XL.op) | ((with_reducible apply XOp.p1); (case hg | hv => exact rfl)) | ((with_reducible apply XOp.load); (case hg | ht | hk | hx => exact rfl); (case hc => exact own_cell (i := 2) rfl rfl)) | ((with_reducible apply XOp.storeN (i := 0)); (case hg | ht | hx | hv' | hk | h1 | hi | hs | ha => exact rfl)) | (with_reducible apply XL.nilT) | (with_reducible apply XC.seq) | (with_reducible apply XC.region (Γ := Γ))))
  ((with_reducible apply XOp.callM (R := [_, _, _]) (hF := vmat_fn vb a c b p6 (cf.Hidden) (cf.Width) (by omega) (by omega))); (case hg => exact rfl); (case hc => exact rfl); (case ha => exact rfl); (case hL => exact rfl); try (case hA => exact Known.true))
  case hA => exact Known.of_old hA (Mono.sl _ _ _ _ _)
  rintro _ _ ⟨xg, F6, rfl, hxg, rfl, hF6⟩
  obtain ⟨p7, hp7⟩ : ∃ q, q = p6 + (cf.Hidden * cf.Width).toNat := ⟨_, rfl⟩
  rw [← hp7]
  (repeat (first | (with_reducible apply XL.op) | ((with_reducible apply XOp.p1); (case hg | hv => exact rfl)) | ((with_reducible apply XOp.load); (case hg | ht | hk | hx => exact rfl); (case hc => exact own_cell (i := 2) rfl rfl)) | ((with_reducible apply XOp.storeN (i := 0)); (case hg | ht | hx | hv' | hk | h1 | hi | hs | ha => exact rfl)) | (with_reducible apply XL.nilT) | (with_reducible apply XC.seq) | (with_reducible apply XC.region (Γ := Γ))))
  ((with_reducible apply XOp.callM (R := [_, _, _]) (hF := vmat_fn vb a c b p7 (cf.Hidden) (cf.Width) (by omega) (by omega))); (case hg => exact rfl); (case hc => exact rfl); (case ha => exact rfl); (case hL => exact rfl); try (case hA => exact Known.true))
  case hA => exact Known.of_old hA (Mono.sl _ _ _ _ _)
  rintro _ _ ⟨xu, F7, rfl, hxu, rfl, hF7⟩
  obtain ⟨p8, hp8⟩ : ∃ q, q = p7 + (cf.Hidden * cf.Width).toNat := ⟨_, rfl⟩
  rw [← hp8]
  (repeat (first | (with_reducible apply XL.op) | ((with_reducible apply XOp.p1); (case hg | hv => exact rfl)) | ((with_reducible apply XOp.load); (case hg | ht | hk | hx => exact rfl); (case hc => exact own_cell (i := 2) rfl rfl)) | ((with_reducible apply XOp.storeN (i := 0)); (case hg | ht | hx | hv' | hk | h1 | hi | hs | ha => exact rfl)) | (with_reducible apply XL.nilT) | (with_reducible apply XC.seq) | (with_reducible apply XC.region (Γ := Γ))))
  ((with_reducible apply XOp.callM (R := [_, _, _]) (hF := vmat_fn vb a c b p8 (cf.Width) (cf.Hidden) (by omega) (by omega))); (case hg => exact rfl); (case hc => exact rfl); (case ha => exact rfl); (case hL => exact rfl); try (case hA => exact Known.true))
  case hA => exact Known.of_old hA (Mono.sl _ _ _ _ _)
  rintro _ _ ⟨xd, F8, rfl, hxd, rfl, hF8⟩
  obtain ⟨p9, hp9⟩ : ∃ q, q = p8 + (cf.Width * cf.Hidden).toNat := ⟨_, rfl⟩
  rw [← hp9]
  (repeat (first | (with_reducible apply XL.op) | ((with_reducible apply XOp.p1); (case hg | hv => exact rfl)) | ((with_reducible apply XOp.storeN (i := 0)); (case hg | ht | hx | hv' | hk | h1 | hi | hs | ha => exact rfl)) | (with_reducible apply XL.nilT) | (with_reducible apply XC.seq) | (with_reducible apply XC.region (Γ := Γ))))
  ((with_reducible apply XOp.callM (R := [_, _, _]) (hF := vnarrow_fn vb a c b p9 7 (by omega))); (case hg => exact rfl); (case hc => exact rfl); (case ha => exact rfl); (case hL => exact rfl); try (case hA => exact Known.true))
  case hA => exact Known.of_old hA (Mono.sl _ _ _ _ _)
  rintro _ _ ⟨⟨y1, ya, yc⟩, F9, rfl, hy, rfl, hF9, hyat⟩
  obtain ⟨o0, o1, o2, o3, o4, o5, o6, ho⟩ := len7 (l := y1) (by simp only [] at hy; rw [hy]; simp [narV, bytV_len])
  have hN : isN y1 := by simp only [] at hy; rw [hy]; exact isN_map (bytV_isB hBb _ _)
  have hat := hyat (by omega)
  simp only [] at hy hat
  subst ho
  have hwr : ∀ o ∈ [o0, o1, o2, o3, o4, o5, o6], IntKind.i64.wrap o = o := fun o h => by have := hN o h; exact wrap64_of (by omega) (by omega)
  have v0 := hwr o0 (by simp); have v1 := hwr o1 (by simp); have v2 := hwr o2 (by simp); have v3 := hwr o3 (by simp); have v4 := hwr o4 (by simp); have v5 := hwr o5 (by simp); have v6 := hwr o6 (by simp)
  have hK : ∀ {L : HL}, (∀ x ∈ F9, x ∈ L) → Known w0 (keys [VwB vb a c b p]) L (fun h => lvAt h ([o0, o1, o2, o3, o4, o5, o6], ya, yc)) := fun s => hF9.known s
  rw [show slv ([o0, o1, o2, o3, o4, o5, o6], ya, yc) = Value.slice ya 7 yc from rfl]
  (repeat (first | (with_reducible apply XL.op) | ((with_reducible apply XOp.p1); (case hg | hv => exact rfl)) | (with_reducible apply XL.nilT) | (with_reducible apply XC.seq) | (with_reducible apply XC.region (Γ := Γ)) | (with_reducible apply XC.block)))
  refine XC.loopP (fun k ρ L => ∃ i : Nat, i + k = 7 ∧ L = [(lb, Obj.cells ⟨byC (mkL xn1 xn2 [xq, xk, xv, xo, xg, xu, xd]).cells i [o0, o1, o2, o3, o4, o5, o6]⟩ 67 (0, 0)), (rs, Obj.cells ⟨zeroL⟩ 67 (0, 0)), (cb, Obj.cells ⟨cf.cells⟩ 23 (0, 0))] ++ ((VwB vb a c b (p9 + 7) :: F9) ++ (F8 ++ (F7 ++ (F6 ++ (F5 ++ (F4 ++ (F3 ++ (F2 ++ (F1 ++ (F0 ++ [])))))))))) ∧ Slots ρ [(4, .pointer (some ⟨rs, 0, none⟩)), (7, .pointer (some ⟨lb, 0, none⟩)), (8, .slice ya 7 yc), (9, .int .i64 i)])
    7 ⟨0, by simp, rfl, rfl, rfl, rfl, rfl, trivial⟩ ?_
  rintro k ρ L ⟨i, hik, rfl, hs⟩
  refine XC.slots _ hs ?_
  (repeat (first | (with_reducible apply XL.op) | ((with_reducible apply XOp.p1); (case hg | hv => exact rfl)) | (with_reducible apply XL.nilT) | (with_reducible apply XC.seq) | (with_reducible apply XC.region (Γ := Γ))))
  ((with_reducible apply XC.cond); (case hc => exact rfl); all_goals (intro hb_; try simp only [pd_true, pd_false, Bool.not_eq_true', Bool.not_eq_false', Bool.and_eq_true, Bool.and_eq_false_iff, Bool.or_eq_true, Bool.or_eq_false_iff, not_true_eq_false, not_false_eq_true, Int.not_lt, Int.not_le] at hb_))
  · rcases (by omega : i = 0 ∨ i = 1 ∨ i = 2 ∨ i = 3 ∨ i = 4 ∨ i = 5 ∨ i = 6) with rfl | rfl | rfl | rfl | rfl | rfl | rfl
    · (repeat (first | (with_reducible apply XL.op) | ((with_reducible apply XOp.p1); (case hg | hv => exact rfl)) | ((with_reducible apply XOp.store (i := 0)); (case hg | ht | hk | hx | hv | h1 | hi | hs | ha => exact rfl)) | ((with_reducible apply XOp.pr); (case hg => exact rfl); (case hr => ((with_reducible apply PR.idxA); (case ht | hk | he | hx | hi => exact rfl); (case hr => first | assumption | omega); (case ha => first | assumption | exact SlA.at_ (by assumption))))) | (with_reducible apply XL.nilT) | (with_reducible apply XC.seq) | (with_reducible apply XC.region (Γ := Γ)) | (with_reducible apply XL.nilQ) | (with_reducible apply XQ.skip) | (with_reducible apply XQ.nt) | (with_reducible apply XQ.nb) | (with_reducible apply XC.block) | (first | ((with_reducible apply XOp.load); (case hg | ht | hk | hx => exact rfl); (case hc => exact (hK (fun y hy => by simp [hy])).imp fun h s => (s.int 0 (by simp)).1)) | ((with_reducible apply XP.load); (case ho | hg | ht | hk | hx => exact rfl); (case hc => exact (hK (fun y hy => by simp [hy])).imp fun h s => (s.int 0 (by simp)).1)))))
      refine ⟨k - 1, by omega, _, .of (List.Sublist.refl _), 1, by omega, ?_, rfl, rfl, rfl, intS2 (i := 0) (m := 7) (by omega) (by omega), trivial⟩
      rw [show IntKind.i64.wrap ([o0, o1, o2, o3, o4, o5, o6][0]?.getD 0) = o0 from v0]; rfl
    · (repeat (first | (with_reducible apply XL.op) | ((with_reducible apply XOp.p1); (case hg | hv => exact rfl)) | ((with_reducible apply XOp.store (i := 0)); (case hg | ht | hk | hx | hv | h1 | hi | hs | ha => exact rfl)) | ((with_reducible apply XOp.pr); (case hg => exact rfl); (case hr => ((with_reducible apply PR.idxA); (case ht | hk | he | hx | hi => exact rfl); (case hr => first | assumption | omega); (case ha => first | assumption | exact SlA.at_ (by assumption))))) | (with_reducible apply XL.nilT) | (with_reducible apply XC.seq) | (with_reducible apply XC.region (Γ := Γ)) | (with_reducible apply XL.nilQ) | (with_reducible apply XQ.skip) | (with_reducible apply XQ.nt) | (with_reducible apply XQ.nb) | (with_reducible apply XC.block) | (first | ((with_reducible apply XOp.load); (case hg | ht | hk | hx => exact rfl); (case hc => exact (hK (fun y hy => by simp [hy])).imp fun h s => (s.int 1 (by simp)).1)) | ((with_reducible apply XP.load); (case ho | hg | ht | hk | hx => exact rfl); (case hc => exact (hK (fun y hy => by simp [hy])).imp fun h s => (s.int 1 (by simp)).1)))))
      refine ⟨k - 1, by omega, _, .of (List.Sublist.refl _), 2, by omega, ?_, rfl, rfl, rfl, intS2 (i := 1) (m := 7) (by omega) (by omega), trivial⟩
      rw [show IntKind.i64.wrap ([o0, o1, o2, o3, o4, o5, o6][1]?.getD 0) = o1 from v1]; rfl
    · (repeat (first | (with_reducible apply XL.op) | ((with_reducible apply XOp.p1); (case hg | hv => exact rfl)) | ((with_reducible apply XOp.store (i := 0)); (case hg | ht | hk | hx | hv | h1 | hi | hs | ha => exact rfl)) | ((with_reducible apply XOp.pr); (case hg => exact rfl); (case hr => ((with_reducible apply PR.idxA); (case ht | hk | he | hx | hi => exact rfl); (case hr => first | assumption | omega); (case ha => first | assumption | exact SlA.at_ (by assumption))))) | (with_reducible apply XL.nilT) | (with_reducible apply XC.seq) | (with_reducible apply XC.region (Γ := Γ)) | (with_reducible apply XL.nilQ) | (with_reducible apply XQ.skip) | (with_reducible apply XQ.nt) | (with_reducible apply XQ.nb) | (with_reducible apply XC.block) | (first | ((with_reducible apply XOp.load); (case hg | ht | hk | hx => exact rfl); (case hc => exact (hK (fun y hy => by simp [hy])).imp fun h s => (s.int 2 (by simp)).1)) | ((with_reducible apply XP.load); (case ho | hg | ht | hk | hx => exact rfl); (case hc => exact (hK (fun y hy => by simp [hy])).imp fun h s => (s.int 2 (by simp)).1)))))
      refine ⟨k - 1, by omega, _, .of (List.Sublist.refl _), 3, by omega, ?_, rfl, rfl, rfl, intS2 (i := 2) (m := 7) (by omega) (by omega), trivial⟩
      rw [show IntKind.i64.wrap ([o0, o1, o2, o3, o4, o5, o6][2]?.getD 0) = o2 from v2]; rfl
    · (repeat (first | (with_reducible apply XL.op) | ((with_reducible apply XOp.p1); (case hg | hv => exact rfl)) | ((with_reducible apply XOp.store (i := 0)); (case hg | ht | hk | hx | hv | h1 | hi | hs | ha => exact rfl)) | ((with_reducible apply XOp.pr); (case hg => exact rfl); (case hr => ((with_reducible apply PR.idxA); (case ht | hk | he | hx | hi => exact rfl); (case hr => first | assumption | omega); (case ha => first | assumption | exact SlA.at_ (by assumption))))) | (with_reducible apply XL.nilT) | (with_reducible apply XC.seq) | (with_reducible apply XC.region (Γ := Γ)) | (with_reducible apply XL.nilQ) | (with_reducible apply XQ.skip) | (with_reducible apply XQ.nt) | (with_reducible apply XQ.nb) | (with_reducible apply XC.block) | (first | ((with_reducible apply XOp.load); (case hg | ht | hk | hx => exact rfl); (case hc => exact (hK (fun y hy => by simp [hy])).imp fun h s => (s.int 3 (by simp)).1)) | ((with_reducible apply XP.load); (case ho | hg | ht | hk | hx => exact rfl); (case hc => exact (hK (fun y hy => by simp [hy])).imp fun h s => (s.int 3 (by simp)).1)))))
      refine ⟨k - 1, by omega, _, .of (List.Sublist.refl _), 4, by omega, ?_, rfl, rfl, rfl, intS2 (i := 3) (m := 7) (by omega) (by omega), trivial⟩
      rw [show IntKind.i64.wrap ([o0, o1, o2, o3, o4, o5, o6][3]?.getD 0) = o3 from v3]; rfl
    · (repeat (first | (with_reducible apply XL.op) | ((with_reducible apply XOp.p1); (case hg | hv => exact rfl)) | ((with_reducible apply XOp.store (i := 0)); (case hg | ht | hk | hx | hv | h1 | hi | hs | ha => exact rfl)) | ((with_reducible apply XOp.pr); (case hg => exact rfl); (case hr => ((with_reducible apply PR.idxA); (case ht | hk | he | hx | hi => exact rfl); (case hr => first | assumption | omega); (case ha => first | assumption | exact SlA.at_ (by assumption))))) | (with_reducible apply XL.nilT) | (with_reducible apply XC.seq) | (with_reducible apply XC.region (Γ := Γ)) | (with_reducible apply XL.nilQ) | (with_reducible apply XQ.skip) | (with_reducible apply XQ.nt) | (with_reducible apply XQ.nb) | (with_reducible apply XC.block) | (first | ((with_reducible apply XOp.load); (case hg | ht | hk | hx => exact rfl); (case hc => exact (hK (fun y hy => by simp [hy])).imp fun h s => (s.int 4 (by simp)).1)) | ((with_reducible apply XP.load); (case ho | hg | ht | hk | hx => exact rfl); (case hc => exact (hK (fun y hy => by simp [hy])).imp fun h s => (s.int 4 (by simp)).1)))))
      refine ⟨k - 1, by omega, _, .of (List.Sublist.refl _), 5, by omega, ?_, rfl, rfl, rfl, intS2 (i := 4) (m := 7) (by omega) (by omega), trivial⟩
      rw [show IntKind.i64.wrap ([o0, o1, o2, o3, o4, o5, o6][4]?.getD 0) = o4 from v4]; rfl
    · (repeat (first | (with_reducible apply XL.op) | ((with_reducible apply XOp.p1); (case hg | hv => exact rfl)) | ((with_reducible apply XOp.store (i := 0)); (case hg | ht | hk | hx | hv | h1 | hi | hs | ha => exact rfl)) | ((with_reducible apply XOp.pr); (case hg => exact rfl); (case hr => ((with_reducible apply PR.idxA); (case ht | hk | he | hx | hi => exact rfl); (case hr => first | assumption | omega); (case ha => first | assumption | exact SlA.at_ (by assumption))))) | (with_reducible apply XL.nilT) | (with_reducible apply XC.seq) | (with_reducible apply XC.region (Γ := Γ)) | (with_reducible apply XL.nilQ) | (with_reducible apply XQ.skip) | (with_reducible apply XQ.nt) | (with_reducible apply XQ.nb) | (with_reducible apply XC.block) | (first | ((with_reducible apply XOp.load); (case hg | ht | hk | hx => exact rfl); (case hc => exact (hK (fun y hy => by simp [hy])).imp fun h s => (s.int 5 (by simp)).1)) | ((with_reducible apply XP.load); (case ho | hg | ht | hk | hx => exact rfl); (case hc => exact (hK (fun y hy => by simp [hy])).imp fun h s => (s.int 5 (by simp)).1)))))
      refine ⟨k - 1, by omega, _, .of (List.Sublist.refl _), 6, by omega, ?_, rfl, rfl, rfl, intS2 (i := 5) (m := 7) (by omega) (by omega), trivial⟩
      rw [show IntKind.i64.wrap ([o0, o1, o2, o3, o4, o5, o6][5]?.getD 0) = o5 from v5]; rfl
    · (repeat (first | (with_reducible apply XL.op) | ((with_reducible apply XOp.p1); (case hg | hv => exact rfl)) | ((with_reducible apply XOp.store (i := 0)); (case hg | ht | hk | hx | hv | h1 | hi | hs | ha => exact rfl)) | ((with_reducible apply XOp.pr); (case hg => exact rfl); (case hr => ((with_reducible apply PR.idxA); (case ht | hk | he | hx | hi => exact rfl); (case hr => first | assumption | omega); (case ha => first | assumption | exact SlA.at_ (by assumption))))) | (with_reducible apply XL.nilT) | (with_reducible apply XC.seq) | (with_reducible apply XC.region (Γ := Γ)) | (with_reducible apply XL.nilQ) | (with_reducible apply XQ.skip) | (with_reducible apply XQ.nt) | (with_reducible apply XQ.nb) | (with_reducible apply XC.block) | (first | ((with_reducible apply XOp.load); (case hg | ht | hk | hx => exact rfl); (case hc => exact (hK (fun y hy => by simp [hy])).imp fun h s => (s.int 6 (by simp)).1)) | ((with_reducible apply XP.load); (case ho | hg | ht | hk | hx => exact rfl); (case hc => exact (hK (fun y hy => by simp [hy])).imp fun h s => (s.int 6 (by simp)).1)))))
      refine ⟨k - 1, by omega, _, .of (List.Sublist.refl _), 7, by omega, ?_, rfl, rfl, rfl, intS2 (i := 6) (m := 7) (by omega) (by omega), trivial⟩
      rw [show IntKind.i64.wrap ([o0, o1, o2, o3, o4, o5, o6][6]?.getD 0) = o6 from v6]; rfl
  obtain rfl : i = 7 := by omega
  clear hs hik
  (repeat (first | (with_reducible apply XL.op) | ((with_reducible apply XOp.loadO (i := 0)); (case hg | ht | hk | hx | hi | hc => exact rfl)) | ((with_reducible apply XOp.storeN (i := 1)); (case hg | ht | hx | hv' | hk | h1 | hi | hs | ha => exact rfl)) | (with_reducible apply XL.nilT) | (with_reducible apply XC.seq) | (with_reducible apply XC.region (Γ := Γ)) | (with_reducible apply XQ.ret) | (with_reducible apply XQ.exit) | (with_reducible apply XQ.nt) | (with_reducible apply XQ.et) | ((with_reducible apply XQ.eb); (case hb => exact rfl))))
  ((with_reducible apply XQ.retE); (case hr => exact .row rfl (by kernel_rfl) (by kernel_rfl) (own_row (i := 1) (m := 30) rfl rfl) .nil))
  refine ⟨VwB vb a c b (p9 + 7) :: (F9 ++ (F8 ++ (F7 ++ (F6 ++ (F5 ++ (F4 ++ (F3 ++ (F2 ++ (F1 ++ (F0 ++ [])))))))))), .of (by ((try simp only [List.append_eq, List.cons_append, List.nil_append, List.append_assoc]); repeat (first | exact List.Sublist.refl _ | exact List.nil_sublist _ | (with_reducible apply List.Sublist.cons_cons) | (with_reducible apply List.Sublist.cons) | exact List.sublist_append_right _ _))), ⟨xn1, xn2, xq, xk, xv, xo, xg, xu, xd, o0, o1, o2, o3, o4, o5, o6⟩, F9 ++ (F8 ++ (F7 ++ (F6 ++ (F5 ++ (F4 ++ (F3 ++ (F2 ++ (F1 ++ (F0 ++ []))))))))), rfl, ?_, ?_, fun h hh => ?_⟩
  · rw [← hxn1, ← hxn2, ← hxq, ← hxk, ← hxv, ← hxo, ← hxg, ← hxu, ← hxd, ← hy]; rfl
  · rfl
  · exact ⟨hF0 h fun y hy => hh y (by simp [hy]), hF1 h fun y hy => hh y (by simp [hy]), hF2 h fun y hy => hh y (by simp [hy]), hF3 h fun y hy => hh y (by simp [hy]), hF4 h fun y hy => hh y (by simp [hy]), hF5 h fun y hy => hh y (by simp [hy]), hF6 h fun y hy => hh y (by simp [hy]), hF7 h fun y hy => hh y (by simp [hy]), hF8 h fun y hy => hh y (by simp [hy])⟩
end Go.Proofs.YtppggaiahkecoaaDoorX
/- The document's Decode: what is read leniently holds if writing gives the bytes again. -/
namespace Go.Proofs.YtppggaiahkecoaaDoorX
open Go Go.SX

theorem weightsV_eq (cf : Cfg) (b : List Int) (p : Nat) : weightsV cf b p =
  (let E := matV cf.Vocab cf.Width b (p + 5)
   let T := iterV turnV' (cf.head / 2).toNat b (E.2 + 5)
   let l := iterV (secV (layV cf)) cf.Layers.toNat b T.2
   let f := narV cf.Width.toNat b (l.2 + 5)
   let h := matV cf.Vocab cf.Width b (f.2 + 5)
   let m := iterV (secV (matV cf.Vocab cf.Width)) cf.Medusa.toNat b h.2
   (⟨cf, E.1, T.1, l.1, f.1, h.1, m.1⟩, m.2)) := rfl
theorem iterV_at {α : Type} {f : List Int → Nat → α × Nat} {b : List Int} {k : Nat} (h : ∀ q, (f b q).2 = q + k) (p : Nat) : ∀ n, (iterV f n b p).2 = p + k * n
  | 0 => by simp [iterV]
  | n + 1 => by
    show (f b (iterV f n b p).2).2 = _
    rw [h, iterV_at h p n, Nat.mul_succ]; omega
def layK (c : Cfg) : Nat := 12 + 2 * c.Width.toNat + 2 * (c.Width * c.Width).toNat + 2 * (c.keys * c.Width).toNat + 2 * (c.Hidden * c.Width).toNat + (c.Width * c.Hidden).toNat
theorem layV_at (c : Cfg) (b : List Int) (q : Nat) : (secV (layV c) b q).2 = q + layK c := by
  rw [layV_eq]; unfold layK; simp only []; omega
theorem layK_bnd {c : Cfg} (hc : c.may) : layK c ≤ 30000 := by
  obtain ⟨n1, n2, n3, n4⟩ := may_nn hc
  have hW := hc.2.1
  have hH := hc.2.2.2.2.1
  have p1 := mul_bnd (a := c.Width) (b := c.Width) (x := 32) (y := 32) (by omega) (by omega)
  have p2 := mul_bnd (a := c.keys) (b := c.Width) (x := 128) (y := 32) (by omega) (by omega)
  have p3 := mul_bnd (a := c.Hidden) (b := c.Width) (x := 64) (y := 32) (by omega) (by omega)
  have p4 := mul_bnd (a := c.Width) (b := c.Hidden) (x := 32) (y := 64) (by omega) (by omega)
  unfold layK; omega
theorem secM_at (r k : Int) (b : List Int) (q : Nat) : (secV (matV r k) b q).2 = q + (5 + (r * k).toNat) := by
  show q + 5 + (r * k).toNat = _; omega
theorem i64_p5 {p : Nat} (h : p ≤ 1000000000) : IntKind.i64.wrap ((p : Int) + 5) = ((p + 5 : Nat) : Int) := by rw [wrap64_of (by omega) (by omega)]; omega
theorem enc_eq {w : Wts} {b : List Int} (h : okW w) : (encS w = b) ↔ fileOf digS w = b := by rw [encS_ok h]
set_option maxHeartbeats 32000000 in
set_option maxRecDepth 10000 in
theorem refDecode_fn (b : List Int) (a : Option Addr) (c : Nat) : FC Tryd.prog 24 [.slice a b.length c] [] (fun h => byAt h b a c) (fun v L => DecR b v L) := by
  refine FC.sub2 ?_
  refine FC.intro Tryd.func24 rfl (by kernel_rfl) 156 [.cell 2 31, .tmp 3] rfl rfl rfl ?_
  intro w0 hA
  have hBb : isB b := fun y hy => inK_u8.1 (hA.okAll y hy)
  obtain ⟨hd1, hd2⟩ := dec_view digS digS_rng hBb
  (repeat (first | (with_reducible apply XL.op) | (with_reducible apply XC.seq) | (with_reducible apply XC.region (Γ := Γ))))
  ((with_reducible apply XOp.alloc); (case hg | ht | hx' => exact rfl); intro rs)
  (repeat (first | (with_reducible apply XL.op) | ((with_reducible apply XOp.p1); (case hg | hv => exact rfl)) | ((with_reducible apply XOp.pr); (case hg => exact rfl); (case hr => ((with_reducible apply PR.build); (case ht | hk | hok | hz | hf => exact rfl)))) | (with_reducible apply XL.nilT) | (with_reducible apply XC.seq) | (with_reducible apply XC.region (Γ := Γ))))
  ((with_reducible apply XOp.box); (case hg | hx' => exact rfl); intro vb)
  (repeat (first | (with_reducible apply XL.op) | ((with_reducible apply XOp.p1); (case hg | hv => exact rfl)) | (with_reducible apply XL.nilT) | (with_reducible apply XC.seq) | (with_reducible apply XC.region (Γ := Γ))))
  ((with_reducible apply XOp.callM (R := []) (hF := vconfig_fn vb a c b 6 (by omega))); (case hg => exact rfl); (case hc => exact rfl); (case ha => exact rfl); (case hL => exact rfl); try (case hA => exact Known.true))
  case hA => exact Known.of_old hA (Mono.sl _ _ _ _ _)
  rintro _ _ ⟨rfl, rfl⟩
  obtain ⟨cf, hcf⟩ : ∃ q, q = cfgV b := ⟨_, rfl⟩
  have hcf' : cfgOf (narV 8 b (6 + 5)).1 = cf := hcf.symm
  rw [hcf']
  rw [← hcf] at hd1 hd2
  (repeat ((with_reducible apply XL.op)))
  ((with_reducible apply XOp.alloc); (case hg | ht | hx' => exact rfl); intro cb)
  (repeat (first | (with_reducible apply XL.op) | ((with_reducible apply XOp.loadO (i := 0)); (case hg | ht | hk | hx | hi | hc => exact rfl)) | ((with_reducible apply XOp.storeN (i := 0)); (case hg | ht | hx | hv' | hk | h1 | hi | hs | ha => exact rfl)) | (with_reducible apply XL.nilT) | (with_reducible apply XC.seq) | (with_reducible apply XC.region (Γ := Γ))))
  ((with_reducible apply XOp.callQ (hF := FC.nil (refCheck_fn cf))); (case hg => exact rfl); (case hc => exact rfl); (case ha => exact rfl); try (case hA => exact Known.true))
  rintro _ rfl
  (repeat (first | (with_reducible apply XL.op) | ((with_reducible apply XOp.p1); (case hg | hv => exact rfl)) | (with_reducible apply XL.nilT) | (with_reducible apply XC.seq) | (with_reducible apply XC.region (Γ := Γ))))
  by_cases hc : cf.may
  case neg =>
    rw [cerr_no hc]
    (repeat (first | (with_reducible apply XL.op) | ((with_reducible apply XOp.p1); (case hg | hv => exact rfl)) | ((with_reducible apply XOp.storeN (i := 2)); (case hg | ht | hx | hv' | hk | h1 | hi | hs | ha => exact rfl)) | ((with_reducible apply XOp.pr); (case hg => exact rfl); (case hr => ((with_reducible apply PR.build); (case ht | hk | hok | hz | hf => exact rfl)))) | (with_reducible apply XL.nilT) | (with_reducible apply XC.seq) | (with_reducible apply XC.region (Γ := Γ)) | (with_reducible apply XQ.ret) | (with_reducible apply XQ.rt) | (first | ((with_reducible apply XOp.split); (case hg | hj | hd | hb => exact rfl); (fail_if_success (case hf => exact fun h => Bool.noConfusion h)); (fail_if_success (case ht => exact fun h => Bool.noConfusion h)); (first | (case ht => intro hb_; try simp only [pd_true, pd_false, Bool.not_eq_true', Bool.not_eq_false', Bool.and_eq_true, Bool.and_eq_false_iff, Bool.or_eq_true, Bool.or_eq_false_iff, not_true_eq_false, not_false_eq_true, Int.not_lt, Int.not_le] at hb_; first | done | (exfalso; first | omega | contradiction)) | (case hf => intro hb_; try simp only [pd_true, pd_false, Bool.not_eq_true', Bool.not_eq_false', Bool.and_eq_true, Bool.and_eq_false_iff, Bool.or_eq_true, Bool.or_eq_false_iff, not_true_eq_false, not_false_eq_true, Int.not_lt, Int.not_le] at hb_; first | done | (exfalso; first | omega | contradiction))); intro hb_; try simp only [pd_true, pd_false, Bool.not_eq_true', Bool.not_eq_false', Bool.and_eq_true, Bool.and_eq_false_iff, Bool.or_eq_true, Bool.or_eq_false_iff, not_true_eq_false, not_false_eq_true, Int.not_lt, Int.not_le] at hb_) | ((with_reducible apply XP.split); (case ho | hg | hj | hd | hb => exact rfl); (fail_if_success (case hf => exact fun h => Bool.noConfusion h)); (fail_if_success (case ht => exact fun h => Bool.noConfusion h)); (first | (case ht => intro hb_; try simp only [pd_true, pd_false, Bool.not_eq_true', Bool.not_eq_false', Bool.and_eq_true, Bool.and_eq_false_iff, Bool.or_eq_true, Bool.or_eq_false_iff, not_true_eq_false, not_false_eq_true, Int.not_lt, Int.not_le] at hb_; first | done | (exfalso; first | omega | contradiction)) | (case hf => intro hb_; try simp only [pd_true, pd_false, Bool.not_eq_true', Bool.not_eq_false', Bool.and_eq_true, Bool.and_eq_false_iff, Bool.or_eq_true, Bool.or_eq_false_iff, not_true_eq_false, not_false_eq_true, Int.not_lt, Int.not_le] at hb_; first | done | (exfalso; first | omega | contradiction))); intro hb_; try simp only [pd_true, pd_false, Bool.not_eq_true', Bool.not_eq_false', Bool.and_eq_true, Bool.and_eq_false_iff, Bool.or_eq_true, Bool.or_eq_false_iff, not_true_eq_false, not_false_eq_true, Int.not_lt, Int.not_le] at hb_) | ((with_reducible apply XC.cond); (case hc => exact rfl); (first | (case ht => intro hb_; try simp only [pd_true, pd_false, Bool.not_eq_true', Bool.not_eq_false', Bool.and_eq_true, Bool.and_eq_false_iff, Bool.or_eq_true, Bool.or_eq_false_iff, not_true_eq_false, not_false_eq_true, Int.not_lt, Int.not_le] at hb_; first | done | (exfalso; first | omega | contradiction)) | (case hf => intro hb_; try simp only [pd_true, pd_false, Bool.not_eq_true', Bool.not_eq_false', Bool.and_eq_true, Bool.and_eq_false_iff, Bool.or_eq_true, Bool.or_eq_false_iff, not_true_eq_false, not_false_eq_true, Int.not_lt, Int.not_le] at hb_; first | done | (exfalso; first | omega | contradiction))); intro hb_; try simp only [pd_true, pd_false, Bool.not_eq_true', Bool.not_eq_false', Bool.and_eq_true, Bool.and_eq_false_iff, Bool.or_eq_true, Bool.or_eq_false_iff, not_true_eq_false, not_false_eq_true, Int.not_lt, Int.not_le] at hb_))))
    ((with_reducible apply XQ.retE); (case hr => exact .row rfl (by kernel_rfl) (by kernel_rfl) (own_row (i := 2) (m := 18) rfl rfl) (.t rfl .nil)))
    exact ⟨[], .of (List.nil_sublist _), decR_none (hd1 hc)⟩
  rw [(cerr_iff cf).2 hc]
  have hd3 := hd2 hc
  clear hd1 hd2
  have e11 : IntKind.i64.wrap (((6 + 13 : Nat) : Int) + 5) = ((24 : Nat) : Int) := rfl
  obtain ⟨nn1, nn2, nn3, nn4⟩ := may_nn hc
  have hV := hc.1
  have hW := hc.2.1
  have hLy := hc.2.2.2.1
  have hMe := hc.2.2.2.2.2.2.1
  have hVW := mul_bnd (a := cf.Vocab) (b := cf.Width) (x := 64) (y := 32) (by omega) (by omega)
  have hLK := layK_bnd hc
  (repeat (first | (with_reducible apply XL.op) | ((with_reducible apply XOp.loadO (i := 0)); (case hg | ht | hk | hx | hi | hc => exact rfl)) | ((with_reducible apply XOp.pr); (case hg => exact rfl); (case hr => ((with_reducible apply PR.build); (case ht | hk | hok | hz | hf => exact rfl)))) | (with_reducible apply XC.seq) | (with_reducible apply XC.region (Γ := Γ)) | (with_reducible apply XQ.skip) | (with_reducible apply XQ.nt) | (first | ((with_reducible apply XOp.split); (case hg | hj | hd | hb => exact rfl); (fail_if_success (case hf => exact fun h => Bool.noConfusion h)); (fail_if_success (case ht => exact fun h => Bool.noConfusion h)); (first | (case ht => intro hb_; try simp only [pd_true, pd_false, Bool.not_eq_true', Bool.not_eq_false', Bool.and_eq_true, Bool.and_eq_false_iff, Bool.or_eq_true, Bool.or_eq_false_iff, not_true_eq_false, not_false_eq_true, Int.not_lt, Int.not_le] at hb_; first | done | (exfalso; first | omega | contradiction)) | (case hf => intro hb_; try simp only [pd_true, pd_false, Bool.not_eq_true', Bool.not_eq_false', Bool.and_eq_true, Bool.and_eq_false_iff, Bool.or_eq_true, Bool.or_eq_false_iff, not_true_eq_false, not_false_eq_true, Int.not_lt, Int.not_le] at hb_; first | done | (exfalso; first | omega | contradiction))); intro hb_; try simp only [pd_true, pd_false, Bool.not_eq_true', Bool.not_eq_false', Bool.and_eq_true, Bool.and_eq_false_iff, Bool.or_eq_true, Bool.or_eq_false_iff, not_true_eq_false, not_false_eq_true, Int.not_lt, Int.not_le] at hb_) | ((with_reducible apply XP.split); (case ho | hg | hj | hd | hb => exact rfl); (fail_if_success (case hf => exact fun h => Bool.noConfusion h)); (fail_if_success (case ht => exact fun h => Bool.noConfusion h)); (first | (case ht => intro hb_; try simp only [pd_true, pd_false, Bool.not_eq_true', Bool.not_eq_false', Bool.and_eq_true, Bool.and_eq_false_iff, Bool.or_eq_true, Bool.or_eq_false_iff, not_true_eq_false, not_false_eq_true, Int.not_lt, Int.not_le] at hb_; first | done | (exfalso; first | omega | contradiction)) | (case hf => intro hb_; try simp only [pd_true, pd_false, Bool.not_eq_true', Bool.not_eq_false', Bool.and_eq_true, Bool.and_eq_false_iff, Bool.or_eq_true, Bool.or_eq_false_iff, not_true_eq_false, not_false_eq_true, Int.not_lt, Int.not_le] at hb_; first | done | (exfalso; first | omega | contradiction))); intro hb_; try simp only [pd_true, pd_false, Bool.not_eq_true', Bool.not_eq_false', Bool.and_eq_true, Bool.and_eq_false_iff, Bool.or_eq_true, Bool.or_eq_false_iff, not_true_eq_false, not_false_eq_true, Int.not_lt, Int.not_le] at hb_) | ((with_reducible apply XC.cond); (case hc => exact rfl); (first | (case ht => intro hb_; try simp only [pd_true, pd_false, Bool.not_eq_true', Bool.not_eq_false', Bool.and_eq_true, Bool.and_eq_false_iff, Bool.or_eq_true, Bool.or_eq_false_iff, not_true_eq_false, not_false_eq_true, Int.not_lt, Int.not_le] at hb_; first | done | (exfalso; first | omega | contradiction)) | (case hf => intro hb_; try simp only [pd_true, pd_false, Bool.not_eq_true', Bool.not_eq_false', Bool.and_eq_true, Bool.and_eq_false_iff, Bool.or_eq_true, Bool.or_eq_false_iff, not_true_eq_false, not_false_eq_true, Int.not_lt, Int.not_le] at hb_; first | done | (exfalso; first | omega | contradiction))); intro hb_; try simp only [pd_true, pd_false, Bool.not_eq_true', Bool.not_eq_false', Bool.and_eq_true, Bool.and_eq_false_iff, Bool.or_eq_true, Bool.or_eq_false_iff, not_true_eq_false, not_false_eq_true, Int.not_lt, Int.not_le] at hb_))))
  ((with_reducible apply XOp.alloc); (case hg | ht | hx' => exact rfl); intro xb)
  (repeat (first | (with_reducible apply XL.op) | ((with_reducible apply XOp.p1); (case hg | hv => exact rfl)) | ((with_reducible apply XOp.load); (case hg | ht | hk | hx => exact rfl); (case hc => exact own_cell (i := 1) rfl rfl)) | ((with_reducible apply XOp.load); (case hg | ht | hk | hx => exact rfl); (case hc => exact own_cell (i := 2) rfl rfl)) | ((with_reducible apply XOp.store (i := 2)); (case hg | ht | hk | hx | hv | h1 | hi | hs | ha => exact rfl)) | ((with_reducible apply XOp.storeN (i := 0)); (case hg | ht | hx | hv' | hk | h1 | hi | hs | ha => exact rfl)) | (with_reducible apply XL.nilT) | (with_reducible apply XC.seq) | (with_reducible apply XC.region (Γ := Γ))))
  rw [e11]
  rw [weightsV_eq] at hd3
  simp only [] at hd3
  skip
  (refine (show XOp _ _ _ _ _ _ _ _ ([(xb, Obj.cells ⟨rwC cf zmat (.slice none 0 0) (.slice none 0 0) zlv zmat (.slice none 0 0)⟩ 31 (0, 0)), (cb, Obj.cells ⟨cf.cells⟩ 23 (0, 0)), VwB vb a c b 24, (rs, Obj.cells ⟨zeroW⟩ 31 (0, 0))]) from XOp.perm (L' :=  [(xb, Obj.cells ⟨rwC cf zmat (.slice none 0 0) (.slice none 0 0) zlv zmat (.slice none 0 0)⟩ 31 (0, 0)), (cb, Obj.cells ⟨cf.cells⟩ 23 (0, 0)), (rs, Obj.cells ⟨zeroW⟩ 31 (0, 0))] ++ [VwB vb a c b 24]) rfl ?_ (by (first | (with_reducible exact List.Perm.refl _) | refine perm_of_cnt fun p_ => ?_; simp only [List.countP_append, List.countP_cons, List.countP_nil]; omega))))
  ((with_reducible apply XOp.callM (R := [_, _, _]) (hF := vmat_fn vb a c b 24 cf.Vocab cf.Width (by omega) (by omega))); (case hg => exact rfl); (case hc => exact rfl); (case ha => exact rfl); (case hL => exact rfl); try (case hA => exact Known.true))
  case hA => exact Known.of_old hA (Mono.sl _ _ _ _ _)
  rintro _ _ ⟨e', F1, rfl, he, rfl, hF1⟩
  have hq2 : (matV cf.Vocab cf.Width b 24).2 = 24 + (cf.Vocab * cf.Width).toNat := rfl
  rw [← hq2]
  generalize hqE : matV cf.Vocab cf.Width b 24 = qE at *
  (repeat (first | (with_reducible apply XL.op) | ((with_reducible apply XOp.p1); (case hg | hv => exact rfl)) | ((with_reducible apply XOp.load); (case hg | ht | hk | hx => exact rfl); (case hc => exact own_cell (i := 3) rfl rfl)) | ((with_reducible apply XOp.store (i := 3)); (case hg | ht | hk | hx | hv | h1 | hi | hs | ha => exact rfl)) | ((with_reducible apply XOp.storeN (i := 0)); (case hg | ht | hx | hv' | hk | h1 | hi | hs | ha => exact rfl)) | (with_reducible apply XL.nilT) | (with_reducible apply XC.seq) | (with_reducible apply XC.region (Γ := Γ)) | (with_reducible apply XC.block)))
  rw [i64_p5 (by omega)]
  have hpT := iterV_at (f := turnV') (b := b) (k := 4) (fun q => rfl) (qE.2 + 5)
  skip
  refine XC.loopP (fun k ρ L => ∃ (i : Nat) (v : Value) (Fv : HL), i + k = (cf.head / 2).toNat ∧ OwnS 70 2 v i ((iterV turnV' i b (qE.2 + 5)).1.flatMap turnV) Fv ∧ L = [(xb, Obj.cells ⟨rwC cf e' v (.slice none 0 0) zlv zmat (.slice none 0 0)⟩ 31 (0, 0)), (cb, Obj.cells ⟨cf.cells⟩ 23 (0, 0)), (rs, Obj.cells ⟨zeroW⟩ 31 (0, 0))] ++ (VwB vb a c b (iterV turnV' i b (qE.2 + 5)).2 :: (F1 ++ Fv)) ∧ Slots ρ [(0, .slice a b.length c), (2, .pointer (some ⟨rs, 0, none⟩)), (4, .pointer (some ⟨vb, 0, none⟩)), (5, .pointer (some ⟨cb, 0, none⟩)), (7, .pointer (some ⟨xb, 0, none⟩)), (8, .int .i64 i)])
    (cf.head / 2).toNat ⟨0, _, [], by simp, OwnS.nil _ _, rfl, rfl, rfl, rfl, rfl, rfl, rfl, trivial⟩ ?_
  rintro k ρ L ⟨i, v, Fv, hik, hown, rfl, hs⟩
  obtain ⟨at', ct', rfl⟩ := hown.val
  refine XC.slots _ hs ?_
  (repeat (first | (with_reducible apply XL.op) | ((with_reducible apply XOp.p1); (case hg | hv => exact rfl)) | ((with_reducible apply XOp.loadO (i := 1)); (case hg | ht | hk | hx | hi | hc => exact rfl)) | (with_reducible apply XL.nilT) | (with_reducible apply XC.seq) | (with_reducible apply XC.region (Γ := Γ)) | (((with_reducible apply XOp.callQ (hF := refHead_fn cf hc)); (case hg => exact rfl); (case hc => exact rfl); (case ha => exact rfl); try (case hA => exact Known.true)); rintro _ rfl)))
  ((with_reducible apply XC.cond); (case hc => exact rfl); all_goals (intro hb_; try simp only [pd_true, pd_false, Bool.not_eq_true', Bool.not_eq_false', Bool.and_eq_true, Bool.and_eq_false_iff, Bool.or_eq_true, Bool.or_eq_false_iff, not_true_eq_false, not_false_eq_true, Int.not_lt, Int.not_le] at hb_))
  · rw [half_wrap hc] at hb_
    have hpi := hpT i
    have hsn := iterV_snoc turnV' i b (qE.2 + 5)
    generalize hls : iterV turnV' i b (qE.2 + 5) = ls at *
    (repeat (first | (with_reducible apply XL.op) | ((with_reducible apply XOp.p1); (case hg | hv => exact rfl)) | (with_reducible apply XC.seq) | (with_reducible apply XC.region (Γ := Γ)) | (with_reducible apply XQ.skip) | (with_reducible apply XQ.nt) | (with_reducible apply XC.block)))
    ((with_reducible apply XOp.callM (R := [_, _, _]) (hF := vsmall_fn vb a c b ls.2 (by omega))); (case hg => exact rfl); (case hc => exact rfl); (case ha => exact rfl); (case hL => exact rfl); try (case hA => exact Known.true))
    case hA => exact Known.of_old hA (Mono.sl _ _ _ _ _)
    rintro _ _ ⟨rfl, rfl⟩
    (repeat (first | (with_reducible apply XL.op) | ((with_reducible apply XOp.p1); (case hg | hv => exact rfl)) | (with_reducible apply XL.nilT) | (with_reducible apply XC.seq) | (with_reducible apply XC.region (Γ := Γ))))
    ((with_reducible apply XOp.callM (R := [_, _, _]) (hF := vsmall_fn vb a c b (ls.2 + 2) (by omega))); (case hg => exact rfl); (case hc => exact rfl); (case ha => exact rfl); (case hL => exact rfl); try (case hA => exact Known.true))
    case hA => exact Known.of_old hA (Mono.sl _ _ _ _ _)
    rintro _ _ ⟨rfl, rfl⟩
    (repeat (first | (with_reducible apply XL.op) | ((with_reducible apply XOp.p1); (case hg | hv => exact rfl)) | ((with_reducible apply XOp.load); (case hg | ht | hk | hx => exact rfl); (case hc => exact own_cell (i := 0) rfl rfl)) | ((with_reducible apply XOp.pr); (case hg => exact rfl); (case hr => ((with_reducible apply PR.build); (case ht | hk | hok | hz | hf => exact rfl)))) | (with_reducible apply XL.nilT) | (with_reducible apply XC.region (Γ := Γ))))
    ((with_reducible apply XOp.buildSlice); (case hg | ht | hk | he | hz | hzl | hf => exact rfl); intro bb)
    (repeat ((with_reducible apply XL.op)))
    (refine (show XOp _ _ _ _ _ _ _ _ ((bb, Obj.cells ⟨[.int .i64 (s16 (valB (bytV 2 b ls.2))), .int .i64 (s16 (valB (bytV 2 b (ls.2 + 2))))]⟩ 70 (0, 0)) :: [(xb, Obj.cells ⟨rwC cf e' (.slice at' i ct') (.slice none 0 0) zlv zmat (.slice none 0 0)⟩ 31 (0, 0)), (cb, Obj.cells ⟨cf.cells⟩ 23 (0, 0)), (rs, Obj.cells ⟨zeroW⟩ 31 (0, 0))] ++ (VwB vb a c b (ls.2 + 2 + 2) :: (F1 ++ Fv))) from XOp.perm (L' :=  (bb, Obj.cells ⟨[.int .i64 (s16 (valB (bytV 2 b ls.2))), .int .i64 (s16 (valB (bytV 2 b (ls.2 + 2))))]⟩ 70 (0, 0)) :: (([(xb, Obj.cells ⟨rwC cf e' (.slice at' i ct') (.slice none 0 0) zlv zmat (.slice none 0 0)⟩ 31 (0, 0)), (cb, Obj.cells ⟨cf.cells⟩ 23 (0, 0)), (rs, Obj.cells ⟨zeroW⟩ 31 (0, 0))] ++ (VwB vb a c b (ls.2 + 2 + 2) :: F1)) ++ Fv)) rfl ?_ (by (first | (with_reducible exact List.Perm.refl _) | refine perm_of_cnt fun p_ => ?_; simp only [List.countP_append, List.countP_cons, List.countP_nil]; omega))))
    ((with_reducible apply XOp.append1R (R := [(xb, Obj.cells ⟨rwC cf e' (.slice at' i ct') (.slice none 0 0) zlv zmat (.slice none 0 0)⟩ 31 (0, 0)), (cb, Obj.cells ⟨cf.cells⟩ 23 (0, 0)), (rs, Obj.cells ⟨zeroW⟩ 31 (0, 0))] ++ (VwB vb a c b (ls.2 + 2 + 2) :: F1))); (case hg => exact rfl); (case ht => exact rfl); (case hk => exact rfl); (case he => exact rfl); (case hown => exact hown); (case hs => exact rfl); (case hx => exact rfl); (case hL => exact rfl); (case hl => exact rfl); (case h1 => exact rfl); (case hz => exact rfl); (case hsz => exact Nat.zero_lt_succ _); (case hk0 => exact Nat.zero_lt_succ _); (case h63 => simp only [maxLen]; omega); (case hb => simp only []; omega); intro v_ F_ hown_; obtain ⟨a_, c_, rfl⟩ := hown_.val)
    (repeat (first | (with_reducible apply XL.op) | ((with_reducible apply XOp.p1); (case hg | hv => exact rfl)) | ((with_reducible apply XOp.store (i := 0)); (case hg | ht | hk | hx | hv | h1 | hi | hs | ha => exact rfl)) | (with_reducible apply XL.nilT) | (with_reducible apply XC.region (Γ := Γ)) | (with_reducible apply XL.nilQ) | (with_reducible apply XQ.nt) | (with_reducible apply XQ.nb)))
    refine ⟨k - 1, by omega, _, .of (List.Sublist.refl _), i + 1, _, F_, by omega, hown_.conv rfl ?_, ?_, rfl, rfl, rfl, rfl, rfl, intS2 (m := 64) (by omega) (by omega), trivial⟩
    · rw [hsn, List.flatMap_append]; simp [turnV, turnV', zerosL]
    · rw [hsn]; rfl
  rw [half_wrap hc] at hb_
  obtain rfl : k = 0 := by omega
  rw [Nat.add_zero] at hik
  subst hik
  have hpn := hpT (cf.head / 2).toNat
  have hqTl : (iterV turnV' (cf.head / 2).toNat b (qE.2 + 5)).1.length = (cf.head / 2).toNat := iterV_len _ _ _ _
  generalize hqT : iterV turnV' (cf.head / 2).toNat b (qE.2 + 5) = qT at *
  clear hs
  (repeat (first | (with_reducible apply XL.op) | ((with_reducible apply XOp.p1); (case hg | hv => exact rfl)) | (with_reducible apply XL.nilT) | (with_reducible apply XC.seq) | (with_reducible apply XC.region (Γ := Γ)) | (with_reducible apply XQ.exit) | (with_reducible apply XQ.nt) | (with_reducible apply XQ.et) | (with_reducible apply XC.block) | ((with_reducible apply XQ.eb); (case hb => exact rfl))))
  obtain ⟨fL, hfL⟩ : ∃ f, f = secV (layV cf) := ⟨_, rfl⟩
  rw [← hfL] at hd3
  have hpL := iterV_at (f := fL) (b := b) (k := layK cf) (fun q => by rw [hfL]; exact layV_at cf b q) qT.2
  refine XC.loopP (fun k ρ L => ∃ (i : Nat) (v : Value) (A : List LL) (GG Fl : HL), i + k = cf.Layers.toNat ∧ OwnS 67 30 v i (A.flatMap LL.cells) Fl ∧ A.map LL.lay = (iterV fL i b qT.2).1 ∧ Held GG (fun h => ∀ l ∈ A, llAt h l) ∧ (∀ y ∈ F1 ++ Fv, y ∈ GG) ∧ L = [(xb, Obj.cells ⟨rwC cf e' (.slice at' (cf.head / 2).toNat ct') v zlv zmat (.slice none 0 0)⟩ 31 (0, 0)), (cb, Obj.cells ⟨cf.cells⟩ 23 (0, 0)), (rs, Obj.cells ⟨zeroW⟩ 31 (0, 0))] ++ (VwB vb a c b (iterV fL i b qT.2).2 :: (GG ++ Fl)) ∧ Slots ρ [(0, .slice a b.length c), (2, .pointer (some ⟨rs, 0, none⟩)), (4, .pointer (some ⟨vb, 0, none⟩)), (5, .pointer (some ⟨cb, 0, none⟩)), (7, .pointer (some ⟨xb, 0, none⟩)), (11, .int .i64 i)])
    cf.Layers.toNat ⟨0, _, [], F1 ++ Fv, [], by simp, OwnS.nil _ _, rfl, fun h hh l hl => by simp at hl, fun _ h => h, by rw [List.append_nil]; rfl, rfl, rfl, rfl, rfl, rfl, rfl, trivial⟩ ?_
  rintro k ρ L ⟨i, v, A, GG, Fl, hik, hownL, hAl, hG, hGG, rfl, hs⟩
  obtain ⟨al, cl, rfl⟩ := hownL.val
  refine XC.slots _ hs ?_
  (repeat (first | (with_reducible apply XL.op) | ((with_reducible apply XOp.p1); (case hg | hv => exact rfl)) | ((with_reducible apply XOp.load); (case hg | ht | hk | hx => exact rfl); (case hc => exact own_cell (i := 1) rfl rfl)) | (with_reducible apply XL.nilT) | (with_reducible apply XC.seq) | (with_reducible apply XC.region (Γ := Γ))))
  ((with_reducible apply XC.cond); (case hc => exact rfl); all_goals (intro hb_; try simp only [pd_true, pd_false, Bool.not_eq_true', Bool.not_eq_false', Bool.and_eq_true, Bool.and_eq_false_iff, Bool.or_eq_true, Bool.or_eq_false_iff, not_true_eq_false, not_false_eq_true, Int.not_lt, Int.not_le] at hb_))
  · have hpi := hpL i
    have hsn := iterV_snoc fL i b qT.2
    have hi4 : layK cf * i ≤ 30000 * 4 := Nat.mul_le_mul hLK (by omega)
    generalize hls : iterV fL i b qT.2 = ls at *
    (repeat (first | (with_reducible apply XL.op) | ((with_reducible apply XOp.p1); (case hg | hv => exact rfl)) | ((with_reducible apply XOp.loadO (i := 1)); (case hg | ht | hk | hx | hi | hc => exact rfl)) | (with_reducible apply XC.seq) | (with_reducible apply XC.region (Γ := Γ)) | (with_reducible apply XQ.skip) | (with_reducible apply XQ.nt) | (with_reducible apply XC.block)))
    ((with_reducible apply XOp.callM (R := [_, _, _]) (hF := vlayer_fn vb a c b ls.2 (by omega) cf hc)); (case hg => exact rfl); (case hc => exact rfl); (case ha => exact rfl); (case hL => exact rfl); try (case hA => exact Known.true))
    case hA => exact Known.of_old hA (Mono.sl _ _ _ _ _)
    rintro _ _ ⟨l', F7, rfl, hlay, rfl, hF7⟩
    rw [← hfL] at hlay ⊢
    (repeat ((with_reducible apply XL.op)))
    ((with_reducible apply XOp.alloc); (case hg | ht | hx' => exact rfl); intro yb)
    (repeat (first | (with_reducible apply XL.op) | ((with_reducible apply XOp.p1); (case hg | hv => exact rfl)) | ((with_reducible apply XOp.load); (case hg | ht | hk | hx => exact rfl); (case hc => exact own_cell (i := 1) rfl rfl)) | ((with_reducible apply XOp.loadO (i := 0)); (case hg | ht | hk | hx | hi | hc => exact rfl)) | ((with_reducible apply XOp.storeN (i := 0)); (case hg | ht | hx | hv' | hk | h1 | hi | hs | ha => exact rfl)) | (with_reducible apply XL.nilT) | (with_reducible apply XC.region (Γ := Γ))))
    ((with_reducible apply XOp.buildSlice); (case hg | ht | hk | he | hz | hzl | hf => exact rfl); intro bb)
    (repeat ((with_reducible apply XL.op)))
    (refine (show XOp _ _ _ _ _ _ _ _ ((bb, Obj.cells ⟨l'.cells⟩ 67 (0, 0)) :: (yb, Obj.cells ⟨l'.cells⟩ 67 (0, 0)) :: [(xb, Obj.cells ⟨rwC cf e' (.slice at' (cf.head / 2).toNat ct') (.slice al i cl) zlv zmat (.slice none 0 0)⟩ 31 (0, 0)), (cb, Obj.cells ⟨cf.cells⟩ 23 (0, 0)), (rs, Obj.cells ⟨zeroW⟩ 31 (0, 0))] ++ ((VwB vb a c b (fL b ls.2).2 :: F7) ++ (GG ++ Fl))) from XOp.perm (L' :=  (bb, Obj.cells ⟨l'.cells⟩ 67 (0, 0)) :: (([(xb, Obj.cells ⟨rwC cf e' (.slice at' (cf.head / 2).toNat ct') (.slice al i cl) zlv zmat (.slice none 0 0)⟩ 31 (0, 0)), (cb, Obj.cells ⟨cf.cells⟩ 23 (0, 0)), (rs, Obj.cells ⟨zeroW⟩ 31 (0, 0))] ++ (VwB vb a c b (fL b ls.2).2 :: (F7 ++ ((yb, Obj.cells ⟨l'.cells⟩ 67 (0, 0)) :: GG)))) ++ Fl)) rfl ?_ (by (first | (with_reducible exact List.Perm.refl _) | refine perm_of_cnt fun p_ => ?_; simp only [List.countP_append, List.countP_cons, List.countP_nil]; omega))))
    ((with_reducible apply XOp.append1R (R := [(xb, Obj.cells ⟨rwC cf e' (.slice at' (cf.head / 2).toNat ct') (.slice al i cl) zlv zmat (.slice none 0 0)⟩ 31 (0, 0)), (cb, Obj.cells ⟨cf.cells⟩ 23 (0, 0)), (rs, Obj.cells ⟨zeroW⟩ 31 (0, 0))] ++ (VwB vb a c b (fL b ls.2).2 :: (F7 ++ ((yb, Obj.cells ⟨l'.cells⟩ 67 (0, 0)) :: GG))))); (case hg => exact rfl); (case ht => exact rfl); (case hk => exact rfl); (case he => exact rfl); (case hown => exact hownL); (case hs => exact rfl); (case hx => exact rfl); (case hL => exact rfl); (case hl => exact rfl); (case h1 => exact rfl); (case hz => exact rfl); (case hsz => exact Nat.zero_lt_succ _); (case hk0 => exact Nat.zero_lt_succ _); (case h63 => simp only [maxLen]; omega); (case hb => simp only []; omega); intro v_ F_ hown_; obtain ⟨a_, c_, rfl⟩ := hown_.val)
    (repeat (first | (with_reducible apply XL.op) | ((with_reducible apply XOp.p1); (case hg | hv => exact rfl)) | ((with_reducible apply XOp.store (i := 0)); (case hg | ht | hk | hx | hv | h1 | hi | hs | ha => exact rfl)) | (with_reducible apply XL.nilT) | (with_reducible apply XC.region (Γ := Γ)) | (with_reducible apply XL.nilQ) | (with_reducible apply XQ.nt) | (with_reducible apply XQ.nb)))
    refine ⟨k - 1, by omega, _, .of (List.Sublist.refl _), i + 1, _, A ++ [l'], F7 ++ ((yb, Obj.cells ⟨l'.cells⟩ 67 (0, 0)) :: GG), F_, by omega, hown_.conv rfl (by simp), ?_, ?_, fun y hy => List.mem_append_right _ (List.mem_cons_of_mem _ (hGG y hy)), ?_, rfl, rfl, rfl, rfl, rfl, intS2 (m := 64) (by omega) (by omega), trivial⟩
    · rw [hsn, List.map_append, hAl, List.map_singleton, hlay]
    · intro h hh z hz
      rcases List.mem_append.1 hz with h1 | h1
      · exact hG h (fun y hy => hh y (List.mem_append_right _ (List.mem_cons_of_mem _ hy))) z h1
      · rw [List.mem_singleton.1 h1]; exact hF7 h (fun y hy => hh y (List.mem_append_left _ hy))
    · rw [hsn]; rfl
  obtain rfl : k = 0 := by omega
  rw [Nat.add_zero] at hik
  subst hik
  have hpn2 := hpL cf.Layers.toNat
  have hi4 : layK cf * cf.Layers.toNat ≤ 30000 * 4 := Nat.mul_le_mul hLK (by omega)
  have hqLl : (iterV fL cf.Layers.toNat b qT.2).1.length = cf.Layers.toNat := iterV_len _ _ _ _
  generalize hqL : iterV fL cf.Layers.toNat b qT.2 = qL at *
  clear hs
  (repeat (first | (with_reducible apply XL.op) | ((with_reducible apply XOp.p1); (case hg | hv => exact rfl)) | ((with_reducible apply XOp.load); (case hg | ht | hk | hx => exact rfl); (case hc => exact own_cell (i := 1) rfl rfl)) | ((with_reducible apply XOp.load); (case hg | ht | hk | hx => exact rfl); (case hc => exact own_cell (i := 3) rfl rfl)) | ((with_reducible apply XOp.store (i := 3)); (case hg | ht | hk | hx | hv | h1 | hi | hs | ha => exact rfl)) | (with_reducible apply XL.nilT) | (with_reducible apply XC.seq) | (with_reducible apply XC.region (Γ := Γ)) | (with_reducible apply XQ.exit) | (with_reducible apply XQ.nt) | (with_reducible apply XQ.et) | ((with_reducible apply XQ.eb); (case hb => exact rfl))))
  rw [i64_p5 (by omega)]
  skip
  ((with_reducible apply XOp.callM (R := [_, _, _]) (hF := vnarrowI_fn vb a c b (qL.2 + 5) cf.Width (by omega) (by omega))); (case hg => exact rfl); (case hc => exact rfl); (case ha => exact rfl); (case hL => exact rfl); try (case hA => exact Known.true))
  case hA => exact Known.of_old hA (Mono.sl _ _ _ _ _)
  rintro _ _ ⟨f', F9, rfl, hf, rfl, hF9⟩
  have hf2 : (narV cf.Width.toNat b (qL.2 + 5)).2 = qL.2 + 5 + cf.Width.toNat := rfl
  rw [← hf2]
  generalize hqF : narV cf.Width.toNat b (qL.2 + 5) = qF at *
  (repeat (first | (with_reducible apply XL.op) | ((with_reducible apply XOp.p1); (case hg | hv => exact rfl)) | ((with_reducible apply XOp.load); (case hg | ht | hk | hx => exact rfl); (case hc => exact own_cell (i := 1) rfl rfl)) | ((with_reducible apply XOp.load); (case hg | ht | hk | hx => exact rfl); (case hc => exact own_cell (i := 3) rfl rfl)) | ((with_reducible apply XOp.store (i := 0)); (case hg | ht | hk | hx | hv | h1 | hi | hs | ha => exact rfl)) | ((with_reducible apply XOp.store (i := 3)); (case hg | ht | hk | hx | hv | h1 | hi | hs | ha => exact rfl)) | (with_reducible apply XL.nilT) | (with_reducible apply XC.seq) | (with_reducible apply XC.region (Γ := Γ))))
  rw [i64_p5 (by omega)]
  skip
  ((with_reducible apply XOp.callM (R := [_, _, _]) (hF := vmat_fn vb a c b (qF.2 + 5) cf.Vocab cf.Width (by omega) (by omega))); (case hg => exact rfl); (case hc => exact rfl); (case ha => exact rfl); (case hL => exact rfl); try (case hA => exact Known.true))
  case hA => exact Known.of_old hA (Mono.sl _ _ _ _ _)
  rintro _ _ ⟨h', F11, rfl, hh', rfl, hF11⟩
  have hh2 : (matV cf.Vocab cf.Width b (qF.2 + 5)).2 = qF.2 + 5 + (cf.Vocab * cf.Width).toNat := rfl
  rw [← hh2]
  generalize hqH : matV cf.Vocab cf.Width b (qF.2 + 5) = qH at *
  (repeat (first | (with_reducible apply XL.op) | ((with_reducible apply XOp.p1); (case hg | hv => exact rfl)) | ((with_reducible apply XOp.storeN (i := 0)); (case hg | ht | hx | hv' | hk | h1 | hi | hs | ha => exact rfl)) | (with_reducible apply XL.nilT) | (with_reducible apply XC.seq) | (with_reducible apply XC.region (Γ := Γ)) | (with_reducible apply XC.block)))
  obtain ⟨fM, hfM⟩ : ∃ f, f = secV (matV cf.Vocab cf.Width) := ⟨_, rfl⟩
  rw [← hfM] at hd3
  have hpM := iterV_at (f := fM) (b := b) (k := 5 + (cf.Vocab * cf.Width).toNat) (fun q => by rw [hfM]; exact secM_at _ _ b q) qH.2
  refine XC.loopP (fun k ρ L => ∃ (i : Nat) (v : Value) (D : List LM) (HH Fm : HL), i + k = cf.Medusa.toNat ∧ OwnS 26 3 v i (D.flatMap LM.cells) Fm ∧ D.map LM.mat = (iterV fM i b qH.2).1 ∧ Held HH (fun h => ∀ m ∈ D, lmAt h m) ∧ (∀ y ∈ F11 ++ (F9 ++ (GG ++ Fl)), y ∈ HH) ∧ L = [(xb, Obj.cells ⟨rwC cf e' (.slice at' (cf.head / 2).toNat ct') (.slice al cf.Layers.toNat cl) f' h' v⟩ 31 (0, 0)), (cb, Obj.cells ⟨cf.cells⟩ 23 (0, 0)), (rs, Obj.cells ⟨zeroW⟩ 31 (0, 0))] ++ (VwB vb a c b (iterV fM i b qH.2).2 :: (HH ++ Fm)) ∧ Slots ρ [(0, .slice a b.length c), (2, .pointer (some ⟨rs, 0, none⟩)), (4, .pointer (some ⟨vb, 0, none⟩)), (5, .pointer (some ⟨cb, 0, none⟩)), (7, .pointer (some ⟨xb, 0, none⟩)), (13, .int .i64 i)])
    cf.Medusa.toNat ⟨0, _, [], F11 ++ (F9 ++ (GG ++ Fl)), [], by simp, OwnS.nil _ _, rfl, fun h hh l hl => by simp at hl, fun _ h => h, by rw [List.append_nil]; rfl, rfl, rfl, rfl, rfl, rfl, rfl, trivial⟩ ?_
  rintro k ρ L ⟨i, v, D, HH, Fm, hik, hownM, hDl, hH, hHH, rfl, hs⟩
  obtain ⟨am, cm, rfl⟩ := hownM.val
  refine XC.slots _ hs ?_
  (repeat (first | (with_reducible apply XL.op) | ((with_reducible apply XOp.p1); (case hg | hv => exact rfl)) | ((with_reducible apply XOp.load); (case hg | ht | hk | hx => exact rfl); (case hc => exact own_cell (i := 1) rfl rfl)) | (with_reducible apply XL.nilT) | (with_reducible apply XC.seq) | (with_reducible apply XC.region (Γ := Γ))))
  ((with_reducible apply XC.cond); (case hc => exact rfl); all_goals (intro hb_; try simp only [pd_true, pd_false, Bool.not_eq_true', Bool.not_eq_false', Bool.and_eq_true, Bool.and_eq_false_iff, Bool.or_eq_true, Bool.or_eq_false_iff, not_true_eq_false, not_false_eq_true, Int.not_lt, Int.not_le] at hb_))
  · have hpi := hpM i
    have hsn := iterV_snoc fM i b qH.2
    have hi5 : (5 + (cf.Vocab * cf.Width).toNat) * i ≤ 2053 * 4 := Nat.mul_le_mul (by omega) (by omega)
    generalize hls : iterV fM i b qH.2 = ls at *
    (repeat (first | (with_reducible apply XL.op) | ((with_reducible apply XOp.p1); (case hg | hv => exact rfl)) | ((with_reducible apply XOp.load); (case hg | ht | hk | hx => exact rfl); (case hc => exact own_cell (i := 1) rfl rfl)) | ((with_reducible apply XOp.load); (case hg | ht | hk | hx => exact rfl); (case hc => exact own_cell (i := 3) rfl rfl)) | ((with_reducible apply XOp.store (i := 3)); (case hg | ht | hk | hx | hv | h1 | hi | hs | ha => exact rfl)) | (with_reducible apply XL.nilT) | (with_reducible apply XC.seq) | (with_reducible apply XC.region (Γ := Γ)) | (with_reducible apply XQ.skip) | (with_reducible apply XQ.nt) | (with_reducible apply XC.block)))
    rw [i64_p5 (by omega)]
    skip
    ((with_reducible apply XOp.callM (R := [_, _, _]) (hF := vmat_fn vb a c b (ls.2 + 5) cf.Vocab cf.Width (by omega) (by omega))); (case hg => exact rfl); (case hc => exact rfl); (case ha => exact rfl); (case hL => exact rfl); try (case hA => exact Known.true))
    case hA => exact Known.of_old hA (Mono.sl _ _ _ _ _)
    rintro _ _ ⟨m', F14, rfl, hmat, rfl, hF14⟩
    have hmf : matV cf.Vocab cf.Width b (ls.2 + 5) = fM b ls.2 := by rw [hfM]; rfl
    have hm2 : ls.2 + 5 + (cf.Vocab * cf.Width).toNat = (fM b ls.2).2 := by rw [← hmf]; rfl
    rw [hmf] at hmat
    rw [hm2]
    (repeat ((with_reducible apply XL.op)))
    ((with_reducible apply XOp.alloc); (case hg | ht | hx' => exact rfl); intro yb)
    (repeat (first | (with_reducible apply XL.op) | ((with_reducible apply XOp.p1); (case hg | hv => exact rfl)) | ((with_reducible apply XOp.load); (case hg | ht | hk | hx => exact rfl); (case hc => exact own_cell (i := 1) rfl rfl)) | ((with_reducible apply XOp.loadO (i := 0)); (case hg | ht | hk | hx | hi | hc => exact rfl)) | ((with_reducible apply XOp.storeN (i := 0)); (case hg | ht | hx | hv' | hk | h1 | hi | hs | ha => exact rfl)) | (with_reducible apply XL.nilT) | (with_reducible apply XC.region (Γ := Γ))))
    ((with_reducible apply XOp.buildSlice); (case hg | ht | hk | he | hz | hzl | hf => exact rfl); intro bb)
    (repeat ((with_reducible apply XL.op)))
    (refine (show XOp _ _ _ _ _ _ _ _ ((bb, Obj.cells ⟨m'.cells⟩ 26 (0, 0)) :: (yb, Obj.cells ⟨m'.cells⟩ 26 (0, 0)) :: [(xb, Obj.cells ⟨rwC cf e' (.slice at' (cf.head / 2).toNat ct') (.slice al cf.Layers.toNat cl) f' h' (.slice am i cm)⟩ 31 (0, 0)), (cb, Obj.cells ⟨cf.cells⟩ 23 (0, 0)), (rs, Obj.cells ⟨zeroW⟩ 31 (0, 0))] ++ ((VwB vb a c b (fM b ls.2).2 :: F14) ++ (HH ++ Fm))) from XOp.perm (L' :=  (bb, Obj.cells ⟨m'.cells⟩ 26 (0, 0)) :: (([(xb, Obj.cells ⟨rwC cf e' (.slice at' (cf.head / 2).toNat ct') (.slice al cf.Layers.toNat cl) f' h' (.slice am i cm)⟩ 31 (0, 0)), (cb, Obj.cells ⟨cf.cells⟩ 23 (0, 0)), (rs, Obj.cells ⟨zeroW⟩ 31 (0, 0))] ++ (VwB vb a c b (fM b ls.2).2 :: (F14 ++ ((yb, Obj.cells ⟨m'.cells⟩ 26 (0, 0)) :: HH)))) ++ Fm)) rfl ?_ (by (first | (with_reducible exact List.Perm.refl _) | refine perm_of_cnt fun p_ => ?_; simp only [List.countP_append, List.countP_cons, List.countP_nil]; omega))))
    ((with_reducible apply XOp.append1R (R := [(xb, Obj.cells ⟨rwC cf e' (.slice at' (cf.head / 2).toNat ct') (.slice al cf.Layers.toNat cl) f' h' (.slice am i cm)⟩ 31 (0, 0)), (cb, Obj.cells ⟨cf.cells⟩ 23 (0, 0)), (rs, Obj.cells ⟨zeroW⟩ 31 (0, 0))] ++ (VwB vb a c b (fM b ls.2).2 :: (F14 ++ ((yb, Obj.cells ⟨m'.cells⟩ 26 (0, 0)) :: HH))))); (case hg => exact rfl); (case ht => exact rfl); (case hk => exact rfl); (case he => exact rfl); (case hown => exact hownM); (case hs => exact rfl); (case hx => exact rfl); (case hL => exact rfl); (case hl => exact rfl); (case h1 => exact rfl); (case hz => exact rfl); (case hsz => exact Nat.zero_lt_succ _); (case hk0 => exact Nat.zero_lt_succ _); (case h63 => simp only [maxLen]; omega); (case hb => simp only []; omega); intro v_ F_ hown_; obtain ⟨a_, c_, rfl⟩ := hown_.val)
    (repeat (first | (with_reducible apply XL.op) | ((with_reducible apply XOp.p1); (case hg | hv => exact rfl)) | ((with_reducible apply XOp.store (i := 0)); (case hg | ht | hk | hx | hv | h1 | hi | hs | ha => exact rfl)) | (with_reducible apply XL.nilT) | (with_reducible apply XC.region (Γ := Γ)) | (with_reducible apply XL.nilQ) | (with_reducible apply XQ.nt) | (with_reducible apply XQ.nb)))
    refine ⟨k - 1, by omega, _, .of (List.Sublist.refl _), i + 1, _, D ++ [m'], F14 ++ ((yb, Obj.cells ⟨m'.cells⟩ 26 (0, 0)) :: HH), F_, by omega, hown_.conv rfl (by simp), ?_, ?_, fun y hy => List.mem_append_right _ (List.mem_cons_of_mem _ (hHH y hy)), ?_, rfl, rfl, rfl, rfl, rfl, intS2 (m := 64) (by omega) (by omega), trivial⟩
    · rw [hsn, List.map_append, hDl, List.map_singleton, hmat]
    · intro h hh z hz
      rcases List.mem_append.1 hz with h1 | h1
      · exact hH h (fun y hy => hh y (List.mem_append_right _ (List.mem_cons_of_mem _ hy))) z h1
      · rw [List.mem_singleton.1 h1]; exact hF14 h (fun y hy => hh y (List.mem_append_left _ hy))
    · rw [hsn]; rfl
  obtain rfl : k = 0 := by omega
  rw [Nat.add_zero] at hik
  subst hik
  have hqMl : (iterV fM cf.Medusa.toNat b qH.2).1.length = cf.Medusa.toNat := iterV_len _ _ _ _
  generalize hqM : iterV fM cf.Medusa.toNat b qH.2 = qM at *
  clear hs
  have hAn : A.length = cf.Layers.toNat := by have := congrArg List.length hAl; rw [List.length_map] at this; omega
  have hDn : D.length = cf.Medusa.toNat := by have := congrArg List.length hDl; rw [List.length_map] at this; omega
  obtain ⟨aT, cT, eT, sT⟩ := hown.raw (f := turnV) (k := 2) (hk := fun _ => rfl) (by_ := 16) hqTl.symm (by omega)
  obtain ⟨aL, cL, eL, sL⟩ := hownL.raw (f := LL.cells) (k := 30) (hk := fun _ => rfl) (by_ := 384) hAn.symm (by omega)
  obtain ⟨aM, cM, eM, sM⟩ := hownM.raw (f := LM.cells) (k := 3) (hk := fun _ => rfl) (by_ := 40) hDn.symm (by omega)
  obtain ⟨rfl, _, rfl⟩ := Value.slice.inj eT
  obtain ⟨rfl, _, rfl⟩ := Value.slice.inj eL
  obtain ⟨rfl, _, rfl⟩ := Value.slice.inj eM
  obtain ⟨xw, hxw⟩ : ∃ x : LW, x = ⟨cf, e', (qT.1, at', ct'), (A, al, cl), f', h', (D, am, cm)⟩ := ⟨_, rfl⟩
  have hcells : rwC cf e' (.slice at' (cf.head / 2).toNat ct') (.slice al cf.Layers.toNat cl) f' h' (.slice am cf.Medusa.toNat cm) = xw.cells := by rw [hxw]; simp only [LW.cells, sla, hqTl, hAn, hDn]; rfl
  have hww : xw.w = ⟨cf, qE.1, qT.1, qL.1, qF.1, qH.1, qM.1⟩ := by
    rw [hxw]
    show (⟨cf, e'.mat, qT.1, A.map LL.lay, f'.1, h'.mat, D.map LM.mat⟩ : Wts) = _
    rw [he, hAl, hf, hh', hDl]
  rw [← hww] at hd3
  have hwA : Held (HH ++ Fm) (fun h => lwAt h xw) := fun h hh => by
    have q1 := hF1 h fun y hy => hh y (List.mem_append_left _ (hHH y (by simp [hGG y (List.mem_append_left _ hy)])))
    have q2 := Held.frag sT (Mono.sl _ _ _ _ _) h fun y hy => hh y (List.mem_append_left _ (hHH y (by simp [hGG y (List.mem_append_right _ hy)])))
    have q3 := Held.frag sL (Mono.sl _ _ _ _ _) h fun y hy => hh y (List.mem_append_left _ (hHH y (by simp [hy])))
    have q4 := hG h fun y hy => hh y (List.mem_append_left _ (hHH y (by simp [hy])))
    have q5 := hF9 h fun y hy => hh y (List.mem_append_left _ (hHH y (by simp [hy])))
    have q6 := hF11 h fun y hy => hh y (List.mem_append_left _ (hHH y (by simp [hy])))
    have q7 := Held.frag sM (Mono.sl _ _ _ _ _) h fun y hy => hh y (List.mem_append_right _ hy)
    have q8 := hH h fun y hy => hh y (List.mem_append_left _ hy)
    rw [hxw]
    exact ⟨q1, q2, SlA.ofRaw q3 q4, q5, q6, SlA.ofRaw q7 q8⟩
  rw [hcells]
  (repeat (first | (with_reducible apply XL.op) | ((with_reducible apply XOp.loadO (i := 0)); (case hg | ht | hk | hx | hi | hc => exact rfl)) | (with_reducible apply XC.seq) | (with_reducible apply XC.region (Γ := Γ)) | (with_reducible apply XQ.exit) | (with_reducible apply XQ.nt) | (with_reducible apply XQ.et) | ((with_reducible apply XQ.eb); (case hb => exact rfl))))
  ((with_reducible apply XOp.callN (hF := refEncode_fn xw)); (case hg => exact rfl); (case hc => exact rfl); (case ha => exact rfl); try (case hA => exact Known.true))
  case hA => exact hwA.known fun y hy => by simp only [List.mem_cons, List.mem_append] at hy ⊢; simp [hy]
  rintro _ F20 hE
  obtain ⟨a20, c20, rfl, s20⟩ := hE.get
  (repeat (first | (with_reducible apply XL.op) | ((with_reducible apply XOp.p1); (case hg | hv => exact rfl)) | (with_reducible apply XL.nilT) | (with_reducible apply XC.seq) | (with_reducible apply XC.region (Γ := Γ))))
  ((with_reducible apply XOp.callQ (hF := eqBytes_fn (encS xw.w) b a20 a c20 c)); (case hg => exact rfl); (case hc => exact rfl); (case ha => exact rfl); try (case hA => exact Known.true))
  case hA => exact Known.and (s20.known fun y hy => by simp [hy]) (Known.of_old hA (Mono.sl _ _ _ _ _))
  rintro _ rfl
  by_cases hok : okW xw.w ∧ fileOf digS xw.w = b
  · have hres := hd3.1 hok
    rw [errW_ok hok.1, pdt ((enc_eq hok.1).2 hok.2)]
    (repeat (first | (with_reducible apply XL.op) | ((with_reducible apply XOp.p1); (case hg | hv => exact rfl)) | ((with_reducible apply XOp.loadO (i := 0)); (case hg | ht | hk | hx | hi | hc => exact rfl)) | ((with_reducible apply XOp.storeN (i := 2)); (case hg | ht | hx | hv' | hk | h1 | hi | hs | ha => exact rfl)) | (with_reducible apply XL.nilT) | (with_reducible apply XC.seq) | (with_reducible apply XC.region (Γ := Γ)) | (with_reducible apply XQ.skip) | (with_reducible apply XQ.ret) | (with_reducible apply XQ.nt) | ((with_reducible apply XC.condF); (case hc => exact rfl)) | (first | ((with_reducible apply XOp.split); (case hg | hj | hd | hb => exact rfl); (fail_if_success (case hf => exact fun h => Bool.noConfusion h)); (fail_if_success (case ht => exact fun h => Bool.noConfusion h)); (first | (case ht => intro hb_; try simp only [pd_true, pd_false, Bool.not_eq_true', Bool.not_eq_false', Bool.and_eq_true, Bool.and_eq_false_iff, Bool.or_eq_true, Bool.or_eq_false_iff, not_true_eq_false, not_false_eq_true, Int.not_lt, Int.not_le] at hb_; first | done | (exfalso; first | omega | contradiction)) | (case hf => intro hb_; try simp only [pd_true, pd_false, Bool.not_eq_true', Bool.not_eq_false', Bool.and_eq_true, Bool.and_eq_false_iff, Bool.or_eq_true, Bool.or_eq_false_iff, not_true_eq_false, not_false_eq_true, Int.not_lt, Int.not_le] at hb_; first | done | (exfalso; first | omega | contradiction))); intro hb_; try simp only [pd_true, pd_false, Bool.not_eq_true', Bool.not_eq_false', Bool.and_eq_true, Bool.and_eq_false_iff, Bool.or_eq_true, Bool.or_eq_false_iff, not_true_eq_false, not_false_eq_true, Int.not_lt, Int.not_le] at hb_) | ((with_reducible apply XP.split); (case ho | hg | hj | hd | hb => exact rfl); (fail_if_success (case hf => exact fun h => Bool.noConfusion h)); (fail_if_success (case ht => exact fun h => Bool.noConfusion h)); (first | (case ht => intro hb_; try simp only [pd_true, pd_false, Bool.not_eq_true', Bool.not_eq_false', Bool.and_eq_true, Bool.and_eq_false_iff, Bool.or_eq_true, Bool.or_eq_false_iff, not_true_eq_false, not_false_eq_true, Int.not_lt, Int.not_le] at hb_; first | done | (exfalso; first | omega | contradiction)) | (case hf => intro hb_; try simp only [pd_true, pd_false, Bool.not_eq_true', Bool.not_eq_false', Bool.and_eq_true, Bool.and_eq_false_iff, Bool.or_eq_true, Bool.or_eq_false_iff, not_true_eq_false, not_false_eq_true, Int.not_lt, Int.not_le] at hb_; first | done | (exfalso; first | omega | contradiction))); intro hb_; try simp only [pd_true, pd_false, Bool.not_eq_true', Bool.not_eq_false', Bool.and_eq_true, Bool.and_eq_false_iff, Bool.or_eq_true, Bool.or_eq_false_iff, not_true_eq_false, not_false_eq_true, Int.not_lt, Int.not_le] at hb_) | ((with_reducible apply XC.cond); (case hc => exact rfl); (first | (case ht => intro hb_; try simp only [pd_true, pd_false, Bool.not_eq_true', Bool.not_eq_false', Bool.and_eq_true, Bool.and_eq_false_iff, Bool.or_eq_true, Bool.or_eq_false_iff, not_true_eq_false, not_false_eq_true, Int.not_lt, Int.not_le] at hb_; first | done | (exfalso; first | omega | contradiction)) | (case hf => intro hb_; try simp only [pd_true, pd_false, Bool.not_eq_true', Bool.not_eq_false', Bool.and_eq_true, Bool.and_eq_false_iff, Bool.or_eq_true, Bool.or_eq_false_iff, not_true_eq_false, not_false_eq_true, Int.not_lt, Int.not_le] at hb_; first | done | (exfalso; first | omega | contradiction))); intro hb_; try simp only [pd_true, pd_false, Bool.not_eq_true', Bool.not_eq_false', Bool.and_eq_true, Bool.and_eq_false_iff, Bool.or_eq_true, Bool.or_eq_false_iff, not_true_eq_false, not_false_eq_true, Int.not_lt, Int.not_le] at hb_))))
    ((with_reducible apply XQ.retE); (case hr => exact .row rfl (by kernel_rfl) (by kernel_rfl) (own_row (i := 2) (m := 18) rfl rfl) (.t rfl .nil)))
    exact ⟨HH ++ Fm, .of (by ((try simp only [List.append_eq, List.cons_append, List.nil_append, List.append_assoc]); repeat (first | exact List.Sublist.refl _ | exact List.nil_sublist _ | (with_reducible apply List.Sublist.cons_cons) | (with_reducible apply List.Sublist.cons) | exact List.sublist_append_right _ _)); exact List.Sublist.append (List.Sublist.refl _) (List.sublist_append_left _ _)), decR_some hres hwA⟩
  · have hres := hd3.2 hok
    by_cases hok1 : okW xw.w
    · have hne : ¬ encS xw.w = b := fun h => hok ⟨hok1, (enc_eq hok1).1 h⟩
      rw [errW_ok hok1, pdf hne]
      (repeat (first | (with_reducible apply XL.op) | ((with_reducible apply XOp.p1); (case hg | hv => exact rfl)) | ((with_reducible apply XOp.storeN (i := 2)); (case hg | ht | hx | hv' | hk | h1 | hi | hs | ha => exact rfl)) | ((with_reducible apply XOp.pr); (case hg => exact rfl); (case hr => ((with_reducible apply PR.build); (case ht | hk | hok | hz | hf => exact rfl)))) | (with_reducible apply XL.nilT) | (with_reducible apply XC.seq) | (with_reducible apply XC.region (Γ := Γ)) | (with_reducible apply XQ.ret) | (with_reducible apply XQ.rt) | ((with_reducible apply XC.condT); (case hc => exact rfl)) | (first | ((with_reducible apply XOp.split); (case hg | hj | hd | hb => exact rfl); (fail_if_success (case hf => exact fun h => Bool.noConfusion h)); (fail_if_success (case ht => exact fun h => Bool.noConfusion h)); (first | (case ht => intro hb_; try simp only [pd_true, pd_false, Bool.not_eq_true', Bool.not_eq_false', Bool.and_eq_true, Bool.and_eq_false_iff, Bool.or_eq_true, Bool.or_eq_false_iff, not_true_eq_false, not_false_eq_true, Int.not_lt, Int.not_le] at hb_; first | done | (exfalso; first | omega | contradiction)) | (case hf => intro hb_; try simp only [pd_true, pd_false, Bool.not_eq_true', Bool.not_eq_false', Bool.and_eq_true, Bool.and_eq_false_iff, Bool.or_eq_true, Bool.or_eq_false_iff, not_true_eq_false, not_false_eq_true, Int.not_lt, Int.not_le] at hb_; first | done | (exfalso; first | omega | contradiction))); intro hb_; try simp only [pd_true, pd_false, Bool.not_eq_true', Bool.not_eq_false', Bool.and_eq_true, Bool.and_eq_false_iff, Bool.or_eq_true, Bool.or_eq_false_iff, not_true_eq_false, not_false_eq_true, Int.not_lt, Int.not_le] at hb_) | ((with_reducible apply XP.split); (case ho | hg | hj | hd | hb => exact rfl); (fail_if_success (case hf => exact fun h => Bool.noConfusion h)); (fail_if_success (case ht => exact fun h => Bool.noConfusion h)); (first | (case ht => intro hb_; try simp only [pd_true, pd_false, Bool.not_eq_true', Bool.not_eq_false', Bool.and_eq_true, Bool.and_eq_false_iff, Bool.or_eq_true, Bool.or_eq_false_iff, not_true_eq_false, not_false_eq_true, Int.not_lt, Int.not_le] at hb_; first | done | (exfalso; first | omega | contradiction)) | (case hf => intro hb_; try simp only [pd_true, pd_false, Bool.not_eq_true', Bool.not_eq_false', Bool.and_eq_true, Bool.and_eq_false_iff, Bool.or_eq_true, Bool.or_eq_false_iff, not_true_eq_false, not_false_eq_true, Int.not_lt, Int.not_le] at hb_; first | done | (exfalso; first | omega | contradiction))); intro hb_; try simp only [pd_true, pd_false, Bool.not_eq_true', Bool.not_eq_false', Bool.and_eq_true, Bool.and_eq_false_iff, Bool.or_eq_true, Bool.or_eq_false_iff, not_true_eq_false, not_false_eq_true, Int.not_lt, Int.not_le] at hb_) | ((with_reducible apply XC.cond); (case hc => exact rfl); (first | (case ht => intro hb_; try simp only [pd_true, pd_false, Bool.not_eq_true', Bool.not_eq_false', Bool.and_eq_true, Bool.and_eq_false_iff, Bool.or_eq_true, Bool.or_eq_false_iff, not_true_eq_false, not_false_eq_true, Int.not_lt, Int.not_le] at hb_; first | done | (exfalso; first | omega | contradiction)) | (case hf => intro hb_; try simp only [pd_true, pd_false, Bool.not_eq_true', Bool.not_eq_false', Bool.and_eq_true, Bool.and_eq_false_iff, Bool.or_eq_true, Bool.or_eq_false_iff, not_true_eq_false, not_false_eq_true, Int.not_lt, Int.not_le] at hb_; first | done | (exfalso; first | omega | contradiction))); intro hb_; try simp only [pd_true, pd_false, Bool.not_eq_true', Bool.not_eq_false', Bool.and_eq_true, Bool.and_eq_false_iff, Bool.or_eq_true, Bool.or_eq_false_iff, not_true_eq_false, not_false_eq_true, Int.not_lt, Int.not_le] at hb_))))
      ((with_reducible apply XQ.retE); (case hr => exact .row rfl (by kernel_rfl) (by kernel_rfl) (own_row (i := 2) (m := 18) rfl rfl) (.t rfl .nil)))
      exact ⟨[], .of (List.nil_sublist _), decR_none hres⟩
    · have hne : errW xw.w ≠ 0 := fun h => hok1 (errW_zero h)
      generalize errW xw.w = ew at *
      (repeat (first | (with_reducible apply XL.op) | ((with_reducible apply XOp.p1); (case hg | hv => exact rfl)) | ((with_reducible apply XOp.p0); (case hg => exact rfl)) | ((with_reducible apply XOp.storeN (i := 2)); (case hg | ht | hx | hv' | hk | h1 | hi | hs | ha => exact rfl)) | ((with_reducible apply XOp.pr); (case hg => exact rfl); (case hr => ((with_reducible apply PR.build); (case ht | hk | hok | hz | hf => exact rfl)))) | (with_reducible apply XL.nilT) | (with_reducible apply XC.seq) | (with_reducible apply XC.region (Γ := Γ)) | (with_reducible apply XQ.ret) | (with_reducible apply XQ.rt) | ((with_reducible apply XC.condT); (case hc => exact rfl)) | (first | ((with_reducible apply XOp.split); (case hg | hj | hd | hb => exact rfl); (fail_if_success (case hf => exact fun h => Bool.noConfusion h)); (fail_if_success (case ht => exact fun h => Bool.noConfusion h)); (first | (case ht => intro hb_; try simp only [pd_true, pd_false, Bool.not_eq_true', Bool.not_eq_false', Bool.and_eq_true, Bool.and_eq_false_iff, Bool.or_eq_true, Bool.or_eq_false_iff, not_true_eq_false, not_false_eq_true, Int.not_lt, Int.not_le] at hb_; first | done | (exfalso; first | omega | contradiction)) | (case hf => intro hb_; try simp only [pd_true, pd_false, Bool.not_eq_true', Bool.not_eq_false', Bool.and_eq_true, Bool.and_eq_false_iff, Bool.or_eq_true, Bool.or_eq_false_iff, not_true_eq_false, not_false_eq_true, Int.not_lt, Int.not_le] at hb_; first | done | (exfalso; first | omega | contradiction))); intro hb_; try simp only [pd_true, pd_false, Bool.not_eq_true', Bool.not_eq_false', Bool.and_eq_true, Bool.and_eq_false_iff, Bool.or_eq_true, Bool.or_eq_false_iff, not_true_eq_false, not_false_eq_true, Int.not_lt, Int.not_le] at hb_) | ((with_reducible apply XP.split); (case ho | hg | hj | hd | hb => exact rfl); (fail_if_success (case hf => exact fun h => Bool.noConfusion h)); (fail_if_success (case ht => exact fun h => Bool.noConfusion h)); (first | (case ht => intro hb_; try simp only [pd_true, pd_false, Bool.not_eq_true', Bool.not_eq_false', Bool.and_eq_true, Bool.and_eq_false_iff, Bool.or_eq_true, Bool.or_eq_false_iff, not_true_eq_false, not_false_eq_true, Int.not_lt, Int.not_le] at hb_; first | done | (exfalso; first | omega | contradiction)) | (case hf => intro hb_; try simp only [pd_true, pd_false, Bool.not_eq_true', Bool.not_eq_false', Bool.and_eq_true, Bool.and_eq_false_iff, Bool.or_eq_true, Bool.or_eq_false_iff, not_true_eq_false, not_false_eq_true, Int.not_lt, Int.not_le] at hb_; first | done | (exfalso; first | omega | contradiction))); intro hb_; try simp only [pd_true, pd_false, Bool.not_eq_true', Bool.not_eq_false', Bool.and_eq_true, Bool.and_eq_false_iff, Bool.or_eq_true, Bool.or_eq_false_iff, not_true_eq_false, not_false_eq_true, Int.not_lt, Int.not_le] at hb_) | ((with_reducible apply XC.cond); (case hc => exact rfl); (first | (case ht => intro hb_; try simp only [pd_true, pd_false, Bool.not_eq_true', Bool.not_eq_false', Bool.and_eq_true, Bool.and_eq_false_iff, Bool.or_eq_true, Bool.or_eq_false_iff, not_true_eq_false, not_false_eq_true, Int.not_lt, Int.not_le] at hb_; first | done | (exfalso; first | omega | contradiction)) | (case hf => intro hb_; try simp only [pd_true, pd_false, Bool.not_eq_true', Bool.not_eq_false', Bool.and_eq_true, Bool.and_eq_false_iff, Bool.or_eq_true, Bool.or_eq_false_iff, not_true_eq_false, not_false_eq_true, Int.not_lt, Int.not_le] at hb_; first | done | (exfalso; first | omega | contradiction))); intro hb_; try simp only [pd_true, pd_false, Bool.not_eq_true', Bool.not_eq_false', Bool.and_eq_true, Bool.and_eq_false_iff, Bool.or_eq_true, Bool.or_eq_false_iff, not_true_eq_false, not_false_eq_true, Int.not_lt, Int.not_le] at hb_))))
      ((with_reducible apply XQ.retE); (case hr => exact .row rfl (by kernel_rfl) (by kernel_rfl) (own_row (i := 2) (m := 18) rfl rfl) (.t rfl .nil)))
      exact ⟨[], .of (List.nil_sublist _), decR_none hres⟩
end Go.Proofs.YtppggaiahkecoaaDoorX
/- ModelDecodes: the weights that any bytes are, or the error; the model of them; the bytes stay. -/
namespace Go.Proofs.YtppggaiahkecoaaDoorX
open Go Go.SX

/-- The i-th mark behind the bytes. -/
def mkv (i : Nat) : Int := IntKind.u8.wrap (IntKind.i64.wrap (200 + Int.tmod (i : Int) 3))
def mkD (i : Nat) : List Int := (List.range i).map mkv
theorem mkD_len (i : Nat) : (mkD i).length = i := by simp [mkD]
theorem mkD_snoc (i : Nat) : mkD (i + 1) = mkD i ++ [mkv i] := by unfold mkD; rw [List.range_succ, List.map_append]; rfl
theorem mkv_isB (i : Nat) : 0 ≤ mkv i ∧ mkv i ≤ 255 := inK_u8.1 (inK_wrap _ _)
theorem mkD_isB (i : Nat) : isB (mkD i) := fun x hx => by
  obtain ⟨j, _, rfl⟩ := List.mem_map.1 hx
  exact mkv_isB j
theorem mkD_at (i : Nat) (h : i < 64) : (mkD 64)[i]? = some (mkv i) := by unfold mkD; rw [List.getElem?_map, List.getElem?_range h]; rfl
theorem own_byD {v : Value} {m : Nat} {xs : List Int} {F : HL} (h : OwnS 5 1 v m (xs.map (.int .u8)) F) (hb : isB xs) (hl : xs.length * 1 ≤ 140737488355328) :
    ∃ a c, v = .slice a m c ∧ m = xs.length ∧ Held F (fun h => byAt h xs a c) := by
  obtain ⟨a, c, rfl, hm, s⟩ := h.slA (by_ := 1) (fun y hy => inK_u8.2 (hb y hy)) hl
  exact ⟨a, c, by rw [hm], hm, Held.frag s (Mono.sl _ _ _ _ _)⟩
theorem eqWD_fn (x y : LW) {cx cy : List Value} (hx : x.cells = cx) (hy : y.cells = cy) (he : x.w = y.w) : FC Tryd.prog 23 [.agg ⟨cx⟩, .agg ⟨cy⟩] []
    (fun h => lwAt h x ∧ lwAt h y) (fun v L => v = .bool true ∧ L = []) := by subst hx; subst hy; exact eqWeightsT_fn x y he
set_option maxHeartbeats 8000000 in
set_option maxRecDepth 10000 in
theorem modelDecodes_fn (b : List Int) (a : Option Addr) (c : Nat) (hsz : b.length ≤ 1099511627776) : FC Tryd.prog 7 [.slice a b.length c] [] (fun h => sidesK h ∧ byAt h b a c) (fun v _ => v = .bool true) := by
  refine FC.intro Tryd.func7 rfl (by kernel_rfl) 104 [.tmp 2] rfl rfl rfl ?_
  rintro w0 ⟨hS, hB⟩
  have hbB : isB b := fun y hy => inK_u8.1 (hB.okAll y hy)
  (repeat (first | (with_reducible apply XL.op) | ((with_reducible apply XOp.p1); (case hg | hv => exact rfl)) | (with_reducible apply XL.nilT) | (with_reducible apply XC.seq) | (with_reducible apply XC.region (Γ := Γ)) | (((with_reducible apply XOp.callQ (hF := works_fn)); (case hg => exact rfl); (case hc => exact rfl); (case ha => exact rfl); try (case hA => exact Known.true)); (case hA => exact Known.of_old hS sides_mono); rintro _ rfl)))
  ((with_reducible apply XOp.callN (hF := copyBytes_fn b a c)); (case hg => exact rfl); (case hc => exact rfl); (case ha => exact rfl); try (case hA => exact Known.true))
  case hA => exact Known.of_old hB (Mono.sl _ _ _ _ _)
  rintro _ F2 hown
  obtain ⟨a2, c2, rfl⟩ := hown.val
  (repeat (first | (with_reducible apply XL.op) | ((with_reducible apply XOp.p1); (case hg | hv => exact rfl)) | (with_reducible apply XL.nilT) | (with_reducible apply XC.seq) | (with_reducible apply XC.region (Γ := Γ)) | (with_reducible apply XC.block)))
  refine XC.loopP (fun j ρ L => ∃ (i : Nat) (v : Value) (F : HL), i + j = 64 ∧ OwnS 5 1 v (b.length + i) ((b ++ mkD i).map (.int .u8)) F ∧ L = F ++ [] ∧ Slots ρ [(0, .slice a b.length c), (3, .bool true), (4, v), (5, .int .i64 i)])
    64 ⟨0, _, F2, by simp, hown.conv rfl (by simp [mkD]), by simp, rfl, rfl, rfl, rfl, trivial⟩ ?_
  rintro j ρ L ⟨i, v, F, hij, howni, rfl, hs⟩
  obtain ⟨a', c', rfl⟩ := howni.val
  refine XC.slots _ hs ?_
  (repeat (first | (with_reducible apply XL.op) | ((with_reducible apply XOp.p1); (case hg | hv => exact rfl)) | (with_reducible apply XL.nilT) | (with_reducible apply XC.seq) | (with_reducible apply XC.region (Γ := Γ))))
  ((with_reducible apply XC.cond); (case hc => exact rfl); all_goals (intro hb_; try simp only [pd_true, pd_false, Bool.not_eq_true', Bool.not_eq_false', Bool.and_eq_true, Bool.and_eq_false_iff, Bool.or_eq_true, Bool.or_eq_false_iff, not_true_eq_false, not_false_eq_true, Int.not_lt, Int.not_le] at hb_))
  · (repeat (first | (with_reducible apply XL.op) | ((with_reducible apply XOp.p1); (case hg | hv => exact rfl)) | (with_reducible apply XC.seq) | (with_reducible apply XC.region (Γ := Γ)) | (with_reducible apply XQ.skip) | (with_reducible apply XQ.nt) | (with_reducible apply XC.block)))
    ((with_reducible apply XOp.buildSlice); (case hg | ht | hk | he | hz | hzl | hf => exact rfl); intro bb)
    (repeat ((with_reducible apply XL.op)))
    ((with_reducible apply XOp.append1); (case hg => exact rfl); (case ht => exact rfl); (case hk => exact rfl); (case he => exact rfl); (case hown => exact howni); (case hs => exact rfl); (case hx => exact rfl); (case hL => exact rfl); (case hl => exact rfl); (case h1 => exact rfl); (case hz => exact rfl); (case hsz => exact Nat.zero_lt_succ _); (case hk0 => exact Nat.zero_lt_succ _); (case h63 => simp only [maxLen]; omega); (case hb => simp only []; omega); intro v_ F_ hown_; obtain ⟨a_, c_, rfl⟩ := hown_.val)
    (repeat (first | (with_reducible apply XL.op) | ((with_reducible apply XOp.p1); (case hg | hv => exact rfl)) | (with_reducible apply XL.nilT) | (with_reducible apply XC.region (Γ := Γ)) | (with_reducible apply XL.nilQ) | (with_reducible apply XQ.nt) | (with_reducible apply XQ.nb)))
    exact ⟨j - 1, by omega, _, .of (List.Sublist.refl _), i + 1, _, F_, by omega, hown_.conv (by omega) (by rw [mkD_snoc, ← List.append_assoc, List.map_append (l₁ := b ++ mkD i)]; rfl), rfl, rfl, rfl, rfl, intS (m := 64) (by omega) (by omega), trivial⟩
  obtain rfl : i = 64 := by omega
  clear hs hij
  have hat0 : 0 < b.length + 64 → a' = some ⟨ablk a', aoff a', none⟩ := fun _ => by rcases howni.2 with ⟨h, h2, _⟩ | ⟨g, cap, sp, h, _⟩ <;> cases h <;> rfl
  obtain ⟨a4, c4, e4, _, s4⟩ := own_byD howni (isB_app hbB (mkD_isB _)) (by rw [List.length_append, mkD_len]; omega)
  obtain ⟨rfl, _, rfl⟩ := Value.slice.inj e4
  have s5 : Held F (fun h => byAt h b a' c') := s4.imp fun h s => by have := SlA.takeC s b.length; rwa [List.take_left] at this
  (repeat (first | (with_reducible apply XL.op) | ((with_reducible apply XOp.p1); (case hg | hv => exact rfl)) | (with_reducible apply XC.seq) | (with_reducible apply XC.region (Γ := Γ)) | (with_reducible apply XQ.exit) | (with_reducible apply XQ.nt) | (with_reducible apply XQ.et) | ((with_reducible apply XQ.eb); (case hb => exact rfl))))
  (first | ((with_reducible apply XOp.pr); (case hg => exact rfl); (case hr => (with_reducible apply PR.sliceTo); (case ht => exact rfl); (case hk => exact rfl); (case he => exact rfl); (case hx => exact rfl); (case hh => exact rfl); (case hb => exact ⟨by omega, by have := howni.2; rcases this with ⟨h, _⟩ | ⟨g, cap, sp, h, _, h3, _⟩ <;> (cases h <;> omega)⟩))) | ((with_reducible apply XP.pr); (case ho => exact rfl); (case hg => exact rfl); (case hr => (with_reducible apply PR.sliceTo); (case ht => exact rfl); (case hk => exact rfl); (case he => exact rfl); (case hx => exact rfl); (case hh => exact rfl); (case hb => exact ⟨by omega, by have := howni.2; rcases this with ⟨h, _⟩ | ⟨g, cap, sp, h, _, h3, _⟩ <;> (cases h <;> omega)⟩))))
  (repeat (first | (with_reducible apply XL.op) | ((with_reducible apply XOp.p1); (case hg | hv => exact rfl)) | (with_reducible apply XL.nilT) | (with_reducible apply XC.seq) | (with_reducible apply XC.region (Γ := Γ))))
  rw [Int.toNat_natCast]
  obtain ⟨e, hee⟩ : ∃ e, errD b = e := ⟨_, rfl⟩
  ((with_reducible apply XOp.callN (hF := decode_fn b a' c')); (case hg => exact rfl); (case hc => exact rfl); (case ha => exact rfl); try (case hA => exact Known.true))
  case hA => exact Known.and (Known.of_old hS sides_mono) (s5.known fun y hy => by simp [hy])
  rintro _ F5 ⟨x5, rfl, hx5, hF5⟩
  rw [hee]
  (repeat (first | (with_reducible apply XL.op) | ((with_reducible apply XOp.p1); (case hg | hv => exact rfl))))
  ((with_reducible apply XOp.alloc); (case hg | ht | hx' => exact rfl); intro w5)
  (repeat (first | (with_reducible apply XL.op) | ((with_reducible apply XOp.p1); (case hg | hv => exact rfl)) | ((with_reducible apply XOp.storeN (i := 0)); (case hg | ht | hx | hv' | hk | h1 | hi | hs | ha => exact rfl)) | (with_reducible apply XL.nilT) | (with_reducible apply XC.seq) | (with_reducible apply XC.region (Γ := Γ))))
  ((with_reducible apply XOp.callN (hF := load_fn b a' c')); (case hg => exact rfl); (case hc => exact rfl); (case ha => exact rfl); try (case hA => exact Known.true))
  case hA => exact Known.and (Known.of_old hS sides_mono) (s5.known fun y hy => by simp [hy])
  rintro _ L3 hLd
  have hLd2 : (decS digS b = none ∧ e = 42) ∨ (∃ w, decS digS b = some w ∧ e = 0) := by
    cases hd : decS digS b with
    | none => exact .inl ⟨rfl, hee.symm.trans (errD_no hd)⟩
    | some w => exact .inr ⟨w, rfl, hee.symm.trans (errD_ok hd)⟩
  rcases hLd with ⟨hn, rfl, rfl⟩ | ⟨mb, x3, F3, hd3, rfl, rfl, hF3⟩
  case' inl => obtain ⟨p, hp⟩ : ∃ p : Option Addr, p = none := ⟨_, rfl⟩
  case' inr => obtain ⟨p, hp⟩ : ∃ p : Option Addr, p = some ⟨mb, 0, none⟩ := ⟨_, rfl⟩
  case' inl => have he : e = 42 := hee.symm.trans (errD_no hn)
  case' inr => have he : e = 0 := hee.symm.trans (errD_ok hd3)
  case' inl => have hpe : (!p.isNone == pd (e = 0)) = true := by rw [hp, he, pdf (by decide)]; rfl
  case' inr => have hpe : (!p.isNone == pd (e = 0)) = true := by rw [hp, he, pdt rfl]; rfl
  case' inl => have hwD : decW b = zeroLW.w := decW_no hn
  case' inr => have hwD : decW b = x3.w := decW_ok hd3
  all_goals
    (repeat (first | (with_reducible apply XL.op) | ((with_reducible apply XOp.p1); (case hg | hv => exact rfl)) | (with_reducible apply XL.nilT) | (with_reducible apply XC.seq) | (with_reducible apply XC.region (Γ := Γ))))
    ((with_reducible apply XOp.callN (hF := refDecode_fn b a c)); (case hg => exact rfl); (case hc => exact rfl); (case ha => exact rfl); try (case hA => exact Known.true))
    case hA => exact Known.of_old hB (Mono.sl _ _ _ _ _)
    rintro _ F7 ⟨x7, rfl, hx7, hF7⟩
    rw [hee]
    (repeat (first | (with_reducible apply XL.op) | ((with_reducible apply XOp.p1); (case hg | hv => exact rfl))))
    ((with_reducible apply XOp.alloc); (case hg | ht | hx' => exact rfl); intro w7)
    (repeat (first | (with_reducible apply XL.op) | ((with_reducible apply XOp.p1); (case hg | hv => exact rfl)) | ((with_reducible apply XOp.storeN (i := 0)); (case hg | ht | hx | hv' | hk | h1 | hi | hs | ha => exact rfl)) | (with_reducible apply XL.nilT) | (with_reducible apply XC.seq) | (with_reducible apply XC.region (Γ := Γ))))
  · have hm3 : x3.C.may := (dec_sound digS hbB hd3).1.c
    ((with_reducible apply XOp.callN (hF := wOf_fn mb x3 hm3)); (case hg => exact rfl); (case hc => exact rfl); (case ha => exact rfl); try (case hA => exact Known.true))
    case hA => exact Known.and (Known.of_old hS sides_mono) (Known.and ((Held.row (F := MdB mb x3 :: F3) (List.mem_cons_self ..)).known fun y hy => by rcases List.mem_cons.1 hy with rfl | hy <;> simp [*]) (hF3.known fun y hy => by simp [hy]))
    rintro _ F8 ⟨x8, rfl, hx8, hF8⟩
    (repeat ((with_reducible apply XL.op)))
    ((with_reducible apply XOp.alloc); (case hg | ht | hx' => exact rfl); intro w8)
    (repeat (first | (with_reducible apply XL.op) | ((with_reducible apply XOp.loadO (i := 1)); (case hg | ht | hk | hx | hi | hc => exact rfl)) | ((with_reducible apply XOp.loadO (i := 2)); (case hg | ht | hk | hx | hi | hc => exact rfl)) | ((with_reducible apply XOp.storeN (i := 0)); (case hg | ht | hx | hv' | hk | h1 | hi | hs | ha => exact rfl)) | (with_reducible apply XL.nilT) | (with_reducible apply XC.seq) | (with_reducible apply XC.region (Γ := Γ))))
    ((with_reducible apply XOp.callQ (hF := eqWD_fn x5 x7 rfl rfl (hx5.trans hx7.symm))); (case hg => exact rfl); (case hc => exact rfl); (case ha => exact rfl); try (case hA => exact Known.true))
    case hA => exact Known.and (hF5.known fun y hy => by simp [hy]) (hF7.known fun y hy => by simp [hy])
    rintro _ rfl
    (repeat (first | (with_reducible apply XL.op) | ((with_reducible apply XOp.p1); (case hg | hv => exact rfl)) | ((with_reducible apply XOp.loadO (i := 0)); (case hg | ht | hk | hx | hi | hc => exact rfl)) | ((with_reducible apply XOp.loadO (i := 1)); (case hg | ht | hk | hx | hi | hc => exact rfl))))
    ((with_reducible apply XOp.callQ (hF := eqWD_fn x8 x7 rfl rfl (hx8.trans (hwD.symm.trans hx7.symm)))); (case hg => exact rfl); (case hc => exact rfl); (case ha => exact rfl); try (case hA => exact Known.true))
    case hA => exact Known.and (hF8.held.known fun y hy => by simp [hy]) (hF7.known fun y hy => by simp [hy])
    rintro _ rfl
    (repeat (first | (with_reducible apply XL.op) | ((with_reducible apply XOp.p1); (case hg | hv => exact rfl)) | (with_reducible apply XL.nilT) | (with_reducible apply XC.seq) | (with_reducible apply XC.region (Γ := Γ)) | (with_reducible apply XC.block)))
    refine XC.loopP (fun j ρ L => ∃ i : Nat, i + j = 64 ∧ Held L (fun h => byAt h (b ++ mkD 64) a' c') ∧ Slots ρ [(0, .slice a b.length c), (3, .bool true), (4, .slice a' (b.length + 64) c'), (6, .slice a' b.length c'), (8, .int .i64 e), (9, .pointer p), (10, .int .i64 e), (12, .int .i64 e), (14, .bool true), (15, .int .i64 i)])
      64 ⟨0, by simp, s4.sub fun y hy => by simp [hy], rfl, rfl, rfl, rfl, rfl, congrArg Value.pointer hp.symm, congrArg (Value.int .i64) he.symm, rfl, rfl, rfl, trivial⟩ ?_
    rintro j ρ L ⟨i, hij, hLb, hs⟩
    refine XC.slots _ hs ?_
    (repeat (first | (with_reducible apply XL.op) | ((with_reducible apply XOp.p1); (case hg | hv => exact rfl)) | (with_reducible apply XL.nilT) | (with_reducible apply XC.seq) | (with_reducible apply XC.region (Γ := Γ))))
    ((with_reducible apply XC.cond); (case hc => exact rfl); all_goals (intro hb_; try simp only [pd_true, pd_false, Bool.not_eq_true', Bool.not_eq_false', Bool.and_eq_true, Bool.and_eq_false_iff, Bool.or_eq_true, Bool.or_eq_false_iff, not_true_eq_false, not_false_eq_true, Int.not_lt, Int.not_le] at hb_))
    · have epi : IntKind.i64.wrap ((b.length : Int) + (i : Int)) = ((b.length + i : Nat) : Int) := by rw [wrap64_of (by omega) (by omega)]; omega
      have hcell : Held L (fun h => cellv h ⟨ablk a', aoff a' + (b.length + i) * 1, none⟩ = some (.int .u8 (mkv i))) := hLb.imp fun h s => by
        have h1 := (s.int (b.length + i) (by rw [List.length_append, mkD_len]; omega)).1
        rw [List.getElem?_append_right (by omega), Nat.add_sub_cancel_left, mkD_at i (by omega)] at h1
        exact h1
      (repeat (first | (with_reducible apply XL.op) | ((with_reducible apply XOp.p1); (case hg | hv => exact rfl)) | ((with_reducible apply XOp.pr); (case hg => exact rfl); (case hr => ((with_reducible apply PR.idxA); (case ht | hk | he | hx | hi => exact rfl); (case hr => first | assumption | omega); (case ha => first | assumption | exact SlA.at_ (by assumption))))) | (with_reducible apply XC.seq) | (with_reducible apply XC.region (Γ := Γ)) | (with_reducible apply XQ.skip) | (with_reducible apply XQ.nt) | (with_reducible apply XC.block)))
      rw [epi]
      (repeat (first | (with_reducible apply XL.op) | ((with_reducible apply XOp.p1); (case hg | hv => exact rfl)) | (with_reducible apply XL.nilT) | (with_reducible apply XC.region (Γ := Γ)) | (with_reducible apply XL.nilQ) | (with_reducible apply XQ.nt) | (with_reducible apply XQ.nb) | (first | ((with_reducible apply XOp.load); (case hg | ht | hk | hx => exact rfl); (case hc => exact hcell.known fun y hy => hy)) | ((with_reducible apply XP.load); (case ho | hg | ht | hk | hx => exact rfl); (case hc => exact hcell.known fun y hy => hy)))))
      rw [pdt (show mkv i = IntKind.u8.wrap (IntKind.i64.wrap (200 + Int.tmod (i : Int) 3)) from rfl)]
      skip
      exact ⟨j - 1, by omega, L, .of (List.Sublist.refl _), i + 1, by omega, hLb, rfl, rfl, rfl, rfl, rfl, rfl, rfl, rfl, rfl, intS (m := 64) (by omega) (by omega), trivial⟩
    · subst hp
      (repeat (first | (with_reducible apply XL.op) | ((with_reducible apply XOp.p1); (case hg | hv => exact rfl)) | (with_reducible apply XC.seq) | (with_reducible apply XC.region (Γ := Γ)) | (with_reducible apply XQ.exit) | (with_reducible apply XQ.nt) | (with_reducible apply XQ.et) | ((with_reducible apply XQ.eb); (case hb => exact rfl)) | (first | ((with_reducible apply XOp.split); (case hg | hj | hd | hb => exact rfl); (fail_if_success (case hf => exact fun h => Bool.noConfusion h)); (fail_if_success (case ht => exact fun h => Bool.noConfusion h)); (first | (case ht => intro hb_; try simp only [pd_true, pd_false, Bool.not_eq_true', Bool.not_eq_false', Bool.and_eq_true, Bool.and_eq_false_iff, Bool.or_eq_true, Bool.or_eq_false_iff, not_true_eq_false, not_false_eq_true, Int.not_lt, Int.not_le] at hb_; first | done | (exfalso; first | omega | contradiction)) | (case hf => intro hb_; try simp only [pd_true, pd_false, Bool.not_eq_true', Bool.not_eq_false', Bool.and_eq_true, Bool.and_eq_false_iff, Bool.or_eq_true, Bool.or_eq_false_iff, not_true_eq_false, not_false_eq_true, Int.not_lt, Int.not_le] at hb_; first | done | (exfalso; first | omega | contradiction))); intro hb_; try simp only [pd_true, pd_false, Bool.not_eq_true', Bool.not_eq_false', Bool.and_eq_true, Bool.and_eq_false_iff, Bool.or_eq_true, Bool.or_eq_false_iff, not_true_eq_false, not_false_eq_true, Int.not_lt, Int.not_le] at hb_) | ((with_reducible apply XP.split); (case ho | hg | hj | hd | hb => exact rfl); (fail_if_success (case hf => exact fun h => Bool.noConfusion h)); (fail_if_success (case ht => exact fun h => Bool.noConfusion h)); (first | (case ht => intro hb_; try simp only [pd_true, pd_false, Bool.not_eq_true', Bool.not_eq_false', Bool.and_eq_true, Bool.and_eq_false_iff, Bool.or_eq_true, Bool.or_eq_false_iff, not_true_eq_false, not_false_eq_true, Int.not_lt, Int.not_le] at hb_; first | done | (exfalso; first | omega | contradiction)) | (case hf => intro hb_; try simp only [pd_true, pd_false, Bool.not_eq_true', Bool.not_eq_false', Bool.and_eq_true, Bool.and_eq_false_iff, Bool.or_eq_true, Bool.or_eq_false_iff, not_true_eq_false, not_false_eq_true, Int.not_lt, Int.not_le] at hb_; first | done | (exfalso; first | omega | contradiction))); intro hb_; try simp only [pd_true, pd_false, Bool.not_eq_true', Bool.not_eq_false', Bool.and_eq_true, Bool.and_eq_false_iff, Bool.or_eq_true, Bool.or_eq_false_iff, not_true_eq_false, not_false_eq_true, Int.not_lt, Int.not_le] at hb_) | ((with_reducible apply XC.cond); (case hc => exact rfl); (first | (case ht => intro hb_; try simp only [pd_true, pd_false, Bool.not_eq_true', Bool.not_eq_false', Bool.and_eq_true, Bool.and_eq_false_iff, Bool.or_eq_true, Bool.or_eq_false_iff, not_true_eq_false, not_false_eq_true, Int.not_lt, Int.not_le] at hb_; first | done | (exfalso; first | omega | contradiction)) | (case hf => intro hb_; try simp only [pd_true, pd_false, Bool.not_eq_true', Bool.not_eq_false', Bool.and_eq_true, Bool.and_eq_false_iff, Bool.or_eq_true, Bool.or_eq_false_iff, not_true_eq_false, not_false_eq_true, Int.not_lt, Int.not_le] at hb_; first | done | (exfalso; first | omega | contradiction))); intro hb_; try simp only [pd_true, pd_false, Bool.not_eq_true', Bool.not_eq_false', Bool.and_eq_true, Bool.and_eq_false_iff, Bool.or_eq_true, Bool.or_eq_false_iff, not_true_eq_false, not_false_eq_true, Int.not_lt, Int.not_le] at hb_)) | (first | (first | ((with_reducible apply XOp.pr); (case hg => exact rfl); (case hr => (with_reducible apply PR.eqNilP); (case ht => exact rfl); (case hk => exact rfl); (case hx => exact rfl); (case hy => exact rfl))) | ((with_reducible apply XP.pr); (case ho => exact rfl); (case hg => exact rfl); (case hr => (with_reducible apply PR.eqNilP); (case ht => exact rfl); (case hk => exact rfl); (case hx => exact rfl); (case hy => exact rfl)))) | (first | ((with_reducible apply XOp.pr); (case hg => exact rfl); (case hr => (with_reducible apply PR.neNilP); (case ht => exact rfl); (case hk => exact rfl); (case hx => exact rfl); (case hy => exact rfl))) | ((with_reducible apply XP.pr); (case ho => exact rfl); (case hg => exact rfl); (case hr => (with_reducible apply PR.neNilP); (case ht => exact rfl); (case hk => exact rfl); (case hx => exact rfl); (case hy => exact rfl))))) | (first | (first | ((with_reducible apply XOp.pr); (case hg => exact rfl); (case hr => (with_reducible apply PR.eqBB); (case ht => exact rfl); (case hk => exact rfl); (case hx => exact rfl); (case hy => exact rfl))) | ((with_reducible apply XP.pr); (case ho => exact rfl); (case hg => exact rfl); (case hr => (with_reducible apply PR.eqBB); (case ht => exact rfl); (case hk => exact rfl); (case hx => exact rfl); (case hy => exact rfl)))) | (first | ((with_reducible apply XOp.pr); (case hg => exact rfl); (case hr => (with_reducible apply PR.neBB); (case ht => exact rfl); (case hk => exact rfl); (case hx => exact rfl); (case hy => exact rfl))) | ((with_reducible apply XP.pr); (case ho => exact rfl); (case hg => exact rfl); (case hr => (with_reducible apply PR.neBB); (case ht => exact rfl); (case hk => exact rfl); (case hx => exact rfl); (case hy => exact rfl)))))))
      first | rw [pdt (show e = 0 from he)] | rw [pdf (show ¬ e = 0 by omega)]
      (repeat (first | (with_reducible apply XL.op) | ((with_reducible apply XOp.p1); (case hg | hv => exact rfl)) | (with_reducible apply XL.nilT) | (with_reducible apply XQ.ret) | (first | ((with_reducible apply XOp.split); (case hg | hj | hd | hb => exact rfl); (fail_if_success (case hf => exact fun h => Bool.noConfusion h)); (fail_if_success (case ht => exact fun h => Bool.noConfusion h)); (first | (case ht => intro hb_; try simp only [pd_true, pd_false, Bool.not_eq_true', Bool.not_eq_false', Bool.and_eq_true, Bool.and_eq_false_iff, Bool.or_eq_true, Bool.or_eq_false_iff, not_true_eq_false, not_false_eq_true, Int.not_lt, Int.not_le] at hb_; first | done | (exfalso; first | omega | contradiction)) | (case hf => intro hb_; try simp only [pd_true, pd_false, Bool.not_eq_true', Bool.not_eq_false', Bool.and_eq_true, Bool.and_eq_false_iff, Bool.or_eq_true, Bool.or_eq_false_iff, not_true_eq_false, not_false_eq_true, Int.not_lt, Int.not_le] at hb_; first | done | (exfalso; first | omega | contradiction))); intro hb_; try simp only [pd_true, pd_false, Bool.not_eq_true', Bool.not_eq_false', Bool.and_eq_true, Bool.and_eq_false_iff, Bool.or_eq_true, Bool.or_eq_false_iff, not_true_eq_false, not_false_eq_true, Int.not_lt, Int.not_le] at hb_) | ((with_reducible apply XP.split); (case ho | hg | hj | hd | hb => exact rfl); (fail_if_success (case hf => exact fun h => Bool.noConfusion h)); (fail_if_success (case ht => exact fun h => Bool.noConfusion h)); (first | (case ht => intro hb_; try simp only [pd_true, pd_false, Bool.not_eq_true', Bool.not_eq_false', Bool.and_eq_true, Bool.and_eq_false_iff, Bool.or_eq_true, Bool.or_eq_false_iff, not_true_eq_false, not_false_eq_true, Int.not_lt, Int.not_le] at hb_; first | done | (exfalso; first | omega | contradiction)) | (case hf => intro hb_; try simp only [pd_true, pd_false, Bool.not_eq_true', Bool.not_eq_false', Bool.and_eq_true, Bool.and_eq_false_iff, Bool.or_eq_true, Bool.or_eq_false_iff, not_true_eq_false, not_false_eq_true, Int.not_lt, Int.not_le] at hb_; first | done | (exfalso; first | omega | contradiction))); intro hb_; try simp only [pd_true, pd_false, Bool.not_eq_true', Bool.not_eq_false', Bool.and_eq_true, Bool.and_eq_false_iff, Bool.or_eq_true, Bool.or_eq_false_iff, not_true_eq_false, not_false_eq_true, Int.not_lt, Int.not_le] at hb_) | ((with_reducible apply XC.cond); (case hc => exact rfl); (first | (case ht => intro hb_; try simp only [pd_true, pd_false, Bool.not_eq_true', Bool.not_eq_false', Bool.and_eq_true, Bool.and_eq_false_iff, Bool.or_eq_true, Bool.or_eq_false_iff, not_true_eq_false, not_false_eq_true, Int.not_lt, Int.not_le] at hb_; first | done | (exfalso; first | omega | contradiction)) | (case hf => intro hb_; try simp only [pd_true, pd_false, Bool.not_eq_true', Bool.not_eq_false', Bool.and_eq_true, Bool.and_eq_false_iff, Bool.or_eq_true, Bool.or_eq_false_iff, not_true_eq_false, not_false_eq_true, Int.not_lt, Int.not_le] at hb_; first | done | (exfalso; first | omega | contradiction))); intro hb_; try simp only [pd_true, pd_false, Bool.not_eq_true', Bool.not_eq_false', Bool.and_eq_true, Bool.and_eq_false_iff, Bool.or_eq_true, Bool.or_eq_false_iff, not_true_eq_false, not_false_eq_true, Int.not_lt, Int.not_le] at hb_)) | (((with_reducible apply XOp.callQ (hF := eqBytesT_fn b a' a c' c)); (case hg => exact rfl); (case hc => exact rfl); (case ha => exact rfl); try (case hA => exact Known.true)); (case hA => exact Known.and ((hLb.imp fun h s => by have := SlA.takeC s b.length; rwa [List.take_left] at this).known fun y hy => hy) (Known.of_old hB (Mono.sl _ _ _ _ _))); rintro _ rfl)))
      ((with_reducible apply XQ.retE); (case hr => exact .t rfl .nil))
      rfl
  · ((with_reducible apply XOp.callQ (hF := wNil_fn)); (case hg => exact rfl); (case hc => exact rfl); (case ha => exact rfl); try (case hA => exact Known.true))
    rintro _ rfl
    (repeat ((with_reducible apply XL.op)))
    ((with_reducible apply XOp.alloc); (case hg | ht | hx' => exact rfl); intro w8)
    (repeat (first | (with_reducible apply XL.op) | ((with_reducible apply XOp.loadO (i := 1)); (case hg | ht | hk | hx | hi | hc => exact rfl)) | ((with_reducible apply XOp.loadO (i := 2)); (case hg | ht | hk | hx | hi | hc => exact rfl)) | ((with_reducible apply XOp.storeN (i := 0)); (case hg | ht | hx | hv' | hk | h1 | hi | hs | ha => exact rfl)) | (with_reducible apply XL.nilT) | (with_reducible apply XC.seq) | (with_reducible apply XC.region (Γ := Γ))))
    ((with_reducible apply XOp.callQ (hF := eqWD_fn x5 x7 rfl rfl (hx5.trans hx7.symm))); (case hg => exact rfl); (case hc => exact rfl); (case ha => exact rfl); try (case hA => exact Known.true))
    case hA => exact Known.and (hF5.known fun y hy => by simp [hy]) (hF7.known fun y hy => by simp [hy])
    rintro _ rfl
    (repeat (first | (with_reducible apply XL.op) | ((with_reducible apply XOp.p1); (case hg | hv => exact rfl)) | ((with_reducible apply XOp.loadO (i := 0)); (case hg | ht | hk | hx | hi | hc => exact rfl)) | ((with_reducible apply XOp.loadO (i := 1)); (case hg | ht | hk | hx | hi | hc => exact rfl))))
    ((with_reducible apply XOp.callQ (hF := eqWD_fn zeroLW x7 rfl rfl (hwD.symm.trans hx7.symm))); (case hg => exact rfl); (case hc => exact rfl); (case ha => exact rfl); try (case hA => exact Known.true))
    case hA => exact Known.and (fun _ _ => zeroLW_at _) (hF7.known fun y hy => by simp [hy])
    rintro _ rfl
    (repeat (first | (with_reducible apply XL.op) | ((with_reducible apply XOp.p1); (case hg | hv => exact rfl)) | (with_reducible apply XL.nilT) | (with_reducible apply XC.seq) | (with_reducible apply XC.region (Γ := Γ)) | (with_reducible apply XC.block)))
    refine XC.loopP (fun j ρ L => ∃ i : Nat, i + j = 64 ∧ Held L (fun h => byAt h (b ++ mkD 64) a' c') ∧ Slots ρ [(0, .slice a b.length c), (3, .bool true), (4, .slice a' (b.length + 64) c'), (6, .slice a' b.length c'), (8, .int .i64 e), (9, .pointer p), (10, .int .i64 e), (12, .int .i64 e), (14, .bool true), (15, .int .i64 i)])
      64 ⟨0, by simp, s4.sub fun y hy => by simp [hy], rfl, rfl, rfl, rfl, rfl, congrArg Value.pointer hp.symm, congrArg (Value.int .i64) he.symm, rfl, rfl, rfl, trivial⟩ ?_
    rintro j ρ L ⟨i, hij, hLb, hs⟩
    refine XC.slots _ hs ?_
    (repeat (first | (with_reducible apply XL.op) | ((with_reducible apply XOp.p1); (case hg | hv => exact rfl)) | (with_reducible apply XL.nilT) | (with_reducible apply XC.seq) | (with_reducible apply XC.region (Γ := Γ))))
    ((with_reducible apply XC.cond); (case hc => exact rfl); all_goals (intro hb_; try simp only [pd_true, pd_false, Bool.not_eq_true', Bool.not_eq_false', Bool.and_eq_true, Bool.and_eq_false_iff, Bool.or_eq_true, Bool.or_eq_false_iff, not_true_eq_false, not_false_eq_true, Int.not_lt, Int.not_le] at hb_))
    · have epi : IntKind.i64.wrap ((b.length : Int) + (i : Int)) = ((b.length + i : Nat) : Int) := by rw [wrap64_of (by omega) (by omega)]; omega
      have hcell : Held L (fun h => cellv h ⟨ablk a', aoff a' + (b.length + i) * 1, none⟩ = some (.int .u8 (mkv i))) := hLb.imp fun h s => by
        have h1 := (s.int (b.length + i) (by rw [List.length_append, mkD_len]; omega)).1
        rw [List.getElem?_append_right (by omega), Nat.add_sub_cancel_left, mkD_at i (by omega)] at h1
        exact h1
      (repeat (first | (with_reducible apply XL.op) | ((with_reducible apply XOp.p1); (case hg | hv => exact rfl)) | ((with_reducible apply XOp.pr); (case hg => exact rfl); (case hr => ((with_reducible apply PR.idxA); (case ht | hk | he | hx | hi => exact rfl); (case hr => first | assumption | omega); (case ha => first | assumption | exact SlA.at_ (by assumption))))) | (with_reducible apply XC.seq) | (with_reducible apply XC.region (Γ := Γ)) | (with_reducible apply XQ.skip) | (with_reducible apply XQ.nt) | (with_reducible apply XC.block)))
      rw [epi]
      (repeat (first | (with_reducible apply XL.op) | ((with_reducible apply XOp.p1); (case hg | hv => exact rfl)) | (with_reducible apply XL.nilT) | (with_reducible apply XC.region (Γ := Γ)) | (with_reducible apply XL.nilQ) | (with_reducible apply XQ.nt) | (with_reducible apply XQ.nb) | (first | ((with_reducible apply XOp.load); (case hg | ht | hk | hx => exact rfl); (case hc => exact hcell.known fun y hy => hy)) | ((with_reducible apply XP.load); (case ho | hg | ht | hk | hx => exact rfl); (case hc => exact hcell.known fun y hy => hy)))))
      rw [pdt (show mkv i = IntKind.u8.wrap (IntKind.i64.wrap (200 + Int.tmod (i : Int) 3)) from rfl)]
      skip
      exact ⟨j - 1, by omega, L, .of (List.Sublist.refl _), i + 1, by omega, hLb, rfl, rfl, rfl, rfl, rfl, rfl, rfl, rfl, rfl, intS (m := 64) (by omega) (by omega), trivial⟩
    · subst hp
      (repeat (first | (with_reducible apply XL.op) | ((with_reducible apply XOp.p1); (case hg | hv => exact rfl)) | (with_reducible apply XC.seq) | (with_reducible apply XC.region (Γ := Γ)) | (with_reducible apply XQ.exit) | (with_reducible apply XQ.nt) | (with_reducible apply XQ.et) | ((with_reducible apply XQ.eb); (case hb => exact rfl)) | (first | ((with_reducible apply XOp.split); (case hg | hj | hd | hb => exact rfl); (fail_if_success (case hf => exact fun h => Bool.noConfusion h)); (fail_if_success (case ht => exact fun h => Bool.noConfusion h)); (first | (case ht => intro hb_; try simp only [pd_true, pd_false, Bool.not_eq_true', Bool.not_eq_false', Bool.and_eq_true, Bool.and_eq_false_iff, Bool.or_eq_true, Bool.or_eq_false_iff, not_true_eq_false, not_false_eq_true, Int.not_lt, Int.not_le] at hb_; first | done | (exfalso; first | omega | contradiction)) | (case hf => intro hb_; try simp only [pd_true, pd_false, Bool.not_eq_true', Bool.not_eq_false', Bool.and_eq_true, Bool.and_eq_false_iff, Bool.or_eq_true, Bool.or_eq_false_iff, not_true_eq_false, not_false_eq_true, Int.not_lt, Int.not_le] at hb_; first | done | (exfalso; first | omega | contradiction))); intro hb_; try simp only [pd_true, pd_false, Bool.not_eq_true', Bool.not_eq_false', Bool.and_eq_true, Bool.and_eq_false_iff, Bool.or_eq_true, Bool.or_eq_false_iff, not_true_eq_false, not_false_eq_true, Int.not_lt, Int.not_le] at hb_) | ((with_reducible apply XP.split); (case ho | hg | hj | hd | hb => exact rfl); (fail_if_success (case hf => exact fun h => Bool.noConfusion h)); (fail_if_success (case ht => exact fun h => Bool.noConfusion h)); (first | (case ht => intro hb_; try simp only [pd_true, pd_false, Bool.not_eq_true', Bool.not_eq_false', Bool.and_eq_true, Bool.and_eq_false_iff, Bool.or_eq_true, Bool.or_eq_false_iff, not_true_eq_false, not_false_eq_true, Int.not_lt, Int.not_le] at hb_; first | done | (exfalso; first | omega | contradiction)) | (case hf => intro hb_; try simp only [pd_true, pd_false, Bool.not_eq_true', Bool.not_eq_false', Bool.and_eq_true, Bool.and_eq_false_iff, Bool.or_eq_true, Bool.or_eq_false_iff, not_true_eq_false, not_false_eq_true, Int.not_lt, Int.not_le] at hb_; first | done | (exfalso; first | omega | contradiction))); intro hb_; try simp only [pd_true, pd_false, Bool.not_eq_true', Bool.not_eq_false', Bool.and_eq_true, Bool.and_eq_false_iff, Bool.or_eq_true, Bool.or_eq_false_iff, not_true_eq_false, not_false_eq_true, Int.not_lt, Int.not_le] at hb_) | ((with_reducible apply XC.cond); (case hc => exact rfl); (first | (case ht => intro hb_; try simp only [pd_true, pd_false, Bool.not_eq_true', Bool.not_eq_false', Bool.and_eq_true, Bool.and_eq_false_iff, Bool.or_eq_true, Bool.or_eq_false_iff, not_true_eq_false, not_false_eq_true, Int.not_lt, Int.not_le] at hb_; first | done | (exfalso; first | omega | contradiction)) | (case hf => intro hb_; try simp only [pd_true, pd_false, Bool.not_eq_true', Bool.not_eq_false', Bool.and_eq_true, Bool.and_eq_false_iff, Bool.or_eq_true, Bool.or_eq_false_iff, not_true_eq_false, not_false_eq_true, Int.not_lt, Int.not_le] at hb_; first | done | (exfalso; first | omega | contradiction))); intro hb_; try simp only [pd_true, pd_false, Bool.not_eq_true', Bool.not_eq_false', Bool.and_eq_true, Bool.and_eq_false_iff, Bool.or_eq_true, Bool.or_eq_false_iff, not_true_eq_false, not_false_eq_true, Int.not_lt, Int.not_le] at hb_)) | (first | (first | ((with_reducible apply XOp.pr); (case hg => exact rfl); (case hr => (with_reducible apply PR.eqNilP); (case ht => exact rfl); (case hk => exact rfl); (case hx => exact rfl); (case hy => exact rfl))) | ((with_reducible apply XP.pr); (case ho => exact rfl); (case hg => exact rfl); (case hr => (with_reducible apply PR.eqNilP); (case ht => exact rfl); (case hk => exact rfl); (case hx => exact rfl); (case hy => exact rfl)))) | (first | ((with_reducible apply XOp.pr); (case hg => exact rfl); (case hr => (with_reducible apply PR.neNilP); (case ht => exact rfl); (case hk => exact rfl); (case hx => exact rfl); (case hy => exact rfl))) | ((with_reducible apply XP.pr); (case ho => exact rfl); (case hg => exact rfl); (case hr => (with_reducible apply PR.neNilP); (case ht => exact rfl); (case hk => exact rfl); (case hx => exact rfl); (case hy => exact rfl))))) | (first | (first | ((with_reducible apply XOp.pr); (case hg => exact rfl); (case hr => (with_reducible apply PR.eqBB); (case ht => exact rfl); (case hk => exact rfl); (case hx => exact rfl); (case hy => exact rfl))) | ((with_reducible apply XP.pr); (case ho => exact rfl); (case hg => exact rfl); (case hr => (with_reducible apply PR.eqBB); (case ht => exact rfl); (case hk => exact rfl); (case hx => exact rfl); (case hy => exact rfl)))) | (first | ((with_reducible apply XOp.pr); (case hg => exact rfl); (case hr => (with_reducible apply PR.neBB); (case ht => exact rfl); (case hk => exact rfl); (case hx => exact rfl); (case hy => exact rfl))) | ((with_reducible apply XP.pr); (case ho => exact rfl); (case hg => exact rfl); (case hr => (with_reducible apply PR.neBB); (case ht => exact rfl); (case hk => exact rfl); (case hx => exact rfl); (case hy => exact rfl)))))))
      first | rw [pdt (show e = 0 from he)] | rw [pdf (show ¬ e = 0 by omega)]
      (repeat (first | (with_reducible apply XL.op) | ((with_reducible apply XOp.p1); (case hg | hv => exact rfl)) | (with_reducible apply XL.nilT) | (with_reducible apply XQ.ret) | (first | ((with_reducible apply XOp.split); (case hg | hj | hd | hb => exact rfl); (fail_if_success (case hf => exact fun h => Bool.noConfusion h)); (fail_if_success (case ht => exact fun h => Bool.noConfusion h)); (first | (case ht => intro hb_; try simp only [pd_true, pd_false, Bool.not_eq_true', Bool.not_eq_false', Bool.and_eq_true, Bool.and_eq_false_iff, Bool.or_eq_true, Bool.or_eq_false_iff, not_true_eq_false, not_false_eq_true, Int.not_lt, Int.not_le] at hb_; first | done | (exfalso; first | omega | contradiction)) | (case hf => intro hb_; try simp only [pd_true, pd_false, Bool.not_eq_true', Bool.not_eq_false', Bool.and_eq_true, Bool.and_eq_false_iff, Bool.or_eq_true, Bool.or_eq_false_iff, not_true_eq_false, not_false_eq_true, Int.not_lt, Int.not_le] at hb_; first | done | (exfalso; first | omega | contradiction))); intro hb_; try simp only [pd_true, pd_false, Bool.not_eq_true', Bool.not_eq_false', Bool.and_eq_true, Bool.and_eq_false_iff, Bool.or_eq_true, Bool.or_eq_false_iff, not_true_eq_false, not_false_eq_true, Int.not_lt, Int.not_le] at hb_) | ((with_reducible apply XP.split); (case ho | hg | hj | hd | hb => exact rfl); (fail_if_success (case hf => exact fun h => Bool.noConfusion h)); (fail_if_success (case ht => exact fun h => Bool.noConfusion h)); (first | (case ht => intro hb_; try simp only [pd_true, pd_false, Bool.not_eq_true', Bool.not_eq_false', Bool.and_eq_true, Bool.and_eq_false_iff, Bool.or_eq_true, Bool.or_eq_false_iff, not_true_eq_false, not_false_eq_true, Int.not_lt, Int.not_le] at hb_; first | done | (exfalso; first | omega | contradiction)) | (case hf => intro hb_; try simp only [pd_true, pd_false, Bool.not_eq_true', Bool.not_eq_false', Bool.and_eq_true, Bool.and_eq_false_iff, Bool.or_eq_true, Bool.or_eq_false_iff, not_true_eq_false, not_false_eq_true, Int.not_lt, Int.not_le] at hb_; first | done | (exfalso; first | omega | contradiction))); intro hb_; try simp only [pd_true, pd_false, Bool.not_eq_true', Bool.not_eq_false', Bool.and_eq_true, Bool.and_eq_false_iff, Bool.or_eq_true, Bool.or_eq_false_iff, not_true_eq_false, not_false_eq_true, Int.not_lt, Int.not_le] at hb_) | ((with_reducible apply XC.cond); (case hc => exact rfl); (first | (case ht => intro hb_; try simp only [pd_true, pd_false, Bool.not_eq_true', Bool.not_eq_false', Bool.and_eq_true, Bool.and_eq_false_iff, Bool.or_eq_true, Bool.or_eq_false_iff, not_true_eq_false, not_false_eq_true, Int.not_lt, Int.not_le] at hb_; first | done | (exfalso; first | omega | contradiction)) | (case hf => intro hb_; try simp only [pd_true, pd_false, Bool.not_eq_true', Bool.not_eq_false', Bool.and_eq_true, Bool.and_eq_false_iff, Bool.or_eq_true, Bool.or_eq_false_iff, not_true_eq_false, not_false_eq_true, Int.not_lt, Int.not_le] at hb_; first | done | (exfalso; first | omega | contradiction))); intro hb_; try simp only [pd_true, pd_false, Bool.not_eq_true', Bool.not_eq_false', Bool.and_eq_true, Bool.and_eq_false_iff, Bool.or_eq_true, Bool.or_eq_false_iff, not_true_eq_false, not_false_eq_true, Int.not_lt, Int.not_le] at hb_)) | (((with_reducible apply XOp.callQ (hF := eqBytesT_fn b a' a c' c)); (case hg => exact rfl); (case hc => exact rfl); (case ha => exact rfl); try (case hA => exact Known.true)); (case hA => exact Known.and ((hLb.imp fun h s => by have := SlA.takeC s b.length; rwa [List.take_left] at this).known fun y hy => hy) (Known.of_old hB (Mono.sl _ _ _ _ _))); rintro _ rfl)))
      ((with_reducible apply XQ.retE); (case hr => exact .t rfl .nil))
      rfl
end Go.Proofs.YtppggaiahkecoaaDoorX
