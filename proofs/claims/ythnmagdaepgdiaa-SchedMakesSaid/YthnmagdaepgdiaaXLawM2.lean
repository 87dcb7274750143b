/- The laws' own helpers: seats with marks behind them. -/
import Derived.Test.YthnmagdaepgdiaaXLawM1
set_option linter.unusedSimpArgs false
set_option linter.unusedVariables false
namespace Go.Proofs.YthnmagdaepgdiaaX
open Go Go.SX

theorem put_row {A old B vs cs : List Value} {i : Nat} (hA : A.length = i * 5) (h : old.length = vs.length) (hc : cs = A ++ (old ++ B)) : lsetN cs (0 + i * 5) vs = some (A ++ (vs ++ B)) := by
  rw [hc, Nat.zero_add, ← hA]; exact lsetN_mid vs A old B h
theorem put_cell {A row B cs : List Value} {i j : Nat} {v : Value} (hA : A.length = i * 5) (hj : j < row.length) (hc : cs = A ++ (row ++ B)) : 0 + i * 5 + j < cs.length ∧ cs.set (0 + i * 5 + j) v = A ++ (row.set j v ++ B) := by
  subst hc
  refine ⟨by simp only [List.length_append]; omega, ?_⟩
  rw [Nat.zero_add, List.set_append_right _ _ (by omega), List.set_append_left _ _ (by omega), ← hA, Nat.add_sub_cancel_left]
def sM : Seat := ⟨-123456, 0, 0, 0, []⟩
def rowM : List Value := sM.cells (.slice none 0 0)
def marks (j : Nat) : List Value := (List.replicate j (sM, (none : Option Addr), 0)).flatMap sxv
theorem marks_len (j : Nat) : (marks j).length = j * 5 := by rw [marks, flat_len sxv 5 sxv_len, List.length_replicate]
theorem marks_succ (j : Nat) : marks (j + 1) = marks j ++ rowM := by
  rw [marks, List.replicate_succ', List.flatMap_append]; simp [marks, sxv, rowM, sM]
def z5 : List Value := [.int .i64 0, .int .i64 0, .int .i64 0, .int .i64 0, .slice none 0 0]
def MkOk (x : SV) (F : HL) : Prop := x.1.ok ∧ ∃ hb, x.2 = (some ⟨hb, 0, none⟩, x.1.Held.length + 64) ∧ (hb, Obj.cells ⟨(x.1.Held ++ mk64).map (.int .i64)⟩ 3 (0, 0)) ∈ F
theorem MkOk.sub {x : SV} {F G : HL} (h : MkOk x F) (s : ∀ z ∈ F, z ∈ G) : MkOk x G := by
  obtain ⟨h1, hb, h2, h3⟩ := h
  exact ⟨h1, hb, h2, s _ h3⟩
/-- Seats with marks behind them, made by a call. -/
def MkSeats (v : Value) (seats : List Seat) (L : HL) : Prop :=
  ∃ (b : Nat) (tv : List SV) (Fh : HL), v = .slice (some ⟨b, 0, none⟩) seats.length (seats.length + 64) ∧ tv.map (·.1) = seats ∧ L = (b, .cells ⟨tv.flatMap sxv ++ marks 64⟩ 46 (0, 0)) :: Fh ∧ ∀ x ∈ tv, MkOk x Fh
set_option maxHeartbeats 4000000 in
theorem markedSeats_fn (seats : List Seat) (a : Option Addr) (cap : Nat) : FC Try.prog 15 [.slice a seats.length cap] [] (fun h => SlA seatK 56 h seats a cap)
    (fun v L => MkSeats v seats L) := by
  refine FC.intro Try.func15 rfl (by kernel_rfl) 44 [.tmp 2] rfl rfl rfl ?_
  intro w0 hA
  have hsm := hA.bytes
  (repeat (first | (with_reducible apply XL.op) | ((with_reducible apply XOp.p1); (case hg | hv => exact rfl)) | (with_reducible apply XL.nilT) | (with_reducible apply XC.seq) | (with_reducible apply XC.region (Γ := Γ))))
  ((with_reducible apply XOp.make (k := seats.length + 64) (c := seats.length + 64)); (case hg => exact rfl); (case ht => exact rfl); (case hk => exact rfl); (case he => exact rfl); (case hz => exact rfl); (case hzl => exact rfl); (case hx => (show Value.int _ _ = Value.int _ _; rw [wrap64_of (by omega) (by omega)]; rfl)); (case hy => (show Value.int _ _ = Value.int _ _; rw [wrap64_of (by omega) (by omega)]; rfl)); (case hkc => omega); (case hb => simp only []; omega); (case h63 => omega); intro b)
  (repeat (first | (with_reducible apply XL.op) | ((with_reducible apply XOp.p1); (case hg | hv => exact rfl)) | (with_reducible apply XL.nilT) | (with_reducible apply XC.seq) | (with_reducible apply XC.region (Γ := Γ)) | (with_reducible apply XC.block)))
  refine XC.loop (fun k ρ L => ∃ (i j : Nat) (tv : List SV) (Fh : HL), i + k = seats.length + 64 ∧ j = i - seats.length ∧ tv.map (·.1) = seats.take i ∧ L = (b, .cells ⟨(tv.flatMap sxv ++ marks j) ++ zerosL z5 k⟩ 46 (0, 0)) :: Fh ∧ (∀ x ∈ tv, MkOk x Fh) ∧
      Slots ρ [(0, .slice a seats.length cap), (3, .slice (some ⟨b, 0, none⟩) (seats.length + 64) (seats.length + 64)), (4, .int .i64 i)])
    (seats.length + 64) ⟨0, 0, [], [], by simp, by simp, rfl, rfl, by simp, rfl, rfl, rfl, trivial⟩ ?_
  rintro k ρ L ⟨i, j, tv, Fh, hik, hj, htv, rfl, hx, hs⟩
  refine XC.slots _ hs ?_
  (repeat (first | (with_reducible apply XL.op) | ((with_reducible apply XOp.p1); (case hg | hv => exact rfl)) | (with_reducible apply XL.nilT) | (with_reducible apply XC.seq) | (with_reducible apply XC.region (Γ := Γ))))
  ((with_reducible apply XC.cond); (case hc => exact rfl); all_goals (intro hb_; try simp only [pd_true, pd_false, Bool.not_eq_true', Bool.not_eq_false', Bool.and_eq_true, Bool.and_eq_false_iff, Bool.or_eq_true, Bool.or_eq_false_iff, not_true_eq_false, not_false_eq_true, Int.not_lt, Int.not_le] at hb_))
  · obtain ⟨k, rfl⟩ : ∃ m, k = m + 1 := ⟨k - 1, by omega⟩
    have htl : tv.length = min i seats.length := by rw [← List.length_map (f := (·.1)), htv, List.length_take]
    have hAl : (tv.flatMap sxv ++ marks j).length = i * 5 := by rw [List.length_append, flat_len sxv 5 sxv_len, marks_len, htl, ← Nat.add_mul]; congr 1; omega
    (repeat (first | (with_reducible apply XL.op) | ((with_reducible apply XOp.p1); (case hg | hv => exact rfl)) | ((with_reducible apply XOp.pr); (case hg => exact rfl); (case hr => ((with_reducible apply PR.idx); (case ht | hk | he | hx | hi => exact rfl); (case hr => first | assumption | omega)))) | ((with_reducible apply XOp.pr); (case hg => exact rfl); (case hr => ((with_reducible apply PR.build); (case ht | hk | hok | hz | hf => exact rfl)))) | (with_reducible apply XC.seq) | (with_reducible apply XC.region (Γ := Γ)) | (with_reducible apply XQ.skip) | (with_reducible apply XQ.nt) | (with_reducible apply XC.block)))
    ((with_reducible apply XOp.storeN (i := 0) (cs' := ((tv.flatMap sxv ++ marks j) ++ (rowM ++ zerosL z5 k)))); (case hg => exact rfl); (case ht => exact rfl); (case hx => exact rfl); (case hv' => exact rfl); (case hk => exact rfl); (case h1 => exact rfl); (case hi => exact rfl); (case hs => exact (put_row (old := z5) (B := zerosL z5 k) hAl rfl rfl)); (case ha => exact rfl))
    (repeat (first | (with_reducible apply XL.op) | ((with_reducible apply XOp.p1); (case hg | hv => exact rfl)) | (with_reducible apply XL.nilT) | (with_reducible apply XC.seq) | (with_reducible apply XC.region (Γ := Γ))))
    ((with_reducible apply XC.cond); (case hc => exact rfl); all_goals (intro hb_; try simp only [pd_true, pd_false, Bool.not_eq_true', Bool.not_eq_false', Bool.and_eq_true, Bool.and_eq_false_iff, Bool.or_eq_true, Bool.or_eq_false_iff, not_true_eq_false, not_false_eq_true, Int.not_lt, Int.not_le] at hb_))
    · obtain ⟨s, hi⟩ : ∃ s, seats[i]? = some s := ⟨_, List.getElem?_eq_getElem (by omega)⟩
      obtain ⟨ah, ch, hrow, hH, hsk⟩ := SlA_seat hA hi
      have hs4 : cellv (oldv w0 (keys [])) ⟨ablk a, aoff a + i * 5 + 4, none⟩ = some (.slice ah s.Held.length ch) := hrow 4 _ rfl
      (repeat (first | (with_reducible apply XL.op) | ((with_reducible apply XOp.p1); (case hg | hv => exact rfl)) | ((with_reducible apply XOp.pr); (case hg => exact rfl); (case hr => ((with_reducible apply PR.idxA); (case ht | hk | he | hx | hi => exact rfl); (case hr => first | assumption | omega); (case ha => first | assumption | exact SlA.at_ (by assumption))))) | ((with_reducible apply XOp.pr); (case hg => exact rfl); (case hr => ((with_reducible apply PR.idx); (case ht | hk | he | hx | hi => exact rfl); (case hr => first | assumption | omega)))) | (with_reducible apply XC.seq) | (with_reducible apply XC.region (Γ := Γ)) | (first | ((with_reducible apply XOp.loadN); (case hg | ht | hk | hx => exact rfl); (case hc => exact Known.of_old hrow (Mono.row _ _ _)); (case hl => exact rfl)) | ((with_reducible apply XP.loadN); (case ho | hg | ht | hk | hx => exact rfl); (case hc => exact Known.of_old hrow (Mono.row _ _ _)); (case hl => exact rfl)))))
      ((with_reducible apply XOp.storeN (i := 0) (cs' := ((tv.flatMap sxv ++ marks j) ++ (s.cells (.slice ah s.Held.length ch) ++ zerosL z5 k)))); (case hg => exact rfl); (case ht => exact rfl); (case hx => exact rfl); (case hv' => exact rfl); (case hk => exact rfl); (case h1 => exact rfl); (case hi => exact rfl); (case hs => exact (put_row (old := rowM) (B := zerosL z5 k) hAl rfl rfl)); (case ha => exact rfl))
      (repeat (first | (with_reducible apply XL.op) | ((with_reducible apply XOp.p1); (case hg | hv => exact rfl)) | ((with_reducible apply XOp.pr); (case hg => exact rfl); (case hr => ((with_reducible apply PR.idxA); (case ht | hk | he | hx | hi => exact rfl); (case hr => first | assumption | omega); (case ha => first | assumption | exact SlA.at_ (by assumption))))) | (with_reducible apply XL.nilT) | (with_reducible apply XC.region (Γ := Γ)) | (first | ((with_reducible apply XOp.load); (case hg | ht | hk | hx => exact rfl); (case hc => exact Known.of_old hs4 (Mono.cell _ _))) | ((with_reducible apply XP.load); (case ho | hg | ht | hk | hx => exact rfl); (case hc => exact Known.of_old hs4 (Mono.cell _ _))))))
      ((with_reducible apply XOp.call (hF := marked_fn s.Held ah ch)); (case hg => exact rfl); (case hc => exact rfl); (case ha => exact rfl); (case hL => exact (List.nil_append _).symm); try (case hA => exact Known.true))
      · exact Known.of_old hH (Mono.sl _ _ _ _ _)
      rintro _ _ ⟨hb, rfl, rfl⟩
      (repeat (first | (with_reducible apply XL.op) | ((with_reducible apply XOp.p1); (case hg | hv => exact rfl)) | ((with_reducible apply XOp.pr); (case hg => exact rfl); (case hr => ((with_reducible apply PR.idx); (case ht | hk | he | hx | hi => exact rfl); (case hr => first | assumption | omega))))))
      (refine XOp.perm (L := (hb, .cells ⟨(s.Held ++ mk64).map (.int .i64)⟩ 3 (0, 0)) :: (b, .cells ⟨(tv.flatMap sxv ++ marks j) ++ (s.cells (.slice ah s.Held.length ch) ++ zerosL z5 k)⟩ 46 (0, 0)) :: Fh) (L' :=  (b, .cells ⟨(tv.flatMap sxv ++ marks j) ++ (s.cells (.slice ah s.Held.length ch) ++ zerosL z5 k)⟩ 46 (0, 0)) :: (hb, .cells ⟨(s.Held ++ mk64).map (.int .i64)⟩ 3 (0, 0)) :: Fh) rfl ?_ (by (first | (with_reducible exact List.Perm.refl _) | refine perm_of_cnt fun p_ => ?_; simp only [List.countP_append, List.countP_cons, List.countP_nil]; omega)))
      ((with_reducible apply XOp.storeE (i := 0) (cs' := ((tv.flatMap sxv ++ marks j) ++ (s.cells (.slice (some ⟨hb, 0, none⟩) s.Held.length (s.Held.length + 64)) ++ zerosL z5 k)))); (case hg => exact rfl); (case ht => exact rfl); (case hk => exact rfl); (case hx => exact rfl); (case hv' => exact rfl); (case h1 => exact rfl); (case hi => exact rfl); (case hs => exact (put_cell (row := s.cells (.slice ah s.Held.length ch)) (j := 4) hAl (Nat.lt_succ_self 4) rfl)); (case ha => exact rfl))
      (repeat (first | (with_reducible apply XL.op) | ((with_reducible apply XOp.p1); (case hg | hv => exact rfl)) | (with_reducible apply XL.nilT) | (with_reducible apply XC.region (Γ := Γ)) | (with_reducible apply XL.nilQ) | (with_reducible apply XQ.nt) | (with_reducible apply XQ.nb)))
      obtain rfl : j = 0 := by omega
      refine ⟨k, by omega, i + 1, 0, tv ++ [(s, some ⟨hb, 0, none⟩, s.Held.length + 64)], (hb, .cells ⟨(s.Held ++ mk64).map (.int .i64)⟩ 3 (0, 0)) :: Fh, by omega, by omega, by rw [take_snoc hi, List.map_append, htv]; rfl, ?_, ?_, rfl, rfl, intS (m := seats.length + 64) (by omega) (by omega), trivial⟩
      · rw [List.flatMap_append]; simp [marks, sxv]
      · intro x hxm
        rcases List.mem_append.1 hxm with h | h
        · exact (hx x h).sub (fun z hz => List.mem_cons_of_mem _ hz)
        · rw [List.mem_singleton.1 h]
          exact ⟨hsk, hb, rfl, List.mem_cons_self ..⟩
    · (repeat (first | (with_reducible apply XL.op) | ((with_reducible apply XOp.p1); (case hg | hv => exact rfl)) | (with_reducible apply XL.nilT) | (with_reducible apply XC.region (Γ := Γ)) | (with_reducible apply XQ.skip) | (with_reducible apply XQ.nt) | (with_reducible apply XQ.nb)))
      refine ⟨k, by omega, i + 1, j + 1, tv, _, by omega, by omega, by rw [htv, List.take_of_length_le (by omega), List.take_of_length_le (by omega)], ?_, hx, rfl, rfl, intS (m := seats.length + 64) (by omega) (by omega), trivial⟩
      rw [marks_succ]; simp [List.append_assoc]
  · (repeat (first | (with_reducible apply XL.op) | ((with_reducible apply XOp.p1); (case hg | hv => exact rfl)) | (with_reducible apply XC.seq) | (with_reducible apply XC.region (Γ := Γ)) | (with_reducible apply XQ.exit) | (with_reducible apply XQ.nt) | (with_reducible apply XQ.et) | ((with_reducible apply XQ.eb); (case hb => exact rfl))))
    (first | ((with_reducible apply XOp.pr); (case hg => exact rfl); (case hr => (with_reducible apply PR.sliceTo); (case ht => exact rfl); (case hk => exact rfl); (case he => exact rfl); (case hx => exact rfl); (case hh => exact rfl); (case hb => omega))) | ((with_reducible apply XP.pr); (case ho => exact rfl); (case hg => exact rfl); (case hr => (with_reducible apply PR.sliceTo); (case ht => exact rfl); (case hk => exact rfl); (case he => exact rfl); (case hx => exact rfl); (case hh => exact rfl); (case hb => omega))))
    (repeat (first | (with_reducible apply XL.op) | ((with_reducible apply XOp.p1); (case hg | hv => exact rfl)) | (with_reducible apply XL.nilT) | (with_reducible apply XQ.ret)))
    ((with_reducible apply XQ.retE); (case hr => exact .t rfl .nil))
    obtain rfl : k = 0 := by omega
    obtain rfl : j = 64 := by omega
    rw [List.take_of_length_le (by omega)] at htv
    exact ⟨b, tv, Fh, rfl, htv, by simp [zerosL], hx⟩
end Go.Proofs.YthnmagdaepgdiaaX
