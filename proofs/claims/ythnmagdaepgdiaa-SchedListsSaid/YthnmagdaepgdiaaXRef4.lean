/- The reference: who comes next. -/
import Derived.Test.YthnmagdaepgdiaaXRef3
set_option linter.unusedSimpArgs false
set_option linter.unusedVariables false
namespace Go.Proofs.YthnmagdaepgdiaaX
open Go Go.SX

/-- May a seat come, behind one of that Id (or at first)? -/
def canPick (picks : List Int) (id : Int) (first : Bool) (z : Seat) : Prop := z.Id ∈ picks ∧ (first = true ∨ id < z.Id)
def IsNxt (T : List Seat) (picks : List Int) (id : Int) (first : Bool) (y : Seat) : Prop := y ∈ T ∧ canPick picks id first y ∧ ∀ z ∈ T, canPick picks id first z → y.Id ≤ z.Id
def NS (T : List Seat) (picks : List Int) (id : Int) (first : Bool) (i : Nat) (bk : Int) : Prop :=
  (bk = -1 ∧ ∀ z ∈ T.take i, ¬ canPick picks id first z) ∨ ∃ (j : Nat) (y : Seat), bk = j ∧ j < i ∧ T[j]? = some y ∧ IsNxt (T.take i) picks id first y
theorem NS.new {T : List Seat} {picks : List Int} {id : Int} {first : Bool} {i : Nat} {bk : Int} {s : Seat} (h : NS T picks id first i bk) (hi : T[i]? = some s) (hc : canPick picks id first s)
    (hb : ∀ (j : Nat) (y : Seat), bk = j → T[j]? = some y → s.Id < y.Id) : NS T picks id first (i + 1) i := by
  refine .inr ⟨i, s, rfl, by omega, hi, ?_⟩
  rw [take_snoc hi]
  refine ⟨by simp, hc, fun z hz hg => ?_⟩
  rcases List.mem_append.1 hz with h1 | h1
  · rcases h with ⟨_, hno⟩ | ⟨j, y, e, _, hj, _, _, hy⟩
    · exact absurd hg (hno z h1)
    · have := hb j y e hj; have := hy z h1 hg; omega
  · rw [List.mem_singleton.1 h1]; omega
theorem NS.old {T : List Seat} {picks : List Int} {id : Int} {first : Bool} {i : Nat} {bk : Int} {s : Seat} (h : NS T picks id first i bk) (hi : T[i]? = some s) (hc : ¬ canPick picks id first s ∨ ∃ (j : Nat) (y : Seat), bk = j ∧ T[j]? = some y ∧ y.Id ≤ s.Id) :
    NS T picks id first (i + 1) bk := by
  unfold NS; rw [take_snoc hi]
  rcases h with ⟨e, hno⟩ | ⟨j, y, e, hji, hj, h1, h2, hy⟩
  · refine .inl ⟨e, fun z hz => ?_⟩
    rcases List.mem_append.1 hz with h1 | h1
    · exact hno z h1
    · rw [List.mem_singleton.1 h1]
      rcases hc with h | ⟨j, y, e2, _⟩
      · exact h
      · omega
  · refine .inr ⟨j, y, e, by omega, hj, List.mem_append_left _ h1, h2, fun z hz hg => ?_⟩
    rcases List.mem_append.1 hz with h3 | h3
    · exact hy z h3 hg
    · rw [List.mem_singleton.1 h3] at hg ⊢
      rcases hc with h | ⟨j2, y2, e2, hj2, hle⟩
      · exact absurd hg h
      · have : j2 = j := by omega
        subst this
        rw [hj2] at hj; cases hj; exact hle
theorem NS.lt {T : List Seat} {j : Nat} {y s : Seat} (hj : T[j]? = some y) (h : s.Id < y.Id) : ∀ (j2 : Nat) (y2 : Seat), (j : Int) = j2 → T[j2]? = some y2 → s.Id < y2.Id := by
  intro j2 y2 e h2
  obtain rfl : j = j2 := by omega
  rw [hj] at h2; cases h2; exact h

theorem refNext_fn (wb : Nat) (c : Srv) (seats : List Seat) (a : Option Addr) (cap : Nat) (out : List Int) (oa : Option Addr) (oc : Nat) (given left : Int) (id : Int) (first : Bool) (ol : List Int) (la : Option Addr) (lc : Nat) :
    FC Try.prog 38 [.pointer (some ⟨wb, 0, none⟩), .slice la ol.length lc, .int .i64 id, .bool first] [] (fun h => RW wb c seats a cap out oa oc given left h ∧ SlA (Kd.int .i64) 8 h ol la lc)
    (fun v L => (∃ (k : Int), v = .int .i64 k ∧ NS seats ol id first seats.length k) ∧ L = []) := by
  refine FC.nil ?_
  refine FC.intro Try.func38 rfl (by kernel_rfl) 60 [.tmp 8] rfl rfl rfl ?_
  rintro w0 ⟨hA, hO⟩
  have hst := hA.seats
  have hsm := hst.bytes
  (repeat (first | (with_reducible apply XL.op) | ((with_reducible apply XOp.p1); (case hg | hv => exact rfl)) | (with_reducible apply XL.nilT) | (with_reducible apply XC.seq) | (with_reducible apply XC.region (Γ := Γ)) | (with_reducible apply XC.block)))
  refine XC.loopS (fun k ρ L => ∃ (i : Nat) (bk : Int), i + k = seats.length ∧ L = [] ∧ NS seats ol id first i bk ∧
      Slots ρ [(0, .pointer (some ⟨wb, 0, none⟩)), (1, .slice la ol.length lc), (2, .int .i64 id), (3, .bool first), (9, .int .i64 bk), (10, .int .i64 i)]) seats.length ⟨0, -1, by simp, rfl, .inl ⟨rfl, by simp⟩, rfl, rfl, rfl, rfl, rfl, rfl, trivial⟩ ?_
  rintro k ρ L ⟨i, bk, hik, rfl, hbk, hs⟩
  refine XC.slots _ hs ?_
  (repeat (first | (with_reducible apply XL.op) | ((with_reducible apply XOp.p1); (case hg | hv => exact rfl)) | (with_reducible apply XL.nilT) | (with_reducible apply XC.seq) | (with_reducible apply XC.region (Γ := Γ)) | (first | ((with_reducible apply XOp.load); (case hg | ht | hk | hx => exact rfl); (case hc => exact Known.of_old (hA.cell 5 rfl) (Mono.cell _ _))) | ((with_reducible apply XP.load); (case ho | hg | ht | hk | hx => exact rfl); (case hc => exact Known.of_old (hA.cell 5 rfl) (Mono.cell _ _))))))
  ((with_reducible apply XC.cond); (case hc => exact rfl); all_goals (intro hb_; try simp only [pd_true, pd_false, Bool.not_eq_true', Bool.not_eq_false', Bool.and_eq_true, Bool.and_eq_false_iff, Bool.or_eq_true, Bool.or_eq_false_iff, not_true_eq_false, not_false_eq_true, Int.not_lt, Int.not_le] at hb_))
  · obtain ⟨s, hi⟩ : ∃ s, seats[i]? = some s := ⟨_, List.getElem?_eq_getElem (by omega)⟩
    obtain ⟨ah, ch, hrow, hH, hsk⟩ := SlA_seat hst hi
    (repeat (first | (with_reducible apply XL.op) | ((with_reducible apply XOp.p1); (case hg | hv => exact rfl)) | ((with_reducible apply XOp.pr); (case hg => exact rfl); (case hr => ((with_reducible apply PR.idxA); (case ht | hk | he | hx | hi => exact rfl); (case hr => first | assumption | omega); (case ha => first | assumption | exact SlA.at_ (by assumption))))) | (with_reducible apply XC.seq) | (with_reducible apply XC.region (Γ := Γ)) | (with_reducible apply XQ.skip) | (with_reducible apply XQ.nt) | (with_reducible apply XC.block) | (first | ((with_reducible apply XOp.load); (case hg | ht | hk | hx => exact rfl); (case hc => exact Known.of_old (hA.cell 5 rfl) (Mono.cell _ _))) | ((with_reducible apply XP.load); (case ho | hg | ht | hk | hx => exact rfl); (case hc => exact Known.of_old (hA.cell 5 rfl) (Mono.cell _ _)))) | (first | ((with_reducible apply XOp.loadN); (case hg | ht | hk | hx => exact rfl); (case hc => exact Known.of_old hrow (Mono.row _ _ _)); (case hl => exact rfl)) | ((with_reducible apply XP.loadN); (case ho | hg | ht | hk | hx => exact rfl); (case hc => exact Known.of_old hrow (Mono.row _ _ _)); (case hl => exact rfl)))))
    ((with_reducible apply XOp.alloc); (case hg | ht | hx' => exact rfl); intro sb)
    have hys := hbk
    rcases hbk with ⟨rfl, hno⟩ | ⟨j, y, rfl, hji, hj, hy⟩
    · cases first
      all_goals (repeat' (first | (with_reducible apply XL.op) | ((with_reducible apply XOp.p1); (case hg | hv => exact rfl)) | ((with_reducible apply XOp.storeN (i := 0)); (case hg | ht | hx | hv' | hk | h1 | hi | hs | ha => exact rfl)) | (with_reducible apply XL.nilT) | (with_reducible apply XC.seq) | (with_reducible apply XC.region (Γ := Γ)) | (with_reducible apply XL.nilQ) | (with_reducible apply XQ.skip) | (with_reducible apply XQ.nt) | (with_reducible apply XQ.nb) | ((with_reducible apply XP.p1); (case ho | hg | hv => exact rfl)) | ((with_reducible apply XP.p0); (case ho | hg => exact rfl)) | ((with_reducible apply XP.load); (case ho | hg | ht | hk | hx => exact rfl); (case hc => exact own_cell (i := 0) rfl rfl)) | (with_reducible apply XP.done) | ((with_reducible apply XP.e); (first | ((with_reducible apply XE.d); (case ho => exact rfl); (case hd => exact rfl)) | ((with_reducible apply XE.e); (case ho => exact rfl)))) | ((with_reducible apply XP.keep); (case hk => first | ((repeat' (first | exact List.forall_mem_nil _ | (with_reducible refine List.forall_mem_cons.2 ⟨?_, ?_⟩) | exact List.mem_cons_self .. | (with_reducible apply List.mem_cons_of_mem) | (with_reducible apply List.mem_append_right))); done) | (intro x hx; first | exact sel_in hx | exact List.mem_cons_of_mem _ (sel_in hx) | exact List.mem_append_right _ (sel_in hx) | exact hx | exact List.mem_cons_of_mem _ hx | exact List.mem_append_right _ hx | ((repeat (first | exact sel_in hx | exact hx | (with_reducible apply List.mem_cons_of_mem) | (with_reducible apply List.mem_append_right))); done) | cases hx))) | ((with_reducible apply XC.condT); (case hc => exact rfl)) | ((with_reducible apply XC.condF); (case hc => exact rfl)) | ((with_reducible apply XC.regionD (Γ := Γ) mixed (.q 0 (.q 1 (.q 2 (.e 3 (.q 4 (.q 5 (.q 6 (.q 7 (.q 8 (.q 9 (.q 10 (.q 11 (.q 12 (.q 13 (.q 14 (.q 15 (.q 16 (.q 17 (.q 18 (.q 19 (.q 20 (.q 21 (.q 22 (.q 23 (.q 24 (.q 25 (.q 26 (.q 27 (.q 28 (.q 29 (.done))))))))))))))))))))))))))))))) [] []); (case hc => kernel_rfl)) | (((with_reducible apply XOp.callQ (hF := amongR_fn ol la lc s.Id)); (case hg => exact rfl); (case hc => exact rfl); (case ha => exact rfl); try (case hA => exact Known.true)); (case hA => exact Known.of_old hO (Mono.sl _ _ _ _ _)); rintro _ rfl) | ((with_reducible apply XP.split); (case ho | hg | hj | hd | hb => exact rfl); (fail_if_success (case hf => exact fun h => Bool.noConfusion h)); (fail_if_success (case ht => exact fun h => Bool.noConfusion h)); all_goals (intro hb_; try simp only [pd_true, pd_false, Bool.not_eq_true', Bool.not_eq_false', Bool.and_eq_true, Bool.and_eq_false_iff, Bool.or_eq_true, Bool.or_eq_false_iff, not_true_eq_false, not_false_eq_true, Int.not_lt, Int.not_le] at hb_))))
      all_goals first
        | (exfalso; omega)
        | exact ⟨k - 1, by omega, [], List.nil_sublist _, i + 1, i, by omega, rfl, hys.new hi ⟨‹_›, by first | exact .inl rfl | exact .inr ‹_›⟩ (fun j y e _ => by omega), rfl, rfl, rfl, rfl, rfl, intS (m := seats.length) (by omega) (by omega), trivial⟩
        | exact ⟨k - 1, by omega, [], List.nil_sublist _, i + 1, -1, by omega, rfl, hys.old hi (.inl (fun h => by obtain ⟨h1, h2⟩ := h; first | exact hb_ h1 | (rcases h2 with h | h; (cases h); omega))), rfl, rfl, rfl, rfl, rfl, intS (m := seats.length) (by omega) (by omega), trivial⟩
    · obtain ⟨ah2, ch2, hrow2, _, _⟩ := SlA_seat hst hj
      cases first
      all_goals (repeat' (first | (with_reducible apply XL.op) | ((with_reducible apply XOp.p1); (case hg | hv => exact rfl)) | ((with_reducible apply XOp.storeN (i := 0)); (case hg | ht | hx | hv' | hk | h1 | hi | hs | ha => exact rfl)) | (with_reducible apply XL.nilT) | (with_reducible apply XC.seq) | (with_reducible apply XC.region (Γ := Γ)) | (with_reducible apply XL.nilQ) | (with_reducible apply XQ.skip) | (with_reducible apply XQ.nt) | (with_reducible apply XQ.nb) | ((with_reducible apply XP.p1); (case ho | hg | hv => exact rfl)) | ((with_reducible apply XP.p0); (case ho | hg => exact rfl)) | ((with_reducible apply XP.load); (case ho | hg | ht | hk | hx => exact rfl); (case hc => exact own_cell (i := 0) rfl rfl)) | ((with_reducible apply XP.pr); (case ho => exact rfl); (case hg => exact rfl); (case hr => ((with_reducible apply PR.idxA); (case ht | hk | he | hx | hi => exact rfl); (case hr => first | assumption | omega); (case ha => first | assumption | exact SlA.at_ (by assumption))))) | (with_reducible apply XP.done) | ((with_reducible apply XP.e); (first | ((with_reducible apply XE.d); (case ho => exact rfl); (case hd => exact rfl)) | ((with_reducible apply XE.e); (case ho => exact rfl)))) | ((with_reducible apply XP.keep); (case hk => first | ((repeat' (first | exact List.forall_mem_nil _ | (with_reducible refine List.forall_mem_cons.2 ⟨?_, ?_⟩) | exact List.mem_cons_self .. | (with_reducible apply List.mem_cons_of_mem) | (with_reducible apply List.mem_append_right))); done) | (intro x hx; first | exact sel_in hx | exact List.mem_cons_of_mem _ (sel_in hx) | exact List.mem_append_right _ (sel_in hx) | exact hx | exact List.mem_cons_of_mem _ hx | exact List.mem_append_right _ hx | ((repeat (first | exact sel_in hx | exact hx | (with_reducible apply List.mem_cons_of_mem) | (with_reducible apply List.mem_append_right))); done) | cases hx))) | ((with_reducible apply XC.condT); (case hc => exact rfl)) | ((with_reducible apply XC.condF); (case hc => exact rfl)) | ((with_reducible apply XC.regionD (Γ := Γ) mixed (.q 0 (.q 1 (.q 2 (.e 3 (.q 4 (.q 5 (.q 6 (.q 7 (.q 8 (.q 9 (.q 10 (.q 11 (.q 12 (.q 13 (.q 14 (.q 15 (.q 16 (.q 17 (.q 18 (.q 19 (.q 20 (.q 21 (.q 22 (.q 23 (.q 24 (.q 25 (.q 26 (.q 27 (.q 28 (.q 29 (.done))))))))))))))))))))))))))))))) [] []); (case hc => kernel_rfl)) | (first | ((with_reducible apply XOp.load); (case hg | ht | hk | hx => exact rfl); (case hc => exact Known.of_old (hA.cell 5 rfl) (Mono.cell _ _))) | ((with_reducible apply XP.load); (case ho | hg | ht | hk | hx => exact rfl); (case hc => exact Known.of_old (hA.cell 5 rfl) (Mono.cell _ _)))) | (first | ((with_reducible apply XOp.load); (case hg | ht | hk | hx => exact rfl); (case hc => exact Known.of_old (seat_id hrow2) (Mono.cell _ _))) | ((with_reducible apply XP.load); (case ho | hg | ht | hk | hx => exact rfl); (case hc => exact Known.of_old (seat_id hrow2) (Mono.cell _ _)))) | (((with_reducible apply XOp.callQ (hF := amongR_fn ol la lc s.Id)); (case hg => exact rfl); (case hc => exact rfl); (case ha => exact rfl); try (case hA => exact Known.true)); (case hA => exact Known.of_old hO (Mono.sl _ _ _ _ _)); rintro _ rfl) | ((with_reducible apply XP.split); (case ho | hg | hj | hd | hb => exact rfl); (fail_if_success (case hf => exact fun h => Bool.noConfusion h)); (fail_if_success (case ht => exact fun h => Bool.noConfusion h)); all_goals (intro hb_; try simp only [pd_true, pd_false, Bool.not_eq_true', Bool.not_eq_false', Bool.and_eq_true, Bool.and_eq_false_iff, Bool.or_eq_true, Bool.or_eq_false_iff, not_true_eq_false, not_false_eq_true, Int.not_lt, Int.not_le] at hb_)) | ((with_reducible apply XC.cond); (case hc => exact rfl); all_goals (intro hb_; try simp only [pd_true, pd_false, Bool.not_eq_true', Bool.not_eq_false', Bool.and_eq_true, Bool.and_eq_false_iff, Bool.or_eq_true, Bool.or_eq_false_iff, not_true_eq_false, not_false_eq_true, Int.not_lt, Int.not_le] at hb_))))
      all_goals first
        | (exfalso; omega)
        | exact ⟨k - 1, by omega, [], List.nil_sublist _, i + 1, i, by omega, rfl, hys.new hi ⟨‹_›, by first | exact .inl rfl | exact .inr ‹_›⟩ (NS.lt hj hb_), rfl, rfl, rfl, rfl, rfl, intS (m := seats.length) (by omega) (by omega), trivial⟩
        | exact ⟨k - 1, by omega, [], List.nil_sublist _, i + 1, j, by omega, rfl, hys.old hi (.inr ⟨j, y, rfl, hj, hb_⟩), rfl, rfl, rfl, rfl, rfl, intS (m := seats.length) (by omega) (by omega), trivial⟩
        | exact ⟨k - 1, by omega, [], List.nil_sublist _, i + 1, j, by omega, rfl, hys.old hi (.inl (fun h => by obtain ⟨h1, h2⟩ := h; first | exact hb_ h1 | (rcases h2 with h | h; (cases h); omega))), rfl, rfl, rfl, rfl, rfl, intS (m := seats.length) (by omega) (by omega), trivial⟩
  · obtain rfl : i = seats.length := by omega
    (repeat (first | (with_reducible apply XL.op) | ((with_reducible apply XOp.p1); (case hg | hv => exact rfl)) | (with_reducible apply XL.nilT) | (with_reducible apply XC.seq) | (with_reducible apply XC.region (Γ := Γ)) | (with_reducible apply XQ.ret) | (with_reducible apply XQ.exit) | (with_reducible apply XQ.nt) | (with_reducible apply XQ.et) | ((with_reducible apply XQ.eb); (case hb => exact rfl))))
    ((with_reducible apply XQ.retE); (case hr => exact .t rfl .nil))
    exact ⟨bk, rfl, hbk⟩
end Go.Proofs.YthnmagdaepgdiaaX
