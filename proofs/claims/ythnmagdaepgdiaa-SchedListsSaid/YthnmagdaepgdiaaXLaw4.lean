/- The laws' own helpers: a seat by its Id; what a seat wants. -/
import Derived.Test.YthnmagdaepgdiaaXLaw3
set_option linter.unusedSimpArgs false
set_option linter.unusedVariables false
namespace Go.Proofs.YthnmagdaepgdiaaX
open Go Go.SX

theorem seat_fn (seats : List Seat) (a : Option Addr) (cap : Nat) (id : Int) : FC Try.prog 28 [.slice a seats.length cap, .int .i64 id] [] (fun h => SlA seatK 56 h seats a cap)
    (fun v L => (match seatOf seats id with
      | none => v = .tuple #[.agg #[.int .i64 0, .int .i64 0, .int .i64 0, .int .i64 0, .slice none 0 0], .bool false]
      | some s => ∃ ah ch, v = .tuple #[.agg ⟨s.cells (.slice ah s.Held.length ch)⟩, .bool true]) ∧ L = []) := by
  refine FC.nil ?_
  refine FC.intro Try.func28 rfl (by kernel_rfl) 25 [.cell 4 46, .tmp 5] rfl rfl rfl ?_
  intro w0 hA
  have hsm := hA.bytes
  (repeat (first | (with_reducible apply XL.op) | (with_reducible apply XC.seq) | (with_reducible apply XC.region (Γ := Γ))))
  ((with_reducible apply XOp.alloc); (case hg | ht | hx' => exact rfl); intro rb)
  (repeat (first | (with_reducible apply XL.op) | ((with_reducible apply XOp.p1); (case hg | hv => exact rfl)) | (with_reducible apply XL.nilT) | (with_reducible apply XC.seq) | (with_reducible apply XC.region (Γ := Γ)) | (with_reducible apply XC.block)))
  refine XC.loopS (fun k ρ L => ∃ (i : Nat), i + k = seats.length ∧ L = [(rb, .cells ⟨[.int .i64 0, .int .i64 0, .int .i64 0, .int .i64 0, .slice none 0 0]⟩ 46 (0, 0))] ∧ (∀ s ∈ seats.take i, s.Id ≠ id) ∧
      Slots ρ [(0, .slice a seats.length cap), (1, .int .i64 id), (4, .pointer (some ⟨rb, 0, none⟩)), (5, .bool false), (6, .int .i64 i)]) seats.length ⟨0, by simp, rfl, by simp, rfl, rfl, rfl, rfl, rfl, trivial⟩ ?_
  rintro k ρ L ⟨i, hik, rfl, hno, hs⟩
  refine XC.slots _ hs ?_
  (repeat (first | (with_reducible apply XL.op) | ((with_reducible apply XOp.p1); (case hg | hv => exact rfl)) | (with_reducible apply XL.nilT) | (with_reducible apply XC.seq) | (with_reducible apply XC.region (Γ := Γ))))
  ((with_reducible apply XC.cond); (case hc => exact rfl); all_goals (intro hb_; try simp only [pd_true, pd_false, Bool.not_eq_true', Bool.not_eq_false', Bool.and_eq_true, Bool.and_eq_false_iff, Bool.or_eq_true, Bool.or_eq_false_iff, not_true_eq_false, not_false_eq_true, Int.not_lt, Int.not_le] at hb_))
  · obtain ⟨s, hi⟩ : ∃ s, seats[i]? = some s := ⟨_, List.getElem?_eq_getElem (by omega)⟩
    obtain ⟨ah, ch, hrow, hH, hsk⟩ := SlA_seat hA hi
    (repeat (first | (with_reducible apply XL.op) | ((with_reducible apply XOp.p1); (case hg | hv => exact rfl)) | ((with_reducible apply XOp.pr); (case hg => exact rfl); (case hr => ((with_reducible apply PR.idxA); (case ht | hk | he | hx | hi => exact rfl); (case hr => first | assumption | omega); (case ha => first | assumption | exact SlA.at_ (by assumption))))) | (with_reducible apply XL.nilT) | (with_reducible apply XC.seq) | (with_reducible apply XC.region (Γ := Γ)) | (with_reducible apply XQ.skip) | (with_reducible apply XQ.nt) | (with_reducible apply XC.block) | (first | ((with_reducible apply XOp.load); (case hg | ht | hk | hx => exact rfl); (case hc => exact Known.of_old (seat_id hrow) (Mono.cell _ _))) | ((with_reducible apply XP.load); (case ho | hg | ht | hk | hx => exact rfl); (case hc => exact Known.of_old (seat_id hrow) (Mono.cell _ _))))))
    ((with_reducible apply XC.cond); (case hc => exact rfl); all_goals (intro hb_; try simp only [pd_true, pd_false, Bool.not_eq_true', Bool.not_eq_false', Bool.and_eq_true, Bool.and_eq_false_iff, Bool.or_eq_true, Bool.or_eq_false_iff, not_true_eq_false, not_false_eq_true, Int.not_lt, Int.not_le] at hb_))
    · (repeat (first | (with_reducible apply XL.op) | ((with_reducible apply XOp.p1); (case hg | hv => exact rfl)) | ((with_reducible apply XOp.storeN (i := 0)); (case hg | ht | hx | hv' | hk | h1 | hi | hs | ha => exact rfl)) | ((with_reducible apply XOp.pr); (case hg => exact rfl); (case hr => ((with_reducible apply PR.idxA); (case ht | hk | he | hx | hi => exact rfl); (case hr => first | assumption | omega); (case ha => first | assumption | exact SlA.at_ (by assumption))))) | (with_reducible apply XL.nilT) | (with_reducible apply XC.seq) | (with_reducible apply XC.region (Γ := Γ)) | (with_reducible apply XQ.ret) | (with_reducible apply XQ.rt) | (with_reducible apply XQ.rb) | (first | ((with_reducible apply XOp.loadN); (case hg | ht | hk | hx => exact rfl); (case hc => exact Known.of_old hrow (Mono.row _ _ _)); (case hl => exact rfl)) | ((with_reducible apply XP.loadN); (case ho | hg | ht | hk | hx => exact rfl); (case hc => exact Known.of_old hrow (Mono.row _ _ _)); (case hl => exact rfl)))))
      ((with_reducible apply XQ.retE); (case hr => exact .row rfl (by kernel_rfl) (by kernel_rfl) (Known.blk (List.mem_cons_self ..)) (.t rfl .nil)))
      have : seatOf seats id = some s := by
        unfold seatOf
        rw [List.find?_eq_some_iff_append]
        obtain ⟨hl, he⟩ := List.getElem?_eq_some_iff.1 hi
        refine ⟨by simpa using hb_, seats.take i, seats.drop (i + 1), ?_, fun z hz => by simpa using hno z hz⟩
        rw [← he, List.getElem_cons_drop, List.take_append_drop]
      rw [this]
      exact ⟨ah, ch, rfl⟩
    · (repeat (first | (with_reducible apply XL.op) | ((with_reducible apply XOp.p1); (case hg | hv => exact rfl)) | (with_reducible apply XL.nilT) | (with_reducible apply XC.region (Γ := Γ)) | (with_reducible apply XQ.skip) | (with_reducible apply XQ.nt) | (with_reducible apply XQ.nb)))
      refine ⟨k - 1, by omega, _, List.Sublist.refl _, i + 1, by omega, rfl, fun z hz => ?_, rfl, rfl, rfl, rfl, intS (m := seats.length) (by omega) (by omega), trivial⟩
      rw [take_snoc hi] at hz
      rcases List.mem_append.1 hz with h | h
      · exact hno z h
      · rw [List.mem_singleton.1 h]; exact hb_
  · obtain rfl : i = seats.length := by omega
    rw [List.take_length] at hno
    (repeat (first | (with_reducible apply XL.op) | ((with_reducible apply XOp.p1); (case hg | hv => exact rfl)) | ((with_reducible apply XOp.storeN (i := 0)); (case hg | ht | hx | hv' | hk | h1 | hi | hs | ha => exact rfl)) | ((with_reducible apply XOp.pr); (case hg => exact rfl); (case hr => ((with_reducible apply PR.build); (case ht | hk | hok | hz | hf => exact rfl)))) | (with_reducible apply XL.nilT) | (with_reducible apply XC.seq) | (with_reducible apply XC.region (Γ := Γ)) | (with_reducible apply XQ.ret) | (with_reducible apply XQ.exit) | (with_reducible apply XQ.nt) | (with_reducible apply XQ.et) | ((with_reducible apply XQ.eb); (case hb => exact rfl))))
    ((with_reducible apply XQ.retE); (case hr => exact .row rfl (by kernel_rfl) (by kernel_rfl) (Known.blk (List.mem_cons_self ..)) (.t rfl .nil)))
    rw [seatOf_none hno]
    rfl
/-- What a seat wants, budget aside. -/
def wantS (c : Srv) (s : Seat) : Int := if 0 < restS s then min (restS s) c.Chunk else min (max s.Want 1) c.Tree
theorem wanted_fn (c : Srv) (hc : c.okS 1) (s : Seat) (hs : seatOk c s) (v : Value) (hv : cellsO (.agg ⟨s.cells v⟩) = some (s.cells v)) : FC Try.prog 31 [.agg ⟨c.cells⟩, .agg ⟨s.cells v⟩] [] (fun _ => True) (fun r L => r = .int .i64 (wantS c s) ∧ L = []) := by
  refine FC.nil ?_
  refine FC.intro Try.func31 rfl (by kernel_rfl) 32 [.tmp 4] rfl rfl rfl ?_
  intro w0 _
  have hch := hc.2.2.2.2
  have hkn := hs.1
  have hca := hs.2.1
  have er : IntKind.i64.wrap (IntKind.i64.wrap (s.Known - 1) - s.Cached) = restS s := by
    rw [wrap64_of (x := s.Known - 1) (by omega) (by omega), wrap64_of (by omega) (by omega)]; rfl
  have hrs : 0 ≤ restS s ∧ restS s ≤ 63 := by unfold restS; omega
  (repeat (first | (with_reducible apply XL.op) | (with_reducible apply XC.seq) | (with_reducible apply XC.region (Γ := Γ))))
  ((with_reducible apply XOp.box); (case hg | hx' => exact rfl); intro cb)
  (repeat ((with_reducible apply XL.op)))
  ((with_reducible apply XOp.box); (case hg | hx' => exact rfl); intro sb)
  (repeat (first | (with_reducible apply XL.op) | ((with_reducible apply XOp.p1); (case hg | hv => exact rfl)) | ((with_reducible apply XOp.load); (case hg | ht | hk | hx => exact rfl); (case hc => exact own_cell (i := 0) rfl rfl)) | ((with_reducible apply XOp.load); (case hg | ht | hk | hx => exact rfl); (case hc => exact own_cell (i := 1) rfl rfl)) | (with_reducible apply XL.nilT) | (with_reducible apply XC.seq) | (with_reducible apply XC.region (Γ := Γ))))
  rw [er]
  (repeat' (first | (with_reducible apply XL.op) | ((with_reducible apply XOp.p1); (case hg | hv => exact rfl)) | ((with_reducible apply XOp.load); (case hg | ht | hk | hx => exact rfl); (case hc => exact own_cell (i := 0) rfl rfl)) | ((with_reducible apply XOp.load); (case hg | ht | hk | hx => exact rfl); (case hc => exact own_cell (i := 1) rfl rfl)) | (with_reducible apply XL.nilT) | (with_reducible apply XC.seq) | (with_reducible apply XC.region (Γ := Γ)) | (with_reducible apply XQ.skip) | (with_reducible apply XQ.ret) | (with_reducible apply XQ.nt) | (with_reducible apply XQ.rt) | (((with_reducible apply XOp.callQ (hF := greatest_fn s.Want 1)); (case hg => exact rfl); (case hc => exact rfl); (case ha => exact rfl); try (case hA => exact Known.true)); rintro _ rfl) | ((with_reducible apply XC.cond); (case hc => exact rfl); all_goals (intro hb_; try simp only [pd_true, pd_false, Bool.not_eq_true', Bool.not_eq_false', Bool.and_eq_true, Bool.and_eq_false_iff, Bool.or_eq_true, Bool.or_eq_false_iff, not_true_eq_false, not_false_eq_true, Int.not_lt, Int.not_le] at hb_))))
  all_goals ((with_reducible apply XQ.retE); (case hr => exact .t rfl .nil))
  all_goals (show Value.int _ _ = Value.int _ _)
  all_goals unfold wantS
  all_goals congr 1
  all_goals (split <;> omega)
end Go.Proofs.YthnmagdaepgdiaaX
