/- The reference's work: what is free, what is beyond, who is younger. -/
import Derived.Test.YthnmagdaepgdiaaXRef1
set_option linter.unusedSimpArgs false
set_option linter.unusedVariables false
namespace Go.Proofs.YthnmagdaepgdiaaX
open Go Go.SX

theorem XQ_slots {Q : Exit → Fr → HL → Prop} {ρ : Fr} {L : HL} {e : Exit} (l : List (Nat × Value)) (hs : Slots ρ l) (h : XQ Q e (updL ρ l) L) : XQ Q e ρ L := by
  rw [updL_same l ρ hs] at h; exact h
/-- The reference's work in memory. -/
structure RW (wb : Nat) (c : Srv) (seats : List Seat) (a : Option Addr) (cap : Nat) (out : List Int) (oa : Option Addr) (oc : Nat) (given left : Int) (h : HV) : Prop where
  row : rowv h wb 0 (c.cells ++ [.slice a seats.length cap, .slice oa out.length oc, .int .i64 given, .int .i64 left])
  seats : SlA seatK 56 h seats a cap
  out : SlA (Kd.int .i64) 8 h out oa oc
theorem RW.mono {wb c seats a cap out oa oc given left} : Mono (RW wb c seats a cap out oa oc given left) := fun _ _ s h => ⟨rowv_mono s h.row, h.seats.mono s, h.out.mono s⟩
section
variable {wb : Nat} {c : Srv} {seats : List Seat} {a : Option Addr} {cap : Nat} {out : List Int} {oa : Option Addr} {oc : Nat} {given left : Int} {h : HV}
theorem RW.cell (r : RW wb c seats a cap out oa oc given left h) (i : Nat) {v : Value} (hv : (c.cells ++ [.slice a seats.length cap, .slice oa out.length oc, .int .i64 given, .int .i64 left])[i]? = some v) : cellv h ⟨wb, 0 + i, none⟩ = some v := r.row i v hv
end

theorem refBeyond_fn (wb : Nat) (c : Srv) (hc : c.okS 1) (seats : List Seat) (a : Option Addr) (cap : Nat) (out : List Int) (oa : Option Addr) (oc : Nat) (given left : Int) (s : Seat) (hs : seatOk c s) (hcl : s.Held.length ≤ 140737488355328) (sv : Option Addr) (sc : Nat) (x : Int) (hx : 0 ≤ x ∧ x ≤ 1000) :
    FC Try.prog 51 [.pointer (some ⟨wb, 0, none⟩), .agg ⟨s.cells (.slice sv s.Held.length sc)⟩, .int .i64 x] [] (RW wb c seats a cap out oa oc given left)
    (fun v L => v = .int .i64 (beyondS c s x) ∧ L = []) := by
  refine FC.nil ?_
  refine FC.intro Try.func51 rfl (by kernel_rfl) 25 [.tmp 6] rfl rfl rfl ?_
  intro w0 hA
  have hcb := hc.2.2.1
  have hca := hs.2.1
  have hkn := hs.1
  have e1 : IntKind.i64.wrap (s.Cached + x) = s.Cached + x := wrap64_of (by omega) (by omega)
  (repeat' (first | (with_reducible apply XL.op) | ((with_reducible apply XOp.p1); (case hg | hv => exact rfl)) | ((with_reducible apply XOp.box); (case hg | hx' => exact rfl); intro bx_) | (with_reducible apply XL.nilT) | (with_reducible apply XC.seq) | (with_reducible apply XC.region (Γ := Γ)) | (with_reducible apply XQ.skip) | (with_reducible apply XQ.ret) | (with_reducible apply XQ.nt) | (with_reducible apply XQ.rt) | ((with_reducible apply XP.p1); (case ho | hg | hv => exact rfl)) | ((with_reducible apply XP.load); (case ho | hg | ht | hk | hx => exact rfl); (case hc => exact own_cell (i := 0) rfl rfl)) | (with_reducible apply XP.done) | ((with_reducible apply XP.e); (first | ((with_reducible apply XE.d); (case ho => exact rfl); (case hd => exact rfl)) | ((with_reducible apply XE.e); (case ho => exact rfl)))) | ((with_reducible apply XP.keep); (case hk => first | ((repeat' (first | exact List.forall_mem_nil _ | (with_reducible refine List.forall_mem_cons.2 ⟨?_, ?_⟩) | exact List.mem_cons_self .. | (with_reducible apply List.mem_cons_of_mem) | (with_reducible apply List.mem_append_right))); done) | (intro x hx; first | exact sel_in hx | exact List.mem_cons_of_mem _ (sel_in hx) | exact List.mem_append_right _ (sel_in hx) | exact hx | exact List.mem_cons_of_mem _ hx | exact List.mem_append_right _ hx | ((repeat (first | exact sel_in hx | exact hx | (with_reducible apply List.mem_cons_of_mem) | (with_reducible apply List.mem_append_right))); done) | cases hx))) | ((with_reducible apply XC.regionD (Γ := Γ) mixed (.q 0 (.q 1 (.q 2 (.q 3 (.q 4 (.q 5 (.q 6 (.q 7 (.q 8 (.q 10 (.q 11 (.q 12 (.e 9 (.q 13 (.q 14 (.done)))))))))))))))) [] []); (case hc => kernel_rfl)) | (first | ((with_reducible apply XOp.load); (case hg | ht | hk | hx => exact rfl); (case hc => exact Known.of_old (hA.cell 1 rfl) (Mono.cell _ _))) | ((with_reducible apply XP.load); (case ho | hg | ht | hk | hx => exact rfl); (case hc => exact Known.of_old (hA.cell 1 rfl) (Mono.cell _ _)))) | (((with_reducible apply XOp.call (hF := refNeed_fn (IntKind.i64.wrap (s.Cached + x)) c.Block (by rw [e1]; omega) (by omega))); (case hg => exact rfl); (case hc => exact rfl); (case ha => exact rfl); (case hL => exact (List.nil_append _).symm); try (case hA => exact Known.true)); rintro _ _ ⟨rfl, rfl⟩) | ((with_reducible apply XC.cond); (case hc => exact rfl); all_goals (intro hb_; try simp only [pd_true, pd_false, Bool.not_eq_true', Bool.not_eq_false', Bool.and_eq_true, Bool.and_eq_false_iff, Bool.or_eq_true, Bool.or_eq_false_iff, not_true_eq_false, not_false_eq_true, Int.not_lt, Int.not_le] at hb_))))
  all_goals ((with_reducible apply XQ.retE); (case hr => exact .t rfl .nil))
  all_goals have e2 : 0 ≤ needI (s.Cached + x) c.Block := Int.ediv_nonneg (by omega) (by omega)
  all_goals have e3 : needI (s.Cached + x) c.Block ≤ s.Cached + x + c.Block - 1 := Int.ediv_le_self _ (by omega)
  all_goals rw [e1, wrap64_of (by omega) (by omega)] at hb_
  · show Value.int _ _ = _
    unfold beyondS; congr 1; omega
  · show Value.int _ _ = _
    rw [e1, wrap64_of (by omega) (by omega)]
    unfold beyondS; congr 1; omega

theorem used_snoc (T : List Seat) (out : List Int) (b : Nat) : ((List.range (b + 1)).filter fun k => holds T out (k : Nat)).length = ((List.range b).filter fun k => holds T out (k : Nat)).length + (if holds T out (b : Nat) then 1 else 0) := by
  rw [List.range_succ, List.filter_append, List.length_append]
  congr 1
  by_cases h : holds T out (b : Nat) <;> simp [h]
theorem holds_true {T : List Seat} {out : List Int} {b : Int} {s : Seat} (hs : s ∈ T) (h1 : s.Id ∉ out) (h2 : b ∈ s.Held) : holds T out b = true := by
  unfold holds; rw [List.any_eq_true]; exact ⟨s, hs, by simp [h1, h2]⟩
theorem holds_false {T : List Seat} {out : List Int} {b : Int} (h : ∀ s ∈ T, s.Id ∉ out → b ∉ s.Held) : holds T out b = false := by
  unfold holds; rw [List.any_eq_false]
  intro s hs
  by_cases h1 : s.Id ∈ out
  · simp [h1]
  · simp [h s hs h1]
theorem range_filter_le (p : Nat → Bool) (b : Nat) : ((List.range b).filter p).length ≤ b := by
  have := List.length_filter_le p (List.range b); rwa [List.length_range] at this

theorem refFree_fn (wb : Nat) (c : Srv) (hc : c.okS 1) (seats : List Seat) (a : Option Addr) (cap : Nat) (out : List Int) (oa : Option Addr) (oc : Nat) (given left : Int) (hgv : -100000 ≤ given ∧ given ≤ 100000) (ol : List Int) (la : Option Addr) (lc : Nat) :
    FC Try.prog 62 [.pointer (some ⟨wb, 0, none⟩), .slice la ol.length lc] [] (fun h => RW wb c seats a cap out oa oc given left h ∧ SlA (Kd.int .i64) 8 h ol la lc)
    (fun v L => v = .int .i64 (freeS c seats ol given) ∧ L = []) := by
  refine FC.nil ?_
  refine FC.intro Try.func62 rfl (by kernel_rfl) 62 [.tmp 4] rfl rfl rfl ?_
  rintro w0 ⟨hA, hO⟩
  have hcb := hc.2.1
  have hst := hA.seats
  have hsm := hst.bytes
  (repeat (first | (with_reducible apply XL.op) | ((with_reducible apply XOp.p1); (case hg | hv => exact rfl)) | (with_reducible apply XL.nilT) | (with_reducible apply XC.seq) | (with_reducible apply XC.region (Γ := Γ)) | (with_reducible apply XQ.nt) | (with_reducible apply XC.block) | ((with_reducible apply XP.p1); (case ho | hg | hv => exact rfl)) | (with_reducible apply XP.done) | ((with_reducible apply XC.regionD (Γ := Γ) mixed (.q 0 (.q 1 (.q 2 (.q 3 (.q 4 (.q 5 (.q 6 (.q 7 (.q 8 (.q 9 (.q 10 (.done)))))))))))) [] []); (case hc => kernel_rfl)) | (first | ((with_reducible apply XOp.load); (case hg | ht | hk | hx => exact rfl); (case hc => exact Known.of_old (hA.cell 0 rfl) (Mono.cell _ _))) | ((with_reducible apply XP.load); (case ho | hg | ht | hk | hx => exact rfl); (case hc => exact Known.of_old (hA.cell 0 rfl) (Mono.cell _ _)))) | (first | ((with_reducible apply XOp.load); (case hg | ht | hk | hx => exact rfl); (case hc => exact Known.of_old (hA.cell 7 rfl) (Mono.cell _ _))) | ((with_reducible apply XP.load); (case ho | hg | ht | hk | hx => exact rfl); (case hc => exact Known.of_old (hA.cell 7 rfl) (Mono.cell _ _))))))
  have e0 : IntKind.i64.wrap (c.Blocks - given) = c.Blocks - given := wrap64_of (by omega) (by omega)
  rw [e0]
  refine XC.loop (fun k ρ L => ∃ b : Nat, b + k = c.Blocks.toNat ∧ L = [] ∧
      Slots ρ [(0, .pointer (some ⟨wb, 0, none⟩)), (1, .slice la ol.length lc), (5, .int .i64 (c.Blocks - given - (((List.range b).filter fun k => holds seats ol (k : Nat)).length : Nat))), (6, .int .i64 b)]) c.Blocks.toNat ⟨0, by simp, rfl, rfl, rfl, by simp [upd], rfl, trivial⟩ ?_
  rintro k ρ L ⟨b, hbk, rfl, hs⟩
  refine XC.slots _ hs ?_
  (repeat (first | (with_reducible apply XL.op) | ((with_reducible apply XOp.p1); (case hg | hv => exact rfl)) | (with_reducible apply XL.nilT) | (with_reducible apply XC.seq) | (with_reducible apply XC.region (Γ := Γ)) | (first | ((with_reducible apply XOp.load); (case hg | ht | hk | hx => exact rfl); (case hc => exact Known.of_old (hA.cell 0 rfl) (Mono.cell _ _))) | ((with_reducible apply XP.load); (case ho | hg | ht | hk | hx => exact rfl); (case hc => exact Known.of_old (hA.cell 0 rfl) (Mono.cell _ _))))))
  ((with_reducible apply XC.cond); (case hc => exact rfl); all_goals (intro hb_; try simp only [pd_true, pd_false, Bool.not_eq_true', Bool.not_eq_false', Bool.and_eq_true, Bool.and_eq_false_iff, Bool.or_eq_true, Bool.or_eq_false_iff, not_true_eq_false, not_false_eq_true, Int.not_lt, Int.not_le] at hb_))
  · have hlen := range_filter_le (fun k => holds seats ol (k : Nat)) b
    have hsn := used_snoc seats ol b
    (repeat (first | (with_reducible apply XL.op) | ((with_reducible apply XOp.p1); (case hg | hv => exact rfl)) | (with_reducible apply XL.nilT) | (with_reducible apply XC.seq) | (with_reducible apply XC.region (Γ := Γ)) | (with_reducible apply XQ.skip) | (with_reducible apply XQ.nt) | (with_reducible apply XC.block)))
    refine XC.cutB (fun ρ L => L = [] ∧ Slots ρ [(0, .pointer (some ⟨wb, 0, none⟩)), (1, .slice la ol.length lc), (5, .int .i64 (c.Blocks - given - (((List.range (b + 1)).filter fun k => holds seats ol (k : Nat)).length : Nat))), (6, .int .i64 b)]) ?_ ?_
    · refine XC.loop (fun k ρ L => ∃ i : Nat, i + k = seats.length ∧ L = [] ∧ (∀ t ∈ seats.take i, t.Id ∉ ol → (b : Int) ∉ t.Held) ∧
        Slots ρ [(0, .pointer (some ⟨wb, 0, none⟩)), (1, .slice la ol.length lc), (5, .int .i64 (c.Blocks - given - (((List.range b).filter fun k => holds seats ol (k : Nat)).length : Nat))), (6, .int .i64 b), (7, .int .i64 i)]) seats.length
        ⟨0, by simp, rfl, by simp, rfl, rfl, rfl, rfl, rfl, trivial⟩ ?_
      rintro k2 ρ L ⟨i, hik, rfl, hno, hs⟩
      refine XC.slots _ hs ?_
      (repeat (first | (with_reducible apply XL.op) | ((with_reducible apply XOp.p1); (case hg | hv => exact rfl)) | (with_reducible apply XL.nilT) | (with_reducible apply XC.seq) | (with_reducible apply XC.region (Γ := Γ)) | (first | ((with_reducible apply XOp.load); (case hg | ht | hk | hx => exact rfl); (case hc => exact Known.of_old (hA.cell 5 rfl) (Mono.cell _ _))) | ((with_reducible apply XP.load); (case ho | hg | ht | hk | hx => exact rfl); (case hc => exact Known.of_old (hA.cell 5 rfl) (Mono.cell _ _))))))
      ((with_reducible apply XC.cond); (case hc => exact rfl); all_goals (intro hb_; try simp only [pd_true, pd_false, Bool.not_eq_true', Bool.not_eq_false', Bool.and_eq_true, Bool.and_eq_false_iff, Bool.or_eq_true, Bool.or_eq_false_iff, not_true_eq_false, not_false_eq_true, Int.not_lt, Int.not_le] at hb_))
      · obtain ⟨s, hi⟩ : ∃ s, seats[i]? = some s := ⟨_, List.getElem?_eq_getElem (by omega)⟩
        obtain ⟨ah, ch, hrow, hH, hsk⟩ := SlA_seat hA.seats hi
        have hs4 : cellv (oldv w0 (keys [])) ⟨ablk a, aoff a + i * 5 + 4, none⟩ = some (.slice ah s.Held.length ch) := hrow 4 _ rfl
        (repeat' (first | (with_reducible apply XL.op) | ((with_reducible apply XOp.p1); (case hg | hv => exact rfl)) | ((with_reducible apply XOp.p0); (case hg => exact rfl)) | ((with_reducible apply XOp.pr); (case hg => exact rfl); (case hr => ((with_reducible apply PR.idxA); (case ht | hk | he | hx | hi => exact rfl); (case hr => first | assumption | omega); (case ha => first | assumption | exact SlA.at_ (by assumption))))) | (with_reducible apply XL.nilT) | (with_reducible apply XC.seq) | (with_reducible apply XC.region (Γ := Γ)) | (with_reducible apply XQ.skip) | (with_reducible apply XQ.exit) | (with_reducible apply XQ.nt) | (with_reducible apply XQ.nb) | (with_reducible apply XQ.et) | (with_reducible apply XC.block) | ((with_reducible apply XQ.eb); (case hb => exact rfl)) | ((with_reducible apply XQ.en); (case hb => exact rfl)) | ((with_reducible apply XC.condF); (case hc => exact rfl)) | (first | ((with_reducible apply XOp.load); (case hg | ht | hk | hx => exact rfl); (case hc => exact Known.of_old (hA.cell 5 rfl) (Mono.cell _ _))) | ((with_reducible apply XP.load); (case ho | hg | ht | hk | hx => exact rfl); (case hc => exact Known.of_old (hA.cell 5 rfl) (Mono.cell _ _)))) | (first | ((with_reducible apply XOp.load); (case hg | ht | hk | hx => exact rfl); (case hc => exact Known.of_old (seat_id hrow) (Mono.cell _ _))) | ((with_reducible apply XP.load); (case ho | hg | ht | hk | hx => exact rfl); (case hc => exact Known.of_old (seat_id hrow) (Mono.cell _ _)))) | (first | ((with_reducible apply XOp.load); (case hg | ht | hk | hx => exact rfl); (case hc => exact Known.of_old hs4 (Mono.cell _ _))) | ((with_reducible apply XP.load); (case ho | hg | ht | hk | hx => exact rfl); (case hc => exact Known.of_old hs4 (Mono.cell _ _)))) | (((with_reducible apply XOp.call (hF := amongR_fn ol la lc s.Id)); (case hg => exact rfl); (case hc => exact rfl); (case ha => exact rfl); (case hL => exact (List.nil_append _).symm); try (case hA => exact Known.true)); (case hA => exact Known.of_old hO (Mono.sl _ _ _ _ _)); rintro _ _ ⟨rfl, rfl⟩) | (((with_reducible apply XOp.call (hF := amongR_fn s.Held ah ch b)); (case hg => exact rfl); (case hc => exact rfl); (case ha => exact rfl); (case hL => exact (List.nil_append _).symm); try (case hA => exact Known.true)); (case hA => exact Known.of_old hH (Mono.sl _ _ _ _ _)); rintro _ _ ⟨rfl, rfl⟩) | ((with_reducible apply XOp.split); (case hg | hj | hd | hb => exact rfl); (fail_if_success (case hf => exact fun h => Bool.noConfusion h)); (fail_if_success (case ht => exact fun h => Bool.noConfusion h)); all_goals (intro hb_; try simp only [pd_true, pd_false, Bool.not_eq_true', Bool.not_eq_false', Bool.and_eq_true, Bool.and_eq_false_iff, Bool.or_eq_true, Bool.or_eq_false_iff, not_true_eq_false, not_false_eq_true, Int.not_lt, Int.not_le] at hb_)) | ((with_reducible apply XC.cond); (case hc => exact rfl); all_goals (intro hb_; try simp only [pd_true, pd_false, Bool.not_eq_true', Bool.not_eq_false', Bool.and_eq_true, Bool.and_eq_false_iff, Bool.or_eq_true, Bool.or_eq_false_iff, not_true_eq_false, not_false_eq_true, Int.not_lt, Int.not_le] at hb_))))
        · refine ⟨rfl, rfl, rfl, ?_, rfl, trivial⟩
          show Value.int _ _ = _
          rw [holds_true (List.mem_of_getElem? hi) ‹_› hb_, if_pos rfl] at hsn
          rw [hsn, wrap64_of (by omega) (by omega)]
          congr 1; omega
        · refine ⟨k2 - 1, by omega, i + 1, by omega, rfl, fun t ht h1 => ?_, rfl, rfl, rfl, rfl, intS (m := seats.length) (by omega) (by omega), trivial⟩
          rw [take_snoc hi] at ht
          rcases List.mem_append.1 ht with h | h
          · exact hno t h h1
          · rw [List.mem_singleton.1 h]; exact hb_
        · refine ⟨k2 - 1, by omega, i + 1, by omega, rfl, fun t ht h1 => ?_, rfl, rfl, rfl, rfl, intS (m := seats.length) (by omega) (by omega), trivial⟩
          rw [take_snoc hi] at ht
          rcases List.mem_append.1 ht with h | h
          · exact hno t h h1
          · rw [List.mem_singleton.1 h] at h1; exact absurd hb_ h1
      · obtain rfl : i = seats.length := by omega
        rw [List.take_length] at hno
        (repeat (first | (with_reducible apply XQ.exit) | (with_reducible apply XQ.nt) | (with_reducible apply XQ.et) | ((with_reducible apply XQ.eb); (case hb => exact rfl))))
        refine ⟨rfl, rfl, rfl, ?_, rfl, trivial⟩
        show Value.int _ _ = _
        rw [holds_false hno] at hsn
        rw [hsn]; rfl
    · rintro ρ L ⟨rfl, hs⟩
      refine XQ_slots _ hs ?_
      (repeat (first | (with_reducible apply XL.op) | ((with_reducible apply XOp.p1); (case hg | hv => exact rfl)) | (with_reducible apply XL.nilT) | (with_reducible apply XC.region (Γ := Γ)) | (with_reducible apply XQ.nt) | (with_reducible apply XQ.nb)))
      exact ⟨k - 1, by omega, b + 1, by omega, rfl, rfl, rfl, rfl, intS (m := 1000) (by omega) (by omega), trivial⟩
  · obtain rfl : b = c.Blocks.toNat := by omega
    (repeat (first | (with_reducible apply XL.op) | ((with_reducible apply XOp.p1); (case hg | hv => exact rfl)) | (with_reducible apply XL.nilT) | (with_reducible apply XC.seq) | (with_reducible apply XC.region (Γ := Γ)) | (with_reducible apply XQ.ret) | (with_reducible apply XQ.exit) | (with_reducible apply XQ.nt) | (with_reducible apply XQ.et) | ((with_reducible apply XQ.eb); (case hb => exact rfl))))
    ((with_reducible apply XQ.retE); (case hr => exact .t rfl .nil))
    rfl

def YS (T : List Seat) (id : Int) (ol : List Int) (i : Nat) (bk : Int) : Prop :=
  (bk = -1 ∧ ∀ z ∈ T.take i, canGo id ol z = false) ∨ ∃ (j : Nat) (y : Seat), bk = j ∧ j < i ∧ T[j]? = some y ∧ IsYng (T.take i) id ol y
theorem YS.new {T : List Seat} {id : Int} {ol : List Int} {i : Nat} {bk : Int} {s : Seat} (h : YS T id ol i bk) (hi : T[i]? = some s) (hc : canGo id ol s = true)
    (hb : ∀ (j : Nat) (y : Seat), bk = j → T[j]? = some y → y.Id < s.Id) : YS T id ol (i + 1) i := by
  refine .inr ⟨i, s, rfl, by omega, hi, ?_⟩
  rw [take_snoc hi]
  refine ⟨by simp, hc, fun z hz hg => ?_⟩
  rcases List.mem_append.1 hz with h1 | h1
  · rcases h with ⟨_, hno⟩ | ⟨j, y, e, _, hj, _, _, hy⟩
    · rw [hno z h1] at hg; cases hg
    · have := hb j y e hj; have := hy z h1 hg; omega
  · rw [List.mem_singleton.1 h1]; omega
theorem YS.old {T : List Seat} {id : Int} {ol : List Int} {i : Nat} {bk : Int} {s : Seat} (h : YS T id ol i bk) (hi : T[i]? = some s) (hc : canGo id ol s = false ∨ ∃ (j : Nat) (y : Seat), bk = j ∧ T[j]? = some y ∧ s.Id ≤ y.Id) :
    YS T id ol (i + 1) bk := by
  unfold YS; rw [take_snoc hi]
  rcases h with ⟨e, hno⟩ | ⟨j, y, e, hji, hj, h1, h2, hy⟩
  · refine .inl ⟨e, fun z hz => ?_⟩
    rcases List.mem_append.1 hz with h1 | h1
    · exact hno z h1
    · rw [List.mem_singleton.1 h1]
      rcases hc with h | ⟨j, y, e2, _⟩
      · exact h
      · omega
  · refine .inr ⟨j, y, e, by omega, hj, List.mem_append_left _ h1, h2, fun z hz hg => ?_⟩
    rcases List.mem_append.1 hz with h3 | h3
    · exact hy z h3 hg
    · rw [List.mem_singleton.1 h3] at hg ⊢
      rcases hc with h | ⟨j2, y2, e2, hj2, hle⟩
      · rw [h] at hg; cases hg
      · have : j2 = j := by omega
        subst this
        rw [hj2] at hj; cases hj; exact hle
theorem YS.lt {T : List Seat} {j : Nat} {y s : Seat} (hj : T[j]? = some y) (h : y.Id < s.Id) : ∀ (j2 : Nat) (y2 : Seat), (j : Int) = j2 → T[j2]? = some y2 → y2.Id < s.Id := by
  intro j2 y2 e h2
  obtain rfl : j = j2 := by omega
  rw [hj] at h2; cases h2; exact h
theorem refYounger_fn (wb : Nat) (c : Srv) (seats : List Seat) (a : Option Addr) (cap : Nat) (out : List Int) (oa : Option Addr) (oc : Nat) (given left : Int) (id : Int) (ol : List Int) (la : Option Addr) (lc : Nat) :
    FC Try.prog 61 [.pointer (some ⟨wb, 0, none⟩), .int .i64 id, .slice la ol.length lc] [] (fun h => RW wb c seats a cap out oa oc given left h ∧ SlA (Kd.int .i64) 8 h ol la lc)
    (fun v L => (∃ (k : Int), v = .int .i64 k ∧ ((k = -1 ∧ ∀ z ∈ seats, canGo id ol z = false) ∨ ∃ (i : Nat) (y : Seat), k = i ∧ seats[i]? = some y ∧ IsYng seats id ol y)) ∧ L = []) := by
  refine FC.nil ?_
  refine FC.intro Try.func61 rfl (by kernel_rfl) 62 [.tmp 6] rfl rfl rfl ?_
  rintro w0 ⟨hA, hO⟩
  have hst := hA.seats
  have hsm := hst.bytes
  (repeat (first | (with_reducible apply XL.op) | ((with_reducible apply XOp.p1); (case hg | hv => exact rfl)) | (with_reducible apply XL.nilT) | (with_reducible apply XC.seq) | (with_reducible apply XC.region (Γ := Γ)) | (with_reducible apply XC.block)))
  refine XC.loopS (fun k ρ L => ∃ (i : Nat) (bk : Int), i + k = seats.length ∧ L = [] ∧ YS seats id ol i bk ∧
      Slots ρ [(0, .pointer (some ⟨wb, 0, none⟩)), (1, .int .i64 id), (2, .slice la ol.length lc), (7, .int .i64 bk), (8, .int .i64 i)]) seats.length ⟨0, -1, by simp, rfl, .inl ⟨rfl, by simp⟩, rfl, rfl, rfl, rfl, rfl, trivial⟩ ?_
  rintro k ρ L ⟨i, bk, hik, rfl, hbk, hs⟩
  refine XC.slots _ hs ?_
  (repeat (first | (with_reducible apply XL.op) | ((with_reducible apply XOp.p1); (case hg | hv => exact rfl)) | (with_reducible apply XL.nilT) | (with_reducible apply XC.seq) | (with_reducible apply XC.region (Γ := Γ)) | (first | ((with_reducible apply XOp.load); (case hg | ht | hk | hx => exact rfl); (case hc => exact Known.of_old (hA.cell 5 rfl) (Mono.cell _ _))) | ((with_reducible apply XP.load); (case ho | hg | ht | hk | hx => exact rfl); (case hc => exact Known.of_old (hA.cell 5 rfl) (Mono.cell _ _))))))
  ((with_reducible apply XC.cond); (case hc => exact rfl); all_goals (intro hb_; try simp only [pd_true, pd_false, Bool.not_eq_true', Bool.not_eq_false', Bool.and_eq_true, Bool.and_eq_false_iff, Bool.or_eq_true, Bool.or_eq_false_iff, not_true_eq_false, not_false_eq_true, Int.not_lt, Int.not_le] at hb_))
  · obtain ⟨s, hi⟩ : ∃ s, seats[i]? = some s := ⟨_, List.getElem?_eq_getElem (by omega)⟩
    obtain ⟨ah, ch, hrow, hH, hsk⟩ := SlA_seat hst hi
    (repeat (first | (with_reducible apply XL.op) | ((with_reducible apply XOp.p1); (case hg | hv => exact rfl)) | ((with_reducible apply XOp.pr); (case hg => exact rfl); (case hr => ((with_reducible apply PR.idxA); (case ht | hk | he | hx | hi => exact rfl); (case hr => first | assumption | omega); (case ha => first | assumption | exact SlA.at_ (by assumption))))) | (with_reducible apply XC.seq) | (with_reducible apply XC.region (Γ := Γ)) | (with_reducible apply XQ.skip) | (with_reducible apply XQ.nt) | (with_reducible apply XC.block) | (first | ((with_reducible apply XOp.load); (case hg | ht | hk | hx => exact rfl); (case hc => exact Known.of_old (hA.cell 5 rfl) (Mono.cell _ _))) | ((with_reducible apply XP.load); (case ho | hg | ht | hk | hx => exact rfl); (case hc => exact Known.of_old (hA.cell 5 rfl) (Mono.cell _ _)))) | (first | ((with_reducible apply XOp.loadN); (case hg | ht | hk | hx => exact rfl); (case hc => exact Known.of_old hrow (Mono.row _ _ _)); (case hl => exact rfl)) | ((with_reducible apply XP.loadN); (case ho | hg | ht | hk | hx => exact rfl); (case hc => exact Known.of_old hrow (Mono.row _ _ _)); (case hl => exact rfl)))))
    ((with_reducible apply XOp.alloc); (case hg | ht | hx' => exact rfl); intro sb)
    have hys := hbk
    rcases hbk with ⟨rfl, hno⟩ | ⟨j, y, rfl, hji, hj, hy⟩
    · (repeat' (first | (with_reducible apply XL.op) | ((with_reducible apply XOp.p1); (case hg | hv => exact rfl)) | ((with_reducible apply XOp.p0); (case hg => exact rfl)) | ((with_reducible apply XOp.storeN (i := 0)); (case hg | ht | hx | hv' | hk | h1 | hi | hs | ha => exact rfl)) | (with_reducible apply XL.nilT) | (with_reducible apply XC.seq) | (with_reducible apply XC.region (Γ := Γ)) | (with_reducible apply XL.nilQ) | (with_reducible apply XQ.skip) | (with_reducible apply XQ.nt) | (with_reducible apply XQ.nb) | ((with_reducible apply XP.p1); (case ho | hg | hv => exact rfl)) | ((with_reducible apply XP.p0); (case ho | hg => exact rfl)) | ((with_reducible apply XP.load); (case ho | hg | ht | hk | hx => exact rfl); (case hc => exact own_cell (i := 0) rfl rfl)) | (with_reducible apply XP.done) | ((with_reducible apply XP.e); (first | ((with_reducible apply XE.d); (case ho => exact rfl); (case hd => exact rfl)) | ((with_reducible apply XE.e); (case ho => exact rfl)))) | ((with_reducible apply XP.keep); (case hk => first | ((repeat' (first | exact List.forall_mem_nil _ | (with_reducible refine List.forall_mem_cons.2 ⟨?_, ?_⟩) | exact List.mem_cons_self .. | (with_reducible apply List.mem_cons_of_mem) | (with_reducible apply List.mem_append_right))); done) | (intro x hx; first | exact sel_in hx | exact List.mem_cons_of_mem _ (sel_in hx) | exact List.mem_append_right _ (sel_in hx) | exact hx | exact List.mem_cons_of_mem _ hx | exact List.mem_append_right _ hx | ((repeat (first | exact sel_in hx | exact hx | (with_reducible apply List.mem_cons_of_mem) | (with_reducible apply List.mem_append_right))); done) | cases hx))) | ((with_reducible apply XC.condT); (case hc => exact rfl)) | ((with_reducible apply XC.condF); (case hc => exact rfl)) | ((with_reducible apply XC.regionD (Γ := Γ) mixed (.q 0 (.q 1 (.q 2 (.q 3 (.q 4 (.q 5 (.q 6 (.q 7 (.q 8 (.q 9 (.q 10 (.q 11 (.q 12 (.q 13 (.e 14 (.q 15 (.q 16 (.q 17 (.q 18 (.q 19 (.q 20 (.q 21 (.q 22 (.q 23 (.q 24 (.q 25 (.q 26 (.q 27 (.q 28 (.q 29 (.q 30 (.q 31 (.q 32 (.q 33 (.done))))))))))))))))))))))))))))))))))) [] []); (case hc => kernel_rfl)) | (((with_reducible apply XOp.call (hF := amongR_fn ol la lc s.Id)); (case hg => exact rfl); (case hc => exact rfl); (case ha => exact rfl); (case hL => exact (List.nil_append _).symm); try (case hA => exact Known.true)); (case hA => exact Known.of_old hO (Mono.sl _ _ _ _ _)); rintro _ _ ⟨rfl, rfl⟩) | ((with_reducible apply XP.split); (case ho | hg | hj | hd | hb => exact rfl); (fail_if_success (case hf => exact fun h => Bool.noConfusion h)); (fail_if_success (case ht => exact fun h => Bool.noConfusion h)); all_goals (intro hb_; try simp only [pd_true, pd_false, Bool.not_eq_true', Bool.not_eq_false', Bool.and_eq_true, Bool.and_eq_false_iff, Bool.or_eq_true, Bool.or_eq_false_iff, not_true_eq_false, not_false_eq_true, Int.not_lt, Int.not_le] at hb_))))
      · exact ⟨k - 1, by omega, [], List.nil_sublist _, i + 1, i, by omega, rfl, hys.new hi (canGo_iff.2 ⟨‹_›, by omega, ‹_›⟩) (fun j y e _ => by omega), rfl, rfl, rfl, rfl, intS (m := seats.length) (by omega) (by omega), trivial⟩
      · omega
      all_goals refine ⟨k - 1, by omega, [], List.nil_sublist _, i + 1, -1, by omega, rfl, hys.old hi (.inl ?_), rfl, rfl, rfl, rfl, intS (m := seats.length) (by omega) (by omega), trivial⟩
      all_goals rw [← Bool.not_eq_true, canGo_iff]; intro h; obtain ⟨h1, h2, h3⟩ := h; first | exact h3 hb_ | omega
    · obtain ⟨ah2, ch2, hrow2, _, _⟩ := SlA_seat hst hj
      (repeat' (first | (with_reducible apply XL.op) | ((with_reducible apply XOp.p1); (case hg | hv => exact rfl)) | ((with_reducible apply XOp.p0); (case hg => exact rfl)) | ((with_reducible apply XOp.storeN (i := 0)); (case hg | ht | hx | hv' | hk | h1 | hi | hs | ha => exact rfl)) | (with_reducible apply XL.nilT) | (with_reducible apply XC.seq) | (with_reducible apply XC.region (Γ := Γ)) | (with_reducible apply XL.nilQ) | (with_reducible apply XQ.skip) | (with_reducible apply XQ.nt) | (with_reducible apply XQ.nb) | ((with_reducible apply XP.p1); (case ho | hg | hv => exact rfl)) | ((with_reducible apply XP.p0); (case ho | hg => exact rfl)) | ((with_reducible apply XP.load); (case ho | hg | ht | hk | hx => exact rfl); (case hc => exact own_cell (i := 0) rfl rfl)) | ((with_reducible apply XP.pr); (case ho => exact rfl); (case hg => exact rfl); (case hr => ((with_reducible apply PR.idxA); (case ht | hk | he | hx | hi => exact rfl); (case hr => first | assumption | omega); (case ha => first | assumption | exact SlA.at_ (by assumption))))) | (with_reducible apply XP.done) | ((with_reducible apply XP.e); (first | ((with_reducible apply XE.d); (case ho => exact rfl); (case hd => exact rfl)) | ((with_reducible apply XE.e); (case ho => exact rfl)))) | ((with_reducible apply XP.keep); (case hk => first | ((repeat' (first | exact List.forall_mem_nil _ | (with_reducible refine List.forall_mem_cons.2 ⟨?_, ?_⟩) | exact List.mem_cons_self .. | (with_reducible apply List.mem_cons_of_mem) | (with_reducible apply List.mem_append_right))); done) | (intro x hx; first | exact sel_in hx | exact List.mem_cons_of_mem _ (sel_in hx) | exact List.mem_append_right _ (sel_in hx) | exact hx | exact List.mem_cons_of_mem _ hx | exact List.mem_append_right _ hx | ((repeat (first | exact sel_in hx | exact hx | (with_reducible apply List.mem_cons_of_mem) | (with_reducible apply List.mem_append_right))); done) | cases hx))) | ((with_reducible apply XC.condT); (case hc => exact rfl)) | ((with_reducible apply XC.condF); (case hc => exact rfl)) | ((with_reducible apply XC.regionD (Γ := Γ) mixed (.q 0 (.q 1 (.q 2 (.q 3 (.q 4 (.q 5 (.q 6 (.q 7 (.q 8 (.q 9 (.q 10 (.q 11 (.q 12 (.q 13 (.e 14 (.q 15 (.q 16 (.q 17 (.q 18 (.q 19 (.q 20 (.q 21 (.q 22 (.q 23 (.q 24 (.q 25 (.q 26 (.q 27 (.q 28 (.q 29 (.q 30 (.q 31 (.q 32 (.q 33 (.done))))))))))))))))))))))))))))))))))) [] []); (case hc => kernel_rfl)) | (first | ((with_reducible apply XOp.load); (case hg | ht | hk | hx => exact rfl); (case hc => exact Known.of_old (hA.cell 5 rfl) (Mono.cell _ _))) | ((with_reducible apply XP.load); (case ho | hg | ht | hk | hx => exact rfl); (case hc => exact Known.of_old (hA.cell 5 rfl) (Mono.cell _ _)))) | (first | ((with_reducible apply XOp.load); (case hg | ht | hk | hx => exact rfl); (case hc => exact Known.of_old (seat_id hrow2) (Mono.cell _ _))) | ((with_reducible apply XP.load); (case ho | hg | ht | hk | hx => exact rfl); (case hc => exact Known.of_old (seat_id hrow2) (Mono.cell _ _)))) | (((with_reducible apply XOp.call (hF := amongR_fn ol la lc s.Id)); (case hg => exact rfl); (case hc => exact rfl); (case ha => exact rfl); (case hL => exact (List.nil_append _).symm); try (case hA => exact Known.true)); (case hA => exact Known.of_old hO (Mono.sl _ _ _ _ _)); rintro _ _ ⟨rfl, rfl⟩) | ((with_reducible apply XP.split); (case ho | hg | hj | hd | hb => exact rfl); (fail_if_success (case hf => exact fun h => Bool.noConfusion h)); (fail_if_success (case ht => exact fun h => Bool.noConfusion h)); all_goals (intro hb_; try simp only [pd_true, pd_false, Bool.not_eq_true', Bool.not_eq_false', Bool.and_eq_true, Bool.and_eq_false_iff, Bool.or_eq_true, Bool.or_eq_false_iff, not_true_eq_false, not_false_eq_true, Int.not_lt, Int.not_le] at hb_)) | ((with_reducible apply XC.cond); (case hc => exact rfl); all_goals (intro hb_; try simp only [pd_true, pd_false, Bool.not_eq_true', Bool.not_eq_false', Bool.and_eq_true, Bool.and_eq_false_iff, Bool.or_eq_true, Bool.or_eq_false_iff, not_true_eq_false, not_false_eq_true, Int.not_lt, Int.not_le] at hb_))))
      · omega
      · exact ⟨k - 1, by omega, [], List.nil_sublist _, i + 1, i, by omega, rfl, hys.new hi (canGo_iff.2 ⟨‹_›, by omega, ‹_›⟩) (YS.lt hj hb_), rfl, rfl, rfl, rfl, intS (m := seats.length) (by omega) (by omega), trivial⟩
      · exact ⟨k - 1, by omega, [], List.nil_sublist _, i + 1, j, by omega, rfl, hys.old hi (.inr ⟨j, y, rfl, hj, hb_⟩), rfl, rfl, rfl, rfl, intS (m := seats.length) (by omega) (by omega), trivial⟩
      all_goals refine ⟨k - 1, by omega, [], List.nil_sublist _, i + 1, j, by omega, rfl, hys.old hi (.inl ?_), rfl, rfl, rfl, rfl, intS (m := seats.length) (by omega) (by omega), trivial⟩
      all_goals rw [← Bool.not_eq_true, canGo_iff]; intro h; obtain ⟨h1, h2, h3⟩ := h; first | exact h3 hb_ | omega
  · obtain rfl : i = seats.length := by omega
    (repeat (first | (with_reducible apply XL.op) | ((with_reducible apply XOp.p1); (case hg | hv => exact rfl)) | (with_reducible apply XL.nilT) | (with_reducible apply XC.seq) | (with_reducible apply XC.region (Γ := Γ)) | (with_reducible apply XQ.ret) | (with_reducible apply XQ.exit) | (with_reducible apply XQ.nt) | (with_reducible apply XQ.et) | ((with_reducible apply XQ.eb); (case hb => exact rfl))))
    ((with_reducible apply XQ.retE); (case hr => exact .t rfl .nil))
    refine ⟨bk, rfl, ?_⟩
    unfold YS at hbk
    rw [List.take_length] at hbk
    rcases hbk with h | ⟨j, y, e, _, hj, hy⟩
    · exact .inl h
    · exact .inr ⟨j, y, e, hj, hy⟩

theorem refRoom_fn (wb : Nat) (c : Srv) (hc : c.okS 1) (seats : List Seat) (a : Option Addr) (cap : Nat) (out : List Int) (oa : Option Addr) (oc : Nat) (given left : Int) (hgv : -100000 ≤ given ∧ given ≤ 100000) (s : Seat) (hs : seatOk c s) (hcl : s.Held.length ≤ 140737488355328) (sv : Option Addr) (sc : Nat) (x : Int) (hx : 0 ≤ x ∧ x ≤ 1000) (ol : List Int) (la : Option Addr) (lc : Nat) :
    FC Try.prog 52 [.pointer (some ⟨wb, 0, none⟩), .agg ⟨s.cells (.slice sv s.Held.length sc)⟩, .int .i64 x, .slice la ol.length lc] [] (fun h => RW wb c seats a cap out oa oc given left h ∧ SlA (Kd.int .i64) 8 h ol la lc)
    (fun v L => v = .bool (pd (beyondS c s x ≤ freeS c seats ol given)) ∧ L = []) := by
  refine FC.nil ?_
  refine FC.intro Try.func52 rfl (by kernel_rfl) 17 [.tmp 8] rfl rfl rfl ?_
  rintro w0 ⟨hA, hO⟩
  (repeat' (first | (with_reducible apply XL.op) | ((with_reducible apply XOp.p1); (case hg | hv => exact rfl)) | ((with_reducible apply XOp.box); (case hg | hx' => exact rfl); intro bx_) | (with_reducible apply XL.nilT) | (with_reducible apply XC.seq) | (with_reducible apply XC.region (Γ := Γ)) | (with_reducible apply XQ.ret) | (with_reducible apply XQ.nt) | ((with_reducible apply XP.p1); (case ho | hg | hv => exact rfl)) | ((with_reducible apply XP.loadO (j := 0)); (case ho | hg | ht | hk | hx | hi | hc => exact rfl)) | (with_reducible apply XP.done) | ((with_reducible apply XP.e); (first | ((with_reducible apply XE.d); (case ho => exact rfl); (case hd => exact rfl)) | ((with_reducible apply XE.e); (case ho => exact rfl)))) | ((with_reducible apply XP.keep); (case hk => first | ((repeat' (first | exact List.forall_mem_nil _ | (with_reducible refine List.forall_mem_cons.2 ⟨?_, ?_⟩) | exact List.mem_cons_self .. | (with_reducible apply List.mem_cons_of_mem) | (with_reducible apply List.mem_append_right))); done) | (intro x hx; first | exact sel_in hx | exact List.mem_cons_of_mem _ (sel_in hx) | exact List.mem_append_right _ (sel_in hx) | exact hx | exact List.mem_cons_of_mem _ hx | exact List.mem_append_right _ hx | ((repeat (first | exact sel_in hx | exact hx | (with_reducible apply List.mem_cons_of_mem) | (with_reducible apply List.mem_append_right))); done) | cases hx))) | ((with_reducible apply XC.regionD (Γ := Γ) mixed (.q 0 (.q 1 (.q 3 (.q 4 (.q 5 (.e 2 (.e 6 (.q 7 (.q 8 (.done)))))))))) [] []); (case hc => kernel_rfl)) | (((with_reducible apply XOp.call (hF := refFree_fn wb c hc seats a cap out oa oc given left hgv ol la lc)); (case hg => exact rfl); (case hc => exact rfl); (case ha => exact rfl); (case hL => exact (List.nil_append _).symm); try (case hA => exact Known.true)); (case hA => exact (Known.of_old hA RW.mono).and (Known.of_old hO (Mono.sl _ _ _ _ _))); rintro _ _ ⟨rfl, rfl⟩) | (((with_reducible apply XOp.call (hF := refBeyond_fn wb c hc seats a cap out oa oc given left s hs hcl sv sc x hx)); (case hg => exact rfl); (case hc => exact rfl); (case ha => exact rfl); (case hL => exact (List.nil_append _).symm); try (case hA => exact Known.true)); (case hA => exact Known.of_old hA RW.mono); rintro _ _ ⟨rfl, rfl⟩)))
  ((with_reducible apply XQ.retE); (case hr => exact .t rfl .nil))
  rfl
end Go.Proofs.YthnmagdaepgdiaaX
