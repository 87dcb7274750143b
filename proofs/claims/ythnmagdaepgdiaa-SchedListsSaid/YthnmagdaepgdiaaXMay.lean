/- Which seats may be: the program's answer. -/
import Derived.Test.YthnmagdaepgdiaaXSched2
set_option linter.unusedSimpArgs false
set_option linter.unusedVariables false
namespace Go.Proofs.YthnmagdaepgdiaaX
open Go Go.SX

theorem SlA_seat {h : HV} {seats : List Seat} {a : Option Addr} {cap by_ : Nat} (hA : SlA seatK by_ h seats a cap) {i : Nat} {s : Seat} (hi : seats[i]? = some s) :
    ∃ ah ch, rowv h (ablk a) (aoff a + i * 5) (s.cells (.slice ah s.Held.length ch)) ∧ SlA (Kd.int .i64) 8 h s.Held ah ch ∧ s.ok := by
  obtain ⟨c, ⟨ah, ch, rfl, h1, h2⟩, hr⟩ := hA.row i s hi
  exact ⟨ah, ch, hr, h1, h2⟩
def markM (l : List Int) : Int → Option Int := fun k => if k ∈ l then some 1 else none

theorem markM_get (l : List Int) (b : Int) : (markM l b).getD 0 = if b ∈ l then 1 else 0 := by unfold markM; split <;> rfl
theorem markM_upd {l : List Int} {b : Int} (h : b ∉ l) : (fun k' => if k' = b then some (IntKind.i64.wrap ((markM l b).getD 0 + 1)) else markM l k') = markM (l ++ [b]) := by
  funext k
  rw [markM_get, if_neg h]
  unfold markM
  by_cases hk : k = b
  · subst hk; simp; rfl
  · simp [hk]
theorem markM_two {l : List Int} {b : Int} (h : 1 < (some (IntKind.i64.wrap ((markM l b).getD 0 + 1))).getD 0) : b ∈ l := by
  rw [markM_get] at h
  split at h
  · assumption
  · exact absurd h (by decide)
theorem markM_one {l : List Int} {b : Int} (h : (some (IntKind.i64.wrap ((markM l b).getD 0 + 1))).getD 0 ≤ 1) : b ∉ l := fun hm => by
  rw [markM_get, if_pos hm] at h; exact absurd h (by decide)
theorem take_snoc {α : Type} {l : List α} {j : Nat} {b : α} (h : l[j]? = some b) : l.take (j + 1) = l.take j ++ [b] := by rw [List.take_add_one, h]; rfl
theorem dup_of {l : List Int} {j : Nat} {b : Int} (h : l[j]? = some b) (hm : b ∈ l.take j) : ¬ l.Nodup := fun hn => by
  have h1 := (List.take_sublist (j + 1) l).nodup hn
  rw [take_snoc h, List.nodup_append] at h1
  exact h1.2.2 b hm b (by simp) rfl

theorem may_fn (c : Srv) (hc : c.okS 1) (seats : List Seat) (a : Option Addr) (cap : Nat) : FC Try.prog 33 [.agg ⟨c.cells⟩, .slice a seats.length cap] [] (fun h => SlA seatK 56 h seats a cap)
    (fun v L => v = .bool (pd (seatsOk c seats)) ∧ L = []) := by
  refine FC.nil ?_
  refine FC.intro Try.func33 rfl (by kernel_rfl) 92 [.tmp 4] rfl rfl rfl ?_
  intro w0 hA
  have hsm := hA.bytes
  (repeat (first | (with_reducible apply XL.op) | ((with_reducible apply XOp.p1); (case hg | hv => exact rfl)) | ((with_reducible apply XOp.box); (case hg | hx' => exact rfl); intro bx_) | (with_reducible apply XL.nilT) | (with_reducible apply XC.seq) | (with_reducible apply XC.region (Γ := Γ))))
  ((with_reducible apply XOp.makeMap); (case hg => exact rfl); intro mb_ mo_ hm_)
  (repeat (first | (with_reducible apply XL.op) | ((with_reducible apply XOp.p1); (case hg | hv => exact rfl)) | (with_reducible apply XL.nilT) | (with_reducible apply XC.seq) | (with_reducible apply XC.region (Γ := Γ)) | (with_reducible apply XC.block)))
  refine XC.loopS (fun k ρ L => ∃ (i : Nat) (ob : Obj), i + k = seats.length ∧ L = [(mb_, ob), (bx_, .cells ⟨c.cells⟩ 23 (0, 0))] ∧ MapIs ob (markM ((seats.take i).map (·.Id))) ∧ ((seats.take i).map (·.Id)).Nodup ∧ (∀ s ∈ seats.take i, seatOk c s) ∧
      Slots ρ [(1, .slice a seats.length cap), (2, .pointer (some ⟨bx_, 0, none⟩)), (5, .map (some mb_)), (12, .slice a seats.length cap), (13, .int .i64 seats.length), (14, .int .i64 i)])
    seats.length ⟨0, mo_, by simp, rfl, hm_, by simp, by simp, rfl, rfl, rfl, rfl, rfl, rfl, trivial⟩ ?_
  rintro k ρ L ⟨i, ob, hik, rfl, hm, hnd, hok, hs⟩
  refine XC.slots _ hs ?_
  (repeat (first | (with_reducible apply XL.op) | ((with_reducible apply XOp.p1); (case hg | hv => exact rfl)) | (with_reducible apply XL.nilT) | (with_reducible apply XC.seq) | (with_reducible apply XC.region (Γ := Γ))))
  ((with_reducible apply XC.cond); (case hc => exact rfl); all_goals (intro hb_; try simp only [pd_true, pd_false, Bool.not_eq_true', Bool.not_eq_false', Bool.and_eq_true, Bool.and_eq_false_iff, Bool.or_eq_true, Bool.or_eq_false_iff, not_true_eq_false, not_false_eq_true, Int.not_lt, Int.not_le] at hb_))
  · obtain ⟨s, hi⟩ : ∃ s, seats[i]? = some s := ⟨_, List.getElem?_eq_getElem (by omega)⟩
    obtain ⟨ah, ch, hrow, hH, hsk⟩ := SlA_seat hA hi
    (repeat (first | (with_reducible apply XL.op) | ((with_reducible apply XOp.p1); (case hg | hv => exact rfl)) | ((with_reducible apply XOp.load); (case hg | ht | hk | hx => exact rfl); (case hc => exact own_cell (i := 0) rfl rfl)) | ((with_reducible apply XOp.storeN (i := 0)); (case hg | ht | hx | hv' | hk | h1 | hi | hs | ha => exact rfl)) | ((with_reducible apply XOp.pr); (case hg => exact rfl); (case hr => ((with_reducible apply PR.idxA); (case ht | hk | he | hx | hi => exact rfl); (case hr => first | assumption | omega); (case ha => first | assumption | exact SlA.at_ (by assumption))))) | ((with_reducible apply XOp.alloc); (case hg | ht | hx' => exact rfl); intro al_) | (with_reducible apply XL.nilT) | (with_reducible apply XC.seq) | (with_reducible apply XC.region (Γ := Γ)) | (with_reducible apply XQ.skip) | (with_reducible apply XQ.nt) | (with_reducible apply XC.block) | (first | ((with_reducible apply XOp.loadN); (case hg | ht | hk | hx => exact rfl); (case hc => exact Known.of_old hrow (Mono.row _ _ _)); (case hl => exact rfl)) | ((with_reducible apply XP.loadN); (case ho | hg | ht | hk | hx => exact rfl); (case hc => exact Known.of_old hrow (Mono.row _ _ _)); (case hl => exact rfl)))))
    (first | ((with_reducible apply XOp.pr); (case hg => exact rfl); (case hr => (with_reducible apply PR.lookup (i := 1)); (case ht => exact rfl); (case hk => exact rfl); (case hte => exact rfl); (case hkt => exact rfl); (case he => exact rfl); (case hz => exact rfl); (case hx => exact rfl); (case hi => exact rfl); (case hL => exact rfl); (case hm => exact  hm))) | ((with_reducible apply XP.pr); (case ho => exact rfl); (case hg => exact rfl); (case hr => (with_reducible apply PR.lookup (i := 1)); (case ht => exact rfl); (case hk => exact rfl); (case hte => exact rfl); (case hkt => exact rfl); (case he => exact rfl); (case hz => exact rfl); (case hx => exact rfl); (case hi => exact rfl); (case hL => exact rfl); (case hm => exact  hm))))
    (repeat (first | (with_reducible apply XL.op) | ((with_reducible apply XOp.p1); (case hg | hv => exact rfl))))
    ((with_reducible apply XOp.mapUpdate (i := 1)); (case hg => exact rfl); (case ht => exact rfl); (case hk => exact rfl); (case hte => exact rfl); (case hkt => exact rfl); (case hx => exact rfl); (case hy => exact rfl); (case hz => exact rfl); (case hL => exact rfl); (case hm => exact  hm))
    intro ob2 hm2
    (repeat (first | (with_reducible apply XL.op) | (with_reducible apply XL.nilT) | (with_reducible apply XC.seq) | (with_reducible apply XC.region (Γ := Γ))))
    ((with_reducible apply XOp.makeMap); (case hg => exact rfl); intro hb ho hh)
    (repeat (first | (with_reducible apply XL.op) | ((with_reducible apply XOp.p1); (case hg | hv => exact rfl)) | ((with_reducible apply XOp.load); (case hg | ht | hk | hx => exact rfl); (case hc => exact own_cell (i := 1) rfl rfl)) | (with_reducible apply XL.nilT) | (with_reducible apply XC.seq) | (with_reducible apply XC.region (Γ := Γ)) | (with_reducible apply XC.block)))
    refine XC.loop (fun k ρ L => ∃ (j : Nat) (oh : Obj), j + k = s.Held.length ∧ L = [(hb, oh), (al_, .cells ⟨s.cells (.slice ah s.Held.length ch)⟩ 46 (0, 0)), (mb_, ob2), (bx_, .cells ⟨c.cells⟩ 23 (0, 0))] ∧
        MapIs oh (markM (s.Held.take j)) ∧ heldOk c (s.Held.take j) ∧
        Slots ρ [(1, .slice a seats.length cap), (2, .pointer (some ⟨bx_, 0, none⟩)), (5, .map (some mb_)), (7, .pointer (some ⟨al_, 0, none⟩)), (8, .map (some hb)), (12, .slice a seats.length cap), (13, .int .i64 seats.length), (14, .int .i64 i),
          (25, .slice ah s.Held.length ch), (26, .int .i64 s.Held.length), (27, .int .i64 j)])
      s.Held.length ⟨0, ho, by simp, rfl, hh, ⟨by simp, by simp⟩, rfl, rfl, rfl, rfl, rfl, rfl, rfl, rfl, rfl, rfl, rfl, trivial⟩ ?_
    · rintro k2 ρ L ⟨j, oh, hjk, rfl, hmh, hho, hs⟩
      refine XC.slots _ hs ?_
      (repeat (first | (with_reducible apply XL.op) | ((with_reducible apply XOp.p1); (case hg | hv => exact rfl)) | (with_reducible apply XL.nilT) | (with_reducible apply XC.seq) | (with_reducible apply XC.region (Γ := Γ))))
      ((with_reducible apply XC.cond); (case hc => exact rfl); all_goals (intro hb_; try simp only [pd_true, pd_false, Bool.not_eq_true', Bool.not_eq_false', Bool.and_eq_true, Bool.and_eq_false_iff, Bool.or_eq_true, Bool.or_eq_false_iff, not_true_eq_false, not_false_eq_true, Int.not_lt, Int.not_le] at hb_))
      · obtain ⟨b, hj⟩ : ∃ b, s.Held[j]? = some b := ⟨_, List.getElem?_eq_getElem (by omega)⟩
        have hcell := (hH.int j (by omega)).1
        have hbk := (hH.int j (by omega)).2
        simp only [hj, Option.getD_some] at hcell hbk
        (repeat (first | (with_reducible apply XL.op) | ((with_reducible apply XOp.p1); (case hg | hv => exact rfl)) | ((with_reducible apply XOp.pr); (case hg => exact rfl); (case hr => ((with_reducible apply PR.idxA); (case ht | hk | he | hx | hi => exact rfl); (case hr => first | assumption | omega); (case ha => first | assumption | exact SlA.at_ (by assumption))))) | (with_reducible apply XL.nilT) | (with_reducible apply XC.seq) | (with_reducible apply XC.region (Γ := Γ)) | (with_reducible apply XQ.skip) | (with_reducible apply XQ.nt) | (with_reducible apply XC.block) | (first | ((with_reducible apply XOp.load); (case hg | ht | hk | hx => exact rfl); (case hc => exact Known.of_old hcell (Mono.cell _ _))) | ((with_reducible apply XP.load); (case ho | hg | ht | hk | hx => exact rfl); (case hc => exact Known.of_old hcell (Mono.cell _ _))))))
        (first | ((with_reducible apply XOp.pr); (case hg => exact rfl); (case hr => (with_reducible apply PR.lookup (i := 0)); (case ht => exact rfl); (case hk => exact rfl); (case hte => exact rfl); (case hkt => exact rfl); (case he => exact rfl); (case hz => exact rfl); (case hx => exact rfl); (case hi => exact rfl); (case hL => exact rfl); (case hm => exact  hmh))) | ((with_reducible apply XP.pr); (case ho => exact rfl); (case hg => exact rfl); (case hr => (with_reducible apply PR.lookup (i := 0)); (case ht => exact rfl); (case hk => exact rfl); (case hte => exact rfl); (case hkt => exact rfl); (case he => exact rfl); (case hz => exact rfl); (case hx => exact rfl); (case hi => exact rfl); (case hL => exact rfl); (case hm => exact  hmh))))
        (repeat (first | (with_reducible apply XL.op) | ((with_reducible apply XOp.p1); (case hg | hv => exact rfl))))
        ((with_reducible apply XOp.mapUpdate (i := 0)); (case hg => exact rfl); (case ht => exact rfl); (case hk => exact rfl); (case hte => exact rfl); (case hkt => exact rfl); (case hx => exact rfl); (case hy => exact rfl); (case hz => exact rfl); (case hL => exact rfl); (case hm => exact  hmh))
        intro oh2 hmh2
        (repeat' (first | (with_reducible apply XL.op) | ((with_reducible apply XOp.p1); (case hg | hv => exact rfl)) | ((with_reducible apply XOp.p0); (case hg => exact rfl)) | ((with_reducible apply XOp.load); (case hg | ht | hk | hx => exact rfl); (case hc => exact own_cell (i := 3) rfl rfl)) | (with_reducible apply XL.nilT) | (with_reducible apply XC.seq) | (with_reducible apply XC.region (Γ := Γ)) | (with_reducible apply XQ.skip) | (with_reducible apply XQ.ret) | (with_reducible apply XQ.nt) | (with_reducible apply XQ.nb) | (with_reducible apply XQ.rt) | (with_reducible apply XQ.rb) | ((with_reducible apply XC.condT); (case hc => exact rfl)) | (first | ((with_reducible apply XOp.pr); (case hg => exact rfl); (case hr => (with_reducible apply PR.lookup (i := 0)); (case ht => exact rfl); (case hk => exact rfl); (case hte => exact rfl); (case hkt => exact rfl); (case he => exact rfl); (case hz => exact rfl); (case hx => exact rfl); (case hi => exact rfl); (case hL => exact rfl); (case hm => exact  hmh2))) | ((with_reducible apply XP.pr); (case ho => exact rfl); (case hg => exact rfl); (case hr => (with_reducible apply PR.lookup (i := 0)); (case ht => exact rfl); (case hk => exact rfl); (case hte => exact rfl); (case hkt => exact rfl); (case he => exact rfl); (case hz => exact rfl); (case hx => exact rfl); (case hi => exact rfl); (case hL => exact rfl); (case hm => exact  hmh2)))) | ((with_reducible apply XOp.split); (case hg | hj | hd | hb => exact rfl); (fail_if_success (case hf => exact fun h => Bool.noConfusion h)); (fail_if_success (case ht => exact fun h => Bool.noConfusion h)); all_goals (intro hb_; try simp only [pd_true, pd_false, Bool.not_eq_true', Bool.not_eq_false', Bool.and_eq_true, Bool.and_eq_false_iff, Bool.or_eq_true, Bool.or_eq_false_iff, not_true_eq_false, not_false_eq_true, Int.not_lt, Int.not_le] at hb_)) | ((with_reducible apply XC.cond); (case hc => exact rfl); all_goals (intro hb_; try simp only [pd_true, pd_false, Bool.not_eq_true', Bool.not_eq_false', Bool.and_eq_true, Bool.and_eq_false_iff, Bool.or_eq_true, Bool.or_eq_false_iff, not_true_eq_false, not_false_eq_true, Int.not_lt, Int.not_le] at hb_))))
        · ((with_reducible apply XQ.retE); (case hr => exact .t rfl .nil))
          exact congrArg Value.bool (pdf fun h => by have := ((h.2.1 s (List.mem_of_getElem? hi)).2.2.2.1 b (List.mem_of_getElem? hj)).1; omega).symm
        · ((with_reducible apply XQ.retE); (case hr => exact .t rfl .nil))
          exact congrArg Value.bool (pdf fun h => by have := ((h.2.1 s (List.mem_of_getElem? hi)).2.2.2.1 b (List.mem_of_getElem? hj)).2; omega).symm
        · ((with_reducible apply XQ.retE); (case hr => exact .t rfl .nil))
          simp only [if_true] at hb_
          exact congrArg Value.bool (pdf fun h => dup_of hj (markM_two hb_) (h.2.1 s (List.mem_of_getElem? hi)).2.2.2.2).symm
        · have hnb : b ∉ s.Held.take j := fun h => by
            simp only [if_true, markM_get, if_pos h] at hb_; exact absurd hb_ (by decide)
          refine ⟨k2 - 1, by omega, j + 1, oh2, by omega, rfl, by rw [take_snoc hj]; exact hmh2.conv (markM_upd hnb), ?_, rfl, rfl, rfl, rfl, rfl, rfl, rfl, rfl, rfl, rfl, intS (m := s.Held.length) (by omega) (by have := hH.bytes; omega), trivial⟩
          rw [take_snoc hj]
          refine ⟨fun x hx => ?_, ?_⟩
          · rcases List.mem_append.1 hx with h | h
            · exact hho.1 x h
            · rw [List.mem_singleton.1 h]; exact ⟨by assumption, by assumption⟩
          · rw [List.nodup_append]
            exact ⟨hho.2, by simp, fun x hx y hy e => hnb (by rw [← List.mem_singleton.1 hy, ← e]; exact hx)⟩
      · obtain rfl : j = s.Held.length := by omega
        rw [List.take_length] at hho
        have hg := hH.bytes
        have hcb := hc.2.2.1
        (repeat' (first | (with_reducible apply XL.op) | ((with_reducible apply XOp.p1); (case hg | hv => exact rfl)) | ((with_reducible apply XOp.p0); (case hg => exact rfl)) | (with_reducible apply XL.nilT) | (with_reducible apply XC.seq) | (with_reducible apply XC.region (Γ := Γ)) | (with_reducible apply XQ.skip) | (with_reducible apply XQ.ret) | (with_reducible apply XQ.exit) | (with_reducible apply XQ.nt) | (with_reducible apply XQ.nb) | (with_reducible apply XQ.rt) | (with_reducible apply XQ.rb) | (with_reducible apply XQ.et) | ((with_reducible apply XP.p1); (case ho | hg | hv => exact rfl)) | ((with_reducible apply XP.p0); (case ho | hg => exact rfl)) | ((with_reducible apply XP.load); (case ho | hg | ht | hk | hx => exact rfl); (case hc => exact own_cell (i := 1) rfl rfl)) | ((with_reducible apply XP.load); (case ho | hg | ht | hk | hx => exact rfl); (case hc => exact own_cell (i := 3) rfl rfl)) | (with_reducible apply XP.done) | ((with_reducible apply XP.e); (first | ((with_reducible apply XE.d); (case ho => exact rfl); (case hd => exact rfl)) | ((with_reducible apply XE.e); (case ho => exact rfl)))) | ((with_reducible apply XP.keep); (case hk => first | ((repeat' (first | exact List.forall_mem_nil _ | (with_reducible refine List.forall_mem_cons.2 ⟨?_, ?_⟩) | exact List.mem_cons_self .. | (with_reducible apply List.mem_cons_of_mem) | (with_reducible apply List.mem_append_right))); done) | (intro x hx; first | exact sel_in hx | exact List.mem_cons_of_mem _ (sel_in hx) | exact List.mem_append_right _ (sel_in hx) | exact hx | exact List.mem_cons_of_mem _ hx | exact List.mem_append_right _ hx | ((repeat (first | exact sel_in hx | exact hx | (with_reducible apply List.mem_cons_of_mem) | (with_reducible apply List.mem_append_right))); done) | cases hx))) | ((with_reducible apply XQ.eb); (case hb => exact rfl)) | ((with_reducible apply XC.condT); (case hc => exact rfl)) | (first | ((with_reducible apply XOp.pr); (case hg => exact rfl); (case hr => (with_reducible apply PR.lookup (i := 2)); (case ht => exact rfl); (case hk => exact rfl); (case hte => exact rfl); (case hkt => exact rfl); (case he => exact rfl); (case hz => exact rfl); (case hx => exact rfl); (case hi => exact rfl); (case hL => exact rfl); (case hm => exact  hm2))) | ((with_reducible apply XP.pr); (case ho => exact rfl); (case hg => exact rfl); (case hr => (with_reducible apply PR.lookup (i := 2)); (case ht => exact rfl); (case hk => exact rfl); (case hte => exact rfl); (case hkt => exact rfl); (case he => exact rfl); (case hz => exact rfl); (case hx => exact rfl); (case hi => exact rfl); (case hL => exact rfl); (case hm => exact  hm2)))) | ((with_reducible apply XC.regionD (Γ := Γ) mixed (.q 0 (.q 1 (.q 2 (.q 3 (.q 4 (.q 5 (.q 6 (.q 7 (.q 8 (.q 9 (.q 10 (.q 11 (.q 12 (.q 13 (.q 14 (.q 15 (.q 16 (.q 17 (.q 18 (.q 19 (.q 20 (.q 21 (.q 22 (.q 23 (.q 24 (.q 25 (.q 26 (.q 27 (.q 28 (.q 29 (.q 30 (.q 31 (.q 32 (.q 33 (.q 34 (.e 35 (.q 36 (.q 37 (.done))))))))))))))))))))))))))))))))))))))) [] []); (case hc => kernel_rfl)) | (((with_reducible apply XOp.call (hF := need_fn s.Cached c.Block (by omega) (by omega))); (case hg => exact rfl); (case hc => exact rfl); (case ha => exact rfl); (case hL => exact (List.nil_append _).symm); try (case hA => exact Known.true)); rintro _ _ ⟨rfl, rfl⟩) | ((with_reducible apply XP.split); (case ho | hg | hj | hd | hb => exact rfl); (fail_if_success (case hf => exact fun h => Bool.noConfusion h)); (fail_if_success (case ht => exact fun h => Bool.noConfusion h)); all_goals (intro hb_; try simp only [pd_true, pd_false, Bool.not_eq_true', Bool.not_eq_false', Bool.and_eq_true, Bool.and_eq_false_iff, Bool.or_eq_true, Bool.or_eq_false_iff, not_true_eq_false, not_false_eq_true, Int.not_lt, Int.not_le] at hb_)) | ((with_reducible apply XC.cond); (case hc => exact rfl); all_goals (intro hb_; try simp only [pd_true, pd_false, Bool.not_eq_true', Bool.not_eq_false', Bool.and_eq_true, Bool.and_eq_false_iff, Bool.or_eq_true, Bool.or_eq_false_iff, not_true_eq_false, not_false_eq_true, Int.not_lt, Int.not_le] at hb_))))
        · ((with_reducible apply XQ.retE); (case hr => exact .t rfl .nil))
          simp only [if_true] at hb_
          refine congrArg Value.bool (pdf fun h => ?_).symm
          have hj : (seats.map (·.Id))[i]? = some s.Id := by rw [List.getElem?_map, hi]; rfl
          exact dup_of hj (by rw [← List.map_take]; exact markM_two hb_) h.2.2
        iterate 5
          · ((with_reducible apply XQ.retE); (case hr => exact .t rfl .nil))
            exact congrArg Value.bool (pdf fun h => by have := h.2.1 s (List.mem_of_getElem? hi); obtain ⟨h1, h2, h3, _⟩ := this; omega).symm
        · have hnb : s.Id ∉ (seats.take i).map (·.Id) := markM_one (by assumption)
          refine ⟨k - 1, by omega, _, List.Sublist.cons _ (List.Sublist.cons _ (List.Sublist.refl _)), i + 1, ob2, by omega, rfl, ?_, ?_, ?_, rfl, rfl, rfl, rfl, rfl, intS (m := seats.length) (by omega) (by omega), trivial⟩
          · rw [take_snoc hi, List.map_append]; exact hm2.conv (markM_upd hnb)
          · rw [take_snoc hi, List.map_append, List.nodup_append]
            exact ⟨hnd, by simp, fun x hx y hy e => hnb (by simp at hy; rw [← hy, ← e]; exact hx)⟩
          · rw [take_snoc hi]
            intro x hx
            rcases List.mem_append.1 hx with h | h
            · exact hok x h
            · rw [List.mem_singleton.1 h]; exact ⟨by omega, by omega, by omega, hho⟩
  · obtain rfl : i = seats.length := by omega
    rw [List.take_length] at hok hnd
    (repeat (first | (with_reducible apply XL.op) | ((with_reducible apply XOp.p1); (case hg | hv => exact rfl)) | (with_reducible apply XL.nilT) | (with_reducible apply XC.seq) | (with_reducible apply XC.region (Γ := Γ)) | (with_reducible apply XQ.ret) | (with_reducible apply XQ.exit) | (with_reducible apply XQ.nt) | (with_reducible apply XQ.et) | ((with_reducible apply XQ.eb); (case hb => exact rfl))))
    ((with_reducible apply XQ.retE); (case hr => exact .t rfl .nil))
    show Value.bool _ = Value.bool _
    congr 1
    rw [Bool.eq_iff_iff, pd_true, pd_true]
    exact ⟨fun h => ⟨by omega, hok, hnd⟩, fun h => by have := h.1; omega⟩
end Go.Proofs.YthnmagdaepgdiaaX
