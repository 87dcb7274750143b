/- SchedPlenty's contract. -/
import Derived.Test.YthnmagdaepgdiaaXLawBu
import Derived.Test.YthnmagdaepgdiaaXSLaw3
set_option linter.unusedSimpArgs false
set_option linter.unusedVariables false
namespace Go.Proofs.YthnmagdaepgdiaaX
open Go Go.SX

theorem sumI_bnd {α : Type} {f : α → Int} {M : Int} : ∀ (l : List α), (∀ x ∈ l, 0 ≤ f x ∧ f x ≤ M) → 0 ≤ sumI f l ∧ sumI f l ≤ l.length * M
  | [], _ => by simp [sumI]
  | x :: l, h => by
    have h1 := h x (by simp)
    have h2 := sumI_bnd l (fun y hy => h y (by simp [hy]))
    simp only [sumI, List.length_cons]
    have e : ((l.length + 1 : Nat) : Int) * M = l.length * M + M := by rw [Int.natCast_add, Int.add_mul]; simp
    rw [e]; omega
set_option maxHeartbeats 8000000 in
theorem schedPlenty_fn (v0 v1 v2 : Value) (c : Srv) (seats : List Seat) (picks : List Int) : FC Try.prog 10 [v0, v1, v2] []
    (fun h => Go.SX.agg srvK h c v0 ∧ Go.SX.one (seatK.slice 56) h seats v1 ∧ Go.SX.one ((Kd.int .i64).slice 8) h picks v2) (fun v _ => v = .bool true) := by
  refine FC.intro Try.func10 rfl (by kernel_rfl) 139 [.tmp 6] rfl rfl rfl ?_
  rintro w0 ⟨⟨cs, rfl, rfl, hck⟩, ⟨_, e1, a, cap, rfl, hst, _⟩, ⟨_, e2, pa, pc, rfl, hpk, _⟩⟩
  cases e1; cases e2
  obtain ⟨T, hTs⟩ := exT c seats
  (repeat (first | (with_reducible apply XL.op) | (with_reducible apply XC.seq) | (with_reducible apply XC.region (Γ := Γ))))
  ((with_reducible apply XOp.box); (case hg | hx' => exact rfl); intro cb)
  (repeat (first | (with_reducible apply XL.op) | ((with_reducible apply XOp.p1); (case hg | hv => exact rfl)) | ((with_reducible apply XOp.loadO (i := 0)); (case hg | ht | hk | hx | hi | hc => exact rfl)) | (with_reducible apply XL.nilT) | (with_reducible apply XC.seq) | (with_reducible apply XC.region (Γ := Γ))))
  ((with_reducible apply XOp.call (hF := planned_fn c seats T hTs a cap picks pa pc)); (case hg => exact rfl); (case hc => exact rfl); (case ha => exact rfl); (case hL => exact (List.nil_append _).symm); try (case hA => exact Known.true))
  · exact (Known.of_old hst (Mono.sl _ _ _ _ _)).and (Known.of_old hpk (Mono.sl _ _ _ _ _))
  rintro v L' hpl
  by_cases hok : c.okS 1 ∧ seatsOk c seats
  · obtain ⟨vo, vs, Fo, Fs, rfl, rfl, hoi, hoc⟩ := hpl.1 hok
    obtain ⟨hc, hso⟩ := hok
    obtain ⟨hT, hp⟩ := hTs hso
    have hinv := inv_of hc hso hT hp picks
    have hbd := fold_bnd hc (T := T) (by rw [hp.length_eq]; exact hso.1) (picks := picks) T (start_bnd hc) (fun s h => hso.2.1 s (hp.mem_iff.1 h))
    have hTl : T.length ≤ 16 := by rw [hp.length_eq]; exact hso.1
    obtain ⟨st, hst'⟩ : ∃ st, st = planS c T picks := ⟨_, rfl⟩
    rw [show T.foldl (turn c T picks) ⟨[], 0, c.Budget, []⟩ = st from hst'.symm] at hbd
    rw [← hst'] at hinv hoi hoc
    obtain ⟨bd1, _, _, bd4⟩ := hbd
    obtain ⟨oa, oc, rfl, _, hO⟩ := hoi.1.slA (by_ := 8) hoi.2 (by omega)
    obtain ⟨sa, sc, rfl, hS⟩ := slc_raw hoc (by omega)
    have hch := hc.2.2.2.2
    (repeat (first | (with_reducible apply XL.op) | ((with_reducible apply XOp.p1); (case hg | hv => exact rfl))))
    ((with_reducible apply XOp.alloc); (case hg | ht | hx' => exact rfl); intro pb)
    (repeat (first | (with_reducible apply XL.op) | ((with_reducible apply XOp.p1); (case hg | hv => exact rfl)) | ((with_reducible apply XOp.storeN (i := 0)); (case hg | ht | hx | hv' | hk | h1 | hi | hs | ha => exact rfl)) | (with_reducible apply XL.nilT) | (with_reducible apply XC.seq) | (with_reducible apply XC.region (Γ := Γ)) | (with_reducible apply XQ.skip) | (with_reducible apply XQ.nt) | (with_reducible apply XC.block) | ((with_reducible apply XC.condF); (case hc => exact rfl))))
    refine XC.perm (L := (pb, .cells ⟨[.slice oa st.out.length oc, .slice sa st.sl.length sc]⟩ 34 (0, 0)) :: ((Fo ++ Fs) ++ [(cb, .cells ⟨c.cells⟩ 23 (0, 0))])) (L' := (pb, .cells ⟨[.slice oa st.out.length oc, .slice sa st.sl.length sc]⟩ 34 (0, 0)) :: (cb, .cells ⟨c.cells⟩ 23 (0, 0)) :: (Fo ++ Fs)) ?_ (by (first | (with_reducible exact List.Perm.refl _) | refine perm_of_cnt fun p_ => ?_; simp only [List.countP_append, List.countP_cons, List.countP_nil]; omega))
    have hsl16 := hso.1
    have hcb := hc.2.2.1
    have hbl := hc.2.1
    have hbT : ∀ z ∈ seats, 0 ≤ tkS c picks z ∧ tkS c picks z ≤ 63 := fun z hz => by have := wantS_bnd hc (hso.2.1 z hz); unfold tkS; split <;> omega
    have hbG : ∀ z ∈ seats, 0 ≤ gvS c picks z ∧ gvS c picks z ≤ 1200 := fun z hz => by
      have h1 := wantS_bnd hc (hso.2.1 z hz)
      have h2 := Go.SX.beyond_le hc (hso.2.1 z hz) (x := wantS c z) (by omega)
      unfold gvS; split <;> omega
    have hbH : ∀ z ∈ seats, 0 ≤ (z.Held.length : Int) ∧ (z.Held.length : Int) ≤ 256 := fun z hz => by have := held_le hc (hso.2.1 z hz).2.2.2; omega
    have hbC : ∀ z ∈ seats, 0 ≤ (if pd (z.Id ∈ picks) then (1 : Int) else 0) ∧ (if pd (z.Id ∈ picks) then (1 : Int) else 0) ≤ 1 := fun z hz => by split <;> omega
    refine XC.cutB (fun ρ L => ∃ i : Nat, i = seats.length ∧ L = (pb, .cells ⟨[.slice oa st.out.length oc, .slice sa st.sl.length sc]⟩ 34 (0, 0)) :: (cb, .cells ⟨c.cells⟩ 23 (0, 0)) :: (Fo ++ Fs) ∧ Slots ρ [(1, .slice a seats.length cap), (2, .slice pa picks.length pc), (3, .pointer (some ⟨cb, 0, none⟩)), (7, .pointer (some ⟨pb, 0, none⟩)), (10, .int .i64 (sumI (tkS c picks) (seats.take i))), (11, .int .i64 (sumI (fun s => (s.Held.length : Int)) (seats.take i) + sumI (gvS c picks) (seats.take i))), (12, .int .i64 (sumI (fun s => if pd (s.Id ∈ picks) then (1 : Int) else 0) (seats.take i)))]) ?_ ?_
    · refine XC.loopS (fun k ρ L => ∃ i : Nat, i + k = seats.length ∧ L = (pb, .cells ⟨[.slice oa st.out.length oc, .slice sa st.sl.length sc]⟩ 34 (0, 0)) :: (cb, .cells ⟨c.cells⟩ 23 (0, 0)) :: (Fo ++ Fs) ∧
        Slots ρ [(1, .slice a seats.length cap), (2, .slice pa picks.length pc), (3, .pointer (some ⟨cb, 0, none⟩)), (7, .pointer (some ⟨pb, 0, none⟩)), (10, .int .i64 (sumI (tkS c picks) (seats.take i))), (11, .int .i64 (sumI (fun s => (s.Held.length : Int)) (seats.take i) + sumI (gvS c picks) (seats.take i))), (12, .int .i64 (sumI (fun s => if pd (s.Id ∈ picks) then (1 : Int) else 0) (seats.take i))), (13, .int .i64 i)]) seats.length
        ⟨0, by simp, rfl, rfl, rfl, rfl, rfl, rfl, rfl, rfl, rfl, trivial⟩ ?_
      rintro k ρ L ⟨i, hik, rfl, hs⟩
      refine XC.slots _ hs ?_
      (repeat (first | (with_reducible apply XL.op) | ((with_reducible apply XOp.p1); (case hg | hv => exact rfl)) | (with_reducible apply XL.nilT) | (with_reducible apply XC.seq) | (with_reducible apply XC.region (Γ := Γ))))
      ((with_reducible apply XC.cond); (case hc => exact rfl); all_goals (intro hb_; try simp only [pd_true, pd_false, Bool.not_eq_true', Bool.not_eq_false', Bool.and_eq_true, Bool.and_eq_false_iff, Bool.or_eq_true, Bool.or_eq_false_iff, not_true_eq_false, not_false_eq_true, Int.not_lt, Int.not_le] at hb_))
      · obtain ⟨s, hi⟩ : ∃ s, seats[i]? = some s := ⟨_, List.getElem?_eq_getElem (by omega)⟩
        have hsm := List.mem_of_getElem? hi
        obtain ⟨ah, ch, hrow, hH, hsk⟩ := SlA_seat hst hi
        have hso2 := hso.2.1 s hsm
        have hkn := hso2.1
        have hca := hso2.2.1
        have hw := wantS_bnd hc hso2
        have hby := Go.SX.beyond_le hc hso2 (x := wantS c s) (by omega)
        have hhl := held_le hc hso2.2.2.2
        have t1 := sum_take (tkS c picks) hi
        have t2 := sum_take (gvS c picks) hi
        have t3 := sum_take (fun s : Seat => (s.Held.length : Int)) hi
        have t4 := sum_take (fun s : Seat => if pd (s.Id ∈ picks) then (1 : Int) else 0) hi
        have b1 := sumI_bnd (M := 63) (seats.take i) (fun z hz => hbT z (List.mem_of_mem_take hz))
        have b2 := sumI_bnd (M := 1200) (seats.take i) (fun z hz => hbG z (List.mem_of_mem_take hz))
        have b3 := sumI_bnd (f := fun s : Seat => (s.Held.length : Int)) (M := 256) (seats.take i) (fun z hz => hbH z (List.mem_of_mem_take hz))
        have b4 := sumI_bnd (f := fun s : Seat => if pd (s.Id ∈ picks) then (1 : Int) else 0) (M := 1) (seats.take i) (fun z hz => hbC z (List.mem_of_mem_take hz))
        rw [List.length_take_of_le (by omega)] at b1 b2 b3 b4
        (repeat (first | (with_reducible apply XL.op) | ((with_reducible apply XOp.p1); (case hg | hv => exact rfl)) | ((with_reducible apply XOp.pr); (case hg => exact rfl); (case hr => ((with_reducible apply PR.idxA); (case ht | hk | he | hx | hi => exact rfl); (case hr => first | assumption | omega); (case ha => first | assumption | exact SlA.at_ (by assumption))))) | (with_reducible apply XC.seq) | (with_reducible apply XC.region (Γ := Γ)) | (with_reducible apply XQ.skip) | (with_reducible apply XQ.nt) | (with_reducible apply XC.block) | (first | ((with_reducible apply XOp.loadN); (case hg | ht | hk | hx => exact rfl); (case hc => exact Known.of_old hrow (Mono.row _ _ _)); (case hl => exact rfl)) | ((with_reducible apply XP.loadN); (case ho | hg | ht | hk | hx => exact rfl); (case hc => exact Known.of_old hrow (Mono.row _ _ _)); (case hl => exact rfl)))))
        ((with_reducible apply XOp.alloc); (case hg | ht | hx' => exact rfl); intro sb)
        (repeat (first | (with_reducible apply XL.op) | ((with_reducible apply XOp.p1); (case hg | hv => exact rfl)) | ((with_reducible apply XOp.load); (case hg | ht | hk | hx => exact rfl); (case hc => exact own_cell (i := 0) rfl rfl)) | ((with_reducible apply XOp.storeN (i := 0)); (case hg | ht | hx | hv' | hk | h1 | hi | hs | ha => exact rfl)) | (with_reducible apply XL.nilT) | (with_reducible apply XC.seq) | (with_reducible apply XC.region (Γ := Γ)) | (((with_reducible apply XOp.callQ (hF := amongL_fn picks pa pc s.Id)); (case hg => exact rfl); (case hc => exact rfl); (case ha => exact rfl); try (case hA => exact Known.true)); (case hA => exact Known.of_old hpk (Mono.sl _ _ _ _ _)); rintro _ rfl)))
        ((with_reducible apply XC.cond); (case hc => exact rfl); all_goals (intro hb_; try simp only [pd_true, pd_false, Bool.not_eq_true', Bool.not_eq_false', Bool.and_eq_true, Bool.and_eq_false_iff, Bool.or_eq_true, Bool.or_eq_false_iff, not_true_eq_false, not_false_eq_true, Int.not_lt, Int.not_le] at hb_))
        · have hpk2 : s.Id ∈ picks := hb_
          have et : tkS c picks s = wantS c s := by unfold tkS; rw [pdt hpk2]; rfl
          have eg : gvS c picks s = beyondS c s (wantS c s) := by unfold gvS; rw [pdt hpk2]; rfl
          rw [pdt hpk2] at t4
          simp only [if_true] at t4
          (repeat (first | (with_reducible apply XL.op) | ((with_reducible apply XOp.p1); (case hg | hv => exact rfl)) | ((with_reducible apply XOp.loadO (i := 0)); (case hg | ht | hk | hx | hi | hc => exact rfl)) | ((with_reducible apply XOp.loadO (i := 2)); (case hg | ht | hk | hx | hi | hc => exact rfl)) | (with_reducible apply XL.nilT) | (with_reducible apply XC.seq) | (with_reducible apply XC.region (Γ := Γ)) | (((with_reducible apply XOp.callQ (hF := wanted_fn c hc s hso2 (.slice ah s.Held.length ch) rfl)); (case hg => exact rfl); (case hc => exact rfl); (case ha => exact rfl); try (case hA => exact Known.true)); rintro _ rfl)))
          ((with_reducible apply XC.regionD (Γ := Γ) mixed (.q 0 (.q 1 (.q 2 (.q 3 (.q 4 (.q 5 (.q 6 (.q 7 (.q 8 (.q 9 (.q 10 (.q 11 (.q 12 (.q 13 (.q 14 (.q 15 (.e 16 (.q 17 (.q 18 (.done)))))))))))))))))))) [] []); (case hc => kernel_rfl))
          have en : IntKind.i64.wrap (s.Cached + wantS c s) = s.Cached + wantS c s := wrap64_of (by omega) (by omega)
          have eb : IntKind.i64.wrap (IntKind.i64.wrap (IntKind.i64.wrap (s.Cached + wantS c s) + c.Block) - 1) = s.Cached + wantS c s + c.Block - 1 := by
            rw [en, wrap64_of (x := s.Cached + wantS c s + c.Block) (by omega) (by omega), wrap64_of (by omega) (by omega)]
          have eq1 : 0 ≤ (s.Cached + wantS c s + c.Block - 1) / c.Block := Int.ediv_nonneg (by omega) (by omega)
          have eq2 : (s.Cached + wantS c s + c.Block - 1) / c.Block ≤ s.Cached + wantS c s + c.Block - 1 := Int.ediv_le_self _ (by omega)
          have em : IntKind.i64.wrap (IntKind.i64.wrap ((IntKind.i64.wrap (IntKind.i64.wrap (IntKind.i64.wrap (s.Cached + wantS c s) + c.Block) - 1)).tdiv c.Block) - (s.Held.length : Nat)) = needI (s.Cached + wantS c s) c.Block - (s.Held.length : Nat) := by
            rw [eb, Int.tdiv_eq_ediv_of_nonneg (by omega), wrap64_of (x := (s.Cached + wantS c s + c.Block - 1) / c.Block) (by omega) (by omega), wrap64_of (by omega) (by omega)]; rfl
          (repeat (first | (with_reducible apply XL.op) | ((with_reducible apply XOp.p1); (case hg | hv => exact rfl)) | (with_reducible apply XL.nilT) | (with_reducible apply XC.region (Γ := Γ)) | (with_reducible apply XQ.nt) | (with_reducible apply XQ.nb) | ((with_reducible apply XP.p1); (case ho | hg | hv => exact rfl)) | ((with_reducible apply XP.load); (case ho | hg | ht | hk | hx => exact rfl); (case hc => exact own_cell (i := 0) rfl rfl)) | ((with_reducible apply XP.load); (case ho | hg | ht | hk | hx => exact rfl); (case hc => exact own_cell (i := 2) rfl rfl)) | ((with_reducible apply XP.pr); (case ho => exact rfl); (case hg => exact rfl); (case hr => ((with_reducible apply PR.quo); (case hx | hy => exact rfl); (case hr => first | assumption | omega | (rw [wrap64_of (by omega) (by omega)]; omega))))) | (with_reducible apply XP.done) | ((with_reducible apply XP.e); (first | ((with_reducible apply XE.d); (case ho => exact rfl); (case hd => exact rfl)) | ((with_reducible apply XE.e); (case ho => exact rfl)))) | ((with_reducible apply XP.keep); (case hk => first | ((repeat' (first | exact List.forall_mem_nil _ | (with_reducible refine List.forall_mem_cons.2 ⟨?_, ?_⟩) | exact List.mem_cons_self .. | (with_reducible apply List.mem_cons_of_mem) | (with_reducible apply List.mem_append_right))); done) | (intro x hx; first | exact sel_in hx | exact List.mem_cons_of_mem _ (sel_in hx) | exact List.mem_append_right _ (sel_in hx) | exact hx | exact List.mem_cons_of_mem _ hx | exact List.mem_append_right _ hx | ((repeat (first | exact sel_in hx | exact hx | (with_reducible apply List.mem_cons_of_mem) | (with_reducible apply List.mem_append_right))); done) | cases hx))) | (((with_reducible apply XOp.callQ (hF := greatest_fn (IntKind.i64.wrap (IntKind.i64.wrap ((IntKind.i64.wrap (IntKind.i64.wrap (IntKind.i64.wrap (s.Cached + wantS c s) + c.Block) - 1)).tdiv c.Block) - (s.Held.length : Nat))) 0)); (case hg => exact rfl); (case hc => exact rfl); (case ha => exact rfl); try (case hA => exact Known.true)); rintro _ rfl)))
          refine ⟨k - 1, by omega, _, List.Sublist.cons _ (List.Sublist.refl _), i + 1, by omega, rfl, rfl, rfl, rfl, rfl, ?_, ?_, ?_, intS (m := seats.length) (by omega) (by omega), trivial⟩
          · show Value.int _ _ = Value.int _ _
            rw [wrap64_of (by omega) (by omega), t1, et]
          · show Value.int _ _ = Value.int _ _
            have ex : max (needI (s.Cached + wantS c s) c.Block - (s.Held.length : Nat)) 0 = beyondS c s (wantS c s) := by unfold beyondS; omega
            rw [em, ex, t2, t3, eg, wrap64_of (x := _ + ((s.Held.length : Nat) : Int)) (by omega) (by omega), wrap64_of (by omega) (by omega)]
            congr 1; omega
          · show Value.int _ _ = Value.int _ _
            rw [wrap64_of (by omega) (by omega), t4]
        · have hpk2 : s.Id ∉ picks := hb_
          have et : tkS c picks s = 0 := by unfold tkS; rw [pdf hpk2]; rfl
          have eg : gvS c picks s = 0 := by unfold gvS; rw [pdf hpk2]; rfl
          rw [pdf hpk2] at t4
          simp only [Bool.false_eq_true, if_false] at t4
          (repeat (first | (with_reducible apply XL.op) | ((with_reducible apply XOp.p1); (case hg | hv => exact rfl)) | (with_reducible apply XL.nilT) | (with_reducible apply XC.region (Γ := Γ)) | (with_reducible apply XQ.skip) | (with_reducible apply XQ.nt) | (with_reducible apply XQ.nb)))
          refine ⟨k - 1, by omega, _, List.Sublist.cons _ (List.Sublist.refl _), i + 1, by omega, rfl, rfl, rfl, rfl, rfl, ?_, ?_, ?_, intS (m := seats.length) (by omega) (by omega), trivial⟩
          · show Value.int _ _ = Value.int _ _
            rw [t1, et]; congr 1; omega
          · show Value.int _ _ = Value.int _ _
            rw [t2, t3, eg, wrap64_of (by omega) (by omega)]
            congr 1; omega
          · show Value.int _ _ = Value.int _ _
            rw [t4]; congr 1; omega
      · obtain rfl : i = seats.length := by omega
        (repeat (first | (with_reducible apply XQ.exit) | (with_reducible apply XQ.nt) | (with_reducible apply XQ.et) | ((with_reducible apply XQ.eb); (case hb => exact rfl))))
        exact ⟨_, rfl, rfl, rfl, rfl, rfl, rfl, rfl, rfl, rfl, trivial⟩
    rintro ρ L ⟨i, rfl, rfl, hs⟩
    rw [List.take_length] at hs
    refine XQ_slots _ hs ?_
    (repeat (first | (with_reducible apply XL.op) | ((with_reducible apply XOp.p1); (case hg | hv => exact rfl)) | ((with_reducible apply XOp.load); (case hg | ht | hk | hx => exact rfl); (case hc => exact own_cell (i := 1) rfl rfl)) | (with_reducible apply XC.seq) | (with_reducible apply XC.region (Γ := Γ)) | (with_reducible apply XQ.nt)))
    ((with_reducible apply XOp.split); (case hg | hj | hd | hb => exact rfl); (fail_if_success (case hf => exact fun h => Bool.noConfusion h)); (fail_if_success (case ht => exact fun h => Bool.noConfusion h)); all_goals (intro hb_; try simp only [pd_true, pd_false, Bool.not_eq_true', Bool.not_eq_false', Bool.and_eq_true, Bool.and_eq_false_iff, Bool.or_eq_true, Bool.or_eq_false_iff, not_true_eq_false, not_false_eq_true, Int.not_lt, Int.not_le] at hb_))
    · (repeat (first | (with_reducible apply XL.op) | ((with_reducible apply XOp.p1); (case hg | hv => exact rfl)) | ((with_reducible apply XOp.p0); (case hg => exact rfl)) | (with_reducible apply XL.nilT) | (with_reducible apply XC.seq) | (with_reducible apply XC.region (Γ := Γ)) | (with_reducible apply XQ.ret) | (with_reducible apply XQ.rt) | ((with_reducible apply XC.condT); (case hc => exact rfl))))
      ((with_reducible apply XQ.retE); (case hr => exact .t rfl .nil))
      rfl
    (repeat (first | (with_reducible apply XL.op) | ((with_reducible apply XOp.p1); (case hg | hv => exact rfl)) | ((with_reducible apply XOp.load); (case hg | ht | hk | hx => exact rfl); (case hc => exact own_cell (i := 1) rfl rfl)) | (with_reducible apply XL.nilT)))
    ((with_reducible apply XC.cond); (case hc => exact rfl); all_goals (intro hb_; try simp only [pd_true, pd_false, Bool.not_eq_true', Bool.not_eq_false', Bool.and_eq_true, Bool.and_eq_false_iff, Bool.or_eq_true, Bool.or_eq_false_iff, not_true_eq_false, not_false_eq_true, Int.not_lt, Int.not_le] at hb_))
    · (repeat (first | (with_reducible apply XL.op) | ((with_reducible apply XOp.p1); (case hg | hv => exact rfl)) | (with_reducible apply XL.nilT) | (with_reducible apply XC.seq) | (with_reducible apply XC.region (Γ := Γ)) | (with_reducible apply XQ.ret) | (with_reducible apply XQ.rt)))
      ((with_reducible apply XQ.retE); (case hr => exact .t rfl .nil))
      rfl
    have hpl2 := plan_plenty hc (T := T) (picks := picks) (fun z hz => hso.2.1 z (hp.mem_iff.1 hz)) (by rw [sumI_perm _ hp]; omega) (by rw [sumI_perm _ hp, sumI_perm (gvS c picks) hp]; omega)
    rw [← hst'] at hpl2
    have hlen := hpl2.len
    rw [sumI_perm _ hp] at hlen
    (repeat (first | (with_reducible apply XL.op) | ((with_reducible apply XOp.p1); (case hg | hv => exact rfl)) | (with_reducible apply XL.nilT) | (with_reducible apply XC.seq) | (with_reducible apply XC.region (Γ := Γ)) | (with_reducible apply XQ.skip) | (with_reducible apply XQ.nt) | (with_reducible apply XC.block)))
    refine XC.loopS (fun k ρ L => ∃ i : Nat, i + k = st.sl.length ∧ L = (pb, .cells ⟨[.slice oa st.out.length oc, .slice sa st.sl.length sc]⟩ 34 (0, 0)) :: (cb, .cells ⟨c.cells⟩ 23 (0, 0)) :: (Fo ++ Fs) ∧
      Slots ρ [(1, .slice a seats.length cap), (2, .slice pa picks.length pc), (3, .pointer (some ⟨cb, 0, none⟩)), (7, .pointer (some ⟨pb, 0, none⟩)), (12, .int .i64 (sumI (fun s => if pd (s.Id ∈ picks) then (1 : Int) else 0) seats)), (16, .int .i64 i)]) st.sl.length
      ⟨0, by simp, rfl, rfl, rfl, rfl, rfl, rfl, rfl, trivial⟩ ?_
    rintro k ρ L ⟨i, hik, rfl, hs⟩
    refine XC.slots _ hs ?_
    (repeat (first | (with_reducible apply XL.op) | ((with_reducible apply XOp.p1); (case hg | hv => exact rfl)) | ((with_reducible apply XOp.load); (case hg | ht | hk | hx => exact rfl); (case hc => exact own_cell (i := 0) rfl rfl)) | (with_reducible apply XL.nilT) | (with_reducible apply XC.seq) | (with_reducible apply XC.region (Γ := Γ))))
    ((with_reducible apply XC.cond); (case hc => exact rfl); all_goals (intro hb_; try simp only [pd_true, pd_false, Bool.not_eq_true', Bool.not_eq_false', Bool.and_eq_true, Bool.and_eq_false_iff, Bool.or_eq_true, Bool.or_eq_false_iff, not_true_eq_false, not_false_eq_true, Int.not_lt, Int.not_le] at hb_))
    · obtain ⟨x, hi⟩ : ∃ x, st.sl[i]? = some x := ⟨_, List.getElem?_eq_getElem (by omega)⟩
      have hxm := List.mem_of_getElem? hi
      obtain ⟨s, hsT, hsid, hamt⟩ := hpl2.all x hxm
      obtain ⟨s2, hs2T, hs2id, _, hd⟩ := hinv.from_ x hxm
      have hda := did_amt hd
      have hso2 := hso.2.1 s (hp.mem_iff.1 hsT)
      have hw := wantS_bnd hc hso2
      have hseat := seat_of_plan hso hp hsT
      rw [hsid] at hseat
      have hrow := hS.rawAt hi
      have hamx : x.amt = x.Prefill + x.Nodes := rfl
      have hr0 : cellv (fv Fs) ⟨ablk sa, aoff sa + i * 3, none⟩ = some (.int .i64 x.Id) := hrow 0 _ rfl
      have hr1 : cellv (fv Fs) ⟨ablk sa, aoff sa + i * 3 + 1, none⟩ = some (.int .i64 x.Prefill) := hrow 1 _ rfl
      have hr2 : cellv (fv Fs) ⟨ablk sa, aoff sa + i * 3 + 2, none⟩ = some (.int .i64 x.Nodes) := hrow 2 _ rfl
      have hw2 : IntKind.i64.wrap (x.Prefill + x.Nodes) = wantS c s := by rw [wrap64_of (by omega) (by omega)]; omega
      (repeat (first | (with_reducible apply XL.op) | ((with_reducible apply XOp.p1); (case hg | hv => exact rfl)) | ((with_reducible apply XOp.load); (case hg | ht | hk | hx => exact rfl); (case hc => exact own_cell (i := 0) rfl rfl)) | ((with_reducible apply XOp.pr); (case hg => exact rfl); (case hr => ((with_reducible apply PR.idxA); (case ht | hk | he | hx | hi => exact rfl); (case hr => first | assumption | omega); (case ha => first | assumption | exact SlA.at_ (by assumption))))) | (with_reducible apply XC.seq) | (with_reducible apply XC.region (Γ := Γ)) | (with_reducible apply XQ.skip) | (with_reducible apply XQ.nt) | (with_reducible apply XC.block) | (first | ((with_reducible apply XOp.load); (case hg | ht | hk | hx => exact rfl); (case hc => exact Known.of_frag hr0 (Mono.cell _ _) (fun z_ hz_ => by first | exact hz_ | (simp only [List.mem_cons, List.mem_append, hz_, true_or, or_true]; done) | ((repeat (first | exact hz_ | exact List.mem_append_left _ hz_ | (apply List.mem_cons_of_mem) | (apply List.mem_append_right))); done)))) | ((with_reducible apply XP.load); (case ho | hg | ht | hk | hx => exact rfl); (case hc => exact Known.of_frag hr0 (Mono.cell _ _) (fun z_ hz_ => by first | exact hz_ | (simp only [List.mem_cons, List.mem_append, hz_, true_or, or_true]; done) | ((repeat (first | exact hz_ | exact List.mem_append_left _ hz_ | (apply List.mem_cons_of_mem) | (apply List.mem_append_right))); done))))) | (((with_reducible apply XOp.callQ (hF := seat_fn seats a cap x.Id)); (case hg => exact rfl); (case hc => exact rfl); (case ha => exact rfl); try (case hA => exact Known.true)); (case hA => exact Known.of_old hst (Mono.sl _ _ _ _ _)); rw [hseat]; rintro _ ⟨ah, ch, rfl⟩)))
      ((with_reducible apply XOp.alloc); (case hg | ht | hx' => exact rfl); intro sb)
      (repeat (first | (with_reducible apply XL.op) | ((with_reducible apply XOp.p1); (case hg | hv => exact rfl)) | ((with_reducible apply XOp.storeN (i := 0)); (case hg | ht | hx | hv' | hk | h1 | hi | hs | ha => exact rfl)) | (with_reducible apply XL.nilT) | (with_reducible apply XC.seq)))
      ((with_reducible apply XC.regionD (Γ := Γ) mixed (.q 0 (.q 1 (.q 2 (.q 3 (.q 4 (.q 5 (.q 6 (.q 7 (.q 8 (.q 9 (.q 10 (.q 11 (.q 12 (.q 13 (.q 14 (.q 15 (.q 16 (.q 17 (.e 18 (.q 19 (.q 20 (.done)))))))))))))))))))))) [] []); (case hc => kernel_rfl))
      (repeat (first | (with_reducible apply XQ.nt) | ((with_reducible apply XP.p1); (case ho | hg | hv => exact rfl)) | ((with_reducible apply XP.load); (case ho | hg | ht | hk | hx => exact rfl); (case hc => exact own_cell (i := 1) rfl rfl)) | ((with_reducible apply XP.loadO (j := 0)); (case ho | hg | ht | hk | hx | hi | hc => exact rfl)) | ((with_reducible apply XP.loadO (j := 2)); (case ho | hg | ht | hk | hx | hi | hc => exact rfl)) | ((with_reducible apply XP.pr); (case ho => exact rfl); (case hg => exact rfl); (case hr => ((with_reducible apply PR.idxA); (case ht | hk | he | hx | hi => exact rfl); (case hr => first | assumption | omega); (case ha => first | assumption | exact SlA.at_ (by assumption))))) | (with_reducible apply XP.done) | ((with_reducible apply XP.e); (first | ((with_reducible apply XE.d); (case ho => exact rfl); (case hd => exact rfl)) | ((with_reducible apply XE.e); (case ho => exact rfl)))) | ((with_reducible apply XP.keep); (case hk => first | ((repeat' (first | exact List.forall_mem_nil _ | (with_reducible refine List.forall_mem_cons.2 ⟨?_, ?_⟩) | exact List.mem_cons_self .. | (with_reducible apply List.mem_cons_of_mem) | (with_reducible apply List.mem_append_right))); done) | (intro x hx; first | exact sel_in hx | exact List.mem_cons_of_mem _ (sel_in hx) | exact List.mem_append_right _ (sel_in hx) | exact hx | exact List.mem_cons_of_mem _ hx | exact List.mem_append_right _ hx | ((repeat (first | exact sel_in hx | exact hx | (with_reducible apply List.mem_cons_of_mem) | (with_reducible apply List.mem_append_right))); done) | cases hx))) | (first | ((with_reducible apply XOp.load); (case hg | ht | hk | hx => exact rfl); (case hc => exact Known.of_frag hr1 (Mono.cell _ _) (fun z_ hz_ => by first | exact hz_ | (simp only [List.mem_cons, List.mem_append, hz_, true_or, or_true]; done) | ((repeat (first | exact hz_ | exact List.mem_append_left _ hz_ | (apply List.mem_cons_of_mem) | (apply List.mem_append_right))); done)))) | ((with_reducible apply XP.load); (case ho | hg | ht | hk | hx => exact rfl); (case hc => exact Known.of_frag hr1 (Mono.cell _ _) (fun z_ hz_ => by first | exact hz_ | (simp only [List.mem_cons, List.mem_append, hz_, true_or, or_true]; done) | ((repeat (first | exact hz_ | exact List.mem_append_left _ hz_ | (apply List.mem_cons_of_mem) | (apply List.mem_append_right))); done))))) | (first | ((with_reducible apply XOp.load); (case hg | ht | hk | hx => exact rfl); (case hc => exact Known.of_frag hr2 (Mono.cell _ _) (fun z_ hz_ => by first | exact hz_ | (simp only [List.mem_cons, List.mem_append, hz_, true_or, or_true]; done) | ((repeat (first | exact hz_ | exact List.mem_append_left _ hz_ | (apply List.mem_cons_of_mem) | (apply List.mem_append_right))); done)))) | ((with_reducible apply XP.load); (case ho | hg | ht | hk | hx => exact rfl); (case hc => exact Known.of_frag hr2 (Mono.cell _ _) (fun z_ hz_ => by first | exact hz_ | (simp only [List.mem_cons, List.mem_append, hz_, true_or, or_true]; done) | ((repeat (first | exact hz_ | exact List.mem_append_left _ hz_ | (apply List.mem_cons_of_mem) | (apply List.mem_append_right))); done))))) | (((with_reducible apply XOp.callQ (hF := wanted_fn c hc s hso2 (.slice ah s.Held.length ch) rfl)); (case hg => exact rfl); (case hc => exact rfl); (case ha => exact rfl); try (case hA => exact Known.true)); rintro _ rfl)))
      ((with_reducible apply XC.cond); (case hc => exact rfl); all_goals (intro hb_; try simp only [pd_true, pd_false, Bool.not_eq_true', Bool.not_eq_false', Bool.and_eq_true, Bool.and_eq_false_iff, Bool.or_eq_true, Bool.or_eq_false_iff, not_true_eq_false, not_false_eq_true, Int.not_lt, Int.not_le] at hb_))
      · exact absurd hw2 hb_
      (repeat (first | (with_reducible apply XL.op) | ((with_reducible apply XOp.p1); (case hg | hv => exact rfl)) | (with_reducible apply XL.nilT) | (with_reducible apply XC.region (Γ := Γ)) | (with_reducible apply XQ.skip) | (with_reducible apply XQ.nt) | (with_reducible apply XQ.nb)))
      exact ⟨k - 1, by omega, _, List.Sublist.cons _ (List.Sublist.refl _), i + 1, by omega, rfl, rfl, rfl, rfl, rfl, rfl, intS (m := st.sl.length) (by omega) (by omega), trivial⟩
    · have hol : (st.out.length : Int) = 0 := by rw [hpl2.out]; rfl
      (repeat (first | (with_reducible apply XL.op) | ((with_reducible apply XOp.p1); (case hg | hv => exact rfl)) | ((with_reducible apply XOp.load); (case hg | ht | hk | hx => exact rfl); (case hc => exact own_cell (i := 0) rfl rfl)) | (with_reducible apply XC.seq) | (with_reducible apply XC.region (Γ := Γ)) | (with_reducible apply XQ.exit) | (with_reducible apply XQ.nt) | (with_reducible apply XQ.et) | ((with_reducible apply XQ.eb); (case hb => exact rfl))))
      ((with_reducible apply XOp.split); (case hg | hj | hd | hb => exact rfl); (fail_if_success (case hf => exact fun h => Bool.noConfusion h)); (fail_if_success (case ht => exact fun h => Bool.noConfusion h)); all_goals (intro hb_; try simp only [pd_true, pd_false, Bool.not_eq_true', Bool.not_eq_false', Bool.and_eq_true, Bool.and_eq_false_iff, Bool.or_eq_true, Bool.or_eq_false_iff, not_true_eq_false, not_false_eq_true, Int.not_lt, Int.not_le] at hb_))
      · (repeat (first | (with_reducible apply XL.op) | ((with_reducible apply XOp.p1); (case hg | hv => exact rfl)) | ((with_reducible apply XOp.load); (case hg | ht | hk | hx => exact rfl); (case hc => exact own_cell (i := 0) rfl rfl)) | (with_reducible apply XL.nilT) | (with_reducible apply XQ.ret)))
        ((with_reducible apply XQ.retE); (case hr => exact .t rfl .nil))
        show Value.bool _ = Value.bool _
        rw [pdt hol]
      · exact absurd (by have h9 := hlen; simp only [pd_true] at h9; exact h9) hb_
  · obtain ⟨a1, l1, c1, a2, l2, c2, rfl⟩ := hpl.2 hok
    (repeat (first | (with_reducible apply XL.op) | ((with_reducible apply XOp.p1); (case hg | hv => exact rfl))))
    ((with_reducible apply XOp.alloc); (case hg | ht | hx' => exact rfl); intro pb)
    (repeat (first | (with_reducible apply XL.op) | ((with_reducible apply XOp.p1); (case hg | hv => exact rfl)) | ((with_reducible apply XOp.p0); (case hg => exact rfl)) | ((with_reducible apply XOp.storeN (i := 0)); (case hg | ht | hx | hv' | hk | h1 | hi | hs | ha => exact rfl)) | (with_reducible apply XL.nilT) | (with_reducible apply XC.seq) | (with_reducible apply XC.region (Γ := Γ)) | (with_reducible apply XQ.ret) | (with_reducible apply XQ.rt) | ((with_reducible apply XC.condT); (case hc => exact rfl))))
    ((with_reducible apply XQ.retE); (case hr => exact .t rfl .nil))
    rfl
end Go.Proofs.YthnmagdaepgdiaaX
