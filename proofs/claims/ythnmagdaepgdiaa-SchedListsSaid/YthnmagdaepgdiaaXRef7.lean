/- The reference's plan. -/
import Derived.Test.YthnmagdaepgdiaaXRef6
set_option linter.unusedSimpArgs false
set_option linter.unusedVariables false
namespace Go.Proofs.YthnmagdaepgdiaaX
open Go Go.SX

def _root_.Go.SX.Slc.ok (x : Slc) : Prop := inK .i64 x.Id ∧ inK .i64 x.Prefill ∧ inK .i64 x.Nodes
/-- A list of parts of a step, of a call's own. -/
def OwnC (v : Value) (sl : List Slc) (F : HL) : Prop := OwnS 42 3 v sl.length (sl.flatMap Slc.cells) F ∧ ∀ x ∈ sl, x.ok
noncomputable def planOf (c : Srv) (seats T : List Seat) (picks : List Int) : List Int × List Slc × Int :=
  if pd (c.okS 1) then (if pd (seatsOk c seats) then ((planS c T picks).out, (planS c T picks).sl, 0) else ([], [], 1)) else ([], [], 200)
/-- A plan that is handed back, in memory of its own. -/
def PlanV (p : List Int × List Slc × Int) (v : Value) (L : HL) : Prop :=
  ∃ vo vs Fo Fs, v = .tuple #[.agg #[vo, vs], .int .i64 p.2.2] ∧ L = Fo ++ Fs ∧ OwnI vo p.1 Fo ∧ OwnC vs p.2.1 Fs
theorem PlanV.none (e : Int) : PlanV ([], [], e) (.tuple #[.agg #[.slice none 0 0, .slice none 0 0], .int .i64 e]) [] :=
  ⟨_, _, [], [], rfl, rfl, ⟨OwnS.nil _ _, by simp⟩, ⟨OwnS.nil _ _, by simp⟩⟩

theorem perm4 {α : Type} (w y p c : α) (F G : List α) : ((w :: F) ++ (y :: p :: c :: G)).Perm (y :: w :: p :: c :: (F ++ G)) :=
  List.perm_middle.trans (List.Perm.cons _ (List.Perm.cons _ (List.perm_middle.trans (List.Perm.cons _ List.perm_middle))))
theorem perm5 {α : Type} (a b c d e : α) (F G H : List α) : (a :: b :: c :: d :: e :: (F ++ (G ++ H))).Perm (H ++ (a :: b :: c :: d :: e :: (F ++ G))) := by
  rw [← List.append_assoc]; exact List.perm_append_comm (l₁ := a :: b :: c :: d :: e :: (F ++ G))
theorem OwnC.snoc {v : Value} {sl : List Slc} {x : Slc} {F : HL} (h : OwnS 42 3 v (sl.length + 1) (sl.flatMap Slc.cells ++ x.cells) F) (hs : ∀ z ∈ sl, z.ok) (hx : x.ok) : OwnC v (sl ++ [x]) F :=
  ⟨h.conv (by simp) (by simp), fun z hz => by
    rcases List.mem_append.1 hz with h | h
    · exact hs z h
    · rw [List.mem_singleton.1 h]; exact hx⟩
theorem refMake_fn (c : Srv) (seats T : List Seat) (hTs : seatsOk c seats → Rising T ∧ T.Perm seats) (a : Option Addr) (cap : Nat) (picks : List Int) (pa : Option Addr) (pc : Nat) :
    FC Try.prog 18 [.agg ⟨c.cells⟩, .slice a seats.length cap, .slice pa picks.length pc] [] (fun h => SlA seatK 56 h seats a cap ∧ SlA (Kd.int .i64) 8 h picks pa pc)
    (PlanV (planOf c seats T picks)) := by
  refine FC_subl ?_
  refine FC.intro Try.func18 rfl (by kernel_rfl) 80 [.cell 6 34, .tmp 7] rfl rfl rfl ?_
  rintro w0 ⟨hst, hpk⟩
  (repeat (first | (with_reducible apply XL.op) | (with_reducible apply XC.seq) | (with_reducible apply XC.region (Γ := Γ))))
  ((with_reducible apply XOp.box); (case hg | hx' => exact rfl); intro cb)
  (repeat ((with_reducible apply XL.op)))
  ((with_reducible apply XOp.alloc); (case hg | ht | hx' => exact rfl); intro pb)
  (repeat (first | (with_reducible apply XL.op) | ((with_reducible apply XOp.p1); (case hg | hv => exact rfl)) | ((with_reducible apply XOp.loadO (i := 1)); (case hg | ht | hk | hx | hi | hc => exact rfl)) | (with_reducible apply XL.nilT) | (with_reducible apply XC.seq) | (with_reducible apply XC.region (Γ := Γ)) | (((with_reducible apply XOp.callQ (hF := refCheck_fn c 1)); (case hg => exact rfl); (case hc => exact rfl); (case ha => exact rfl); try (case hA => exact Known.true)); rintro _ rfl)))
  ((with_reducible apply XC.cond); (case hc => exact rfl); all_goals (intro hb_; try simp only [pd_true, pd_false, Bool.not_eq_true', Bool.not_eq_false', Bool.and_eq_true, Bool.and_eq_false_iff, Bool.or_eq_true, Bool.or_eq_false_iff, not_true_eq_false, not_false_eq_true, Int.not_lt, Int.not_le] at hb_))
  · have hno : ¬ c.okS 1 := fun h => by unfold Go.SX.Srv.err at hb_; simp [h] at hb_
    have he : c.err 1 = 200 := by unfold Go.SX.Srv.err; simp [hno]
    (repeat (first | (with_reducible apply XL.op) | ((with_reducible apply XOp.p1); (case hg | hv => exact rfl)) | ((with_reducible apply XOp.storeN (i := 0)); (case hg | ht | hx | hv' | hk | h1 | hi | hs | ha => exact rfl)) | ((with_reducible apply XOp.pr); (case hg => exact rfl); (case hr => ((with_reducible apply PR.build); (case ht | hk | hok | hz | hf => exact rfl)))) | (with_reducible apply XL.nilT) | (with_reducible apply XC.seq) | (with_reducible apply XC.region (Γ := Γ)) | (with_reducible apply XQ.ret) | (with_reducible apply XQ.rt)))
    ((with_reducible apply XQ.retE); (case hr => exact .row rfl (by kernel_rfl) (by kernel_rfl) (Known.blk (List.mem_cons_self ..)) (.t rfl .nil)))
    refine ⟨[], List.nil_sublist _, ?_⟩
    unfold planOf; rw [pdf hno, he]
    exact PlanV.none 200
  have hc : c.okS 1 := by
    by_cases h : c.okS 1
    · exact h
    · unfold Go.SX.Srv.err at hb_; simp [h] at hb_
  (repeat (first | (with_reducible apply XL.op) | ((with_reducible apply XOp.p1); (case hg | hv => exact rfl)) | ((with_reducible apply XOp.loadO (i := 1)); (case hg | ht | hk | hx | hi | hc => exact rfl)) | (with_reducible apply XL.nilT) | (with_reducible apply XC.seq) | (with_reducible apply XC.region (Γ := Γ)) | (with_reducible apply XQ.skip) | (with_reducible apply XQ.nt) | (((with_reducible apply XOp.callQ (hF := refSeats_fn c hc seats a cap)); (case hg => exact rfl); (case hc => exact rfl); (case ha => exact rfl); try (case hA => exact Known.true)); (case hA => exact Known.of_old hst (Mono.sl _ _ _ _ _)); rintro _ rfl)))
  ((with_reducible apply XC.cond); (case hc => exact rfl); all_goals (intro hb_; try simp only [pd_true, pd_false, Bool.not_eq_true', Bool.not_eq_false', Bool.and_eq_true, Bool.and_eq_false_iff, Bool.or_eq_true, Bool.or_eq_false_iff, not_true_eq_false, not_false_eq_true, Int.not_lt, Int.not_le] at hb_))
  · have hno : ¬ seatsOk c seats := fun h => by unfold seatsErr at hb_; simp [pdt h] at hb_
    have he : seatsErr c seats = 1 := by unfold seatsErr; simp [pdf hno]
    (repeat (first | (with_reducible apply XL.op) | ((with_reducible apply XOp.p1); (case hg | hv => exact rfl)) | ((with_reducible apply XOp.storeN (i := 0)); (case hg | ht | hx | hv' | hk | h1 | hi | hs | ha => exact rfl)) | ((with_reducible apply XOp.pr); (case hg => exact rfl); (case hr => ((with_reducible apply PR.build); (case ht | hk | hok | hz | hf => exact rfl)))) | (with_reducible apply XL.nilT) | (with_reducible apply XC.seq) | (with_reducible apply XC.region (Γ := Γ)) | (with_reducible apply XQ.ret) | (with_reducible apply XQ.rt)))
    ((with_reducible apply XQ.retE); (case hr => exact .row rfl (by kernel_rfl) (by kernel_rfl) (Known.blk (List.mem_cons_self ..)) (.t rfl .nil)))
    refine ⟨[], List.nil_sublist _, ?_⟩
    unfold planOf; rw [pdt hc, pdf hno, he]
    exact PlanV.none 1
  have hso : seatsOk c seats := by
    by_cases h : seatsOk c seats
    · exact h
    · unfold seatsErr at hb_; simp [pdf h] at hb_
  obtain ⟨hT, hp⟩ := hTs hso
  have hTl16 : T.length ≤ 16 := by rw [hp.length_eq]; exact hso.1
  have hnil : SlA (Kd.int .i64) 8 (oldv w0 (keys [])) [] none 0 := ⟨by simp, by simp, fun _ => rfl, fun h => absurd h (by simp), fun i x h => by simp at h⟩
  (repeat (first | (with_reducible apply XL.op) | ((with_reducible apply XOp.p1); (case hg | hv => exact rfl)) | ((with_reducible apply XOp.load); (case hg | ht | hk | hx => exact rfl); (case hc => exact own_cell (i := 1) rfl rfl)) | ((with_reducible apply XOp.loadO (i := 1)); (case hg | ht | hk | hx | hi | hc => exact rfl)) | ((with_reducible apply XOp.pr); (case hg => exact rfl); (case hr => ((with_reducible apply PR.build); (case ht | hk | hok | hz | hf => exact rfl)))) | (with_reducible apply XC.seq) | (with_reducible apply XC.region (Γ := Γ)) | (with_reducible apply XQ.skip) | (with_reducible apply XQ.nt)))
  ((with_reducible apply XOp.box); (case hg | hx' => exact rfl); intro wb)
  have hm0 : (wb, Obj.cells ⟨wcells c a seats.length cap (.slice none ([] : List Int).length 0) 0 c.Budget⟩ 63 (0, 0)) ∈ [(wb, Obj.cells ⟨wcells c a seats.length cap (.slice none 0 0) 0 c.Budget⟩ 63 (0, 0)), (pb, .cells ⟨[.slice none 0 0, .slice none 0 0]⟩ 34 (0, 0)), (cb, .cells ⟨c.cells⟩ 23 (0, 0))] := List.mem_cons_self ..
  (repeat (first | (with_reducible apply XL.op) | ((with_reducible apply XOp.p1); (case hg | hv => exact rfl)) | (with_reducible apply XL.nilT) | (with_reducible apply XC.seq) | (with_reducible apply XC.region (Γ := Γ)) | (with_reducible apply XC.block) | (((with_reducible apply XOp.callQ (hF := refNext_fn wb c seats a cap [] none 0 0 c.Budget 0 true picks pa pc)); (case hg => exact rfl); (case hc => exact rfl); (case ha => exact rfl); try (case hA => exact Known.true)); (case hA => exact (known_RW hm0 (Known.of_old hst (Mono.sl _ _ _ _ _)) (Known.of_old hnil (Mono.sl _ _ _ _ _))).and (Known.of_old hpk (Mono.sl _ _ _ _ _))); rintro _ ⟨bk0, rfl, hns0⟩)))
  refine XC.loopS (fun k ρ L => ∃ (A B : List Seat) (st : St) (bk : Int) (oa : Option Addr) (oc : Nat) (Fo : HL) (vs : Value) (Fs : HL), T = A ++ B ∧ st = A.foldl (turn c T picks) ⟨[], 0, c.Budget, []⟩ ∧
      L = (wb, .cells ⟨wcells c a seats.length cap (.slice oa st.out.length oc) st.given st.left⟩ 63 (0, 0)) :: (pb, .cells ⟨[.slice none 0 0, .slice none 0 0]⟩ 34 (0, 0)) :: (cb, .cells ⟨c.cells⟩ 23 (0, 0)) :: (Fo ++ Fs) ∧
      OwnI (.slice oa st.out.length oc) st.out Fo ∧ OwnC vs st.sl Fs ∧ NextIs seats picks B bk ∧ B.length = k ∧
      Slots ρ [(1, .slice a seats.length cap), (2, .slice pa picks.length pc), (6, .pointer (some ⟨pb, 0, none⟩)), (9, .pointer (some ⟨wb, 0, none⟩)), (10, vs), (11, .int .i64 bk)]) T.length
      ⟨[], T, _, bk0, none, 0, [], _, [], rfl, rfl, rfl, ⟨OwnS.nil _ _, by simp⟩, ⟨OwnS.nil _ _, by simp⟩, next_of (A := []) hT hp rfl (fun z hz => ⟨fun _ => hz, fun _ => .inl rfl⟩) hns0, rfl, rfl, rfl, rfl, rfl, rfl, rfl, trivial⟩ ?_
  rintro k ρ L ⟨A, B, st, bk, oa, oc, Fo, vs, Fs, hAB, hst', rfl, hoi, hoc, hnx, hk, hs⟩
  obtain ⟨va, vc, rfl⟩ := hoc.1.val
  refine XC.slots _ hs ?_
  have hfold : planS c T picks = B.foldl (turn c T picks) st := by unfold planS; rw [hst', ← List.foldl_append, ← hAB]
  rcases hnx with ⟨rfl, hno⟩ | ⟨j, y, B1, B2, rfl, hj, hB, hB1, hyp⟩
  · rw [fold_skip B hno] at hfold
    (repeat' (first | (with_reducible apply XL.op) | ((with_reducible apply XOp.p1); (case hg | hv => exact rfl)) | ((with_reducible apply XOp.p0); (case hg => exact rfl)) | ((with_reducible apply XOp.load); (case hg | ht | hk | hx => exact rfl); (case hc => exact own_cell (i := 0) rfl rfl)) | ((with_reducible apply XOp.storeN (i := 1)); (case hg | ht | hx | hv' | hk | h1 | hi | hs | ha => exact rfl)) | ((with_reducible apply XOp.pr); (case hg => exact rfl); (case hr => ((with_reducible apply PR.idxA); (case ht | hk | he | hx | hi => exact rfl); (case hr => first | assumption | omega); (case ha => first | assumption | exact SlA.at_ (by assumption))))) | ((with_reducible apply XOp.pr); (case hg => exact rfl); (case hr => ((with_reducible apply PR.build); (case ht | hk | hok | hz | hf => exact rfl)))) | (with_reducible apply XL.nilT) | (with_reducible apply XC.seq) | (with_reducible apply XC.region (Γ := Γ)) | (with_reducible apply XQ.skip) | (with_reducible apply XQ.ret) | (with_reducible apply XQ.exit) | (with_reducible apply XQ.nt) | (with_reducible apply XQ.et) | (with_reducible apply XC.block) | ((with_reducible apply XQ.eb); (case hb => exact rfl)) | ((with_reducible apply XC.condF); (case hc => exact rfl)) | ((with_reducible apply XOp.split); (case hg | hj | hd | hb => exact rfl); (fail_if_success (case hf => exact fun h => Bool.noConfusion h)); (fail_if_success (case ht => exact fun h => Bool.noConfusion h)); all_goals (intro hb_; try simp only [pd_true, pd_false, Bool.not_eq_true', Bool.not_eq_false', Bool.and_eq_true, Bool.and_eq_false_iff, Bool.or_eq_true, Bool.or_eq_false_iff, not_true_eq_false, not_false_eq_true, Int.not_lt, Int.not_le] at hb_)) | ((with_reducible apply XC.cond); (case hc => exact rfl); all_goals (intro hb_; try simp only [pd_true, pd_false, Bool.not_eq_true', Bool.not_eq_false', Bool.and_eq_true, Bool.and_eq_false_iff, Bool.or_eq_true, Bool.or_eq_false_iff, not_true_eq_false, not_false_eq_true, Int.not_lt, Int.not_le] at hb_))))
    · omega
    · ((with_reducible apply XQ.retE); (case hr => exact .row rfl (by kernel_rfl) (by kernel_rfl) (Known.blk (List.mem_cons_of_mem _ (List.mem_cons_self ..))) (.t rfl .nil)))
      refine ⟨Fo ++ Fs, List.Sublist.cons _ (List.Sublist.cons _ (List.Sublist.cons _ (List.Sublist.refl _))), ?_⟩
      unfold planOf; rw [pdt hc, pdt hso, hfold]
      exact ⟨_, _, Fo, Fs, rfl, rfl, hoi, hoc⟩
    · ((with_reducible apply XQ.retE); (case hr => exact .row rfl (by kernel_rfl) (by kernel_rfl) (Known.blk (List.mem_cons_of_mem _ (List.mem_cons_self ..))) (.t rfl .nil)))
      refine ⟨Fo ++ Fs, List.Sublist.cons _ (List.Sublist.cons _ (List.Sublist.cons _ (List.Sublist.refl _))), ?_⟩
      unfold planOf; rw [pdt hc, pdt hso, hfold]
      exact ⟨_, _, Fo, Fs, rfl, rfl, hoi, hoc⟩
  · obtain ⟨ah, ch, hrow, hH, hyk⟩ := SlA_seat hst hj
    have hjl := (List.getElem?_eq_some_iff.1 hj).1
    have hyT : y ∈ T := by rw [hAB, hB]; simp
    have hyo : seatOk c y := hso.2.1 y (hp.mem_iff.1 hyT)
    have hbd : Bnd st A.length := by rw [hst']; have := fold_bnd hc (T := T) (by rw [hp.length_eq]; exact hso.1) (picks := picks) A (start_bnd hc) (fun z hz => hso.2.1 z (hp.mem_iff.1 (by rw [hAB]; exact List.mem_append_left _ hz))); simpa using this
    have hAl : A.length ≤ 16 := by have h1 := hso.1; have h2 := hp.length_eq; rw [hAB, List.length_append] at h2; omega
    obtain ⟨bd1, bd2, bd3, bd4⟩ := hbd
    obtain ⟨oa2, oc2, heo, _, hO⟩ := hoi.1.slA (by_ := 8) hoi.2 (by omega)
    simp only [Value.slice.injEq] at heo
    obtain ⟨rfl, _, rfl⟩ := heo
    (repeat (first | (with_reducible apply XL.op) | ((with_reducible apply XOp.p1); (case hg | hv => exact rfl)) | (with_reducible apply XC.seq) | (with_reducible apply XC.region (Γ := Γ))))
    ((with_reducible apply XOp.split); (case hg | hj | hd | hb => exact rfl); (fail_if_success (case hf => exact fun h => Bool.noConfusion h)); (fail_if_success (case ht => exact fun h => Bool.noConfusion h)); all_goals (intro hb_; try simp only [pd_true, pd_false, Bool.not_eq_true', Bool.not_eq_false', Bool.and_eq_true, Bool.and_eq_false_iff, Bool.or_eq_true, Bool.or_eq_false_iff, not_true_eq_false, not_false_eq_true, Int.not_lt, Int.not_le] at hb_))
    · (repeat (first | (with_reducible apply XL.op) | ((with_reducible apply XOp.p1); (case hg | hv => exact rfl)) | ((with_reducible apply XOp.load); (case hg | ht | hk | hx => exact rfl); (case hc => exact own_cell (i := 0) rfl rfl)) | (with_reducible apply XL.nilT)))
      ((with_reducible apply XC.cond); (case hc => exact rfl); all_goals (intro hb_; try simp only [pd_true, pd_false, Bool.not_eq_true', Bool.not_eq_false', Bool.and_eq_true, Bool.and_eq_false_iff, Bool.or_eq_true, Bool.or_eq_false_iff, not_true_eq_false, not_false_eq_true, Int.not_lt, Int.not_le] at hb_))
      · (repeat (first | (with_reducible apply XL.op) | ((with_reducible apply XOp.p1); (case hg | hv => exact rfl)) | ((with_reducible apply XOp.pr); (case hg => exact rfl); (case hr => ((with_reducible apply PR.idxA); (case ht | hk | he | hx | hi => exact rfl); (case hr => first | assumption | omega); (case ha => first | assumption | exact SlA.at_ (by assumption))))) | (with_reducible apply XC.seq) | (with_reducible apply XC.region (Γ := Γ)) | (with_reducible apply XQ.skip) | (with_reducible apply XQ.nt) | (with_reducible apply XC.block) | (first | ((with_reducible apply XOp.loadN); (case hg | ht | hk | hx => exact rfl); (case hc => exact Known.of_old hrow (Mono.row _ _ _)); (case hl => exact rfl)) | ((with_reducible apply XP.loadN); (case ho | hg | ht | hk | hx => exact rfl); (case hc => exact Known.of_old hrow (Mono.row _ _ _)); (case hl => exact rfl)))))
        ((with_reducible apply XOp.alloc); (case hg | ht | hx' => exact rfl); intro yb)
        (repeat (first | (with_reducible apply XL.op) | ((with_reducible apply XOp.storeN (i := 0)); (case hg | ht | hx | hv' | hk | h1 | hi | hs | ha => exact rfl)) | (with_reducible apply XL.nilT) | (with_reducible apply XC.seq) | (with_reducible apply XQ.nt) | ((with_reducible apply XP.p1); (case ho | hg | hv => exact rfl)) | ((with_reducible apply XP.load); (case ho | hg | ht | hk | hx => exact rfl); (case hc => exact own_cell (i := 0) rfl rfl)) | ((with_reducible apply XP.load); (case ho | hg | ht | hk | hx => exact rfl); (case hc => exact own_cell (i := 1) rfl rfl)) | (with_reducible apply XP.done) | ((with_reducible apply XP.e); (first | ((with_reducible apply XE.d); (case ho => exact rfl); (case hd => exact rfl)) | ((with_reducible apply XE.e); (case ho => exact rfl)))) | ((with_reducible apply XP.keep); (case hk => first | ((repeat' (first | exact List.forall_mem_nil _ | (with_reducible refine List.forall_mem_cons.2 ⟨?_, ?_⟩) | exact List.mem_cons_self .. | (with_reducible apply List.mem_cons_of_mem) | (with_reducible apply List.mem_append_right))); done) | (intro x hx; first | exact sel_in hx | exact List.mem_cons_of_mem _ (sel_in hx) | exact List.mem_append_right _ (sel_in hx) | exact hx | exact List.mem_cons_of_mem _ hx | exact List.mem_append_right _ hx | ((repeat (first | exact sel_in hx | exact hx | (with_reducible apply List.mem_cons_of_mem) | (with_reducible apply List.mem_append_right))); done) | cases hx))) | ((with_reducible apply XC.regionD (Γ := Γ) mixed (.q 0 (.q 1 (.q 2 (.q 3 (.q 4 (.q 5 (.e 6 (.q 7 (.done))))))))) [] []); (case hc => kernel_rfl)) | (((with_reducible apply XOp.callQ (hF := amongR_fn st.out oa oc y.Id)); (case hg => exact rfl); (case hc => exact rfl); (case ha => exact rfl); try (case hA => exact Known.true)); (case hA => exact Known.of_frag hO (Mono.sl _ _ _ _ _) (fun z hz => List.mem_cons_of_mem _ (List.mem_cons_of_mem _ (List.mem_cons_of_mem _ (List.mem_cons_of_mem _ (List.mem_append_left _ hz)))))); rintro _ rfl)))
        refine XC.cut (fun ρ L => ∃ (L2 : HL) (st2 : St) (oa : Option Addr) (oc : Nat) (Fo : HL) (vs : Value) (Fs : HL), st2 = turn c T picks st y ∧
          L.Perm L2 ∧ ((yb, Obj.cells ⟨y.cells (.slice ah y.Held.length ch)⟩ 46 (0, 0)) :: (wb, .cells ⟨wcells c a seats.length cap (.slice oa st2.out.length oc) st2.given st2.left⟩ 63 (0, 0)) :: (pb, .cells ⟨[.slice none 0 0, .slice none 0 0]⟩ 34 (0, 0)) :: (cb, .cells ⟨c.cells⟩ 23 (0, 0)) :: (Fo ++ Fs)).Sublist L2 ∧
          OwnI (.slice oa st2.out.length oc) st2.out Fo ∧ OwnC vs st2.sl Fs ∧
          Slots ρ [(1, .slice a seats.length cap), (2, .slice pa picks.length pc), (6, .pointer (some ⟨pb, 0, none⟩)), (9, .pointer (some ⟨wb, 0, none⟩)), (10, vs), (12, .pointer (some ⟨yb, 0, none⟩))]) _ ?_ ?_
        · ((with_reducible apply XC.cond); (case hc => exact rfl); all_goals (intro hb_; try simp only [pd_true, pd_false, Bool.not_eq_true', Bool.not_eq_false', Bool.and_eq_true, Bool.and_eq_false_iff, Bool.or_eq_true, Bool.or_eq_false_iff, not_true_eq_false, not_false_eq_true, Int.not_lt, Int.not_le] at hb_))
          · refine XC.perm ?_ (List.Perm.swap _ _ _)
            (repeat (first | (with_reducible apply XL.op) | ((with_reducible apply XOp.p1); (case hg | hv => exact rfl)) | ((with_reducible apply XOp.loadO (i := 1)); (case hg | ht | hk | hx | hi | hc => exact rfl)) | (with_reducible apply XC.seq) | (with_reducible apply XC.region (Γ := Γ))))
            ((with_reducible apply XOp.call (hF := refServe_fn wb c hc seats T hT hp hTl16 a cap st.out (by omega) oa oc st.given st.left (by omega) (by omega) y hyo hyk (by have := hH.bytes; omega) ah ch)); (case hg => exact rfl); (case hc => exact rfl); (case ha => exact rfl); (case hL => exact rfl))
            · exact (Known.of_old hst (Mono.sl _ _ _ _ _)).and (Known.of_frag hO (Mono.sl _ _ _ _ _) (fun z hz => List.mem_cons_of_mem _ (List.mem_cons_of_mem _ (List.mem_cons_of_mem _ (List.mem_append_left _ hz)))))
            intro v L' hpost
            rcases hsv : servedS c T st.out st.given st.left y with _ | ⟨o, m, x⟩ <;> rw [hsv] at hpost
            · obtain ⟨rfl, rfl⟩ := hpost
              refine XL.perm ?_ (List.Perm.swap _ _ _)
              (repeat' (first | (with_reducible apply XL.op) | ((with_reducible apply XOp.p1); (case hg | hv => exact rfl)) | ((with_reducible apply XOp.storeN (i := 0)); (case hg | ht | hx | hv' | hk | h1 | hi | hs | ha => exact rfl)) | ((with_reducible apply XOp.alloc); (case hg | ht | hx' => exact rfl); intro al_) | (with_reducible apply XL.nilT) | (with_reducible apply XC.seq) | (with_reducible apply XC.region (Γ := Γ)) | (with_reducible apply XQ.skip) | (with_reducible apply XQ.nt) | ((with_reducible apply XC.condF); (case hc => exact rfl))))
              exact ⟨_, st, oa, oc, Fo, _, Fs, by unfold turn serveS; rw [if_pos ⟨by assumption, hb_, hyp⟩, hsv], List.Perm.refl _, List.Sublist.cons _ (List.Sublist.refl _), hoi, hoc, rfl, rfl, rfl, rfl, rfl, rfl, trivial⟩
            · obtain ⟨vo, F, rfl, hov, rfl⟩ := hpost
              have hsb := served_bnd hc hyo (by omega) hsv
              obtain ⟨ov, ovc, rfl⟩ := hov.1.val
              refine XL.perm (L' := (yb, .cells ⟨y.cells (.slice ah y.Held.length ch)⟩ 46 (0, 0)) :: (wb, .cells ⟨wcells c a seats.length cap (.slice ov o.length ovc) (st.given + beyondS c y m) (st.left - m)⟩ 63 (0, 0)) :: (pb, .cells ⟨[.slice none 0 0, .slice none 0 0]⟩ 34 (0, 0)) :: (cb, .cells ⟨c.cells⟩ 23 (0, 0)) :: (F ++ (Fo ++ Fs))) ?_ ?_
              · (repeat (first | (with_reducible apply XL.op) | ((with_reducible apply XOp.p1); (case hg | hv => exact rfl))))
                ((with_reducible apply XOp.alloc); (case hg | ht | hx' => exact rfl); intro xb)
                (repeat (first | (with_reducible apply XL.op) | ((with_reducible apply XOp.p1); (case hg | hv => exact rfl)) | ((with_reducible apply XOp.loadO (i := 0)); (case hg | ht | hk | hx | hi | hc => exact rfl)) | ((with_reducible apply XOp.storeN (i := 0)); (case hg | ht | hx | hv' | hk | h1 | hi | hs | ha => exact rfl)) | (with_reducible apply XL.nilT) | (with_reducible apply XC.seq) | (with_reducible apply XC.region (Γ := Γ)) | ((with_reducible apply XC.condT); (case hc => exact rfl))))
                ((with_reducible apply XOp.buildSlice); (case hg | ht | hk | he | hz | hzl | hf => exact rfl); intro bb)
                refine XL.perm ?_ (List.Perm.cons _ (perm5 _ _ _ _ _ F Fo Fs))
                (repeat (first | (with_reducible apply XL.op) | ((with_reducible apply XOp.p1); (case hg | hv => exact rfl)) | (with_reducible apply XL.nilT) | ((with_reducible apply XOp.append1); (case hg => exact rfl); (case ht => exact rfl); (case hk => exact rfl); (case he => exact rfl); (case hown => exact hoc.1); (case hs => exact rfl); (case hx => exact rfl); (case hL => exact rfl); (case hl => exact rfl); (case h1 => exact rfl); (case hz => exact rfl); (case hsz => exact Nat.zero_lt_succ _); (case hk0 => exact Nat.zero_lt_succ _); (case h63 => simp only [maxLen]; omega); (case hb => simp only []; omega); intro v_ F_ hown_; obtain ⟨a_, c_, rfl⟩ := hown_.val)))
                refine ⟨_, ⟨o, st.given + beyondS c y m, st.left - m, st.sl ++ [x]⟩, ov, ovc, F, _, F_, by unfold turn serveS; rw [if_pos ⟨by assumption, hb_, hyp⟩, hsv], List.perm_append_comm,
                  List.Sublist.cons _ (List.Sublist.cons_cons _ (List.Sublist.cons_cons _ (List.Sublist.cons_cons _ (List.Sublist.cons_cons _ (List.Sublist.append (List.sublist_append_left F Fo) (List.Sublist.refl F_)))))), hov,
                  OwnC.snoc (hown_.conv rfl rfl) hoc.2 ⟨hsb.2.2.2.2.1 ▸ hyk.1, inK_i64.2 (by omega), inK_i64.2 (by omega)⟩, rfl, rfl, rfl, rfl, rfl, rfl, trivial⟩
              · exact perm4 _ _ _ _ F (Fo ++ Fs)
          · (repeat (first | (with_reducible apply XQ.skip) | (with_reducible apply XQ.nt)))
            exact ⟨_, st, oa, oc, Fo, _, Fs, by unfold turn; rw [if_neg (fun h : 0 < st.left ∧ y.Id ∉ st.out ∧ y.Id ∈ picks => h.2.1 hb_)], List.Perm.refl _, List.Sublist.refl _, hoi, hoc, rfl, rfl, rfl, rfl, rfl, rfl, trivial⟩
        · rintro ρ L ⟨L2, st2, oa, oc, Fo, vs, Fs, hst2, hpm, hsub, hoi, hoc, hs⟩
          refine XC.perm (XC.subl hsub ?_) hpm
          refine XC.slots _ hs ?_
          have hB2 : T = (A ++ B1 ++ [y]) ++ B2 := by rw [hAB, hB]; simp
          have hst3 : st2 = (A ++ B1 ++ [y]).foldl (turn c T picks) ⟨[], 0, c.Budget, []⟩ := by
            rw [List.foldl_append, List.foldl_append, ← hst', fold_skip B1 hB1, hst2]; rfl
          have hbd2 : Bnd st2 (A ++ B1 ++ [y]).length := by rw [hst3]; have := fold_bnd hc (T := T) (by rw [hp.length_eq]; exact hso.1) (picks := picks) (A ++ B1 ++ [y]) (start_bnd hc) (fun z hz => hso.2.1 z (hp.mem_iff.1 (by rw [hB2]; exact List.mem_append_left _ hz))); simpa using this
          have hAl2 : (A ++ B1 ++ [y]).length ≤ 16 := by have h1 := hso.1; have h2 := hp.length_eq; rw [hB2, List.length_append] at h2; omega
          have bdo := hbd2.out
          obtain ⟨oa3, oc3, heo, _, hO2⟩ := hoi.1.slA (by_ := 8) hoi.2 (by omega)
          simp only [Value.slice.injEq] at heo
          obtain ⟨rfl, _, rfl⟩ := heo
          obtain ⟨va2, vc2, rfl⟩ := hoc.1.val
          (repeat (first | (with_reducible apply XL.op) | ((with_reducible apply XOp.p1); (case hg | hv => exact rfl)) | ((with_reducible apply XOp.load); (case hg | ht | hk | hx => exact rfl); (case hc => exact own_cell (i := 0) rfl rfl)) | (with_reducible apply XC.region (Γ := Γ))))
          ((with_reducible apply XOp.callQ (hF := refNext_fn wb c seats a cap st2.out oa oc st2.given st2.left y.Id false picks pa pc)); (case hg => exact rfl); (case hc => exact rfl); (case ha => exact rfl); try (case hA => exact Known.true))
          · exact (known_RW (List.mem_cons_of_mem _ (List.mem_cons_self ..)) (Known.of_old hst (Mono.sl _ _ _ _ _)) (Known.of_frag hO2 (Mono.sl _ _ _ _ _) (fun z hz => List.mem_cons_of_mem _ (List.mem_cons_of_mem _ (List.mem_cons_of_mem _ (List.mem_cons_of_mem _ (List.mem_append_left _ hz))))))).and (Known.of_old hpk (Mono.sl _ _ _ _ _))
          rintro _ ⟨bk2, rfl, hns2⟩
          (repeat (first | (with_reducible apply XL.op) | ((with_reducible apply XOp.p1); (case hg | hv => exact rfl)) | (with_reducible apply XL.nilQ) | (with_reducible apply XQ.nt) | (with_reducible apply XQ.nb)))
          refine ⟨B2.length, by rw [← hk, hB]; simp; omega, _, List.Sublist.cons _ (List.Sublist.refl _), A ++ B1 ++ [y], B2, st2, bk2, oa, oc, Fo, _, Fs, hB2, hst3, rfl, hoi, hoc, next_of hT hp hB2 (split_after hT (by rw [hAB, hB])) hns2, rfl, rfl, rfl, rfl, rfl, rfl, rfl, trivial⟩
      · rw [fold_stop B (by omega)] at hfold
        (repeat (first | (with_reducible apply XL.op) | ((with_reducible apply XOp.p1); (case hg | hv => exact rfl)) | ((with_reducible apply XOp.load); (case hg | ht | hk | hx => exact rfl); (case hc => exact own_cell (i := 0) rfl rfl)) | ((with_reducible apply XOp.storeN (i := 1)); (case hg | ht | hx | hv' | hk | h1 | hi | hs | ha => exact rfl)) | ((with_reducible apply XOp.pr); (case hg => exact rfl); (case hr => ((with_reducible apply PR.build); (case ht | hk | hok | hz | hf => exact rfl)))) | (with_reducible apply XL.nilT) | (with_reducible apply XC.seq) | (with_reducible apply XC.region (Γ := Γ)) | (with_reducible apply XQ.ret) | (with_reducible apply XQ.exit) | (with_reducible apply XQ.nt) | (with_reducible apply XQ.et) | ((with_reducible apply XQ.eb); (case hb => exact rfl))))
        ((with_reducible apply XQ.retE); (case hr => exact .row rfl (by kernel_rfl) (by kernel_rfl) (Known.blk (List.mem_cons_of_mem _ (List.mem_cons_self ..))) (.t rfl .nil)))
        refine ⟨Fo ++ Fs, List.Sublist.cons _ (List.Sublist.cons _ (List.Sublist.cons _ (List.Sublist.refl _))), ?_⟩
        unfold planOf; rw [pdt hc, pdt hso, hfold]
        exact ⟨_, _, Fo, Fs, rfl, rfl, hoi, hoc⟩
    · omega
end Go.Proofs.YthnmagdaepgdiaaX
