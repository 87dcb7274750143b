/- SchedMakes's contract. -/
import Derived.Test.YthnmagdaepgdiaaXLawMm
import Derived.Test.YthnmagdaepgdiaaXLawBu
set_option linter.unusedSimpArgs false
set_option linter.unusedVariables false
namespace Go.Proofs.YthnmagdaepgdiaaX
open Go Go.SX

theorem plan_len (c : Srv) (seats T : List Seat) (picks : List Int) (hTs : seatsOk c seats → Rising T ∧ T.Perm seats) : (planOf c seats T picks).1.length ≤ 1000 ∧ (planOf c seats T picks).2.1.length ≤ 1000 := by
  by_cases hok : c.okS 1 ∧ seatsOk c seats
  · obtain ⟨hc, hso⟩ := hok
    obtain ⟨hT, hp⟩ := hTs hso
    have hbd := fold_bnd hc (T := T) (by rw [hp.length_eq]; exact hso.1) (picks := picks) T (start_bnd hc) (fun s h => hso.2.1 s (hp.mem_iff.1 h))
    have hTl : T.length ≤ 16 := by rw [hp.length_eq]; exact hso.1
    obtain ⟨bd1, _, _, bd4⟩ := hbd
    rw [planOf_ok ⟨hc, hso⟩]
    unfold planS
    constructor
    · show (T.foldl (turn c T picks) ⟨[], 0, c.Budget, []⟩).out.length ≤ _; omega
    · show (T.foldl (turn c T picks) ⟨[], 0, c.Budget, []⟩).sl.length ≤ _; omega
  · obtain ⟨h1, h2, _⟩ := planOf_no (T := T) (picks := picks) hok
    rw [h1, h2]; exact ⟨by simp, by simp⟩
set_option maxHeartbeats 8000000 in
theorem schedMakes_fn (v0 v1 v2 : Value) (c : Srv) (seats : List Seat) (picks : List Int) : FC Try.prog 4 [v0, v1, v2] []
    (fun h => Go.SX.agg srvK h c v0 ∧ Go.SX.one (seatK.slice 56) h seats v1 ∧ Go.SX.one ((Kd.int .i64).slice 8) h picks v2) (fun v _ => v = .bool true) := by
  refine FC.intro Try.func4 rfl (by kernel_rfl) 56 [.tmp 6] rfl rfl rfl ?_
  rintro w0 ⟨⟨cs, rfl, rfl, hck⟩, ⟨_, e1, a, cap, rfl, hst, _⟩, ⟨_, e2, pa, pc, rfl, hpk, _⟩⟩
  cases e1; cases e2
  obtain ⟨T, hTs⟩ := exT c seats
  have hsb := hst.bytes
  have hpb := hpk.bytes
  (repeat (first | (with_reducible apply XL.op) | (with_reducible apply XC.seq) | (with_reducible apply XC.region (Γ := Γ))))
  ((with_reducible apply XOp.box); (case hg | hx' => exact rfl); intro cb)
  (repeat (first | (with_reducible apply XL.op) | ((with_reducible apply XOp.p1); (case hg | hv => exact rfl)) | (with_reducible apply XL.nilT) | (with_reducible apply XC.seq) | (with_reducible apply XC.region (Γ := Γ)) | ((with_reducible apply XOp.callQ (hF := works_fn)); (case hg => exact rfl); (case hc => exact rfl); (case ha => exact rfl); try (case hA => exact Known.true)); rintro _ rfl))
  ((with_reducible apply XOp.call (hF := markedSeats_fn seats a cap)); (case hg => exact rfl); (case hc => exact rfl); (case ha => exact rfl); (case hL => exact (List.nil_append _).symm); try (case hA => exact Known.true))
  · exact Known.of_old hst (Mono.sl _ _ _ _ _)
  rintro _ _ ⟨xb, tv, Fh, rfl, rfl, rfl, hx⟩
  simp only [List.length_map] at hsb ⊢
  (repeat (first | (with_reducible apply XL.op) | ((with_reducible apply XOp.p1); (case hg | hv => exact rfl)) | (with_reducible apply XL.nilT) | (with_reducible apply XC.seq) | (with_reducible apply XC.region (Γ := Γ))))
  ((with_reducible apply XOp.call (hF := marked_fn picks pa pc)); (case hg => exact rfl); (case hc => exact rfl); (case ha => exact rfl); (case hL => exact (List.nil_append _).symm); try (case hA => exact Known.true))
  · exact Known.of_old hpk (Mono.sl _ _ _ _ _)
  rintro _ _ ⟨yb, rfl, rfl⟩
  have hpkk := hpk.okAll
  have hmk := make_fn c (tv.map (·.1)) T hTs (some ⟨xb, 0, none⟩) (tv.length + 64) picks (some ⟨yb, 0, none⟩) (picks.length + 64)
  have hrf := refMake_fn c (tv.map (·.1)) T hTs a cap picks pa pc
  simp only [List.length_map] at hmk hrf
  refine XL.perm (L := (yb, .cells ⟨(picks ++ mk64).map (.int .i64)⟩ 3 (0, 0)) :: (((xb, .cells ⟨tv.flatMap sxv ++ marks 64⟩ 46 (0, 0)) :: Fh) ++ [(cb, .cells ⟨c.cells⟩ 23 (0, 0))])) (L' := (cb, .cells ⟨c.cells⟩ 23 (0, 0)) :: (yb, .cells ⟨(picks ++ mk64).map (.int .i64)⟩ 3 (0, 0)) :: (xb, .cells ⟨tv.flatMap sxv ++ marks 64⟩ 46 (0, 0)) :: Fh) ?_ (by (first | (with_reducible exact List.Perm.refl _) | refine perm_of_cnt fun p_ => ?_; simp only [List.countP_append, List.countP_cons, List.countP_nil]; omega))
  (repeat (first | (with_reducible apply XL.op) | ((with_reducible apply XOp.p1); (case hg | hv => exact rfl)) | ((with_reducible apply XOp.loadO (i := 0)); (case hg | ht | hk | hx | hi | hc => exact rfl)) | (with_reducible apply XL.nilT) | (with_reducible apply XC.seq) | (with_reducible apply XC.region (Γ := Γ))))
  have hrx : ∀ {w0 : World} {K : List Nat} {L : HL}, (∀ z ∈ (xb, Obj.cells ⟨tv.flatMap sxv ++ marks 64⟩ 46 (0, 0)) :: Fh, z ∈ L) → Known w0 K L (fun h => rowv h xb 0 (tv.flatMap sxv ++ marks 64) ∧ ∀ x ∈ tv, ∃ hb, x.2 = (some ⟨hb, 0, none⟩, x.1.Held.length + 64) ∧ rowv h hb 0 ((x.1.Held ++ mk64).map (.int .i64))) := fun hs h e =>
    ⟨Known.blk (hs _ (List.mem_cons_self ..)) h e, fun x hxm => by
      obtain ⟨_, hb, h2, h3⟩ := hx x hxm
      exact ⟨hb, h2, Known.blk (hs _ (List.mem_cons_of_mem _ h3)) h e⟩⟩
  have hhl : ∀ x ∈ tv, x.1.Held.length * 8 ≤ 140737488355328 ∧ ∀ y ∈ x.1.Held, inK .i64 y := fun x hxm => by
    obtain ⟨q, hq⟩ := List.getElem?_of_mem hxm
    obtain ⟨ah, ch, _, hH, hok⟩ := SlA_seat hst (i := q) (s := x.1) (by rw [List.getElem?_map, hq]; rfl)
    exact ⟨hH.bytes, hH.okAll⟩
  have hkx : ∀ {w0 : World} {K : List Nat} {L : HL}, (∀ z ∈ (xb, Obj.cells ⟨tv.flatMap sxv ++ marks 64⟩ 46 (0, 0)) :: Fh, z ∈ L) → Known w0 K L (fun h => SlA seatK 56 h (tv.map (·.1)) (some ⟨xb, 0, none⟩) (tv.length + 64)) := fun hs =>
    (hrx hs).imp fun h ⟨hr, hxs⟩ => seats_sla hr (fun x hxm => by
      obtain ⟨hb, h2, h3⟩ := hxs x hxm
      rw [h2]
      exact ⟨ints_sla h3 (hhl x hxm).2 (hhl x hxm).1 (by omega), (hx x hxm).1⟩) hsb (by omega)
  ((with_reducible apply XOp.call (hF := hmk)); (case hg => exact rfl); (case hc => exact rfl); (case ha => exact rfl); (case hL => exact (List.nil_append _).symm); try (case hA => exact Known.true))
  · exact (hkx (fun z_ hz_ => by first | exact hz_ | (simp only [List.mem_cons, List.mem_append, hz_, true_or, or_true]; done) | ((repeat (first | exact hz_ | exact List.mem_append_left _ hz_ | (apply List.mem_cons_of_mem) | (apply List.mem_append_right))); done))).and ((Known.blk (List.mem_cons_of_mem _ (List.mem_cons_self ..))).imp fun h hr => ints_sla hr hpkk hpb (by omega))
  rintro _ _ ⟨vo, vs, Fo, Fs, rfl, rfl, hoi, hoc⟩
  obtain ⟨va, vc, rfl⟩ := hoi.1.val
  obtain ⟨vsa, vsc, rfl⟩ := hoc.1.val
  obtain ⟨q, hq⟩ : ∃ q, q = planOf c (tv.map (·.1)) T picks := ⟨_, rfl⟩
  have hpl := plan_len c (tv.map (·.1)) T picks hTs
  rw [← hq] at hoi hoc hrf hpl ⊢
  (repeat (first | (with_reducible apply XL.op) | ((with_reducible apply XOp.p1); (case hg | hv => exact rfl))))
  ((with_reducible apply XOp.alloc); (case hg | ht | hx' => exact rfl); intro pb)
  refine XL.perm (L := (pb, .cells ⟨[.slice none 0 0, .slice none 0 0]⟩ 34 (0, 0)) :: ((Fo ++ Fs) ++ ((cb, .cells ⟨c.cells⟩ 23 (0, 0)) :: (yb, .cells ⟨(picks ++ mk64).map (.int .i64)⟩ 3 (0, 0)) :: (xb, .cells ⟨tv.flatMap sxv ++ marks 64⟩ 46 (0, 0)) :: Fh))) (L' := (pb, .cells ⟨[.slice none 0 0, .slice none 0 0]⟩ 34 (0, 0)) :: (cb, .cells ⟨c.cells⟩ 23 (0, 0)) :: (yb, .cells ⟨(picks ++ mk64).map (.int .i64)⟩ 3 (0, 0)) :: (xb, .cells ⟨tv.flatMap sxv ++ marks 64⟩ 46 (0, 0)) :: (Fh ++ (Fo ++ Fs))) ?_ (by (first | (with_reducible exact List.Perm.refl _) | refine perm_of_cnt fun p_ => ?_; simp only [List.countP_append, List.countP_cons, List.countP_nil]; omega))
  (repeat (first | (with_reducible apply XL.op) | ((with_reducible apply XOp.p1); (case hg | hv => exact rfl)) | ((with_reducible apply XOp.loadO (i := 1)); (case hg | ht | hk | hx | hi | hc => exact rfl)) | ((with_reducible apply XOp.storeN (i := 0)); (case hg | ht | hx | hv' | hk | h1 | hi | hs | ha => exact rfl)) | (with_reducible apply XL.nilT) | (with_reducible apply XC.seq) | (with_reducible apply XC.region (Γ := Γ))))
  ((with_reducible apply XOp.call (hF := hrf)); (case hg => exact rfl); (case hc => exact rfl); (case ha => exact rfl); (case hL => exact (List.nil_append _).symm); try (case hA => exact Known.true))
  · exact (Known.of_old hst (Mono.sl _ _ _ _ _)).and (Known.of_old hpk (Mono.sl _ _ _ _ _))
  rintro _ _ ⟨vo2, vs2, Fo2, Fs2, rfl, rfl, hoi2, hoc2⟩
  obtain ⟨va2, vc2, rfl⟩ := hoi2.1.val
  obtain ⟨vsa2, vsc2, rfl⟩ := hoc2.1.val
  have hok1 := hoi.2
  have hok2 := hoi2.2
  obtain ⟨oa, oc, ho1, _, hO⟩ := hoi.1.slA (by_ := 8) hoi.2 (by omega)
  obtain ⟨sa, sc, ho2, hS⟩ := slc_raw hoc (by omega)
  obtain ⟨oa2, oc2, ho3, _, hO2⟩ := hoi2.1.slA (by_ := 8) hoi2.2 (by omega)
  obtain ⟨sa2, sc2, ho4, hS2⟩ := slc_raw hoc2 (by omega)
  simp only [Value.slice.injEq] at ho1 ho2 ho3 ho4
  obtain ⟨rfl, _, rfl⟩ := ho1
  obtain ⟨rfl, _, rfl⟩ := ho2
  obtain ⟨rfl, _, rfl⟩ := ho3
  obtain ⟨rfl, _, rfl⟩ := ho4
  (repeat (first | (with_reducible apply XL.op) | ((with_reducible apply XOp.p1); (case hg | hv => exact rfl))))
  ((with_reducible apply XOp.alloc); (case hg | ht | hx' => exact rfl); intro qb)
  refine XL.perm (L := (qb, .cells ⟨[.slice none 0 0, .slice none 0 0]⟩ 34 (0, 0)) :: ((Fo2 ++ Fs2) ++ ((pb, .cells ⟨[.slice va q.1.length vc, .slice vsa q.2.1.length vsc]⟩ 34 (0, 0)) :: (cb, .cells ⟨c.cells⟩ 23 (0, 0)) :: (yb, .cells ⟨(picks ++ mk64).map (.int .i64)⟩ 3 (0, 0)) :: (xb, .cells ⟨tv.flatMap sxv ++ marks 64⟩ 46 (0, 0)) :: (Fh ++ (Fo ++ Fs))))) (L' := (qb, .cells ⟨[.slice none 0 0, .slice none 0 0]⟩ 34 (0, 0)) :: (pb, .cells ⟨[.slice va q.1.length vc, .slice vsa q.2.1.length vsc]⟩ 34 (0, 0)) :: (cb, .cells ⟨c.cells⟩ 23 (0, 0)) :: (yb, .cells ⟨(picks ++ mk64).map (.int .i64)⟩ 3 (0, 0)) :: (xb, .cells ⟨tv.flatMap sxv ++ marks 64⟩ 46 (0, 0)) :: (Fh ++ ((Fo ++ Fs) ++ (Fo2 ++ Fs2)))) ?_ (by (first | (with_reducible exact List.Perm.refl _) | refine perm_of_cnt fun p_ => ?_; simp only [List.countP_append, List.countP_cons, List.countP_nil]; omega))
  (repeat (first | (with_reducible apply XL.op) | ((with_reducible apply XOp.p1); (case hg | hv => exact rfl)) | ((with_reducible apply XOp.loadO (i := 0)); (case hg | ht | hk | hx | hi | hc => exact rfl)) | ((with_reducible apply XOp.loadO (i := 1)); (case hg | ht | hk | hx | hi | hc => exact rfl)) | ((with_reducible apply XOp.storeN (i := 0)); (case hg | ht | hx | hv' | hk | h1 | hi | hs | ha => exact rfl)) | (with_reducible apply XL.nilT) | (with_reducible apply XC.seq) | (with_reducible apply XC.region (Γ := Γ)) | (((with_reducible apply XOp.callQ (hF := eqPlan_fn q.1 q.1 q.2.1 q.2.1 va vsa va2 vsa2 vc vsc vc2 vsc2)); (case hg => exact rfl); (case hc => exact rfl); (case ha => exact rfl); try (case hA => exact Known.true)); (case hA => exact ((Known.of_frag hO (Mono.sl _ _ _ _ _) (fun z_ hz_ => by first | exact hz_ | (simp only [List.mem_cons, List.mem_append, hz_, true_or, or_true]; done) | ((repeat (first | exact hz_ | exact List.mem_append_left _ hz_ | (apply List.mem_cons_of_mem) | (apply List.mem_append_right))); done))).and (Known.of_frag hO2 (Mono.sl _ _ _ _ _) (fun z_ hz_ => by first | exact hz_ | (simp only [List.mem_cons, List.mem_append, hz_, true_or, or_true]; done) | ((repeat (first | exact hz_ | exact List.mem_append_left _ hz_ | (apply List.mem_cons_of_mem) | (apply List.mem_append_right))); done)))).and ((Known.of_frag hS (Mono.sl _ _ _ _ _) (fun z_ hz_ => by first | exact hz_ | (simp only [List.mem_cons, List.mem_append, hz_, true_or, or_true]; done) | ((repeat (first | exact hz_ | exact List.mem_append_left _ hz_ | (apply List.mem_cons_of_mem) | (apply List.mem_append_right))); done))).and (Known.of_frag hS2 (Mono.sl _ _ _ _ _) (fun z_ hz_ => by first | exact hz_ | (simp only [List.mem_cons, List.mem_append, hz_, true_or, or_true]; done) | ((repeat (first | exact hz_ | exact List.mem_append_left _ hz_ | (apply List.mem_cons_of_mem) | (apply List.mem_append_right))); done))))); rintro _ rfl)))
  rw [pdt ⟨rfl, rfl⟩]
  (repeat (first | (with_reducible apply XL.op) | ((with_reducible apply XOp.p1); (case hg | hv => exact rfl)) | (with_reducible apply XL.nilT) | (with_reducible apply XQ.ret) | (((with_reducible apply XOp.callQ (hF := stillSeats_fn tv xb a cap)); (case hg => exact rfl); (case hc => exact rfl); (case ha => exact rfl); try (case hA => exact Known.true)); (case hA => exact (Known.of_old hst (Mono.sl _ _ _ _ _)).and (hrx (by intro z hz; rcases List.mem_cons.1 hz with rfl | h <;> simp only [List.mem_cons, List.mem_append, *, true_or, or_true]))); rintro _ rfl) | (((with_reducible apply XOp.callQ (hF := still_fn picks pa pc yb hpb)); (case hg => exact rfl); (case hc => exact rfl); (case ha => exact rfl); try (case hA => exact Known.true)); (case hA => exact (Known.blk (List.mem_cons_of_mem _ (List.mem_cons_of_mem _ (List.mem_cons_of_mem _ (List.mem_cons_self ..))))).and (Known.of_old hpk (Mono.sl _ _ _ _ _))); rintro _ rfl) | (first | ((with_reducible apply XOp.split); (case hg | hj | hd | hb => exact rfl); (fail_if_success (case hf => exact fun h => Bool.noConfusion h)); (fail_if_success (case ht => exact fun h => Bool.noConfusion h)); (first | (case ht => intro hb_; try simp only [pd_true, pd_false, Bool.not_eq_true', Bool.not_eq_false', Bool.and_eq_true, Bool.and_eq_false_iff, Bool.or_eq_true, Bool.or_eq_false_iff, not_true_eq_false, not_false_eq_true, Int.not_lt, Int.not_le] at hb_; first | done | (exfalso; first | omega | contradiction)) | (case hf => intro hb_; try simp only [pd_true, pd_false, Bool.not_eq_true', Bool.not_eq_false', Bool.and_eq_true, Bool.and_eq_false_iff, Bool.or_eq_true, Bool.or_eq_false_iff, not_true_eq_false, not_false_eq_true, Int.not_lt, Int.not_le] at hb_; first | done | (exfalso; first | omega | contradiction))); intro hb_; try simp only [pd_true, pd_false, Bool.not_eq_true', Bool.not_eq_false', Bool.and_eq_true, Bool.and_eq_false_iff, Bool.or_eq_true, Bool.or_eq_false_iff, not_true_eq_false, not_false_eq_true, Int.not_lt, Int.not_le] at hb_) | ((with_reducible apply XP.split); (case ho | hg | hj | hd | hb => exact rfl); (fail_if_success (case hf => exact fun h => Bool.noConfusion h)); (fail_if_success (case ht => exact fun h => Bool.noConfusion h)); (first | (case ht => intro hb_; try simp only [pd_true, pd_false, Bool.not_eq_true', Bool.not_eq_false', Bool.and_eq_true, Bool.and_eq_false_iff, Bool.or_eq_true, Bool.or_eq_false_iff, not_true_eq_false, not_false_eq_true, Int.not_lt, Int.not_le] at hb_; first | done | (exfalso; first | omega | contradiction)) | (case hf => intro hb_; try simp only [pd_true, pd_false, Bool.not_eq_true', Bool.not_eq_false', Bool.and_eq_true, Bool.and_eq_false_iff, Bool.or_eq_true, Bool.or_eq_false_iff, not_true_eq_false, not_false_eq_true, Int.not_lt, Int.not_le] at hb_; first | done | (exfalso; first | omega | contradiction))); intro hb_; try simp only [pd_true, pd_false, Bool.not_eq_true', Bool.not_eq_false', Bool.and_eq_true, Bool.and_eq_false_iff, Bool.or_eq_true, Bool.or_eq_false_iff, not_true_eq_false, not_false_eq_true, Int.not_lt, Int.not_le] at hb_) | ((with_reducible apply XC.cond); (case hc => exact rfl); (first | (case ht => intro hb_; try simp only [pd_true, pd_false, Bool.not_eq_true', Bool.not_eq_false', Bool.and_eq_true, Bool.and_eq_false_iff, Bool.or_eq_true, Bool.or_eq_false_iff, not_true_eq_false, not_false_eq_true, Int.not_lt, Int.not_le] at hb_; first | done | (exfalso; first | omega | contradiction)) | (case hf => intro hb_; try simp only [pd_true, pd_false, Bool.not_eq_true', Bool.not_eq_false', Bool.and_eq_true, Bool.and_eq_false_iff, Bool.or_eq_true, Bool.or_eq_false_iff, not_true_eq_false, not_false_eq_true, Int.not_lt, Int.not_le] at hb_; first | done | (exfalso; first | omega | contradiction))); intro hb_; try simp only [pd_true, pd_false, Bool.not_eq_true', Bool.not_eq_false', Bool.and_eq_true, Bool.and_eq_false_iff, Bool.or_eq_true, Bool.or_eq_false_iff, not_true_eq_false, not_false_eq_true, Int.not_lt, Int.not_le] at hb_))))
  ((with_reducible apply XQ.retE); (case hr => exact .t rfl .nil))
  rfl
end Go.Proofs.YthnmagdaepgdiaaX
