/- SchedRoom's contract. -/
import Derived.Test.YthnmagdaepgdiaaXLawBu
set_option linter.unusedSimpArgs false
set_option linter.unusedVariables false
namespace Go.Proofs.YthnmagdaepgdiaaX
open Go Go.SX
set_option maxHeartbeats 8000000 in
theorem schedRoom_fn (v0 v1 v2 : Value) (c : Srv) (seats : List Seat) (picks : List Int) : FC Try.prog 7 [v0, v1, v2] []
    (fun h => Go.SX.agg srvK h c v0 ∧ Go.SX.one (seatK.slice 56) h seats v1 ∧ Go.SX.one ((Kd.int .i64).slice 8) h picks v2) (fun v _ => v = .bool true) := by
  refine FC.intro Try.func7 rfl (by kernel_rfl) 121 [.tmp 6] rfl rfl rfl ?_
  rintro w0 ⟨⟨cs, rfl, rfl, hck⟩, ⟨_, e1, a, cap, rfl, hst, _⟩, ⟨_, e2, pa, pc, rfl, hpk, _⟩⟩
  cases e1; cases e2
  obtain ⟨T, hTs⟩ := exT c seats
  (repeat (first | (with_reducible apply XL.op) | (with_reducible apply XC.seq) | (with_reducible apply XC.region (Γ := Γ))))
  ((with_reducible apply XOp.box); (case hg | hx' => exact rfl); intro cb)
  (repeat (first | (with_reducible apply XL.op) | ((with_reducible apply XOp.p1); (case hg | hv => exact rfl)) | ((with_reducible apply XOp.loadO (i := 0)); (case hg | ht | hk | hx | hi | hc => exact rfl)) | (with_reducible apply XL.nilT) | (with_reducible apply XC.seq) | (with_reducible apply XC.region (Γ := Γ))))
  ((with_reducible apply XOp.call (hF := planned_fn c seats T hTs a cap picks pa pc)); (case hg => exact rfl); (case hc => exact rfl); (case ha => exact rfl); (case hL => exact (List.nil_append _).symm); try (case hA => exact Known.true))
  · exact (Known.of_old hst (Mono.sl _ _ _ _ _)).and (Known.of_old hpk (Mono.sl _ _ _ _ _))
  rintro v L' hpl
  by_cases hok : c.okS 1 ∧ seatsOk c seats
  · obtain ⟨vo, vs, Fo, Fs, rfl, rfl, hoi, hoc⟩ := hpl.1 hok
    obtain ⟨hc, hso⟩ := hok
    obtain ⟨hT, hp⟩ := hTs hso
    have hinv := inv_of hc hso hT hp picks
    have hbd := fold_bnd hc (T := T) (by rw [hp.length_eq]; exact hso.1) (picks := picks) T (start_bnd hc) (fun s h => hso.2.1 s (hp.mem_iff.1 h))
    have hTl : T.length ≤ 16 := by rw [hp.length_eq]; exact hso.1
    obtain ⟨st, hst'⟩ : ∃ st, st = planS c T picks := ⟨_, rfl⟩
    rw [show T.foldl (turn c T picks) ⟨[], 0, c.Budget, []⟩ = st from hst'.symm] at hbd
    rw [← hst'] at hinv hoi hoc
    obtain ⟨bd1, _, _, bd4⟩ := hbd
    obtain ⟨oa, oc, rfl, _, hO⟩ := hoi.1.slA (by_ := 8) hoi.2 (by omega)
    obtain ⟨sa, sc, rfl, hS⟩ := slc_raw hoc (by omega)
    have hch := hc.2.2.2.2
    (repeat (first | (with_reducible apply XL.op) | ((with_reducible apply XOp.p1); (case hg | hv => exact rfl))))
    ((with_reducible apply XOp.alloc); (case hg | ht | hx' => exact rfl); intro pb)
    (repeat (first | (with_reducible apply XL.op) | ((with_reducible apply XOp.p1); (case hg | hv => exact rfl)) | ((with_reducible apply XOp.storeN (i := 0)); (case hg | ht | hx | hv' | hk | h1 | hi | hs | ha => exact rfl)) | (with_reducible apply XL.nilT) | (with_reducible apply XC.seq) | (with_reducible apply XC.region (Γ := Γ)) | (with_reducible apply XQ.skip) | (with_reducible apply XQ.nt) | (with_reducible apply XC.block) | ((with_reducible apply XC.condF); (case hc => exact rfl))))
    refine XC.perm (L := (pb, .cells ⟨[.slice oa st.out.length oc, .slice sa st.sl.length sc]⟩ 34 (0, 0)) :: ((Fo ++ Fs) ++ [(cb, .cells ⟨c.cells⟩ 23 (0, 0))])) (L' := (pb, .cells ⟨[.slice oa st.out.length oc, .slice sa st.sl.length sc]⟩ 34 (0, 0)) :: (cb, .cells ⟨c.cells⟩ 23 (0, 0)) :: (Fo ++ Fs)) ?_ (by (first | (with_reducible exact List.Perm.refl _) | refine perm_of_cnt fun p_ => ?_; simp only [List.countP_append, List.countP_cons, List.countP_nil]; omega))
    have hB := hc.2.1
    have hcb := hc.2.2.1
    refine XC.cutB (fun ρ L => L = (pb, .cells ⟨[.slice oa st.out.length oc, .slice sa st.sl.length sc]⟩ 34 (0, 0)) :: (cb, .cells ⟨c.cells⟩ 23 (0, 0)) :: (Fo ++ Fs) ∧ Slots ρ [(1, .slice a seats.length cap), (2, .slice pa picks.length pc), (3, .pointer (some ⟨cb, 0, none⟩)), (7, .pointer (some ⟨pb, 0, none⟩)), (10, .int .i64 (((List.range c.Blocks.toNat).filter fun k => holds seats st.out (k : Nat)).length : Nat))]) ?_ ?_
    · refine XC.loopS (fun k ρ L => ∃ b : Nat, b + k = c.Blocks.toNat ∧ L = (pb, .cells ⟨[.slice oa st.out.length oc, .slice sa st.sl.length sc]⟩ 34 (0, 0)) :: (cb, .cells ⟨c.cells⟩ 23 (0, 0)) :: (Fo ++ Fs) ∧
        Slots ρ [(1, .slice a seats.length cap), (2, .slice pa picks.length pc), (3, .pointer (some ⟨cb, 0, none⟩)), (7, .pointer (some ⟨pb, 0, none⟩)), (10, .int .i64 (((List.range b).filter fun k => holds seats st.out (k : Nat)).length : Nat)), (11, .int .i64 b)]) c.Blocks.toNat
        ⟨0, by simp, rfl, rfl, rfl, rfl, rfl, rfl, rfl, trivial⟩ ?_
      rintro k ρ L ⟨b, hbk, rfl, hs⟩
      refine XC.slots _ hs ?_
      (repeat (first | (with_reducible apply XL.op) | ((with_reducible apply XOp.p1); (case hg | hv => exact rfl)) | ((with_reducible apply XOp.load); (case hg | ht | hk | hx => exact rfl); (case hc => exact own_cell (i := 1) rfl rfl)) | (with_reducible apply XL.nilT) | (with_reducible apply XC.seq) | (with_reducible apply XC.region (Γ := Γ))))
      ((with_reducible apply XC.cond); (case hc => exact rfl); all_goals (intro hb_; try simp only [pd_true, pd_false, Bool.not_eq_true', Bool.not_eq_false', Bool.and_eq_true, Bool.and_eq_false_iff, Bool.or_eq_true, Bool.or_eq_false_iff, not_true_eq_false, not_false_eq_true, Int.not_lt, Int.not_le] at hb_))
      · have hlen := range_filter_le (fun k => holds seats st.out (k : Nat)) b
        have hsn := used_snoc seats st.out b
        (repeat (first | (with_reducible apply XL.op) | ((with_reducible apply XOp.p1); (case hg | hv => exact rfl)) | (with_reducible apply XL.nilT) | (with_reducible apply XC.seq) | (with_reducible apply XC.region (Γ := Γ)) | (with_reducible apply XQ.skip) | (with_reducible apply XQ.nt) | (with_reducible apply XC.block)))
        refine XC.cutB (fun ρ L => L = (pb, .cells ⟨[.slice oa st.out.length oc, .slice sa st.sl.length sc]⟩ 34 (0, 0)) :: (cb, .cells ⟨c.cells⟩ 23 (0, 0)) :: (Fo ++ Fs) ∧ Slots ρ [(1, .slice a seats.length cap), (2, .slice pa picks.length pc), (3, .pointer (some ⟨cb, 0, none⟩)), (7, .pointer (some ⟨pb, 0, none⟩)), (10, .int .i64 (((List.range (b + 1)).filter fun k => holds seats st.out (k : Nat)).length : Nat)), (11, .int .i64 b)]) ?_ ?_
        · refine XC.loopS (fun k ρ L => ∃ i : Nat, i + k = seats.length ∧ L = (pb, .cells ⟨[.slice oa st.out.length oc, .slice sa st.sl.length sc]⟩ 34 (0, 0)) :: (cb, .cells ⟨c.cells⟩ 23 (0, 0)) :: (Fo ++ Fs) ∧ (∀ t ∈ seats.take i, t.Id ∉ st.out → (b : Int) ∉ t.Held) ∧
            Slots ρ [(1, .slice a seats.length cap), (2, .slice pa picks.length pc), (3, .pointer (some ⟨cb, 0, none⟩)), (7, .pointer (some ⟨pb, 0, none⟩)), (10, .int .i64 (((List.range b).filter fun k => holds seats st.out (k : Nat)).length : Nat)), (11, .int .i64 b), (12, .int .i64 i)]) seats.length
            ⟨0, by simp, rfl, by simp, rfl, rfl, rfl, rfl, rfl, rfl, rfl, trivial⟩ ?_
          rintro k2 ρ L ⟨i, hik, rfl, hno, hs⟩
          refine XC.slots _ hs ?_
          (repeat (first | (with_reducible apply XL.op) | ((with_reducible apply XOp.p1); (case hg | hv => exact rfl)) | (with_reducible apply XL.nilT) | (with_reducible apply XC.seq) | (with_reducible apply XC.region (Γ := Γ))))
          ((with_reducible apply XC.cond); (case hc => exact rfl); all_goals (intro hb_; try simp only [pd_true, pd_false, Bool.not_eq_true', Bool.not_eq_false', Bool.and_eq_true, Bool.and_eq_false_iff, Bool.or_eq_true, Bool.or_eq_false_iff, not_true_eq_false, not_false_eq_true, Int.not_lt, Int.not_le] at hb_))
          · obtain ⟨s, hi⟩ : ∃ s, seats[i]? = some s := ⟨_, List.getElem?_eq_getElem (by omega)⟩
            obtain ⟨ah, ch, hrow, hH, hsk⟩ := SlA_seat hst hi
            have hsl16 := hso.1
            have hs4 : cellv (oldv w0 (keys [])) ⟨ablk a, aoff a + i * 5 + 4, none⟩ = some (.slice ah s.Held.length ch) := hrow 4 _ rfl
            (repeat (first | (with_reducible apply XC.seq) | (with_reducible apply XQ.skip) | (with_reducible apply XQ.nt) | (with_reducible apply XC.block)))
            ((with_reducible apply XC.regionD (Γ := Γ) mixed (.q 0 (.q 1 (.q 2 (.q 3 (.q 4 (.q 5 (.q 6 (.e 7 (.q 8 (.q 9 (.q 10 (.q 11 (.q 12 (.q 13 (.q 14 (.q 15 (.e 16 (.q 17 (.done))))))))))))))))))) [] []); (case hc => kernel_rfl))
            (repeat' (first | (with_reducible apply XL.op) | ((with_reducible apply XOp.p1); (case hg | hv => exact rfl)) | ((with_reducible apply XOp.p0); (case hg => exact rfl)) | (with_reducible apply XL.nilT) | (with_reducible apply XC.seq) | (with_reducible apply XC.region (Γ := Γ)) | (with_reducible apply XQ.skip) | (with_reducible apply XQ.exit) | (with_reducible apply XQ.nt) | (with_reducible apply XQ.nb) | (with_reducible apply XQ.et) | ((with_reducible apply XP.p1); (case ho | hg | hv => exact rfl)) | ((with_reducible apply XP.p0); (case ho | hg => exact rfl)) | ((with_reducible apply XP.load); (case ho | hg | ht | hk | hx => exact rfl); (case hc => exact own_cell (i := 0) rfl rfl)) | ((with_reducible apply XP.pr); (case ho => exact rfl); (case hg => exact rfl); (case hr => ((with_reducible apply PR.idxA); (case ht | hk | he | hx | hi => exact rfl); (case hr => first | assumption | omega); (case ha => first | assumption | exact SlA.at_ (by assumption))))) | (with_reducible apply XP.done) | ((with_reducible apply XP.e); (first | ((with_reducible apply XE.d); (case ho => exact rfl); (case hd => exact rfl)) | ((with_reducible apply XE.e); (case ho => exact rfl)))) | ((with_reducible apply XP.keep); (case hk => first | ((repeat' (first | exact List.forall_mem_nil _ | (with_reducible refine List.forall_mem_cons.2 ⟨?_, ?_⟩) | exact List.mem_cons_self .. | (with_reducible apply List.mem_cons_of_mem) | (with_reducible apply List.mem_append_right))); done) | (intro x hx; first | exact sel_in hx | exact List.mem_cons_of_mem _ (sel_in hx) | exact List.mem_append_right _ (sel_in hx) | exact hx | exact List.mem_cons_of_mem _ hx | exact List.mem_append_right _ hx | ((repeat (first | exact sel_in hx | exact hx | (with_reducible apply List.mem_cons_of_mem) | (with_reducible apply List.mem_append_right))); done) | cases hx))) | ((with_reducible apply XQ.eb); (case hb => exact rfl)) | ((with_reducible apply XQ.en); (case hb => exact rfl)) | ((with_reducible apply XC.condF); (case hc => exact rfl)) | (first | ((with_reducible apply XOp.load); (case hg | ht | hk | hx => exact rfl); (case hc => exact Known.of_old (seat_id hrow) (Mono.cell _ _))) | ((with_reducible apply XP.load); (case ho | hg | ht | hk | hx => exact rfl); (case hc => exact Known.of_old (seat_id hrow) (Mono.cell _ _)))) | (first | ((with_reducible apply XOp.load); (case hg | ht | hk | hx => exact rfl); (case hc => exact Known.of_old hs4 (Mono.cell _ _))) | ((with_reducible apply XP.load); (case ho | hg | ht | hk | hx => exact rfl); (case hc => exact Known.of_old hs4 (Mono.cell _ _)))) | (((with_reducible apply XOp.callQ (hF := amongL_fn st.out oa oc s.Id)); (case hg => exact rfl); (case hc => exact rfl); (case ha => exact rfl); try (case hA => exact Known.true)); (case hA => exact Known.of_frag hO (Mono.sl _ _ _ _ _) (fun z_ hz_ => by first | exact hz_ | (simp only [List.mem_cons, List.mem_append, hz_, true_or, or_true]; done) | ((repeat (first | exact hz_ | exact List.mem_append_left _ hz_ | (apply List.mem_cons_of_mem) | (apply List.mem_append_right))); done))); rintro _ rfl) | (((with_reducible apply XOp.callQ (hF := amongL_fn s.Held ah ch b)); (case hg => exact rfl); (case hc => exact rfl); (case ha => exact rfl); try (case hA => exact Known.true)); (case hA => exact Known.of_old hH (Mono.sl _ _ _ _ _)); rintro _ rfl) | ((with_reducible apply XP.split); (case ho | hg | hj | hd | hb => exact rfl); (fail_if_success (case hf => exact fun h => Bool.noConfusion h)); (fail_if_success (case ht => exact fun h => Bool.noConfusion h)); all_goals (intro hb_; try simp only [pd_true, pd_false, Bool.not_eq_true', Bool.not_eq_false', Bool.and_eq_true, Bool.and_eq_false_iff, Bool.or_eq_true, Bool.or_eq_false_iff, not_true_eq_false, not_false_eq_true, Int.not_lt, Int.not_le] at hb_)) | ((with_reducible apply XC.cond); (case hc => exact rfl); all_goals (intro hb_; try simp only [pd_true, pd_false, Bool.not_eq_true', Bool.not_eq_false', Bool.and_eq_true, Bool.and_eq_false_iff, Bool.or_eq_true, Bool.or_eq_false_iff, not_true_eq_false, not_false_eq_true, Int.not_lt, Int.not_le] at hb_))))
            · refine ⟨rfl, rfl, rfl, rfl, rfl, ?_, rfl, trivial⟩
              show Value.int _ _ = _
              rw [holds_true (List.mem_of_getElem? hi) ‹_› hb_, if_pos rfl] at hsn
              rw [hsn, wrap64_of (by omega) (by omega)]
              congr 1
            · refine ⟨k2 - 1, by omega, _, List.Sublist.refl _, i + 1, by omega, rfl, fun t ht h1 => ?_, rfl, rfl, rfl, rfl, rfl, rfl, intS (m := seats.length) (by omega) (by omega), trivial⟩
              rw [take_snoc hi] at ht
              rcases List.mem_append.1 ht with h | h
              · exact hno t h h1
              · rw [List.mem_singleton.1 h]; exact hb_
            · refine ⟨k2 - 1, by omega, _, List.Sublist.refl _, i + 1, by omega, rfl, fun t ht h1 => ?_, rfl, rfl, rfl, rfl, rfl, rfl, intS (m := seats.length) (by omega) (by omega), trivial⟩
              rw [take_snoc hi] at ht
              rcases List.mem_append.1 ht with h | h
              · exact hno t h h1
              · rw [List.mem_singleton.1 h] at h1; exact absurd hb_ h1
          · obtain rfl : i = seats.length := by omega
            rw [List.take_length] at hno
            (repeat (first | (with_reducible apply XQ.exit) | (with_reducible apply XQ.nt) | (with_reducible apply XQ.et) | ((with_reducible apply XQ.eb); (case hb => exact rfl))))
            refine ⟨rfl, rfl, rfl, rfl, rfl, ?_, rfl, trivial⟩
            show Value.int _ _ = _
            rw [holds_false hno] at hsn
            rw [hsn]; rfl
        · rintro ρ L ⟨rfl, hs⟩
          refine XQ_slots _ hs ?_
          (repeat (first | (with_reducible apply XL.op) | ((with_reducible apply XOp.p1); (case hg | hv => exact rfl)) | (with_reducible apply XL.nilT) | (with_reducible apply XC.region (Γ := Γ)) | (with_reducible apply XQ.nt) | (with_reducible apply XQ.nb)))
          exact ⟨k - 1, by omega, _, List.Sublist.refl _, b + 1, by omega, rfl, rfl, rfl, rfl, rfl, rfl, intS (m := 1000) (by omega) (by omega), trivial⟩
      · obtain rfl : b = c.Blocks.toNat := by omega
        (repeat (first | (with_reducible apply XQ.exit) | (with_reducible apply XQ.nt) | (with_reducible apply XQ.et) | ((with_reducible apply XQ.eb); (case hb => exact rfl))))
        exact ⟨rfl, rfl, rfl, rfl, rfl, rfl, trivial⟩
    rintro ρ L ⟨rfl, hs⟩
    refine XQ_slots _ hs ?_
    have hlen := range_filter_le (fun k => holds seats st.out (k : Nat)) c.Blocks.toNat
    have hroom := hinv.room
    have hgiven := hinv.given
    have huse : freeS c T st.out st.given = c.Blocks - st.given - (((List.range c.Blocks.toNat).filter fun k => holds seats st.out (k : Nat)).length : Nat) := by rw [free_perm hp]; rfl
    have hgs : ∀ x ∈ st.sl, ∃ s ∈ T, s.Id = x.Id ∧ givesOf c T x = beyondS c s x.amt ∧ 0 ≤ beyondS c s x.amt ∧ beyondS c s x.amt ≤ 1200 ∧ 0 ≤ x.Prefill ∧ 0 ≤ x.Nodes ∧ x.amt ≤ 1000 := fun x hx => by
      obtain ⟨s, hsT, hsid, _, hd⟩ := hinv.from_ x hx
      have hso2 := hso.2.1 s (hp.mem_iff.1 hsT)
      have hkn := hso2.1
      have hca := hso2.2.1
      have hda := did_amt hd
      have hrs : restS s = s.Known - 1 - s.Cached := rfl
      have ham : x.amt ≤ 1000 := by
        have hamx : x.amt = x.Prefill + x.Nodes := rfl
        rcases hd with ⟨d1, d2, d3, d4, d5⟩ | ⟨d1, d2, d3, d4, d5⟩ <;> omega
      have hb := Go.SX.beyond_le hc hso2 (x := x.amt) (by omega)
      have hseat := seatOf_of (((hp.map (·.Id)).nodup_iff).2 hso.2.2) hsT
      rw [hsid] at hseat
      exact ⟨s, hsT, hsid, by unfold givesOf; rw [hseat], hb.1, hb.2, hda.2.1, hda.2.2, ham⟩
    have hgp : ∀ x ∈ st.sl, 0 ≤ givesOf c T x := fun x hx => by obtain ⟨s, _, _, e, h, _⟩ := hgs x hx; rw [e]; exact h
    (repeat (first | (with_reducible apply XL.op) | ((with_reducible apply XOp.p1); (case hg | hv => exact rfl)) | (with_reducible apply XL.nilT) | (with_reducible apply XC.seq) | (with_reducible apply XC.region (Γ := Γ)) | (with_reducible apply XQ.nt) | (with_reducible apply XC.block)))
    refine XC.loopS (fun k ρ L => ∃ i : Nat, i + k = st.sl.length ∧ L = (pb, .cells ⟨[.slice oa st.out.length oc, .slice sa st.sl.length sc]⟩ 34 (0, 0)) :: (cb, .cells ⟨c.cells⟩ 23 (0, 0)) :: (Fo ++ Fs) ∧
      Slots ρ [(1, .slice a seats.length cap), (2, .slice pa picks.length pc), (3, .pointer (some ⟨cb, 0, none⟩)), (7, .pointer (some ⟨pb, 0, none⟩)), (10, .int .i64 ((((List.range c.Blocks.toNat).filter fun k => holds seats st.out (k : Nat)).length : Nat) + sumI (givesOf c T) (st.sl.take i))), (13, .int .i64 i)]) st.sl.length
      ⟨0, by simp, rfl, rfl, rfl, rfl, rfl, by simp only [List.take_zero, sumI, Int.add_zero]; rfl, rfl, trivial⟩ ?_
    rintro k ρ L ⟨i, hik, rfl, hs⟩
    refine XC.slots _ hs ?_
    (repeat (first | (with_reducible apply XL.op) | ((with_reducible apply XOp.p1); (case hg | hv => exact rfl)) | ((with_reducible apply XOp.load); (case hg | ht | hk | hx => exact rfl); (case hc => exact own_cell (i := 0) rfl rfl)) | (with_reducible apply XL.nilT) | (with_reducible apply XC.seq) | (with_reducible apply XC.region (Γ := Γ))))
    ((with_reducible apply XC.cond); (case hc => exact rfl); all_goals (intro hb_; try simp only [pd_true, pd_false, Bool.not_eq_true', Bool.not_eq_false', Bool.and_eq_true, Bool.and_eq_false_iff, Bool.or_eq_true, Bool.or_eq_false_iff, not_true_eq_false, not_false_eq_true, Int.not_lt, Int.not_le] at hb_))
    · obtain ⟨x, hi⟩ : ∃ x, st.sl[i]? = some x := ⟨_, List.getElem?_eq_getElem (by omega)⟩
      have hrow := hS.rawAt hi
      have hxm := List.mem_of_getElem? hi
      obtain ⟨s, hsT, hsid, hgive, hby0, hby1, hp0, hn0, ham⟩ := hgs x hxm
      have hso2 := hso.2.1 s (hp.mem_iff.1 hsT)
      have hkn := hso2.1
      have hca := hso2.2.1
      have hseat := seat_of_plan hso hp hsT
      rw [hsid] at hseat
      have hst1 := sum_take (givesOf c T) hi
      have hst2 := sum_take_le (givesOf c T) hgp i
      have hst3 := sum_take_le (givesOf c T) hgp (i + 1)
      have hamx : x.amt = x.Prefill + x.Nodes := rfl
      have hr0 : cellv (fv Fs) ⟨ablk sa, aoff sa + i * 3, none⟩ = some (.int .i64 x.Id) := hrow 0 _ rfl
      have hr1 : cellv (fv Fs) ⟨ablk sa, aoff sa + i * 3 + 1, none⟩ = some (.int .i64 x.Prefill) := hrow 1 _ rfl
      have hr2 : cellv (fv Fs) ⟨ablk sa, aoff sa + i * 3 + 2, none⟩ = some (.int .i64 x.Nodes) := hrow 2 _ rfl
      (repeat (first | (with_reducible apply XL.op) | ((with_reducible apply XOp.p1); (case hg | hv => exact rfl)) | ((with_reducible apply XOp.load); (case hg | ht | hk | hx => exact rfl); (case hc => exact own_cell (i := 0) rfl rfl)) | ((with_reducible apply XOp.pr); (case hg => exact rfl); (case hr => ((with_reducible apply PR.idxA); (case ht | hk | he | hx | hi => exact rfl); (case hr => first | assumption | omega); (case ha => first | assumption | exact SlA.at_ (by assumption))))) | (with_reducible apply XC.seq) | (with_reducible apply XC.region (Γ := Γ)) | (with_reducible apply XQ.skip) | (with_reducible apply XQ.nt) | (with_reducible apply XC.block) | (first | ((with_reducible apply XOp.load); (case hg | ht | hk | hx => exact rfl); (case hc => exact Known.of_frag hr0 (Mono.cell _ _) (fun z hz => List.mem_cons_of_mem _ (List.mem_cons_of_mem _ (List.mem_append_right _ hz))))) | ((with_reducible apply XP.load); (case ho | hg | ht | hk | hx => exact rfl); (case hc => exact Known.of_frag hr0 (Mono.cell _ _) (fun z hz => List.mem_cons_of_mem _ (List.mem_cons_of_mem _ (List.mem_append_right _ hz)))))) | (((with_reducible apply XOp.callQ (hF := seat_fn seats a cap x.Id)); (case hg => exact rfl); (case hc => exact rfl); (case ha => exact rfl); try (case hA => exact Known.true)); (case hA => exact Known.of_old hst (Mono.sl _ _ _ _ _)); rw [hseat]; rintro _ ⟨ah, ch, rfl⟩)))
      ((with_reducible apply XOp.alloc); (case hg | ht | hx' => exact rfl); intro sb)
      (repeat (first | (with_reducible apply XL.op) | ((with_reducible apply XOp.p1); (case hg | hv => exact rfl)) | ((with_reducible apply XOp.storeN (i := 0)); (case hg | ht | hx | hv' | hk | h1 | hi | hs | ha => exact rfl)) | (with_reducible apply XL.nilT) | (with_reducible apply XC.seq)))
      ((with_reducible apply XC.regionD (Γ := Γ) mixed (.q 0 (.q 1 (.q 2 (.q 3 (.q 4 (.q 5 (.q 6 (.q 7 (.q 8 (.q 9 (.q 10 (.q 11 (.q 12 (.q 13 (.q 14 (.q 15 (.q 16 (.done)))))))))))))))))) [] []); (case hc => kernel_rfl))
      (repeat (first | (with_reducible apply XC.seq) | (with_reducible apply XQ.nt) | ((with_reducible apply XP.p1); (case ho | hg | hv => exact rfl)) | ((with_reducible apply XP.load); (case ho | hg | ht | hk | hx => exact rfl); (case hc => exact own_cell (i := 0) rfl rfl)) | ((with_reducible apply XP.load); (case ho | hg | ht | hk | hx => exact rfl); (case hc => exact own_cell (i := 1) rfl rfl)) | ((with_reducible apply XP.pr); (case ho => exact rfl); (case hg => exact rfl); (case hr => ((with_reducible apply PR.idxA); (case ht | hk | he | hx | hi => exact rfl); (case hr => first | assumption | omega); (case ha => first | assumption | exact SlA.at_ (by assumption))))) | (with_reducible apply XP.done) | (first | ((with_reducible apply XOp.load); (case hg | ht | hk | hx => exact rfl); (case hc => exact Known.of_frag hr1 (Mono.cell _ _) (fun z hz => List.mem_cons_of_mem _ (List.mem_cons_of_mem _ (List.mem_cons_of_mem _ (List.mem_append_right _ hz)))))) | ((with_reducible apply XP.load); (case ho | hg | ht | hk | hx => exact rfl); (case hc => exact Known.of_frag hr1 (Mono.cell _ _) (fun z hz => List.mem_cons_of_mem _ (List.mem_cons_of_mem _ (List.mem_cons_of_mem _ (List.mem_append_right _ hz))))))) | (first | ((with_reducible apply XOp.load); (case hg | ht | hk | hx => exact rfl); (case hc => exact Known.of_frag hr2 (Mono.cell _ _) (fun z hz => List.mem_cons_of_mem _ (List.mem_cons_of_mem _ (List.mem_cons_of_mem _ (List.mem_append_right _ hz)))))) | ((with_reducible apply XP.load); (case ho | hg | ht | hk | hx => exact rfl); (case hc => exact Known.of_frag hr2 (Mono.cell _ _) (fun z hz => List.mem_cons_of_mem _ (List.mem_cons_of_mem _ (List.mem_cons_of_mem _ (List.mem_append_right _ hz)))))))))
      have en : IntKind.i64.wrap (IntKind.i64.wrap (s.Cached + x.Prefill) + x.Nodes) = s.Cached + x.amt := by
        rw [wrap64_of (x := s.Cached + x.Prefill) (by omega) (by omega), wrap64_of (by omega) (by omega)]; omega
      rw [en]
      have eb : IntKind.i64.wrap (IntKind.i64.wrap (s.Cached + x.amt + c.Block) - 1) = s.Cached + x.amt + c.Block - 1 := by
        rw [wrap64_of (x := s.Cached + x.amt + c.Block) (by omega) (by omega), wrap64_of (by omega) (by omega)]
      have eq1 : 0 ≤ (s.Cached + x.amt + c.Block - 1) / c.Block := Int.ediv_nonneg (by omega) (by omega)
      have eq2 : (s.Cached + x.amt + c.Block - 1) / c.Block ≤ s.Cached + x.amt + c.Block - 1 := Int.ediv_le_self _ (by omega)
      have hHb : s.Held.length * 8 ≤ 140737488355328 := by
        obtain ⟨i2, hi2⟩ := List.getElem?_of_mem (hp.mem_iff.1 hsT)
        obtain ⟨_, _, _, hH2, _⟩ := SlA_seat hst hi2
        exact hH2.bytes
      have em : IntKind.i64.wrap (IntKind.i64.wrap ((s.Cached + x.amt + c.Block - 1).tdiv c.Block) - (s.Held.length : Nat)) = needI (s.Cached + x.amt) c.Block - (s.Held.length : Nat) := by
        rw [Int.tdiv_eq_ediv_of_nonneg (by omega), wrap64_of (x := (s.Cached + x.amt + c.Block - 1) / c.Block) (by omega) (by omega), wrap64_of (by omega) (by omega)]; rfl
      ((with_reducible apply XC.regionD (Γ := Γ) mixed (.q 0 (.q 1 (.q 2 (.q 3 (.q 4 (.q 5 (.q 6 (.q 7 (.q 8 (.q 9 (.q 10 (.q 11 (.q 12 (.done)))))))))))))) [] []); (case hc => kernel_rfl))
      (repeat (first | (with_reducible apply XL.op) | ((with_reducible apply XOp.p1); (case hg | hv => exact rfl)) | (with_reducible apply XL.nilT) | (with_reducible apply XC.seq) | (with_reducible apply XC.region (Γ := Γ)) | (with_reducible apply XQ.skip) | (with_reducible apply XQ.nt) | ((with_reducible apply XP.p1); (case ho | hg | hv => exact rfl)) | ((with_reducible apply XP.load); (case ho | hg | ht | hk | hx => exact rfl); (case hc => exact own_cell (i := 0) rfl rfl)) | ((with_reducible apply XP.load); (case ho | hg | ht | hk | hx => exact rfl); (case hc => exact own_cell (i := 2) rfl rfl)) | ((with_reducible apply XP.pr); (case ho => exact rfl); (case hg => exact rfl); (case hr => ((with_reducible apply PR.quo); (case hx | hy => exact rfl); (case hr => first | assumption | omega | (rw [wrap64_of (by omega) (by omega)]; omega))))) | (with_reducible apply XP.done) | ((with_reducible apply XC.condF); (case hc => exact rfl))))
      rw [eb, em]
      (repeat (first | (with_reducible apply XL.op) | ((with_reducible apply XOp.p1); (case hg | hv => exact rfl)) | (with_reducible apply XL.nilT) | (with_reducible apply XC.region (Γ := Γ)) | (with_reducible apply XL.nilQ) | (with_reducible apply XQ.nt) | (with_reducible apply XQ.nb) | (((with_reducible apply XOp.callQ (hF := greatest_fn (needI (s.Cached + x.amt) c.Block - (s.Held.length : Nat)) 0)); (case hg => exact rfl); (case hc => exact rfl); (case ha => exact rfl); try (case hA => exact Known.true)); rintro _ rfl)))
      refine ⟨k - 1, by omega, _, List.Sublist.cons _ (List.Sublist.refl _), i + 1, by omega, rfl, rfl, rfl, rfl, rfl, ?_, intS (m := st.sl.length) (by omega) (by omega), trivial⟩
      show Value.int _ _ = Value.int _ _
      have eg : max (needI (s.Cached + x.amt) c.Block - (s.Held.length : Nat)) 0 = givesOf c T x := by rw [hgive]; unfold beyondS; omega
      rw [eg, hst1, wrap64_of (by omega) (by omega)]
      congr 1; omega
    · obtain rfl : i = st.sl.length := by omega
      rw [List.take_length]
      (repeat (first | (with_reducible apply XL.op) | ((with_reducible apply XOp.p1); (case hg | hv => exact rfl)) | ((with_reducible apply XOp.load); (case hg | ht | hk | hx => exact rfl); (case hc => exact own_cell (i := 1) rfl rfl)) | (with_reducible apply XL.nilT) | (with_reducible apply XC.seq) | (with_reducible apply XC.region (Γ := Γ)) | (with_reducible apply XQ.ret) | (with_reducible apply XQ.exit) | (with_reducible apply XQ.nt) | (with_reducible apply XQ.et) | ((with_reducible apply XQ.eb); (case hb => exact rfl))))
      ((with_reducible apply XQ.retE); (case hr => exact .t rfl .nil))
      show Value.bool _ = Value.bool _
      rw [pdt (by rw [← hgiven]; omega)]
  · obtain ⟨a1, l1, c1, a2, l2, c2, rfl⟩ := hpl.2 hok
    (repeat (first | (with_reducible apply XL.op) | ((with_reducible apply XOp.p1); (case hg | hv => exact rfl))))
    ((with_reducible apply XOp.alloc); (case hg | ht | hx' => exact rfl); intro pb)
    (repeat (first | (with_reducible apply XL.op) | ((with_reducible apply XOp.p1); (case hg | hv => exact rfl)) | ((with_reducible apply XOp.p0); (case hg => exact rfl)) | ((with_reducible apply XOp.storeN (i := 0)); (case hg | ht | hx | hv' | hk | h1 | hi | hs | ha => exact rfl)) | (with_reducible apply XL.nilT) | (with_reducible apply XC.seq) | (with_reducible apply XC.region (Γ := Γ)) | (with_reducible apply XQ.ret) | (with_reducible apply XQ.rt) | ((with_reducible apply XC.condT); (case hc => exact rfl))))
    ((with_reducible apply XQ.retE); (case hr => exact .t rfl .nil))
    rfl
end Go.Proofs.YthnmagdaepgdiaaX
