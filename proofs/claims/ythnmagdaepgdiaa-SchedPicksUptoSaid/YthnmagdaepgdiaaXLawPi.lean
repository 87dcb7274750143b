/- SchedPicks's contract. -/
import Derived.Test.YthnmagdaepgdiaaXLawBu
import Derived.Test.YthnmagdaepgdiaaXLaw5
set_option linter.unusedSimpArgs false
set_option linter.unusedVariables false
namespace Go.Proofs.YthnmagdaepgdiaaX
open Go Go.SX

theorem plan_mem {c : Srv} {T : List Seat} {p q : List Int} (h : ∀ s ∈ T, s.Id ∈ p ↔ s.Id ∈ q) : planS c T p = planS c T q := by
  unfold planS
  have : ∀ (B : List Seat) (st : St), (∀ s ∈ B, s.Id ∈ p ↔ s.Id ∈ q) → B.foldl (turn c T p) st = B.foldl (turn c T q) st := fun B => by
    induction B with
    | nil => intro st _; rfl
    | cons s B ih =>
      intro st hb
      have e : turn c T p st s = turn c T q st s := by
        unfold turn
        have := hb s (by simp)
        by_cases h1 : 0 < st.left ∧ s.Id ∉ st.out ∧ s.Id ∈ p
        · rw [if_pos h1, if_pos ⟨h1.1, h1.2.1, this.1 h1.2.2⟩]
        · rw [if_neg h1, if_neg (fun h2 => h1 ⟨h2.1, h2.2.1, this.2 h2.2.2⟩)]
      rw [List.foldl_cons, List.foldl_cons, e]
      exact ih _ (fun z hz => hb z (by simp [hz]))
  exact this T _ h
theorem drop_rev {α : Type} {l : List α} {m : Nat} {x : α} (h : l[m]? = some x) : (l.drop m).reverse = (l.drop (m + 1)).reverse ++ [x] := by
  obtain ⟨hm, rfl⟩ := List.getElem?_eq_some_iff.1 h
  rw [List.drop_eq_getElem_cons hm, List.reverse_cons]
set_option maxHeartbeats 8000000 in
theorem schedPicks_fn (v0 v1 v2 : Value) (c : Srv) (seats : List Seat) (picks : List Int) (hsmall : picks.length ≤ 1048576) : FC Try.prog 11 [v0, v1, v2] []
    (fun h => Go.SX.agg srvK h c v0 ∧ Go.SX.one (seatK.slice 56) h seats v1 ∧ Go.SX.one ((Kd.int .i64).slice 8) h picks v2) (fun v _ => v = .bool true) := by
  refine FC.intro Try.func11 rfl (by kernel_rfl) 104 [.tmp 6] rfl rfl rfl ?_
  rintro w0 ⟨⟨cs, rfl, rfl, hck⟩, ⟨_, e1, a, cap, rfl, hst, _⟩, ⟨_, e2, pa, pc, rfl, hpk, _⟩⟩
  cases e1; cases e2
  obtain ⟨T, hTs⟩ := exT c seats
  (repeat (first | (with_reducible apply XL.op) | (with_reducible apply XC.seq) | (with_reducible apply XC.region (Γ := Γ))))
  ((with_reducible apply XOp.box); (case hg | hx' => exact rfl); intro cb)
  (repeat (first | (with_reducible apply XL.op) | ((with_reducible apply XOp.p1); (case hg | hv => exact rfl)) | ((with_reducible apply XOp.loadO (i := 0)); (case hg | ht | hk | hx | hi | hc => exact rfl)) | (with_reducible apply XL.nilT) | (with_reducible apply XC.seq) | (with_reducible apply XC.region (Γ := Γ))))
  ((with_reducible apply XOp.call (hF := planned_fn c seats T hTs a cap picks pa pc)); (case hg => exact rfl); (case hc => exact rfl); (case ha => exact rfl); (case hL => exact (List.nil_append _).symm); try (case hA => exact Known.true))
  · exact (Known.of_old hst (Mono.sl _ _ _ _ _)).and (Known.of_old hpk (Mono.sl _ _ _ _ _))
  rintro v L' hpl
  by_cases hok : c.okS 1 ∧ seatsOk c seats
  · obtain ⟨vo, vs, Fo, Fs, rfl, rfl, hoi, hoc⟩ := hpl.1 hok
    obtain ⟨hc, hso⟩ := hok
    obtain ⟨hT, hp⟩ := hTs hso
    have hinv := inv_of hc hso hT hp picks
    have hbd := fold_bnd hc (T := T) (by rw [hp.length_eq]; exact hso.1) (picks := picks) T (start_bnd hc) (fun s h => hso.2.1 s (hp.mem_iff.1 h))
    have hTl : T.length ≤ 16 := by rw [hp.length_eq]; exact hso.1
    obtain ⟨st, hst'⟩ : ∃ st, st = planS c T picks := ⟨_, rfl⟩
    rw [show T.foldl (turn c T picks) ⟨[], 0, c.Budget, []⟩ = st from hst'.symm] at hbd
    rw [← hst'] at hinv hoi hoc
    obtain ⟨bd1, _, _, bd4⟩ := hbd
    obtain ⟨oa, oc, rfl, _, hO⟩ := hoi.1.slA (by_ := 8) hoi.2 (by omega)
    obtain ⟨sa, sc, rfl, hS⟩ := slc_raw hoc (by omega)
    have hch := hc.2.2.2.2
    (repeat (first | (with_reducible apply XL.op) | ((with_reducible apply XOp.p1); (case hg | hv => exact rfl))))
    ((with_reducible apply XOp.alloc); (case hg | ht | hx' => exact rfl); intro pb)
    (repeat (first | (with_reducible apply XL.op) | ((with_reducible apply XOp.p1); (case hg | hv => exact rfl)) | ((with_reducible apply XOp.storeN (i := 0)); (case hg | ht | hx | hv' | hk | h1 | hi | hs | ha => exact rfl)) | (with_reducible apply XL.nilT) | (with_reducible apply XC.seq) | (with_reducible apply XC.region (Γ := Γ)) | (with_reducible apply XQ.skip) | (with_reducible apply XQ.nt) | (with_reducible apply XC.block) | ((with_reducible apply XC.condF); (case hc => exact rfl))))
    obtain ⟨sv, hsve, hsv⟩ := sv_of hst
    have hsvl : sv.length = seats.length := by rw [← hsve, List.length_map]
    have hsl16 := hso.1
    have hpkk := hpk.okAll
    refine XC.perm (L := (pb, .cells ⟨[.slice oa st.out.length oc, .slice sa st.sl.length sc]⟩ 34 (0, 0)) :: ((Fo ++ Fs) ++ [(cb, .cells ⟨c.cells⟩ 23 (0, 0))])) (L' := (pb, .cells ⟨[.slice oa st.out.length oc, .slice sa st.sl.length sc]⟩ 34 (0, 0)) :: (cb, .cells ⟨c.cells⟩ 23 (0, 0)) :: (Fo ++ Fs)) ?_ (by (first | (with_reducible exact List.Perm.refl _) | refine perm_of_cnt fun p_ => ?_; simp only [List.countP_append, List.countP_cons, List.countP_nil]; omega))
    refine XC.cutB (fun ρ L => ∃ (u : Int) (vq : Value) (Fq : HL), OwnS 46 5 vq sv.length (sv.reverse.flatMap sxv) Fq ∧ L = (pb, .cells ⟨[.slice oa st.out.length oc, .slice sa st.sl.length sc]⟩ 34 (0, 0)) :: (cb, .cells ⟨c.cells⟩ 23 (0, 0)) :: (Fq ++ (Fo ++ Fs)) ∧
        Slots ρ [(1, .slice a seats.length cap), (2, .slice pa picks.length pc), (3, .pointer (some ⟨cb, 0, none⟩)), (7, .pointer (some ⟨pb, 0, none⟩)), (10, vq), (11, .int .i64 u)]) ?_ ?_
    · refine XC.loopS (fun k ρ L => ∃ (i u : Int) (vq : Value) (Fq : HL), i + 1 = (k : Int) ∧ k ≤ sv.length ∧ OwnS 46 5 vq (sv.length - k) ((sv.drop k).reverse.flatMap sxv) Fq ∧ L = (pb, .cells ⟨[.slice oa st.out.length oc, .slice sa st.sl.length sc]⟩ 34 (0, 0)) :: (cb, .cells ⟨c.cells⟩ 23 (0, 0)) :: (Fq ++ (Fo ++ Fs)) ∧
        Slots ρ [(1, .slice a seats.length cap), (2, .slice pa picks.length pc), (3, .pointer (some ⟨cb, 0, none⟩)), (7, .pointer (some ⟨pb, 0, none⟩)), (10, vq), (11, .int .i64 u), (12, .int .i64 i)]) sv.length
        ⟨((sv.length : Nat) : Int) - 1, 0, _, [], by omega, Nat.le_refl _, (OwnS.nil _ _).conv (by omega) (by simp), rfl, rfl, rfl, rfl, rfl, rfl, rfl, by show Value.int _ _ = Value.int _ _; rw [wrap64_of (by omega) (by omega), hsvl], trivial⟩ ?_
      rintro k ρ L ⟨i, u, vq, Fq, hik, hkl, hown, rfl, hs⟩
      obtain ⟨qa, qc, rfl⟩ := hown.val
      refine XC.slots _ hs ?_
      (repeat (first | (with_reducible apply XL.op) | ((with_reducible apply XOp.p1); (case hg | hv => exact rfl)) | (with_reducible apply XL.nilT) | (with_reducible apply XC.seq) | (with_reducible apply XC.region (Γ := Γ))))
      ((with_reducible apply XC.cond); (case hc => exact rfl); all_goals (intro hb_; try simp only [pd_true, pd_false, Bool.not_eq_true', Bool.not_eq_false', Bool.and_eq_true, Bool.and_eq_false_iff, Bool.or_eq_true, Bool.or_eq_false_iff, not_true_eq_false, not_false_eq_true, Int.not_lt, Int.not_le] at hb_))
      · obtain ⟨m, rfl⟩ : ∃ m : Nat, i = m := ⟨i.toNat, by omega⟩
        obtain rfl : k = m + 1 := by omega
        obtain ⟨x, hi⟩ : ∃ x, sv[m]? = some x := ⟨_, List.getElem?_eq_getElem (by omega)⟩
        obtain ⟨hrow, hH, hsk⟩ := sv_at hsv hi
        have hr0 : cellv (oldv w0 (keys [])) ⟨ablk a, aoff a + m * 5, none⟩ = some (.int .i64 x.1.Id) := hrow 0 _ rfl
        (repeat (first | (with_reducible apply XL.op) | ((with_reducible apply XOp.p1); (case hg | hv => exact rfl)) | ((with_reducible apply XOp.pr); (case hg => exact rfl); (case hr => ((with_reducible apply PR.idxA); (case ht | hk | he | hx | hi => exact rfl); (case hr => first | assumption | omega); (case ha => first | assumption | exact SlA.at_ (by assumption))))) | (with_reducible apply XC.seq) | (with_reducible apply XC.region (Γ := Γ)) | (with_reducible apply XQ.skip) | (with_reducible apply XQ.nt) | (with_reducible apply XC.block) | (first | ((with_reducible apply XOp.loadN); (case hg | ht | hk | hx => exact rfl); (case hc => exact Known.of_old hrow (Mono.row _ _ _)); (case hl => exact rfl)) | ((with_reducible apply XP.loadN); (case ho | hg | ht | hk | hx => exact rfl); (case hc => exact Known.of_old hrow (Mono.row _ _ _)); (case hl => exact rfl)))))
        ((with_reducible apply XOp.buildSlice); (case hg | ht | hk | he | hz | hzl | hf => exact rfl); intro bb)
        (repeat ((with_reducible apply XL.op)))
        (refine XOp.perm (L := (bb, Obj.cells ⟨sxv x⟩ 46 (0, 0)) :: (pb, .cells ⟨[.slice oa st.out.length oc, .slice sa st.sl.length sc]⟩ 34 (0, 0)) :: (cb, .cells ⟨c.cells⟩ 23 (0, 0)) :: (Fq ++ (Fo ++ Fs))) (L' :=  (bb, .cells ⟨sxv x⟩ 46 (0, 0)) :: (Fq ++ ((pb, .cells ⟨[.slice oa st.out.length oc, .slice sa st.sl.length sc]⟩ 34 (0, 0)) :: (cb, .cells ⟨c.cells⟩ 23 (0, 0)) :: (Fo ++ Fs)))) rfl ?_ (by (first | (with_reducible exact List.Perm.refl _) | refine perm_of_cnt fun p_ => ?_; simp only [List.countP_append, List.countP_cons, List.countP_nil]; omega)))
        ((with_reducible apply XOp.append1); (case hg => exact rfl); (case ht => exact rfl); (case hk => exact rfl); (case he => exact rfl); (case hown => exact hown); (case hs => exact rfl); (case hx => exact rfl); (case hL => exact rfl); (case hl => exact rfl); (case h1 => exact rfl); (case hz => exact rfl); (case hsz => exact Nat.zero_lt_succ _); (case hk0 => exact Nat.zero_lt_succ _); (case h63 => simp only [maxLen]; omega); (case hb => simp only []; omega); intro v_ F_ hown_; obtain ⟨a_, c_, rfl⟩ := hown_.val)
        refine XL.perm (L := F_ ++ ((pb, .cells ⟨[.slice oa st.out.length oc, .slice sa st.sl.length sc]⟩ 34 (0, 0)) :: (cb, .cells ⟨c.cells⟩ 23 (0, 0)) :: (Fo ++ Fs))) (L' := (pb, .cells ⟨[.slice oa st.out.length oc, .slice sa st.sl.length sc]⟩ 34 (0, 0)) :: (cb, .cells ⟨c.cells⟩ 23 (0, 0)) :: (F_ ++ (Fo ++ Fs))) ?_ (by (first | (with_reducible exact List.Perm.refl _) | refine perm_of_cnt fun p_ => ?_; simp only [List.countP_append, List.countP_cons, List.countP_nil]; omega))
        (repeat (first | (with_reducible apply XL.op) | ((with_reducible apply XOp.p1); (case hg | hv => exact rfl)) | ((with_reducible apply XOp.pr); (case hg => exact rfl); (case hr => ((with_reducible apply PR.idxA); (case ht | hk | he | hx | hi => exact rfl); (case hr => first | assumption | omega); (case ha => first | assumption | exact SlA.at_ (by assumption))))) | (with_reducible apply XL.nilT) | (with_reducible apply XC.region (Γ := Γ)) | (with_reducible apply XL.nilQ) | (with_reducible apply XQ.nt) | (with_reducible apply XQ.nb) | (first | ((with_reducible apply XOp.load); (case hg | ht | hk | hx => exact rfl); (case hc => exact Known.of_old hr0 (Mono.cell _ _))) | ((with_reducible apply XP.load); (case ho | hg | ht | hk | hx => exact rfl); (case hc => exact Known.of_old hr0 (Mono.cell _ _)))) | (((with_reducible apply XOp.callQ (hF := greatest_fn u x.1.Id)); (case hg => exact rfl); (case hc => exact rfl); (case ha => exact rfl); try (case hA => exact Known.true)); rintro _ rfl)))
        refine ⟨m, by omega, _, List.Sublist.refl _, (m : Int) - 1, max u x.1.Id, _, F_, by omega, by omega, hown_.conv (by omega) (by rw [drop_rev hi]; simp [sxv, zerosL, Go.SX.Seat.cells]), rfl, rfl, rfl, rfl, rfl, ?_, rfl, ?_, trivial⟩
        · show Value.slice _ _ _ = Value.slice _ _ _
          congr 1
        · show Value.int _ _ = Value.int _ _
          rw [wrap64_of (by omega) (by omega)]
      · obtain rfl : k = 0 := by omega
        (repeat (first | (with_reducible apply XQ.exit) | (with_reducible apply XQ.nt) | (with_reducible apply XQ.et) | ((with_reducible apply XQ.eb); (case hb => exact rfl))))
        exact ⟨u, _, Fq, hown.conv (by omega) (by simp), rfl, rfl, rfl, rfl, rfl, rfl, rfl, trivial⟩
    rintro ρ L ⟨u, vq, Fq, hownq, rfl, hs⟩
    obtain ⟨qa, qc, rfl⟩ := hownq.val
    refine XQ_slots _ hs ?_
    (repeat (first | (with_reducible apply XL.op) | ((with_reducible apply XOp.p1); (case hg | hv => exact rfl)) | (with_reducible apply XL.nilT) | (with_reducible apply XC.seq) | (with_reducible apply XC.region (Γ := Γ)) | (with_reducible apply XQ.nt) | (with_reducible apply XC.block)))
    refine XC.cutB (fun ρ L => ∃ (P2 : List Int) (vr : Value) (Fr : HL), OwnI vr P2 Fr ∧ P2.length ≤ 3 * picks.length ∧ (∀ z ∈ picks, z ∈ P2) ∧ (∀ z ∈ P2, z ∈ picks ∨ ∀ s ∈ seats, s.Id ≠ z) ∧ L = (pb, .cells ⟨[.slice oa st.out.length oc, .slice sa st.sl.length sc]⟩ 34 (0, 0)) :: (cb, .cells ⟨c.cells⟩ 23 (0, 0)) :: (Fr ++ (Fq ++ (Fo ++ Fs))) ∧
        Slots ρ [(1, .slice a seats.length cap), (2, .slice pa picks.length pc), (3, .pointer (some ⟨cb, 0, none⟩)), (7, .pointer (some ⟨pb, 0, none⟩)), (10, .slice qa sv.length qc), (13, vr)]) ?_ ?_
    · refine XC.loopS (fun k ρ L => ∃ (i : Int) (P2 : List Int) (vr : Value) (Fr : HL), i + 1 = (k : Int) ∧ k ≤ picks.length ∧ OwnI vr P2 Fr ∧ P2.length ≤ 3 * (picks.length - k) ∧ (∀ z ∈ picks.drop k, z ∈ P2) ∧ (∀ z ∈ P2, z ∈ picks ∨ ∀ s ∈ seats, s.Id ≠ z) ∧ L = (pb, .cells ⟨[.slice oa st.out.length oc, .slice sa st.sl.length sc]⟩ 34 (0, 0)) :: (cb, .cells ⟨c.cells⟩ 23 (0, 0)) :: (Fr ++ (Fq ++ (Fo ++ Fs))) ∧
        Slots ρ [(1, .slice a seats.length cap), (2, .slice pa picks.length pc), (3, .pointer (some ⟨cb, 0, none⟩)), (7, .pointer (some ⟨pb, 0, none⟩)), (10, .slice qa sv.length qc), (11, .int .i64 u), (13, vr), (14, .int .i64 i)]) picks.length
        ⟨((picks.length : Nat) : Int) - 1, [], _, [], by omega, Nat.le_refl _, ⟨OwnS.nil _ _, by simp⟩, by simp, by simp, by simp, rfl, rfl, rfl, rfl, rfl, rfl, rfl, rfl, by show Value.int _ _ = Value.int _ _; rw [wrap64_of (by omega) (by omega)], trivial⟩ ?_
      rintro k ρ L ⟨i, P2, vr, Fr, hik, hkl, hown, hlen, hall, hfrom, rfl, hs⟩
      obtain ⟨ra, rc, rfl⟩ := hown.1.val
      refine XC.slots _ hs ?_
      (repeat (first | (with_reducible apply XL.op) | ((with_reducible apply XOp.p1); (case hg | hv => exact rfl)) | (with_reducible apply XL.nilT) | (with_reducible apply XC.seq) | (with_reducible apply XC.region (Γ := Γ))))
      ((with_reducible apply XC.cond); (case hc => exact rfl); all_goals (intro hb_; try simp only [pd_true, pd_false, Bool.not_eq_true', Bool.not_eq_false', Bool.and_eq_true, Bool.and_eq_false_iff, Bool.or_eq_true, Bool.or_eq_false_iff, not_true_eq_false, not_false_eq_true, Int.not_lt, Int.not_le] at hb_))
      · obtain ⟨m, rfl⟩ : ∃ m : Nat, i = m := ⟨i.toNat, by omega⟩
        obtain rfl : k = m + 1 := by omega
        obtain ⟨x, hi⟩ : ∃ x, picks[m]? = some x := ⟨_, List.getElem?_eq_getElem (by omega)⟩
        have hcell := (hpk.int m (by omega)).1
        have hxk := (hpk.int m (by omega)).2
        simp only [hi, Option.getD_some] at hcell hxk
        have hdr : ∀ z, z ∈ picks.drop m → z = x ∨ z ∈ picks.drop (m + 1) := fun z hz => by
          have hm := (List.getElem?_eq_some_iff.1 hi).1
          rw [List.drop_eq_getElem_cons hm] at hz
          rw [List.getElem?_eq_getElem hm] at hi; cases hi
          exact List.mem_cons.1 hz
        have hxm := List.mem_of_getElem? hi
        (repeat (first | (with_reducible apply XL.op) | ((with_reducible apply XOp.p1); (case hg | hv => exact rfl)) | ((with_reducible apply XOp.pr); (case hg => exact rfl); (case hr => ((with_reducible apply PR.idxA); (case ht | hk | he | hx | hi => exact rfl); (case hr => first | assumption | omega); (case ha => first | assumption | exact SlA.at_ (by assumption))))) | (with_reducible apply XC.seq) | (with_reducible apply XC.region (Γ := Γ)) | (with_reducible apply XQ.skip) | (with_reducible apply XQ.nt) | (with_reducible apply XC.block) | (first | ((with_reducible apply XOp.load); (case hg | ht | hk | hx => exact rfl); (case hc => exact Known.of_old hcell (Mono.cell _ _))) | ((with_reducible apply XP.load); (case ho | hg | ht | hk | hx => exact rfl); (case hc => exact Known.of_old hcell (Mono.cell _ _))))))
        ((with_reducible apply XOp.buildSlice); (case hg | ht | hk | he | hz | hzl | hf => exact rfl); intro bb)
        (repeat ((with_reducible apply XL.op)))
        (refine XOp.perm (L := (bb, Obj.cells ⟨[.int .i64 x]⟩ 3 (0, 0)) :: (pb, .cells ⟨[.slice oa st.out.length oc, .slice sa st.sl.length sc]⟩ 34 (0, 0)) :: (cb, .cells ⟨c.cells⟩ 23 (0, 0)) :: (Fr ++ (Fq ++ (Fo ++ Fs)))) (L' :=  (bb, .cells ⟨[.int .i64 x]⟩ 3 (0, 0)) :: (Fr ++ ((pb, .cells ⟨[.slice oa st.out.length oc, .slice sa st.sl.length sc]⟩ 34 (0, 0)) :: (cb, .cells ⟨c.cells⟩ 23 (0, 0)) :: (Fq ++ (Fo ++ Fs))))) rfl ?_ (by (first | (with_reducible exact List.Perm.refl _) | refine perm_of_cnt fun p_ => ?_; simp only [List.countP_append, List.countP_cons, List.countP_nil]; omega)))
        ((with_reducible apply XOp.append1); (case hg => exact rfl); (case ht => exact rfl); (case hk => exact rfl); (case he => exact rfl); (case hown => exact hown.1); (case hs => exact rfl); (case hx => exact rfl); (case hL => exact rfl); (case hl => exact rfl); (case h1 => exact rfl); (case hz => exact rfl); (case hsz => exact Nat.zero_lt_succ _); (case hk0 => exact Nat.zero_lt_succ _); (case h63 => simp only [maxLen]; omega); (case hb => simp only []; omega); intro v_ F_ hown_; obtain ⟨a_, c_, rfl⟩ := hown_.val)
        obtain ⟨Fr1, hFr1⟩ : ∃ F, F = F_ := ⟨_, rfl⟩
        rw [← hFr1] at hown_ ⊢
        refine XL.perm (L := Fr1 ++ ((pb, .cells ⟨[.slice oa st.out.length oc, .slice sa st.sl.length sc]⟩ 34 (0, 0)) :: (cb, .cells ⟨c.cells⟩ 23 (0, 0)) :: (Fq ++ (Fo ++ Fs)))) (L' := (pb, .cells ⟨[.slice oa st.out.length oc, .slice sa st.sl.length sc]⟩ 34 (0, 0)) :: (cb, .cells ⟨c.cells⟩ 23 (0, 0)) :: (Fr1 ++ (Fq ++ (Fo ++ Fs)))) ?_ (by (first | (with_reducible exact List.Perm.refl _) | refine perm_of_cnt fun p_ => ?_; simp only [List.countP_append, List.countP_cons, List.countP_nil]; omega))
        (repeat (first | (with_reducible apply XL.op) | ((with_reducible apply XOp.p1); (case hg | hv => exact rfl)) | ((with_reducible apply XOp.pr); (case hg => exact rfl); (case hr => ((with_reducible apply PR.idxA); (case ht | hk | he | hx | hi => exact rfl); (case hr => first | assumption | omega); (case ha => first | assumption | exact SlA.at_ (by assumption))))) | (with_reducible apply XL.nilT) | (with_reducible apply XC.seq) | (with_reducible apply XC.region (Γ := Γ)) | (first | ((with_reducible apply XOp.load); (case hg | ht | hk | hx => exact rfl); (case hc => exact Known.of_old hcell (Mono.cell _ _))) | ((with_reducible apply XP.load); (case ho | hg | ht | hk | hx => exact rfl); (case hc => exact Known.of_old hcell (Mono.cell _ _))))))
        ((with_reducible apply XOp.buildSlice); (case hg | ht | hk | he | hz | hzl | hf => exact rfl); intro bb)
        (repeat ((with_reducible apply XL.op)))
        (refine XOp.perm (L := (bb, Obj.cells ⟨[.int .i64 x]⟩ 3 (0, 0)) :: (pb, .cells ⟨[.slice oa st.out.length oc, .slice sa st.sl.length sc]⟩ 34 (0, 0)) :: (cb, .cells ⟨c.cells⟩ 23 (0, 0)) :: (Fr1 ++ (Fq ++ (Fo ++ Fs)))) (L' :=  (bb, .cells ⟨[.int .i64 x]⟩ 3 (0, 0)) :: (Fr1 ++ ((pb, .cells ⟨[.slice oa st.out.length oc, .slice sa st.sl.length sc]⟩ 34 (0, 0)) :: (cb, .cells ⟨c.cells⟩ 23 (0, 0)) :: (Fq ++ (Fo ++ Fs))))) rfl ?_ (by (first | (with_reducible exact List.Perm.refl _) | refine perm_of_cnt fun p_ => ?_; simp only [List.countP_append, List.countP_cons, List.countP_nil]; omega)))
        ((with_reducible apply XOp.append1); (case hg => exact rfl); (case ht => exact rfl); (case hk => exact rfl); (case he => exact rfl); (case hown => exact hown_); (case hs => exact rfl); (case hx => exact rfl); (case hL => exact rfl); (case hl => exact rfl); (case h1 => exact rfl); (case hz => exact rfl); (case hsz => exact Nat.zero_lt_succ _); (case hk0 => exact Nat.zero_lt_succ _); (case h63 => simp only [maxLen]; omega); (case hb => simp only []; omega); intro v_ F_ hown_; obtain ⟨a_, c_, rfl⟩ := hown_.val)
        obtain ⟨Fr2, hFr2⟩ : ∃ F, F = F_ := ⟨_, rfl⟩
        rw [← hFr2] at hown_ ⊢
        refine XL.perm (L := Fr2 ++ ((pb, .cells ⟨[.slice oa st.out.length oc, .slice sa st.sl.length sc]⟩ 34 (0, 0)) :: (cb, .cells ⟨c.cells⟩ 23 (0, 0)) :: (Fq ++ (Fo ++ Fs)))) (L' := (pb, .cells ⟨[.slice oa st.out.length oc, .slice sa st.sl.length sc]⟩ 34 (0, 0)) :: (cb, .cells ⟨c.cells⟩ 23 (0, 0)) :: (Fr2 ++ (Fq ++ (Fo ++ Fs)))) ?_ (by (first | (with_reducible exact List.Perm.refl _) | refine perm_of_cnt fun p_ => ?_; simp only [List.countP_append, List.countP_cons, List.countP_nil]; omega))
        have hown2 : OwnI (.slice a_ (P2.length + 1 + 1) c_) (P2 ++ [x] ++ [x]) Fr2 := ⟨hown_.conv (by simp) (by simp [zerosL]), fun z hz => by
          rcases List.mem_append.1 hz with h | h
          · rcases List.mem_append.1 h with h | h
            · exact hown.2 z h
            · rw [List.mem_singleton.1 h]; exact hxk
          · rw [List.mem_singleton.1 h]; exact hxk⟩
        have hall2 : ∀ z ∈ picks.drop m, z ∈ P2 ++ [x] ++ [x] := fun z hz => by
          rcases hdr z hz with h | h
          · rw [h]; simp
          · simp [hall z h]
        have hfrom2 : ∀ z ∈ P2 ++ [x] ++ [x], z ∈ picks ∨ ∀ s ∈ seats, s.Id ≠ z := fun z hz => by
          rcases List.mem_append.1 hz with h | h
          · rcases List.mem_append.1 h with h | h
            · exact hfrom z h
            · rw [List.mem_singleton.1 h]; exact .inl hxm
          · rw [List.mem_singleton.1 h]; exact .inl hxm
        have hl2 : (P2 ++ [x] ++ [x]).length = P2.length + 1 + 1 := by simp
        (repeat (first | (with_reducible apply XL.op) | ((with_reducible apply XOp.p1); (case hg | hv => exact rfl)) | (with_reducible apply XL.nilT) | (with_reducible apply XC.seq) | (with_reducible apply XC.region (Γ := Γ))))
        ((with_reducible apply XOp.callQ (hF := seat_fn seats a cap (IntKind.i64.wrap (u + 1)))); (case hg => exact rfl); (case hc => exact rfl); (case ha => exact rfl); try (case hA => exact Known.true))
        · exact Known.of_old hst (Mono.sl _ _ _ _ _)
        rcases hsf : seatOf seats (IntKind.i64.wrap (u + 1)) with _ | s2
        · rintro _ rfl
          have hno : ∀ s ∈ seats, s.Id ≠ IntKind.i64.wrap (u + 1) := fun s hs2 => by
            unfold seatOf at hsf
            rw [List.find?_eq_none] at hsf
            simpa using hsf s hs2
          (repeat (first | (with_reducible apply XL.op) | ((with_reducible apply XOp.p1); (case hg | hv => exact rfl))))
          ((with_reducible apply XOp.alloc); (case hg | ht | hx' => exact rfl); intro sb)
          (repeat (first | (with_reducible apply XL.op) | ((with_reducible apply XOp.p1); (case hg | hv => exact rfl)) | ((with_reducible apply XOp.storeN (i := 0)); (case hg | ht | hx | hv' | hk | h1 | hi | hs | ha => exact rfl)) | (with_reducible apply XL.nilT) | (with_reducible apply XC.seq) | (with_reducible apply XC.region (Γ := Γ)) | ((with_reducible apply XC.condT); (case hc => exact rfl))))
          ((with_reducible apply XOp.buildSlice); (case hg | ht | hk | he | hz | hzl | hf => exact rfl); intro bb2)
          (repeat ((with_reducible apply XL.op)))
          (refine XOp.perm (L := (bb2, Obj.cells ⟨[.int .i64 (IntKind.i64.wrap (u + 1))]⟩ 3 (0, 0)) :: (sb, .cells ⟨[.int .i64 0, .int .i64 0, .int .i64 0, .int .i64 0, .slice none 0 0]⟩ 46 (0, 0)) :: (pb, .cells ⟨[.slice oa st.out.length oc, .slice sa st.sl.length sc]⟩ 34 (0, 0)) :: (cb, .cells ⟨c.cells⟩ 23 (0, 0)) :: (Fr2 ++ (Fq ++ (Fo ++ Fs)))) (L' :=  (bb2, .cells ⟨[.int .i64 (IntKind.i64.wrap (u + 1))]⟩ 3 (0, 0)) :: (Fr2 ++ ((sb, .cells ⟨[.int .i64 0, .int .i64 0, .int .i64 0, .int .i64 0, .slice none 0 0]⟩ 46 (0, 0)) :: (pb, .cells ⟨[.slice oa st.out.length oc, .slice sa st.sl.length sc]⟩ 34 (0, 0)) :: (cb, .cells ⟨c.cells⟩ 23 (0, 0)) :: (Fq ++ (Fo ++ Fs))))) rfl ?_ (by (first | (with_reducible exact List.Perm.refl _) | refine perm_of_cnt fun p_ => ?_; simp only [List.countP_append, List.countP_cons, List.countP_nil]; omega)))
          ((with_reducible apply XOp.append1); (case hg => exact rfl); (case ht => exact rfl); (case hk => exact rfl); (case he => exact rfl); (case hown => exact hown2.1.conv hl2 rfl); (case hs => exact rfl); (case hx => exact rfl); (case hL => exact rfl); (case hl => exact rfl); (case h1 => exact rfl); (case hz => exact rfl); (case hsz => exact Nat.zero_lt_succ _); (case hk0 => exact Nat.zero_lt_succ _); (case h63 => simp only [maxLen]; omega); (case hb => simp only []; omega); intro v_ F_ hown_; obtain ⟨a_, c_, rfl⟩ := hown_.val)
          refine XL.perm (L := F_ ++ ((sb, .cells ⟨[.int .i64 0, .int .i64 0, .int .i64 0, .int .i64 0, .slice none 0 0]⟩ 46 (0, 0)) :: (pb, .cells ⟨[.slice oa st.out.length oc, .slice sa st.sl.length sc]⟩ 34 (0, 0)) :: (cb, .cells ⟨c.cells⟩ 23 (0, 0)) :: (Fq ++ (Fo ++ Fs)))) (L' := (sb, .cells ⟨[.int .i64 0, .int .i64 0, .int .i64 0, .int .i64 0, .slice none 0 0]⟩ 46 (0, 0)) :: (pb, .cells ⟨[.slice oa st.out.length oc, .slice sa st.sl.length sc]⟩ 34 (0, 0)) :: (cb, .cells ⟨c.cells⟩ 23 (0, 0)) :: (F_ ++ (Fq ++ (Fo ++ Fs)))) ?_ (by (first | (with_reducible exact List.Perm.refl _) | refine perm_of_cnt fun p_ => ?_; simp only [List.countP_append, List.countP_cons, List.countP_nil]; omega))
          (repeat (first | (with_reducible apply XL.op) | ((with_reducible apply XOp.p1); (case hg | hv => exact rfl)) | (with_reducible apply XL.nilT) | (with_reducible apply XC.region (Γ := Γ)) | (with_reducible apply XL.nilQ) | (with_reducible apply XQ.nt) | (with_reducible apply XQ.nb)))
          refine ⟨m, by omega, _, List.Sublist.cons _ (List.Sublist.refl _), (m : Int) - 1, (P2 ++ [x] ++ [x]) ++ [IntKind.i64.wrap (u + 1)], _, F_, by omega, by omega, ⟨hown_.conv (by simp) (by simp [zerosL]), fun z hz => ?_⟩, by simp; omega, fun z hz => List.mem_append_left _ (hall2 z hz), fun z hz => ?_, rfl, rfl, rfl, rfl, rfl, rfl, rfl, ?_, ?_, trivial⟩
          · rcases List.mem_append.1 hz with h | h
            · exact hown2.2 z h
            · rw [List.mem_singleton.1 h]; exact Go.wf_wrap _ _
          · rcases List.mem_append.1 hz with h | h
            · exact hfrom2 z h
            · rw [List.mem_singleton.1 h]; exact .inr hno
          · show Value.slice _ _ _ = Value.slice _ _ _
            congr 1
          · show Value.int _ _ = Value.int _ _
            rw [wrap64_of (by omega) (by omega)]
        · rintro _ ⟨ah, ch, rfl⟩
          (repeat (first | (with_reducible apply XL.op) | ((with_reducible apply XOp.p1); (case hg | hv => exact rfl))))
          ((with_reducible apply XOp.alloc); (case hg | ht | hx' => exact rfl); intro sb)
          (repeat (first | (with_reducible apply XL.op) | ((with_reducible apply XOp.p1); (case hg | hv => exact rfl)) | ((with_reducible apply XOp.storeN (i := 0)); (case hg | ht | hx | hv' | hk | h1 | hi | hs | ha => exact rfl)) | (with_reducible apply XL.nilT) | (with_reducible apply XC.seq) | (with_reducible apply XC.region (Γ := Γ)) | (with_reducible apply XQ.skip) | (with_reducible apply XQ.nt) | (with_reducible apply XQ.nb) | ((with_reducible apply XC.condF); (case hc => exact rfl))))
          refine ⟨m, by omega, _, List.Sublist.cons _ (List.Sublist.refl _), (m : Int) - 1, P2 ++ [x] ++ [x], _, Fr2, by omega, by omega, ⟨hown2.1.conv rfl rfl, hown2.2⟩, by simp; omega, hall2, hfrom2, rfl, rfl, rfl, rfl, rfl, rfl, rfl, ?_, ?_, trivial⟩
          · show Value.slice _ _ _ = Value.slice _ _ _
            congr 1
          · show Value.int _ _ = Value.int _ _
            rw [wrap64_of (by omega) (by omega)]
      · obtain rfl : k = 0 := by omega
        (repeat (first | (with_reducible apply XQ.exit) | (with_reducible apply XQ.nt) | (with_reducible apply XQ.et) | ((with_reducible apply XQ.eb); (case hb => exact rfl))))
        exact ⟨P2, _, Fr, hown, by omega, hall, hfrom, rfl, rfl, rfl, rfl, rfl, rfl, rfl, trivial⟩
    rintro ρ L ⟨P2, vr, Fr, hownr, hlen, hall, hfrom, rfl, hs⟩
    obtain ⟨ra, rc, rfl, _, hR⟩ := hownr.1.slA (by_ := 8) hownr.2 (by omega)
    refine XQ_slots _ hs ?_
    have hprev : (sv.reverse.map (·.1)).Perm seats := by rw [← hsve]; exact (List.reverse_perm sv).map _
    have hso' : seatsOk c (sv.reverse.map (·.1)) := ⟨by rw [hprev.length_eq]; exact hso.1, fun z hz => hso.2.1 z (hprev.mem_iff.1 hz), ((hprev.map (·.Id)).nodup_iff).2 hso.2.2⟩
    have hmk := make_fn c (sv.reverse.map (·.1)) T (fun _ => ⟨hT, hp.trans hprev.symm⟩) qa qc P2 ra rc
    rw [planOf_ok ⟨hc, hso'⟩, plan_mem (p := P2) (q := picks) (fun s hsT => ⟨fun h => (hfrom _ h).elim id (fun h2 => absurd rfl (h2 s (hp.mem_iff.1 hsT))), fun h => hall _ h⟩), ← hst'] at hmk
    simp only [List.length_map, List.length_reverse] at hmk
    obtain ⟨qa', qc', hqe, hraw⟩ := hownq.raw (f := sxv) (k := 5) (hk := sxv_len) (by_ := 56) (by simp) (by simp; omega)
    simp only [Value.slice.injEq] at hqe
    obtain ⟨rfl, _, rfl⟩ := hqe
    (repeat (first | (with_reducible apply XL.op) | ((with_reducible apply XOp.p1); (case hg | hv => exact rfl)) | ((with_reducible apply XOp.loadO (i := 1)); (case hg | ht | hk | hx | hi | hc => exact rfl)) | (with_reducible apply XC.seq) | (with_reducible apply XC.region (Γ := Γ)) | (with_reducible apply XQ.nt)))
    ((with_reducible apply XOp.call (hF := hmk)); (case hg => exact rfl); (case hc => exact rfl); (case ha => exact rfl); (case hL => exact (List.nil_append _).symm); try (case hA => exact Known.true))
    · refine Known.and ?_ (Known.of_frag hR (Mono.sl _ _ _ _ _) (fun z_ hz_ => by first | exact hz_ | (simp only [List.mem_cons, List.mem_append, hz_, true_or, or_true]; done) | ((repeat (first | exact hz_ | exact List.mem_append_left _ hz_ | (apply List.mem_cons_of_mem) | (apply List.mem_append_right))); done)))
      refine (known_sv (Known.of_frag hraw (Mono.sl _ _ _ _ _) (fun z_ hz_ => by first | exact hz_ | (simp only [List.mem_cons, List.mem_append, hz_, true_or, or_true]; done) | ((repeat (first | exact hz_ | exact List.mem_append_left _ hz_ | (apply List.mem_cons_of_mem) | (apply List.mem_append_right))); done))) (fun x hx => ?_) (fun x hx => ?_)).imp (fun h hh => sl_seat hh)
      · obtain ⟨q, hq⟩ := List.getElem?_of_mem (List.mem_reverse.1 hx)
        exact Known.of_old (sv_at hsv hq).2.1 (Mono.sl _ _ _ _ _)
      · obtain ⟨q, hq⟩ := List.getElem?_of_mem (List.mem_reverse.1 hx)
        exact (sv_at hsv hq).2.2
    rintro v L' ⟨vo2, vs2, Fo2, Fs2, rfl, rfl, hoi2, hoc2⟩
    change OwnI vo2 st.out Fo2 at hoi2
    change OwnC vs2 st.sl Fs2 at hoc2
    obtain ⟨oa2, oc2, rfl, _, hO2⟩ := hoi2.1.slA (by_ := 8) hoi2.2 (by omega)
    obtain ⟨sa2, sc2, rfl, hS2⟩ := slc_raw hoc2 (by omega)
    (repeat (first | (with_reducible apply XL.op) | ((with_reducible apply XOp.p1); (case hg | hv => exact rfl))))
    ((with_reducible apply XOp.alloc); (case hg | ht | hx' => exact rfl); intro qb)
    refine XL.perm (L := (qb, Obj.cells ⟨[.slice none 0 0, .slice none 0 0]⟩ 34 (0, 0)) :: (Fo2 ++ Fs2 ++ ((pb, .cells ⟨[.slice oa st.out.length oc, .slice sa st.sl.length sc]⟩ 34 (0, 0)) :: (cb, .cells ⟨c.cells⟩ 23 (0, 0)) :: (Fr ++ (Fq ++ (Fo ++ Fs)))))) (L' := (qb, Obj.cells ⟨[.slice none 0 0, .slice none 0 0]⟩ 34 (0, 0)) :: (pb, .cells ⟨[.slice oa st.out.length oc, .slice sa st.sl.length sc]⟩ 34 (0, 0)) :: (cb, .cells ⟨c.cells⟩ 23 (0, 0)) :: (Fo2 ++ Fs2 ++ (Fr ++ (Fq ++ (Fo ++ Fs))))) ?_ (by (first | (with_reducible exact List.Perm.refl _) | refine perm_of_cnt fun p_ => ?_; simp only [List.countP_append, List.countP_cons, List.countP_nil]; omega))
    (repeat' (first | (with_reducible apply XL.op) | ((with_reducible apply XOp.p1); (case hg | hv => exact rfl)) | ((with_reducible apply XOp.loadO (i := 0)); (case hg | ht | hk | hx | hi | hc => exact rfl)) | ((with_reducible apply XOp.loadO (i := 1)); (case hg | ht | hk | hx | hi | hc => exact rfl)) | ((with_reducible apply XOp.storeN (i := 0)); (case hg | ht | hx | hv' | hk | h1 | hi | hs | ha => exact rfl)) | (with_reducible apply XL.nilT) | (with_reducible apply XC.seq) | (with_reducible apply XC.region (Γ := Γ)) | (with_reducible apply XQ.ret) | (first | ((with_reducible apply XOp.split); (case hg | hj | hd | hb => exact rfl); (fail_if_success (case hf => exact fun h => Bool.noConfusion h)); (fail_if_success (case ht => exact fun h => Bool.noConfusion h)); (first | (case ht => intro hb_; try simp only [pd_true, pd_false, Bool.not_eq_true', Bool.not_eq_false', Bool.and_eq_true, Bool.and_eq_false_iff, Bool.or_eq_true, Bool.or_eq_false_iff, not_true_eq_false, not_false_eq_true, Int.not_lt, Int.not_le] at hb_; exfalso; first | omega | contradiction) | (case hf => intro hb_; try simp only [pd_true, pd_false, Bool.not_eq_true', Bool.not_eq_false', Bool.and_eq_true, Bool.and_eq_false_iff, Bool.or_eq_true, Bool.or_eq_false_iff, not_true_eq_false, not_false_eq_true, Int.not_lt, Int.not_le] at hb_; exfalso; first | omega | contradiction)); intro hb_; try simp only [pd_true, pd_false, Bool.not_eq_true', Bool.not_eq_false', Bool.and_eq_true, Bool.and_eq_false_iff, Bool.or_eq_true, Bool.or_eq_false_iff, not_true_eq_false, not_false_eq_true, Int.not_lt, Int.not_le] at hb_) | ((with_reducible apply XP.split); (case ho | hg | hj | hd | hb => exact rfl); (fail_if_success (case hf => exact fun h => Bool.noConfusion h)); (fail_if_success (case ht => exact fun h => Bool.noConfusion h)); (first | (case ht => intro hb_; try simp only [pd_true, pd_false, Bool.not_eq_true', Bool.not_eq_false', Bool.and_eq_true, Bool.and_eq_false_iff, Bool.or_eq_true, Bool.or_eq_false_iff, not_true_eq_false, not_false_eq_true, Int.not_lt, Int.not_le] at hb_; exfalso; first | omega | contradiction) | (case hf => intro hb_; try simp only [pd_true, pd_false, Bool.not_eq_true', Bool.not_eq_false', Bool.and_eq_true, Bool.and_eq_false_iff, Bool.or_eq_true, Bool.or_eq_false_iff, not_true_eq_false, not_false_eq_true, Int.not_lt, Int.not_le] at hb_; exfalso; first | omega | contradiction)); intro hb_; try simp only [pd_true, pd_false, Bool.not_eq_true', Bool.not_eq_false', Bool.and_eq_true, Bool.and_eq_false_iff, Bool.or_eq_true, Bool.or_eq_false_iff, not_true_eq_false, not_false_eq_true, Int.not_lt, Int.not_le] at hb_) | ((with_reducible apply XC.cond); (case hc => exact rfl); (first | (case ht => intro hb_; try simp only [pd_true, pd_false, Bool.not_eq_true', Bool.not_eq_false', Bool.and_eq_true, Bool.and_eq_false_iff, Bool.or_eq_true, Bool.or_eq_false_iff, not_true_eq_false, not_false_eq_true, Int.not_lt, Int.not_le] at hb_; exfalso; first | omega | contradiction) | (case hf => intro hb_; try simp only [pd_true, pd_false, Bool.not_eq_true', Bool.not_eq_false', Bool.and_eq_true, Bool.and_eq_false_iff, Bool.or_eq_true, Bool.or_eq_false_iff, not_true_eq_false, not_false_eq_true, Int.not_lt, Int.not_le] at hb_; exfalso; first | omega | contradiction)); intro hb_; try simp only [pd_true, pd_false, Bool.not_eq_true', Bool.not_eq_false', Bool.and_eq_true, Bool.and_eq_false_iff, Bool.or_eq_true, Bool.or_eq_false_iff, not_true_eq_false, not_false_eq_true, Int.not_lt, Int.not_le] at hb_)) | (((with_reducible apply XOp.callQ (hF := eqPlan_fn st.out st.out st.sl st.sl oa sa oa2 sa2 oc sc oc2 sc2)); (case hg => exact rfl); (case hc => exact rfl); (case ha => exact rfl); try (case hA => exact Known.true)); (case hA => exact ((Known.of_frag hO (Mono.sl _ _ _ _ _) (fun z_ hz_ => by first | exact hz_ | (simp only [List.mem_cons, List.mem_append, hz_, true_or, or_true]; done) | ((repeat (first | exact hz_ | exact List.mem_append_left _ hz_ | (apply List.mem_cons_of_mem) | (apply List.mem_append_right))); done))).and (Known.of_frag hO2 (Mono.sl _ _ _ _ _) (fun z_ hz_ => by first | exact hz_ | (simp only [List.mem_cons, List.mem_append, hz_, true_or, or_true]; done) | ((repeat (first | exact hz_ | exact List.mem_append_left _ hz_ | (apply List.mem_cons_of_mem) | (apply List.mem_append_right))); done)))).and ((Known.of_frag hS (Mono.sl _ _ _ _ _) (fun z_ hz_ => by first | exact hz_ | (simp only [List.mem_cons, List.mem_append, hz_, true_or, or_true]; done) | ((repeat (first | exact hz_ | exact List.mem_append_left _ hz_ | (apply List.mem_cons_of_mem) | (apply List.mem_append_right))); done))).and (Known.of_frag hS2 (Mono.sl _ _ _ _ _) (fun z_ hz_ => by first | exact hz_ | (simp only [List.mem_cons, List.mem_append, hz_, true_or, or_true]; done) | ((repeat (first | exact hz_ | exact List.mem_append_left _ hz_ | (apply List.mem_cons_of_mem) | (apply List.mem_append_right))); done))))); rintro _ rfl) | ((with_reducible apply XOp.split); (case hg | hj | hd | hb => exact rfl); (fail_if_success (case hf => exact fun h => Bool.noConfusion h)); (fail_if_success (case ht => exact fun h => Bool.noConfusion h)); all_goals (intro hb_; try simp only [pd_true, pd_false, Bool.not_eq_true', Bool.not_eq_false', Bool.and_eq_true, Bool.and_eq_false_iff, Bool.or_eq_true, Bool.or_eq_false_iff, not_true_eq_false, not_false_eq_true, Int.not_lt, Int.not_le] at hb_))))
    ((with_reducible apply XQ.retE); (case hr => exact .t rfl .nil))
    show Value.bool _ = Value.bool _
    rw [pdt ⟨rfl, rfl⟩]
  · obtain ⟨a1, l1, c1, a2, l2, c2, rfl⟩ := hpl.2 hok
    (repeat (first | (with_reducible apply XL.op) | ((with_reducible apply XOp.p1); (case hg | hv => exact rfl))))
    ((with_reducible apply XOp.alloc); (case hg | ht | hx' => exact rfl); intro pb)
    (repeat (first | (with_reducible apply XL.op) | ((with_reducible apply XOp.p1); (case hg | hv => exact rfl)) | ((with_reducible apply XOp.p0); (case hg => exact rfl)) | ((with_reducible apply XOp.storeN (i := 0)); (case hg | ht | hx | hv' | hk | h1 | hi | hs | ha => exact rfl)) | (with_reducible apply XL.nilT) | (with_reducible apply XC.seq) | (with_reducible apply XC.region (Γ := Γ)) | (with_reducible apply XQ.ret) | (with_reducible apply XQ.rt) | ((with_reducible apply XC.condT); (case hc => exact rfl))))
    ((with_reducible apply XQ.retE); (case hr => exact .t rfl .nil))
    rfl
end Go.Proofs.YthnmagdaepgdiaaX
