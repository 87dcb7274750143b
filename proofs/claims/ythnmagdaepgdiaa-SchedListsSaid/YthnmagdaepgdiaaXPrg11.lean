/- The program serves a seat. -/
import Derived.Test.YthnmagdaepgdiaaXPrg10
set_option linter.unusedSimpArgs false
set_option linter.unusedVariables false
namespace Go.Proofs.YthnmagdaepgdiaaX
open Go Go.SX

theorem em3 (a b l : Int) : (if l < (if b < a then b else a) then l else (if b < a then b else a)) = min (min a b) l := by
  split <;> split <;> omega
theorem emx (a : Int) : (if (1 : Int) > a then 1 else a) = max a 1 := by split <;> omega
theorem free_less (c : Srv) (T : List Seat) (o : List Int) (given y : Int) : freeS c T o given - y = freeS c T o (given + y) := by unfold freeS; omega

set_option maxHeartbeats 8000000 in
theorem serve_fn (wb mb hb B : Nat) (c : Srv) (hc : c.okS 1) (hB : c.Blocks = B) (tv : List SV) (hT : Rising (tv.map (·.1))) (hTl : tv.length ≤ 16) (hok : ∀ x ∈ tv, seatOk c x.1 ∧ x.1.ok) (ta : Option Addr) (tc : Nat) (out : List Int) (hol : out.length ≤ 350) (given left : Int) (hgv : 0 ≤ given ∧ given ≤ 40000) (hlf : 1 ≤ left ∧ left ≤ 1024)
    (vo vs : Value) (Fo Fs : HL) (hoi : OwnI vo out Fo) (sl : List Slc) (hsl : sl.length ≤ 100) (hoc : OwnC vs sl Fs) (ob : Obj) (hm : MapIs ob (markM out)) (at_ : Nat) (xs : SV) (hat : tv[at_]? = some xs) :
    FC Try.prog 36 [.pointer (some ⟨wb, 0, none⟩), .int .i64 at_]
    ((wb, .cells ⟨wcp c (.slice ta tv.length tc) mb hb B (freeS c (tv.map (·.1)) out given) left vo vs⟩ 58 (0, 0)) :: (mb, ob) :: (hb, .cells ⟨(countsOf c (tv.map (·.1)) out).map (.int .i64)⟩ 3 (0, 0)) :: (Fo ++ Fs))
    (fun h => SlA svK 56 h tv ta tc)
    (fun _ L => match servedS c (tv.map (·.1)) out given left xs.1 with
      | none => ∃ ob', MapIs ob' (markM out) ∧ L = (wb, .cells ⟨wcp c (.slice ta tv.length tc) mb hb B (freeS c (tv.map (·.1)) out given) left vo vs⟩ 58 (0, 0)) :: (mb, ob') :: (hb, .cells ⟨(countsOf c (tv.map (·.1)) out).map (.int .i64)⟩ 3 (0, 0)) :: (Fo ++ Fs)
      | some (o, n, x) => ∃ ob' vo' Fo' vs' Fs', MapIs ob' (markM o) ∧ OwnI vo' o Fo' ∧ OwnC vs' (sl ++ [x]) Fs' ∧
        L = (wb, .cells ⟨wcp c (.slice ta tv.length tc) mb hb B (freeS c (tv.map (·.1)) o (given + beyondS c xs.1 n)) (left - n) vo' vs'⟩ 58 (0, 0)) :: (mb, ob') :: (hb, .cells ⟨(countsOf c (tv.map (·.1)) o).map (.int .i64)⟩ 3 (0, 0)) :: (Fo' ++ Fs')) := by
  refine FC.sub2 ?_
  refine FC.intro Try.func36 rfl (by kernel_rfl) 114 [] rfl rfl rfl ?_
  intro w0 hA
  have hB2 := hc.2.1
  have hch := hc.2.2.2.2
  have hBt : c.Blocks.toNat = B := by omega
  have hal := (List.getElem?_eq_some_iff.1 hat).1
  obtain ⟨T, hTe⟩ : ∃ T, T = tv.map (·.1) := ⟨_, rfl⟩
  have hTlen : T.length = tv.length := by rw [hTe, List.length_map]
  have hsT : T[at_]? = some xs.1 := by rw [hTe, List.getElem?_map, hat]; rfl
  obtain ⟨hsok, hsk⟩ := hok xs (List.mem_of_getElem? hat)
  obtain ⟨hrow, hH, _⟩ := sv_at hA hat
  have hhl := hH.bytes
  have hkn := hsok.1
  have hca := hsok.2.1
  obtain ⟨va, vc, rfl⟩ := hoi.1.val
  obtain ⟨vsa, vsc, rfl⟩ := hoc.1.val
  rw [← hTe]
  have er : IntKind.i64.wrap (IntKind.i64.wrap (xs.1.Known - 1) - xs.1.Cached) = restS xs.1 := by
    rw [wrap64_of (x := xs.1.Known - 1) (by omega) (by omega), wrap64_of (by omega) (by omega)]; rfl
  have hrs : 0 ≤ restS xs.1 ∧ restS xs.1 ≤ 63 := by unfold restS; omega
  have hroom := fun (x : Int) (hx : 0 ≤ x ∧ x ≤ 1000) => room_fn wb mb hb B c hc hB tv hT hTl hok ta tc out (by omega) given left (by omega) (.slice va out.length vc) (.slice vsa sl.length vsc) Fo hoi ob hm at_ xs hat x hx
  rw [← hTe] at hroom
  have hWB : ∀ (o : List Int) (vo' : Value) (ob' : Obj), True := fun _ _ _ => trivial
  (repeat (first | (with_reducible apply XL.op) | ((with_reducible apply XOp.p1); (case hg | hv => exact rfl)) | ((with_reducible apply XOp.load); (case hg | ht | hk | hx => exact rfl); (case hc => exact own_cell (i := 0) rfl rfl)) | ((with_reducible apply XOp.pr); (case hg => exact rfl); (case hr => ((with_reducible apply PR.idxA); (case ht | hk | he | hx | hi => exact rfl); (case hr => first | assumption | omega); (case ha => first | assumption | exact SlA.at_ (by assumption))))) | (with_reducible apply XC.seq) | (with_reducible apply XC.region (Γ := Γ)) | (first | ((with_reducible apply XOp.loadN); (case hg | ht | hk | hx => exact rfl); (case hc => exact Known.of_old hrow (Mono.row _ _ _)); (case hl => exact rfl)) | ((with_reducible apply XP.loadN); (case ho | hg | ht | hk | hx => exact rfl); (case hc => exact Known.of_old hrow (Mono.row _ _ _)); (case hl => exact rfl)))))
  ((with_reducible apply XOp.alloc); (case hg | ht | hx' => exact rfl); intro sb)
  (repeat (first | (with_reducible apply XL.op) | ((with_reducible apply XOp.p1); (case hg | hv => exact rfl)) | ((with_reducible apply XOp.load); (case hg | ht | hk | hx => exact rfl); (case hc => exact own_cell (i := 0) rfl rfl)) | ((with_reducible apply XOp.storeN (i := 0)); (case hg | ht | hx | hv' | hk | h1 | hi | hs | ha => exact rfl)) | ((with_reducible apply XOp.pr); (case hg => exact rfl); (case hr => ((with_reducible apply PR.build); (case ht | hk | hok | hz | hf => exact rfl)))) | (with_reducible apply XL.nilT) | (with_reducible apply XC.seq) | (with_reducible apply XC.region (Γ := Γ))))
  rw [er]
  ((with_reducible apply XOp.alloc); (case hg | ht | hx' => exact rfl); intro qb)
  (repeat (first | (with_reducible apply XL.op) | ((with_reducible apply XOp.p1); (case hg | hv => exact rfl)) | ((with_reducible apply XOp.storeN (i := 0)); (case hg | ht | hx | hv' | hk | h1 | hi | hs | ha => exact rfl)) | (with_reducible apply XL.nilT) | (with_reducible apply XC.seq) | (with_reducible apply XC.region (Γ := Γ))))
  refine XC.cut (fun ρ L => ∃ (o : List Int) (n : Int) (x : Slc) (ob' : Obj) (vo' : Value) (Fo' : HL), servedS c T out given left xs.1 = some (o, n, x) ∧ MapIs ob' (markM o) ∧ OwnI vo' o Fo' ∧
    Sub2 ((sb, Obj.cells ⟨sxv xs⟩ 46 (0, 0)) :: (qb, .cells ⟨x.cells⟩ 42 (0, 0)) :: (wb, .cells ⟨wcp c (.slice ta tv.length tc) mb hb B (freeS c T o given) left vo' (.slice vsa sl.length vsc)⟩ 58 (0, 0)) :: (mb, ob') :: (hb, .cells ⟨(countsOf c T o).map (.int .i64)⟩ 3 (0, 0)) :: (Fo' ++ Fs)) L ∧
    Slots ρ [(0, .pointer (some ⟨wb, 0, none⟩)), (4, .pointer (some ⟨sb, 0, none⟩)), (6, .pointer (some ⟨qb, 0, none⟩))]) _ ?_ ?_
  · ((with_reducible apply XC.cond); (case hc => exact rfl); all_goals (intro hb_; try simp only [pd_true, pd_false, Bool.not_eq_true', Bool.not_eq_false', Bool.and_eq_true, Bool.and_eq_false_iff, Bool.or_eq_true, Bool.or_eq_false_iff, not_true_eq_false, not_false_eq_true, Int.not_lt, Int.not_le] at hb_))
    · (repeat ((with_reducible apply XC.seq)))
      ((with_reducible apply XC.regionD (Γ := Γ) mixed (.q 0 (.q 1 (.q 2 (.q 3 (.q 4 (.q 5 (.q 6 (.q 7 (.q 8 (.q 9 (.q 10 (.q 11 (.e 12 (.done)))))))))))))) [12] []); (case hc => kernel_rfl))
      (repeat (first | (with_reducible apply XL.op) | ((with_reducible apply XOp.p1); (case hg | hv => exact rfl)) | ((with_reducible apply XOp.load); (case hg | ht | hk | hx => exact rfl); (case hc => exact own_cell (i := 0) rfl rfl)) | ((with_reducible apply XOp.store (i := 0)); (case hg | ht | hk | hx | hv | h1 | hi | hs | ha => exact rfl)) | (with_reducible apply XC.seq) | (with_reducible apply XC.region (Γ := Γ)) | (with_reducible apply XQ.nt) | ((with_reducible apply XP.p1); (case ho | hg | hv => exact rfl)) | ((with_reducible apply XP.load); (case ho | hg | ht | hk | hx => exact rfl); (case hc => exact own_cell (i := 2) rfl rfl)) | (with_reducible apply XP.done) | ((with_reducible apply XP.e); (first | ((with_reducible apply XE.d); (case ho => exact rfl); (case hd => exact rfl)) | ((with_reducible apply XE.e); (case ho => exact rfl))))))
      rw [em3]
      skip
      (refine XOp.perm (L := (qb, Obj.cells ⟨[.int .i64 xs.1.Id, .int .i64 (min (min (restS xs.1) c.Chunk) left), .int .i64 0]⟩ 42 (0, 0)) :: (sb, Obj.cells ⟨sxv xs⟩ 46 (0, 0)) :: (wb, Obj.cells ⟨wcp c (.slice ta tv.length tc) mb hb B (freeS c T out given) left (.slice va out.length vc) (.slice vsa sl.length vsc)⟩ 58 (0, 0)) :: (mb, ob) :: (hb, .cells ⟨(countsOf c T out).map (.int .i64)⟩ 3 (0, 0)) :: (Fo ++ Fs)) (L' :=  ((wb, Obj.cells ⟨wcp c (.slice ta tv.length tc) mb hb B (freeS c T out given) left (.slice va out.length vc) (.slice vsa sl.length vsc)⟩ 58 (0, 0)) :: (mb, ob) :: (hb, .cells ⟨(countsOf c T out).map (.int .i64)⟩ 3 (0, 0)) :: Fo) ++ ((qb, Obj.cells ⟨[.int .i64 xs.1.Id, .int .i64 (min (min (restS xs.1) c.Chunk) left), .int .i64 0]⟩ 42 (0, 0)) :: (sb, Obj.cells ⟨sxv xs⟩ 46 (0, 0)) :: Fs)) rfl ?_ (by (first | (with_reducible exact List.Perm.refl _) | refine perm_of_cnt fun p_ => ?_; simp only [List.countP_append, List.countP_cons, List.countP_nil]; omega)))
      ((with_reducible apply XOp.call (hF := hroom (min (min (restS xs.1) c.Chunk) left) (by omega))); (case hg => exact rfl); (case hc => exact rfl); (case ha => exact rfl); (case hL => exact rfl))
      · exact Known.of_old hA (Mono.sl _ _ _ _ _)
      intro v L' hpost
      rcases hmd : made c T given xs.1 (min (min (restS xs.1) c.Chunk) left) (tv.length + 1) out with _ | o <;> rw [hmd] at hpost
      · have hsv : servedS c T out given left xs.1 = none := by unfold servedS; rw [if_pos hb_, hTlen, hmd]
        obtain ⟨rfl, ob', hmo, rfl⟩ := hpost
        rw [hsv]
        (repeat (first | (with_reducible apply XL.op) | ((with_reducible apply XOp.p1); (case hg | hv => exact rfl)) | (with_reducible apply XL.nilT) | (with_reducible apply XQ.ret) | (with_reducible apply XQ.rt) | ((with_reducible apply XC.condT); (case hc => exact rfl))))
        ((with_reducible apply XQ.retE); (case hr => exact .nil))
        exact ⟨_, ⟨(wb, Obj.cells ⟨wcp c (.slice ta tv.length tc) mb hb B (freeS c T out given) left (.slice va out.length vc) (.slice vsa sl.length vsc)⟩ 58 (0, 0)) :: (mb, ob') :: (hb, .cells ⟨(countsOf c T out).map (.int .i64)⟩ 3 (0, 0)) :: ((Fo ++ Fs) ++ [(qb, Obj.cells ⟨[.int .i64 xs.1.Id, .int .i64 (min (min (restS xs.1) c.Chunk) left), .int .i64 0]⟩ 42 (0, 0)), (sb, Obj.cells ⟨sxv xs⟩ 46 (0, 0))]), by (first | (with_reducible exact List.Perm.refl _) | refine perm_of_cnt fun p_ => ?_; simp only [List.countP_append, List.countP_cons, List.countP_nil]; omega), List.Sublist.cons_cons _ (List.Sublist.cons_cons _ (List.Sublist.cons_cons _ (List.sublist_append_left _ _)))⟩, ob', hmo, rfl⟩
      · have hsv : servedS c T out given left xs.1 = some (o, (min (min (restS xs.1) c.Chunk) left), ⟨xs.1.Id, (min (min (restS xs.1) c.Chunk) left), 0⟩) := by unfold servedS; rw [if_pos hb_, hTlen, hmd]
        obtain ⟨rfl, ob', vo', Fo', hmo, hoi', rfl⟩ := hpost
        (repeat (first | (with_reducible apply XL.op) | ((with_reducible apply XOp.p1); (case hg | hv => exact rfl)) | (with_reducible apply XL.nilT) | (with_reducible apply XQ.skip) | (with_reducible apply XQ.nt) | ((with_reducible apply XC.condF); (case hc => exact rfl))))
        exact ⟨o, _, _, ob', vo', Fo', hsv, hmo, hoi', .perm (by simp only [Go.SX.Slc.cells]; (first | (with_reducible exact List.Perm.refl _) | refine perm_of_cnt fun p_ => ?_; simp only [List.countP_append, List.countP_cons, List.countP_nil]; omega)), rfl, rfl, rfl, trivial⟩
    · (repeat (first | (with_reducible apply XL.op) | ((with_reducible apply XOp.p1); (case hg | hv => exact rfl)) | (with_reducible apply XC.seq) | (with_reducible apply XC.region (Γ := Γ))))
      (refine XOp.perm (L := (qb, Obj.cells ⟨[.int .i64 xs.1.Id, .int .i64 0, .int .i64 0]⟩ 42 (0, 0)) :: (sb, Obj.cells ⟨sxv xs⟩ 46 (0, 0)) :: (wb, Obj.cells ⟨wcp c (.slice ta tv.length tc) mb hb B (freeS c T out given) left (.slice va out.length vc) (.slice vsa sl.length vsc)⟩ 58 (0, 0)) :: (mb, ob) :: (hb, .cells ⟨(countsOf c T out).map (.int .i64)⟩ 3 (0, 0)) :: (Fo ++ Fs)) (L' :=  ((wb, Obj.cells ⟨wcp c (.slice ta tv.length tc) mb hb B (freeS c T out given) left (.slice va out.length vc) (.slice vsa sl.length vsc)⟩ 58 (0, 0)) :: (mb, ob) :: (hb, .cells ⟨(countsOf c T out).map (.int .i64)⟩ 3 (0, 0)) :: Fo) ++ ((qb, Obj.cells ⟨[.int .i64 xs.1.Id, .int .i64 0, .int .i64 0]⟩ 42 (0, 0)) :: (sb, Obj.cells ⟨sxv xs⟩ 46 (0, 0)) :: Fs)) rfl ?_ (by (first | (with_reducible exact List.Perm.refl _) | refine perm_of_cnt fun p_ => ?_; simp only [List.countP_append, List.countP_cons, List.countP_nil]; omega)))
      ((with_reducible apply XOp.call (hF := hroom 1 (by omega))); (case hg => exact rfl); (case hc => exact rfl); (case ha => exact rfl); (case hL => exact rfl))
      · exact Known.of_old hA (Mono.sl _ _ _ _ _)
      intro v L' hpost
      rcases hmd : made c T given xs.1 1 (tv.length + 1) out with _ | o <;> rw [hmd] at hpost
      · have hsv : servedS c T out given left xs.1 = none := by unfold servedS; rw [if_neg (by omega), hTlen, hmd]
        obtain ⟨rfl, ob', hmo, rfl⟩ := hpost
        rw [hsv]
        (repeat (first | (with_reducible apply XL.op) | ((with_reducible apply XOp.p1); (case hg | hv => exact rfl)) | (with_reducible apply XL.nilT) | (with_reducible apply XQ.ret) | (with_reducible apply XQ.rt) | ((with_reducible apply XC.condT); (case hc => exact rfl))))
        ((with_reducible apply XQ.retE); (case hr => exact .nil))
        exact ⟨_, ⟨(wb, Obj.cells ⟨wcp c (.slice ta tv.length tc) mb hb B (freeS c T out given) left (.slice va out.length vc) (.slice vsa sl.length vsc)⟩ 58 (0, 0)) :: (mb, ob') :: (hb, .cells ⟨(countsOf c T out).map (.int .i64)⟩ 3 (0, 0)) :: ((Fo ++ Fs) ++ [(qb, Obj.cells ⟨[.int .i64 xs.1.Id, .int .i64 0, .int .i64 0]⟩ 42 (0, 0)), (sb, Obj.cells ⟨sxv xs⟩ 46 (0, 0))]), by (first | (with_reducible exact List.Perm.refl _) | refine perm_of_cnt fun p_ => ?_; simp only [List.countP_append, List.countP_cons, List.countP_nil]; omega), List.Sublist.cons_cons _ (List.Sublist.cons_cons _ (List.Sublist.cons_cons _ (List.sublist_append_left _ _)))⟩, ob', hmo, rfl⟩
      · have hsv : servedS c T out given left xs.1 = some (o, ((fitN c xs.1 (freeS c T o given) (min (min (max xs.1.Want 1) c.Tree) left).toNat : Nat) : Int), (⟨xs.1.Id, 0, ((fitN c xs.1 (freeS c T o given) (min (min (max xs.1.Want 1) c.Tree) left).toNat : Nat) : Int)⟩ : Slc)) := by
          unfold servedS; rw [if_neg (by omega), hTlen, hmd]
        obtain ⟨rfl, ob', vo', Fo', hmo, hoi', rfl⟩ := hpost
        obtain ⟨va', vc', rfl⟩ := hoi'.1.val
        refine XL.perm (L' := (sb, Obj.cells ⟨sxv xs⟩ 46 (0, 0)) :: (qb, Obj.cells ⟨[.int .i64 xs.1.Id, .int .i64 0, .int .i64 0]⟩ 42 (0, 0)) :: (wb, Obj.cells ⟨wcp c (.slice ta tv.length tc) mb hb B (freeS c T o given) left (.slice va' o.length vc') (.slice vsa sl.length vsc)⟩ 58 (0, 0)) :: (mb, ob') :: (hb, .cells ⟨(countsOf c T o).map (.int .i64)⟩ 3 (0, 0)) :: (Fo' ++ Fs)) ?_ (by (first | (with_reducible exact List.Perm.refl _) | refine perm_of_cnt fun p_ => ?_; simp only [List.countP_append, List.countP_cons, List.countP_nil]; omega))
        (repeat (first | (with_reducible apply XL.op) | ((with_reducible apply XOp.p1); (case hg | hv => exact rfl)) | (with_reducible apply XL.nilT) | (with_reducible apply XC.seq) | (with_reducible apply XQ.skip) | (with_reducible apply XQ.nt) | ((with_reducible apply XC.condF); (case hc => exact rfl))))
        ((with_reducible apply XC.regionD (Γ := Γ) mixed (.q 0 (.q 1 (.q 2 (.q 3 (.q 4 (.q 5 (.q 6 (.q 7 (.q 8 (.q 9 (.q 10 (.q 11 (.q 12 (.q 13 (.e 14 (.done)))))))))))))))) [14] []); (case hc => kernel_rfl))
        (repeat (first | ((with_reducible apply XOp.store (i := 1)); (case hg | ht | hk | hx | hv | h1 | hi | hs | ha => exact rfl)) | (with_reducible apply XQ.nt) | (with_reducible apply XC.block) | ((with_reducible apply XP.p1); (case ho | hg | hv => exact rfl)) | ((with_reducible apply XP.load); (case ho | hg | ht | hk | hx => exact rfl); (case hc => exact own_cell (i := 0) rfl rfl)) | ((with_reducible apply XP.load); (case ho | hg | ht | hk | hx => exact rfl); (case hc => exact own_cell (i := 2) rfl rfl)) | (with_reducible apply XP.done) | ((with_reducible apply XP.e); (first | ((with_reducible apply XE.d); (case ho => exact rfl); (case hd => exact rfl)) | ((with_reducible apply XE.e); (case ho => exact rfl))))))
        rw [emx, em3]
        skip
        have hfit := made_fits hmd
        obtain ⟨A0, hA0, hA1, hA2⟩ : ∃ A0 : Nat, (A0 : Int) = min (min (max xs.1.Want 1) c.Tree) left ∧ 1 ≤ A0 ∧ A0 ≤ 32 := ⟨(min (min (max xs.1.Want 1) c.Tree) left).toNat, by omega, by omega, by omega⟩
        have hA3 : (min (min (max xs.1.Want 1) c.Tree) left).toNat = A0 := by omega
        rw [hA3] at hsv
        have hpos := fitN_pos hfit A0 hA1
        refine XC.loopP (fun k ρ L => 1 ≤ k ∧ k ≤ A0 ∧ fitN c xs.1 (freeS c T o given) k = fitN c xs.1 (freeS c T o given) A0 ∧
          L = (sb, Obj.cells ⟨sxv xs⟩ 46 (0, 0)) :: (qb, Obj.cells ⟨[.int .i64 xs.1.Id, .int .i64 0, .int .i64 k]⟩ 42 (0, 0)) :: (wb, Obj.cells ⟨wcp c (.slice ta tv.length tc) mb hb B (freeS c T o given) left (.slice va' o.length vc') (.slice vsa sl.length vsc)⟩ 58 (0, 0)) :: (mb, ob') :: (hb, .cells ⟨(countsOf c T o).map (.int .i64)⟩ 3 (0, 0)) :: (Fo' ++ Fs) ∧
          Slots ρ [(0, .pointer (some ⟨wb, 0, none⟩)), (4, .pointer (some ⟨sb, 0, none⟩)), (6, .pointer (some ⟨qb, 0, none⟩))]) A0 ⟨hA1, Nat.le_refl _, rfl, by rw [← hA0], rfl, rfl, rfl, trivial⟩ ?_
        rintro k ρ L ⟨hk1, hk2, hkf, rfl, hs2⟩
        refine XC.slots _ hs2 ?_
        (repeat ((with_reducible apply XC.seq)))
        ((with_reducible apply XC.regionD (Γ := Γ) mixed (.q 0 (.q 1 (.q 2 (.q 3 (.q 5 (.q 6 (.q 7 (.q 8 (.e 4 (.q 9 (.done))))))))))) [] []); (case hc => kernel_rfl))
        (repeat (first | (with_reducible apply XQ.nt) | ((with_reducible apply XP.p1); (case ho | hg | hv => exact rfl)) | ((with_reducible apply XP.load); (case ho | hg | ht | hk | hx => exact rfl); (case hc => exact own_cell (i := 1) rfl rfl)) | ((with_reducible apply XP.load); (case ho | hg | ht | hk | hx => exact rfl); (case hc => exact own_cell (i := 2) rfl rfl)) | ((with_reducible apply XP.loadO (j := 0)); (case ho | hg | ht | hk | hx | hi | hc => exact rfl)) | (with_reducible apply XP.done) | ((with_reducible apply XP.e); (first | ((with_reducible apply XE.d); (case ho => exact rfl); (case hd => exact rfl)) | ((with_reducible apply XE.e); (case ho => exact rfl)))) | ((with_reducible apply XP.keep); (case hk => first | ((repeat' (first | exact List.forall_mem_nil _ | (with_reducible refine List.forall_mem_cons.2 ⟨?_, ?_⟩) | exact List.mem_cons_self .. | (with_reducible apply List.mem_cons_of_mem) | (with_reducible apply List.mem_append_right))); done) | (intro x hx; first | exact sel_in hx | exact List.mem_cons_of_mem _ (sel_in hx) | exact List.mem_append_right _ (sel_in hx) | exact hx | exact List.mem_cons_of_mem _ hx | exact List.mem_append_right _ hx | ((repeat (first | exact sel_in hx | exact hx | (with_reducible apply List.mem_cons_of_mem) | (with_reducible apply List.mem_append_right))); done) | cases hx))) | (((with_reducible apply XOp.callQ (hF := beyondP_fn wb c hc xs.1 hsok (by omega) xs.2.1 xs.2.2 k (by omega))); (case hg => exact rfl); (case hc => exact rfl); (case ha => exact rfl); try (case hA => exact Known.true)); (case hA => exact (Known.blk (List.mem_cons_of_mem _ (List.mem_cons_of_mem _ (List.mem_cons_self ..)))).imp (fun h hr => hr 1 _ rfl)); rintro _ rfl)))
        ((with_reducible apply XC.cond); (case hc => exact rfl); all_goals (intro hb_; try simp only [pd_true, pd_false, Bool.not_eq_true', Bool.not_eq_false', Bool.and_eq_true, Bool.and_eq_false_iff, Bool.or_eq_true, Bool.or_eq_false_iff, not_true_eq_false, not_false_eq_true, Int.not_lt, Int.not_le] at hb_))
        · obtain ⟨k, rfl⟩ : ∃ k', k = k' + 1 := ⟨k - 1, by omega⟩
          have hnf : ¬ beyondS c xs.1 ((k + 1 : Nat) : Int) ≤ freeS c T o given := by omega
          have hk0 : 1 ≤ k := by
            rcases Nat.eq_zero_or_pos k with h | h
            · subst h; exact absurd hfit hnf
            · exact h
          (repeat (first | (with_reducible apply XL.op) | ((with_reducible apply XOp.p1); (case hg | hv => exact rfl)) | ((with_reducible apply XOp.load); (case hg | ht | hk | hx => exact rfl); (case hc => exact own_cell (i := 1) rfl rfl)) | ((with_reducible apply XOp.store (i := 1)); (case hg | ht | hk | hx | hv | h1 | hi | hs | ha => exact rfl)) | (with_reducible apply XC.region (Γ := Γ)) | (with_reducible apply XL.nilQ) | (with_reducible apply XQ.skip) | (with_reducible apply XQ.nt) | (with_reducible apply XQ.nb) | (with_reducible apply XC.block)))
          refine ⟨k, by omega, _, .of (List.Sublist.refl _), hk0, by omega, by rw [← hkf, fitN_step hnf], ?_, rfl, rfl, rfl, trivial⟩
          have e : IntKind.i64.wrap (((k + 1 : Nat) : Int) - 1) = (k : Int) := by rw [wrap64_of (by omega) (by omega)]; omega
          rw [← e]
        · have hst := fitN_stop (c := c) (s := xs.1) (free := freeS c T o given) (a := k) (by omega)
          (repeat (first | (with_reducible apply XQ.exit) | (with_reducible apply XQ.nt) | (with_reducible apply XQ.et) | ((with_reducible apply XQ.eb); (case hb => exact rfl))))
          refine ⟨o, _, _, ob', _, Fo', hsv, hmo, hoi', .of ?_, rfl, rfl, rfl, trivial⟩
          rw [← hkf, hst]
          exact List.Sublist.refl _
  · rintro ρ L ⟨o, n, x, ob', vo', Fo', hsv, hmo, hoi', hsub, hs⟩
    rw [hsv]
    have hsb := served_bnd hc hsok hlf hsv
    have hby := beyond_le hc hsok (x := n) (by omega)
    obtain ⟨va', vc', rfl⟩ := hoi'.1.val
    have e1 : IntKind.i64.wrap (x.Prefill + x.Nodes) = n := by rw [wrap64_of (by omega) (by omega)]; omega
    have e2 : IntKind.i64.wrap (left - n) = left - n := wrap64_of (by omega) (by omega)
    have hfr := free_range hc T o (given := given) (by omega)
    have e3 : IntKind.i64.wrap (freeS c T o given - beyondS c xs.1 n) = freeS c T o (given + beyondS c xs.1 n) := by rw [wrap64_of (by omega) (by omega), free_less]
    refine XC.sub2 hsub (XC.slots _ hs ?_)
    (repeat ((with_reducible apply XC.seq)))
    ((with_reducible apply XC.regionD (Γ := Γ) mixed (.q 0 (.q 1 (.q 2 (.q 3 (.q 4 (.q 5 (.q 6 (.q 7 (.q 8 (.q 9 (.q 10 (.q 11 (.e 12 (.done)))))))))))))) [12] []); (case hc => kernel_rfl))
    (repeat (first | ((with_reducible apply XOp.store (i := 2)); (case hg | ht | hk | hx | hv | h1 | hi | hs | ha => exact rfl)) | (with_reducible apply XC.seq) | (with_reducible apply XQ.nt) | ((with_reducible apply XP.p1); (case ho | hg | hv => exact rfl)) | ((with_reducible apply XP.load); (case ho | hg | ht | hk | hx => exact rfl); (case hc => exact own_cell (i := 1) rfl rfl)) | ((with_reducible apply XP.load); (case ho | hg | ht | hk | hx => exact rfl); (case hc => exact own_cell (i := 2) rfl rfl)) | (with_reducible apply XP.done) | ((with_reducible apply XP.e); (first | ((with_reducible apply XE.d); (case ho => exact rfl); (case hd => exact rfl)) | ((with_reducible apply XE.e); (case ho => exact rfl))))))
    rw [e1, e2]
    skip
    ((with_reducible apply XC.regionD (Γ := Γ) mixed (.q 0 (.q 1 (.q 2 (.q 3 (.q 4 (.q 5 (.q 6 (.q 7 (.q 8 (.q 9 (.q 10 (.e 11 (.q 12 (.q 13 (.q 14 (.e 15 (.done))))))))))))))))) [15] []); (case hc => kernel_rfl))
    (repeat (first | ((with_reducible apply XOp.store (i := 2)); (case hg | ht | hk | hx | hv | h1 | hi | hs | ha => exact rfl)) | (with_reducible apply XQ.nt) | ((with_reducible apply XP.p1); (case ho | hg | hv => exact rfl)) | ((with_reducible apply XP.load); (case ho | hg | ht | hk | hx => exact rfl); (case hc => exact own_cell (i := 1) rfl rfl)) | ((with_reducible apply XP.load); (case ho | hg | ht | hk | hx => exact rfl); (case hc => exact own_cell (i := 2) rfl rfl)) | ((with_reducible apply XP.loadO (j := 0)); (case ho | hg | ht | hk | hx | hi | hc => exact rfl)) | (with_reducible apply XP.done) | ((with_reducible apply XP.e); (first | ((with_reducible apply XE.d); (case ho => exact rfl); (case hd => exact rfl)) | ((with_reducible apply XE.e); (case ho => exact rfl)))) | ((with_reducible apply XP.keep); (case hk => first | ((repeat' (first | exact List.forall_mem_nil _ | (with_reducible refine List.forall_mem_cons.2 ⟨?_, ?_⟩) | exact List.mem_cons_self .. | (with_reducible apply List.mem_cons_of_mem) | (with_reducible apply List.mem_append_right))); done) | (intro x hx; first | exact sel_in hx | exact List.mem_cons_of_mem _ (sel_in hx) | exact List.mem_append_right _ (sel_in hx) | exact hx | exact List.mem_cons_of_mem _ hx | exact List.mem_append_right _ hx | ((repeat (first | exact sel_in hx | exact hx | (with_reducible apply List.mem_cons_of_mem) | (with_reducible apply List.mem_append_right))); done) | cases hx))) | (((with_reducible apply XOp.callQ (hF := beyondP_fn wb c hc xs.1 hsok (by omega) xs.2.1 xs.2.2 (IntKind.i64.wrap (x.Prefill + x.Nodes)) (by rw [e1]; omega))); (case hg => exact rfl); (case hc => exact rfl); (case ha => exact rfl); try (case hA => exact Known.true)); (case hA => exact (Known.blk (List.mem_cons_of_mem _ (List.mem_cons_of_mem _ (List.mem_cons_self ..)))).imp (fun h hr => hr 1 _ rfl)); rintro _ rfl)))
    rw [e1, e3]
    skip
    ((with_reducible apply XC.regionL (Γ := Γ) mixed (.q 0 (.q 1 (.q 2 (.q 3 (.q 4 (.q 5 (.q 6 (.e 7 (.e 8 (.q 9 (.q 10 (.q 11 (.e 12 (.done)))))))))))))) [12] ([(sb, Obj.cells ⟨sxv xs⟩ 46 (0, 0)), (qb, .cells ⟨x.cells⟩ 42 (0, 0)), (wb, .cells ⟨wcp c (.slice ta tv.length tc) mb hb B (freeS c T o (given + beyondS c xs.1 n)) (left - n) (.slice va' o.length vc') (.slice vsa sl.length vsc)⟩ 58 (0, 0))])); (case hc => kernel_rfl); (case hs => first | exact List.nil_sublist _ | exact List.Sublist.refl _ | exact List.sublist_append_right _ _ | (refine List.Sublist.cons_cons _ (List.nil_sublist _)) | (refine List.Sublist.cons_cons _ (List.Sublist.cons_cons _ (List.nil_sublist _))) | (refine List.Sublist.cons_cons _ (List.Sublist.cons_cons _ (List.Sublist.cons_cons _ (List.nil_sublist _)))) | (refine List.Sublist.cons_cons _ (List.Sublist.cons_cons _ (List.Sublist.cons_cons _ (List.Sublist.cons_cons _ (List.nil_sublist _)))))))
    (repeat (first | ((with_reducible apply XP.p1); (case ho | hg | hv => exact rfl)) | ((with_reducible apply XP.load); (case ho | hg | ht | hk | hx => exact rfl); (case hc => exact own_cell (i := 2) rfl rfl)) | ((with_reducible apply XP.loadO (j := 1)); (case ho | hg | ht | hk | hx | hi | hc => exact rfl)) | ((with_reducible apply XP.e); (first | ((with_reducible apply XE.d); (case ho => exact rfl); (case hd => exact rfl)) | ((with_reducible apply XE.e); (case ho => exact rfl))))))
    ((with_reducible apply XOp.buildSlice); (case hg | ht | hk | he | hz | hzl | hf => exact rfl); intro bb)
    (repeat (first | ((with_reducible apply XP.e); (first | ((with_reducible apply XE.d); (case ho => exact rfl); (case hd => exact rfl)) | ((with_reducible apply XE.e); (case ho => exact rfl)))) | ((with_reducible apply XP.keep); (case hk => first | ((repeat' (first | exact List.forall_mem_nil _ | (with_reducible refine List.forall_mem_cons.2 ⟨?_, ?_⟩) | exact List.mem_cons_self .. | (with_reducible apply List.mem_cons_of_mem) | (with_reducible apply List.mem_append_right))); done) | (intro x hx; first | exact sel_in hx | exact List.mem_cons_of_mem _ (sel_in hx) | exact List.mem_append_right _ (sel_in hx) | exact hx | exact List.mem_cons_of_mem _ hx | exact List.mem_append_right _ hx | ((repeat (first | exact sel_in hx | exact hx | (with_reducible apply List.mem_cons_of_mem) | (with_reducible apply List.mem_append_right))); done) | cases hx)))))
    (refine XOp.perm (L := (bb, .cells ⟨x.cells⟩ 42 (0, 0)) :: (sb, Obj.cells ⟨sxv xs⟩ 46 (0, 0)) :: (qb, .cells ⟨x.cells⟩ 42 (0, 0)) :: (wb, .cells ⟨wcp c (.slice ta tv.length tc) mb hb B (freeS c T o (given + beyondS c xs.1 n)) (left - n) (.slice va' o.length vc') (.slice vsa sl.length vsc)⟩ 58 (0, 0)) :: (mb, ob') :: (hb, .cells ⟨(countsOf c T o).map (.int .i64)⟩ 3 (0, 0)) :: (Fo' ++ Fs)) (L' :=  (bb, .cells ⟨x.cells⟩ 42 (0, 0)) :: (Fs ++ ((sb, Obj.cells ⟨sxv xs⟩ 46 (0, 0)) :: (qb, .cells ⟨x.cells⟩ 42 (0, 0)) :: (wb, .cells ⟨wcp c (.slice ta tv.length tc) mb hb B (freeS c T o (given + beyondS c xs.1 n)) (left - n) (.slice va' o.length vc') (.slice vsa sl.length vsc)⟩ 58 (0, 0)) :: (mb, ob') :: (hb, .cells ⟨(countsOf c T o).map (.int .i64)⟩ 3 (0, 0)) :: Fo'))) rfl ?_ (by (first | (with_reducible exact List.Perm.refl _) | refine perm_of_cnt fun p_ => ?_; simp only [List.countP_append, List.countP_cons, List.countP_nil]; omega)))
    ((with_reducible apply XOp.append1); (case hg => exact rfl); (case ht => exact rfl); (case hk => exact rfl); (case he => exact rfl); (case hown => exact hoc.1); (case hs => exact rfl); (case hx => exact rfl); (case hL => exact rfl); (case hl => exact rfl); (case h1 => exact rfl); (case hz => exact rfl); (case hsz => exact Nat.zero_lt_succ _); (case hk0 => exact Nat.zero_lt_succ _); (case h63 => simp only [maxLen]; omega); (case hb => simp only []; omega); intro v_ F_ hown_; obtain ⟨a_, c_, rfl⟩ := hown_.val)
    (repeat (first | ((with_reducible apply XP.p1); (case ho | hg | hv => exact rfl)) | ((with_reducible apply XP.e); (first | ((with_reducible apply XE.d); (case ho => exact rfl); (case hd => exact rfl)) | ((with_reducible apply XE.e); (case ho => exact rfl)))) | ((with_reducible apply XP.keep); (case hk => first | ((repeat' (first | exact List.forall_mem_nil _ | (with_reducible refine List.forall_mem_cons.2 ⟨?_, ?_⟩) | exact List.mem_cons_self .. | (with_reducible apply List.mem_cons_of_mem) | (with_reducible apply List.mem_append_right))); done) | (intro x hx; first | exact sel_in hx | exact List.mem_cons_of_mem _ (sel_in hx) | exact List.mem_append_right _ (sel_in hx) | exact hx | exact List.mem_cons_of_mem _ hx | exact List.mem_append_right _ hx | ((repeat (first | exact sel_in hx | exact hx | (with_reducible apply List.mem_cons_of_mem) | (with_reducible apply List.mem_append_right))); done) | cases hx)))))
    (refine XOp.perm (L := F_ ++ ((sb, Obj.cells ⟨sxv xs⟩ 46 (0, 0)) :: (qb, .cells ⟨x.cells⟩ 42 (0, 0)) :: (wb, .cells ⟨wcp c (.slice ta tv.length tc) mb hb B (freeS c T o (given + beyondS c xs.1 n)) (left - n) (.slice va' o.length vc') (.slice vsa sl.length vsc)⟩ 58 (0, 0)) :: (mb, ob') :: (hb, .cells ⟨(countsOf c T o).map (.int .i64)⟩ 3 (0, 0)) :: Fo')) (L' :=  (sb, Obj.cells ⟨sxv xs⟩ 46 (0, 0)) :: (qb, .cells ⟨x.cells⟩ 42 (0, 0)) :: (wb, .cells ⟨wcp c (.slice ta tv.length tc) mb hb B (freeS c T o (given + beyondS c xs.1 n)) (left - n) (.slice va' o.length vc') (.slice vsa sl.length vsc)⟩ 58 (0, 0)) :: (mb, ob') :: (hb, .cells ⟨(countsOf c T o).map (.int .i64)⟩ 3 (0, 0)) :: (Fo' ++ F_)) rfl ?_ (by (first | (with_reducible exact List.Perm.refl _) | refine perm_of_cnt fun p_ => ?_; simp only [List.countP_append, List.countP_cons, List.countP_nil]; omega)))
    (repeat (first | ((with_reducible apply XOp.store (i := 2)); (case hg | ht | hk | hx | hv | h1 | hi | hs | ha => exact rfl)) | (with_reducible apply XP.done)))
    ((with_reducible apply XQ.norE); (case hr => exact .nil))
    exact ⟨_, .of (List.Sublist.cons _ (List.Sublist.cons _ (List.Sublist.refl _))), ob', _, Fo', .slice a_ (sl.length + 1) c_, F_, hmo, hoi', OwnC.snoc (hown_.conv rfl rfl) hoc.2 ⟨hsb.2.2.2.2.1 ▸ hsk.1, inK_i64.2 (by omega), inK_i64.2 (by omega)⟩, rfl⟩
end Go.Proofs.YthnmagdaepgdiaaX
