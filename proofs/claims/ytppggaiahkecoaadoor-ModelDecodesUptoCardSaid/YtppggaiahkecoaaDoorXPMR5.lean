/- The reader: the weights between the measures and the digest. -/
import Derived.Test.YtppggaiahkecoaaDoorXPMR4
import Derived.Test.YtppggaiahkecoaaDoorXPMR1
set_option linter.unusedSimpArgs false
set_option linter.unusedVariables false
namespace Go.Proofs.YtppggaiahkecoaaDoorX
open Go Go.SX

def rwC (cf : Cfg) (e : LM) (tv lv : Value) (f : LV) (h : LM) (mv : Value) : List Value := [.int .i64 cf.Vocab, .int .i64 cf.Width, .int .i64 cf.Heads, .int .i64 cf.KV, .int .i64 cf.Layers, .int .i64 cf.Hidden, .int .i64 cf.Len, .int .i64 cf.Medusa,
  .int .i64 e.r, .int .i64 e.c, slv e.d, tv, lv, slv f, .int .i64 h.r, .int .i64 h.c, slv h.d, mv]
theorem iter_snoc {α : Type} (f : RS → α × RS) : ∀ (n : Nat) (r : RS), iterS f (n + 1) r = ((iterS f n r).1 ++ [(f (iterS f n r).2).1], (f (iterS f n r).2).2)
  | 0, r => rfl
  | n + 1, r => by
    have h := iter_snoc f n (f r).2
    show ((f r).1 :: (iterS f (n + 1) (f r).2).1, (iterS f (n + 1) (f r).2).2) = _
    rw [h]; rfl
theorem _root_.Go.SX.SlA.takeC {α : Type} {d : Kd α} {by_ : Nat} {h : HV} {xs : List α} {a : Option Addr} {cap : Nat} (s : SlA d by_ h xs a cap) (k : Nat) : SlA d by_ h (xs.take k) a cap :=
  ⟨Nat.le_trans (by rw [List.length_take]; omega) s.le, Nat.le_trans (Nat.mul_le_mul_right _ (by rw [List.length_take]; omega)) s.bytes, s.nil, fun h0 => s.at_ (by rw [List.length_take] at h0; omega),
    fun i x hx => s.row i x (by rw [List.getElem?_take] at hx; split at hx; exact hx; cases hx)⟩
theorem i16_s16 {x : Int} (h : 0 ≤ x ∧ x < 65536) : IntKind.i64.wrap (IntKind.i16.wrap x) = s16 x := by
  have e : IntKind.i16.wrap x = s16 x := by
    have e1 : IntKind.i16.wrap x = IntKind.i16.wrap (s16 x) := by
      unfold s16; split
      · simp [IntKind.wrap, IntKind.bits]
      · rfl
    rw [e1]; unfold s16; split <;> simp [IntKind.wrap, IntKind.bits, IntKind.signed] <;> omega
  rw [e]; exact wrap64_of (by unfold s16; split <;> omega) (by unfold s16; split <;> omega)
set_option maxHeartbeats 16000000 in
set_option maxRecDepth 10000 in
theorem rweights_fn (rb : Nat) (a : Option Addr) (c : Nat) (r : RS) (cf : Cfg) (hc : cf.may) : FC Tryd.prog 54 [.pointer (some ⟨rb, 0, none⟩), .agg ⟨cf.cells⟩] [RdB rb a c r] (fun h => sidesK h ∧ byAt h r.rest a c)
    (fun v L => ∃ (a' : Option Addr) (c' : Nat) (x : LW) (F : HL), v = .agg ⟨x.cells⟩ ∧ x.w = (weightsS cf r).1 ∧ L = RdB rb a' c' (weightsS cf r).2 :: F ∧ Held F (fun h => lwAt h x) ∧ Went r (weightsS cf r).2 a c a' c') := by
  refine FC.sub2 ?_
  refine FC.intro Tryd.func54 rfl (by kernel_rfl) 112 [.cell 4 31] rfl rfl rfl ?_
  rintro w0 ⟨hS, hA⟩
  obtain ⟨nn1, nn2, nn3, nn4⟩ := may_nn hc
  have hV := hc.1
  have hW := hc.2.1
  have hLy := hc.2.2.2.1
  have hMe := hc.2.2.2.2.2.2.1
  have hVW := mul_bnd (a := cf.Vocab) (b := cf.Width) (x := 64) (y := 32) (by omega) (by omega)
  have eVW : IntKind.i64.wrap (cf.Vocab * cf.Width) = cf.Vocab * cf.Width := wrap64_of (by omega) (by omega)
  have e2h : IntKind.i64.wrap (2 * cf.head) = 2 * cf.head := wrap64_of (by omega) (by omega)
  (repeat (first | (with_reducible apply XL.op) | (with_reducible apply XC.seq) | (with_reducible apply XC.region (Γ := Γ))))
  ((with_reducible apply XOp.box); (case hg | hx' => exact rfl); intro cb)
  (repeat ((with_reducible apply XL.op)))
  ((with_reducible apply XOp.alloc); (case hg | ht | hx' => exact rfl); intro rs)
  (repeat (first | (with_reducible apply XL.op) | ((with_reducible apply XOp.loadO (i := 1)); (case hg | ht | hk | hx | hi | hc => exact rfl)) | ((with_reducible apply XOp.pr); (case hg => exact rfl); (case hr => ((with_reducible apply PR.build); (case ht | hk | hok | hz | hf => exact rfl)))) | (with_reducible apply XL.nilT) | (with_reducible apply XC.seq) | (with_reducible apply XC.region (Γ := Γ))))
  ((with_reducible apply XOp.alloc); (case hg | ht | hx' => exact rfl); intro xb)
  (repeat (first | (with_reducible apply XL.op) | ((with_reducible apply XOp.p1); (case hg | hv => exact rfl)) | ((with_reducible apply XOp.load); (case hg | ht | hk | hx => exact rfl); (case hc => exact own_cell (i := 2) rfl rfl)) | ((with_reducible apply XOp.storeN (i := 0)); (case hg | ht | hx | hv' | hk | h1 | hi | hs | ha => exact rfl)) | (with_reducible apply XL.nilT) | (with_reducible apply XC.seq) | (with_reducible apply XC.region (Γ := Γ))))
  rw [eVW]
  ((with_reducible apply XOp.callM (R := [_, _, _]) (hF := open_fn rb a c r 69 (cf.Vocab * cf.Width) (by omega))); (case hg => exact rfl); (case hc => exact rfl); (case ha => exact rfl); (case hL => exact rfl); try (case hA => exact Known.true))
  case hA => exact Known.of_old hA (Mono.sl _ _ _ _ _)
  rintro _ _ ⟨a1, c1, rfl, hw1⟩
  (repeat (first | (with_reducible apply XL.op) | ((with_reducible apply XOp.p1); (case hg | hv => exact rfl)) | ((with_reducible apply XOp.load); (case hg | ht | hk | hx => exact rfl); (case hc => exact own_cell (i := 2) rfl rfl)) | (with_reducible apply XL.nilT) | (with_reducible apply XC.seq) | (with_reducible apply XC.region (Γ := Γ))))
  ((with_reducible apply XOp.callM (R := [_, _, _]) (hF := rmatrix_fn rb a1 c1 (openS r 69 (cf.Vocab * cf.Width)) cf.Vocab cf.Width (by omega))); (case hg => exact rfl); (case hc => exact rfl); (case ha => exact rfl); (case hL => exact rfl); try (case hA => exact Known.true))
  case hA => exact Known.of_old (hw1.at_ _ hA) (Mono.sl _ _ _ _ _)
  rintro _ _ ⟨a2, c2, e', F1, rfl, he, rfl, hF1, hw2⟩
  have hwE := hw1.trans hw2
  have hsE : secS (fun r => matS r cf.Vocab cf.Width) 69 (cf.Vocab * cf.Width) r = matS (openS r 69 (cf.Vocab * cf.Width)) cf.Vocab cf.Width := rfl
  have hwS : weightsS cf r = (let e := secS (fun r => matS r cf.Vocab cf.Width) 69 (cf.Vocab * cf.Width) r
    let t := secS (iterS turnS (cf.head / 2).toNat) 84 (2 * cf.head) e.2
    let l := iterS (secS (layF cf) 76 (layN cf)) cf.Layers.toNat t.2
    let f := secS (fun r => narrowS r cf.Width.toNat) 70 cf.Width l.2
    let h := secS (fun r => matS r cf.Vocab cf.Width) 72 (cf.Vocab * cf.Width) f.2
    let m := iterS (secS (fun r => matS r cf.Vocab cf.Width) 77 (cf.Vocab * cf.Width)) cf.Medusa.toNat h.2
    (⟨cf, e.1, t.1, l.1, f.1, h.1, m.1⟩, m.2)) := rfl
  rw [hwS, hsE]
  clear hwS hsE
  generalize matS (openS r 69 (cf.Vocab * cf.Width)) cf.Vocab cf.Width = qE at *
  (repeat (first | (with_reducible apply XL.op) | ((with_reducible apply XOp.p1); (case hg | hv => exact rfl)) | ((with_reducible apply XOp.loadO (i := 2)); (case hg | ht | hk | hx | hi | hc => exact rfl)) | ((with_reducible apply XOp.storeN (i := 0)); (case hg | ht | hx | hv' | hk | h1 | hi | hs | ha => exact rfl)) | (with_reducible apply XL.nilT) | (with_reducible apply XC.seq) | (with_reducible apply XC.region (Γ := Γ)) | (((with_reducible apply XOp.callQ (hF := head_fn cf hc)); (case hg => exact rfl); (case hc => exact rfl); (case ha => exact rfl); try (case hA => exact Known.true)); rintro _ rfl)))
  rw [e2h]
  ((with_reducible apply XOp.callM (R := [_, _, _]) (hF := open_fn rb a2 c2 qE.2 84 (2 * cf.head) (by omega))); (case hg => exact rfl); (case hc => exact rfl); (case ha => exact rfl); (case hL => exact rfl); try (case hA => exact Known.true))
  case hA => exact Known.of_old (hwE.at_ _ hA) (Mono.sl _ _ _ _ _)
  rintro _ _ ⟨a3, c3, rfl, hw3⟩
  have hwT := hwE.trans hw3
  simp only [secS]
  generalize openS qE.2 84 (2 * cf.head) = rT at *
  (repeat (first | (with_reducible apply XL.op) | ((with_reducible apply XOp.p1); (case hg | hv => exact rfl)) | ((with_reducible apply XOp.loadO (i := 2)); (case hg | ht | hk | hx | hi | hc => exact rfl)) | (with_reducible apply XL.nilT) | (with_reducible apply XC.seq) | (with_reducible apply XC.region (Γ := Γ)) | (with_reducible apply XC.block) | (((with_reducible apply XOp.callQ (hF := head_fn cf hc)); (case hg => exact rfl); (case hc => exact rfl); (case ha => exact rfl); try (case hA => exact Known.true)); rintro _ rfl)))
  refine XC.loopP (fun k ρ L => ∃ (i : Nat) (v : Value) (a4 : Option Addr) (c4 : Nat) (FF Fv : HL), i + k = (cf.head / 2).toNat ∧ OwnS 70 2 v i ((iterS turnS i rT).1.flatMap turnV) Fv ∧ Went r (iterS turnS i rT).2 a c a4 c4 ∧ (∀ y ∈ F1, y ∈ FF) ∧ L = [(xb, Obj.cells ⟨rwC cf e' v (.slice none 0 0) zlv zmat (.slice none 0 0)⟩ 31 (0, 0)), (rs, Obj.cells ⟨zeroW⟩ 31 (0, 0)), (cb, Obj.cells ⟨cf.cells⟩ 23 (0, 0))] ++ (RdB rb a4 c4 (iterS turnS i rT).2 :: (FF ++ Fv)) ∧ Slots ρ [(0, .pointer (some ⟨rb, 0, none⟩)), (3, .pointer (some ⟨cb, 0, none⟩)), (4, .pointer (some ⟨rs, 0, none⟩)), (5, .pointer (some ⟨xb, 0, none⟩)), (30, .int .i64 (cf.head / 2)), (31, .int .i64 i)])
    (cf.head / 2).toNat ⟨0, _, a3, c3, F1, [], by simp, OwnS.nil _ _, hwT, fun _ h => h, rfl, rfl, rfl, rfl, rfl, (by show Value.int _ _ = _; rw [half_wrap hc]), rfl, trivial⟩ ?_
  rintro k ρ L ⟨i, v, a4, c4, FF, Fv, hik, hown, hw4, hFF, rfl, hs⟩
  obtain ⟨at', ct', rfl⟩ := hown.val
  refine XC.slots _ hs ?_
  (repeat (first | (with_reducible apply XL.op) | ((with_reducible apply XOp.p1); (case hg | hv => exact rfl)) | (with_reducible apply XL.nilT) | (with_reducible apply XC.seq) | (with_reducible apply XC.region (Γ := Γ))))
  ((with_reducible apply XC.cond); (case hc => exact rfl); all_goals (intro hb_; try simp only [pd_true, pd_false, Bool.not_eq_true', Bool.not_eq_false', Bool.and_eq_true, Bool.and_eq_false_iff, Bool.or_eq_true, Bool.or_eq_false_iff, not_true_eq_false, not_false_eq_true, Int.not_lt, Int.not_le] at hb_))
  · have hA4 := hw4.at_ _ hA
    have hB4 : isB (iterS turnS i rT).2.rest := fun y hy => inK_u8.1 (hA4.okAll y hy)
    have hsn := iter_snoc turnS i rT
    generalize hrT' : (iterS turnS i rT).2 = rT' at *
    generalize hls : (iterS turnS i rT).1 = ls at *
    (repeat (first | (with_reducible apply XL.op) | ((with_reducible apply XOp.p1); (case hg | hv => exact rfl)) | (with_reducible apply XC.seq) | (with_reducible apply XC.region (Γ := Γ)) | (with_reducible apply XQ.skip) | (with_reducible apply XQ.nt) | (with_reducible apply XC.block)))
    ((with_reducible apply XOp.callM (R := [_, _, _]) (hF := take_fn rb a4 c4 rT' 4 (by omega))); (case hg => exact rfl); (case hc => exact rfl); (case ha => exact rfl); (case hL => exact rfl); try (case hA => exact Known.true))
    case hA => exact Known.of_old hA4 (Mono.sl _ _ _ _ _)
    rintro _ _ ⟨a5, c5, ao, F5, rfl, rfl, hout, hw5, hat⟩
    have hBo := takeS_isB hB4 4
    have hB2 : 0 ≤ valB ((takeS rT' 4).1.take 2) ∧ valB ((takeS rT' 4).1.take 2) < 65536 := by
      have := valB_bnd ((takeS rT' 4).1.take 2) fun y hy => hBo y (List.take_subset _ _ hy)
      have hl2 : ((takeS rT' 4).1.take 2).length = 2 := by rw [List.length_take, takeS_len]; rfl
      rw [hl2] at this; exact this
    have hB3 : 0 ≤ valB ((takeS rT' 4).1.drop 2) ∧ valB ((takeS rT' 4).1.drop 2) < 65536 := by
      have := valB_bnd ((takeS rT' 4).1.drop 2) fun y hy => hBo y (List.drop_subset _ _ hy)
      have hl2 : ((takeS rT' 4).1.drop 2).length = 2 := by rw [List.length_drop, takeS_len]
      rw [hl2] at this; exact this
    obtain ⟨o0, o1, o2, o3, ho⟩ := len4 (takeS_len rT' 4)
    rw [ho] at hB2 hB3
    have hK : ∀ {L : HL}, (∀ x ∈ F5, x ∈ L) → Known w0 (keys [RdB rb a c r]) L (fun h => byAt h [o0, o1, o2, o3] ao 4) := fun s => ho ▸ known_out (Known.of_old hA4 (Mono.sl _ _ _ _ _)) hout s
    have hts : (turnS rT') = ((s16 (valB [o0, o1]), s16 (valB [o2, o3])), (takeS rT' 4).2) := by unfold turnS; rw [ho]; rfl
    (repeat (first | (with_reducible apply XL.op) | ((with_reducible apply XOp.p1); (case hg | hv => exact rfl)) | (with_reducible apply XL.nilT)))
    ((with_reducible apply XC.regionL (Γ := Γ) mixed (.q 0 (.q 1 (.q 2 (.q 3 (.q 7 (.q 8 (.e 4 (.q 5 (.q 6 (.e 9 (.q 10 (.q 11 (.q 12 (.e 13 (.e 14 (.q 15 (.e 16 (.done)))))))))))))))))) [16] ([(xb, Obj.cells ⟨rwC cf e' (.slice at' i ct') (.slice none 0 0) zlv zmat (.slice none 0 0)⟩ 31 (0, 0))])); (case hc => kernel_rfl); (case hs => first | exact List.nil_sublist _ | exact List.Sublist.refl _ | exact List.sublist_append_right _ _ | (refine List.Sublist.cons_cons _ (List.nil_sublist _)) | (refine List.Sublist.cons_cons _ (List.Sublist.cons_cons _ (List.nil_sublist _))) | (refine List.Sublist.cons_cons _ (List.Sublist.cons_cons _ (List.Sublist.cons_cons _ (List.nil_sublist _)))) | (refine List.Sublist.cons_cons _ (List.Sublist.cons_cons _ (List.Sublist.cons_cons _ (List.Sublist.cons_cons _ (List.nil_sublist _))))) | ((try simp only [List.append_eq, List.cons_append, List.nil_append, List.append_assoc]); (repeat (first | exact List.Sublist.refl _ | exact List.nil_sublist _ | (with_reducible apply List.Sublist.cons_cons) | (with_reducible apply List.Sublist.cons))); done)))
    (repeat (first | ((with_reducible apply XP.p1); (case ho | hg | hv => exact rfl)) | ((with_reducible apply XP.load); (case ho | hg | ht | hk | hx => exact rfl); (case hc => exact own_cell (i := 0) rfl rfl)) | ((with_reducible apply XP.pr); (case ho => exact rfl); (case hg => exact rfl); (case hr => ((with_reducible apply PR.build); (case ht | hk | hok | hz | hf => exact rfl)))) | ((with_reducible apply XP.e); (first | ((with_reducible apply XE.d); (case ho => exact rfl); (case hd => exact rfl)) | ((with_reducible apply XE.e); (case ho => exact rfl)))) | ((with_reducible apply XP.keep); (case hk => first | ((repeat' (first | exact List.forall_mem_nil _ | (with_reducible refine List.forall_mem_cons.2 ⟨?_, ?_⟩) | exact List.mem_cons_self .. | (with_reducible apply List.mem_cons_of_mem) | (with_reducible apply List.mem_append_right))); done) | (intro x hx; first | exact sel_in hx | exact List.mem_cons_of_mem _ (sel_in hx) | exact List.mem_append_right _ (sel_in hx) | exact hx | exact List.mem_cons_of_mem _ hx | exact List.mem_append_right _ hx | ((repeat (first | exact sel_in hx | exact hx | (with_reducible apply List.mem_cons_of_mem) | (with_reducible apply List.mem_append_right))); done) | (rw [List.mem_singleton.1 hx]; (simp; done)) | (rcases List.mem_cons.1 hx with rfl | hx; (simp; done); (rw [List.mem_singleton.1 hx]; (simp; done))) | cases hx))) | (first | ((with_reducible apply XOp.pr); (case hg => exact rfl); (case hr => (with_reducible apply PR.sliceTo); (case ht => exact rfl); (case hk => exact rfl); (case he => exact rfl); (case hx => exact rfl); (case hh => exact rfl); (case hb => omega))) | ((with_reducible apply XP.pr); (case ho => exact rfl); (case hg => exact rfl); (case hr => (with_reducible apply PR.sliceTo); (case ht => exact rfl); (case hk => exact rfl); (case he => exact rfl); (case hx => exact rfl); (case hh => exact rfl); (case hb => omega)))) | (first | ((with_reducible apply XOp.pr); (case hg => exact rfl); (case hr => (with_reducible apply PR.sliceFrom); (case ht => exact rfl); (case hk => exact rfl); (case he => exact rfl); (case hx => exact rfl); (case hh => exact rfl); (case hb => omega))) | ((with_reducible apply XP.pr); (case ho => exact rfl); (case hg => exact rfl); (case hr => (with_reducible apply PR.sliceFrom); (case ht => exact rfl); (case hk => exact rfl); (case he => exact rfl); (case hx => exact rfl); (case hh => exact rfl); (case hb => omega)))) | (((with_reducible apply XOp.callQ (hF := value_fn [o0, o1] ao 4 (by simp))); (case hg => exact rfl); (case hc => exact rfl); (case ha => exact rfl); try (case hA => exact Known.true)); (case hA => exact (hK (fun y hy => by simp [hy])).imp fun h s => SlA.takeC s 2); rintro _ rfl) | (((with_reducible apply XOp.callQ (hF := value_fn [o2, o3] (dropA ao 4 2 1) 2 (by simp))); (case hg => exact rfl); (case hc => exact rfl); (case ha => exact rfl); try (case hA => exact Known.true)); (case hA => exact (hK (fun y hy => by simp [hy])).imp fun h s => SlA.drop s (k := 2) (by simp)); rintro _ rfl)))
    ((with_reducible apply XOp.buildSlice); (case hg | ht | hk | he | hz | hzl | hf => exact rfl); intro bb)
    (repeat (first | ((with_reducible apply XP.e); (first | ((with_reducible apply XE.d); (case ho => exact rfl); (case hd => exact rfl)) | ((with_reducible apply XE.e); (case ho => exact rfl)))) | ((with_reducible apply XP.keep); (case hk => first | ((repeat' (first | exact List.forall_mem_nil _ | (with_reducible refine List.forall_mem_cons.2 ⟨?_, ?_⟩) | exact List.mem_cons_self .. | (with_reducible apply List.mem_cons_of_mem) | (with_reducible apply List.mem_append_right))); done) | (intro x hx; first | exact sel_in hx | exact List.mem_cons_of_mem _ (sel_in hx) | exact List.mem_append_right _ (sel_in hx) | exact hx | exact List.mem_cons_of_mem _ hx | exact List.mem_append_right _ hx | ((repeat (first | exact sel_in hx | exact hx | (with_reducible apply List.mem_cons_of_mem) | (with_reducible apply List.mem_append_right))); done) | (rw [List.mem_singleton.1 hx]; (simp; done)) | (rcases List.mem_cons.1 hx with rfl | hx; (simp; done); (rw [List.mem_singleton.1 hx]; (simp; done))) | cases hx)))))
    (refine (show XOp _ _ _ _ _ _ _ _ ((bb, Obj.cells ⟨[.int .i64 (IntKind.i64.wrap (IntKind.i16.wrap (valB [o0, o1]))), .int .i64 (IntKind.i64.wrap (IntKind.i16.wrap (valB [o2, o3])))]⟩ 70 (0, 0)) :: [(xb, Obj.cells ⟨rwC cf e' (.slice at' i ct') (.slice none 0 0) zlv zmat (.slice none 0 0)⟩ 31 (0, 0)), (rs, Obj.cells ⟨zeroW⟩ 31 (0, 0)), (cb, Obj.cells ⟨cf.cells⟩ 23 (0, 0))] ++ ((RdB rb a5 c5 (takeS rT' 4).2 :: F5) ++ (FF ++ Fv))) from XOp.perm (L' :=  (bb, Obj.cells ⟨[.int .i64 (IntKind.i64.wrap (IntKind.i16.wrap (valB [o0, o1]))), .int .i64 (IntKind.i64.wrap (IntKind.i16.wrap (valB [o2, o3])))]⟩ 70 (0, 0)) :: (([(xb, Obj.cells ⟨rwC cf e' (.slice at' i ct') (.slice none 0 0) zlv zmat (.slice none 0 0)⟩ 31 (0, 0)), (rs, Obj.cells ⟨zeroW⟩ 31 (0, 0)), (cb, Obj.cells ⟨cf.cells⟩ 23 (0, 0))] ++ (RdB rb a5 c5 (takeS rT' 4).2 :: (F5 ++ FF))) ++ Fv)) rfl ?_ (by (first | (with_reducible exact List.Perm.refl _) | refine perm_of_cnt fun p_ => ?_; simp only [List.countP_append, List.countP_cons, List.countP_nil]; omega))))
    ((with_reducible apply XOp.append1R (R := [(xb, Obj.cells ⟨rwC cf e' (.slice at' i ct') (.slice none 0 0) zlv zmat (.slice none 0 0)⟩ 31 (0, 0)), (rs, Obj.cells ⟨zeroW⟩ 31 (0, 0)), (cb, Obj.cells ⟨cf.cells⟩ 23 (0, 0))] ++ (RdB rb a5 c5 (takeS rT' 4).2 :: (F5 ++ FF)))); (case hg => exact rfl); (case ht => exact rfl); (case hk => exact rfl); (case he => exact rfl); (case hown => exact hown); (case hs => exact rfl); (case hx => exact rfl); (case hL => exact rfl); (case hl => exact rfl); (case h1 => exact rfl); (case hz => exact rfl); (case hsz => exact Nat.zero_lt_succ _); (case hk0 => exact Nat.zero_lt_succ _); (case h63 => simp only [maxLen]; omega); (case hb => simp only []; omega); intro v_ F_ hown_; obtain ⟨a_, c_, rfl⟩ := hown_.val)
    (repeat (first | (with_reducible apply XL.op) | ((with_reducible apply XOp.p1); (case hg | hv => exact rfl)) | ((with_reducible apply XOp.store (i := 0)); (case hg | ht | hk | hx | hv | h1 | hi | hs | ha => exact rfl)) | (with_reducible apply XL.nilT) | (with_reducible apply XC.region (Γ := Γ)) | (with_reducible apply XQ.nt) | (with_reducible apply XQ.nb) | ((with_reducible apply XP.p1); (case ho | hg | hv => exact rfl)) | (with_reducible apply XP.done) | ((with_reducible apply XP.e); (first | ((with_reducible apply XE.d); (case ho => exact rfl); (case hd => exact rfl)) | ((with_reducible apply XE.e); (case ho => exact rfl)))) | ((with_reducible apply XP.keep); (case hk => first | ((repeat' (first | exact List.forall_mem_nil _ | (with_reducible refine List.forall_mem_cons.2 ⟨?_, ?_⟩) | exact List.mem_cons_self .. | (with_reducible apply List.mem_cons_of_mem) | (with_reducible apply List.mem_append_right))); done) | (intro x hx; first | exact sel_in hx | exact List.mem_cons_of_mem _ (sel_in hx) | exact List.mem_append_right _ (sel_in hx) | exact hx | exact List.mem_cons_of_mem _ hx | exact List.mem_append_right _ hx | ((repeat (first | exact sel_in hx | exact hx | (with_reducible apply List.mem_cons_of_mem) | (with_reducible apply List.mem_append_right))); done) | (rw [List.mem_singleton.1 hx]; (simp; done)) | (rcases List.mem_cons.1 hx with rfl | hx; (simp; done); (rw [List.mem_singleton.1 hx]; (simp; done))) | cases hx)))))
    refine ⟨k - 1, by omega, _, .of (List.Sublist.refl _), i + 1, _, a5, c5, F5 ++ FF, F_, by omega, hown_.conv rfl ?_, ?_, fun y hy => List.mem_append_right _ (hFF y hy), ?_, rfl, rfl, rfl, rfl, rfl, intS2 (m := 64) (by omega) (by omega), trivial⟩
    · have hB2' : 0 ≤ valB [o0, o1] ∧ valB [o0, o1] < 65536 := hB2
      have hB3' : 0 ≤ valB [o2, o3] ∧ valB [o2, o3] < 65536 := hB3
      rw [hsn, hts, List.flatMap_append, i16_s16 hB2', i16_s16 hB3']; simp [turnV, zerosL]
    · rw [hsn, hts]; exact hw4.trans hw5
    · rw [hsn, hts]; rfl
  obtain rfl : k = 0 := by omega
  rw [Nat.add_zero] at hik
  subst hik
  generalize hqT : iterS turnS (cf.head / 2).toNat rT = qT at *
  have hqTl : qT.1.length = (cf.head / 2).toNat := by rw [← hqT]; exact iter_len _ _ _
  clear hs
  (repeat (first | (with_reducible apply XL.op) | ((with_reducible apply XOp.p1); (case hg | hv => exact rfl)) | ((with_reducible apply XOp.load); (case hg | ht | hk | hx => exact rfl); (case hc => exact own_cell (i := 2) rfl rfl)) | (with_reducible apply XL.nilT) | (with_reducible apply XC.seq) | (with_reducible apply XC.region (Γ := Γ)) | (with_reducible apply XQ.exit) | (with_reducible apply XQ.nt) | (with_reducible apply XQ.et) | (with_reducible apply XC.block) | ((with_reducible apply XQ.eb); (case hb => exact rfl))))
  obtain ⟨fL, hfL⟩ : ∃ f, f = secS (layF cf) 76 (layN cf) := ⟨_, rfl⟩
  refine XC.loopP (fun k ρ L => ∃ (i : Nat) (v : Value) (A : List LL) (a6 : Option Addr) (c6 : Nat) (GG Fl : HL), i + k = cf.Layers.toNat ∧ OwnS 67 30 v i (A.flatMap LL.cells) Fl ∧ A.map LL.lay = (iterS fL i qT.2).1 ∧ Held GG (fun h => ∀ l ∈ A, llAt h l) ∧ Went r (iterS fL i qT.2).2 a c a6 c6 ∧ (∀ y ∈ FF ++ Fv, y ∈ GG) ∧ L = [(xb, Obj.cells ⟨rwC cf e' (.slice at' (cf.head / 2).toNat ct') v zlv zmat (.slice none 0 0)⟩ 31 (0, 0)), (rs, Obj.cells ⟨zeroW⟩ 31 (0, 0)), (cb, Obj.cells ⟨cf.cells⟩ 23 (0, 0))] ++ (RdB rb a6 c6 (iterS fL i qT.2).2 :: (GG ++ Fl)) ∧ Slots ρ [(0, .pointer (some ⟨rb, 0, none⟩)), (3, .pointer (some ⟨cb, 0, none⟩)), (4, .pointer (some ⟨rs, 0, none⟩)), (5, .pointer (some ⟨xb, 0, none⟩)), (53, .int .i64 cf.Layers), (54, .int .i64 i)])
    cf.Layers.toNat ⟨0, _, [], a4, c4, FF ++ Fv, [], by simp, OwnS.nil _ _, rfl, fun h hh l hl => by simp at hl, hw4, fun _ h => h, by rw [List.append_nil]; rfl, rfl, rfl, rfl, rfl, rfl, rfl, trivial⟩ ?_
  rintro k ρ L ⟨i, v, A, a6, c6, GG, Fl, hik, hownL, hAl, hG, hw6, hGG, rfl, hs⟩
  obtain ⟨al, cl, rfl⟩ := hownL.val
  refine XC.slots _ hs ?_
  (repeat (first | (with_reducible apply XL.op) | ((with_reducible apply XOp.p1); (case hg | hv => exact rfl)) | (with_reducible apply XL.nilT) | (with_reducible apply XC.seq) | (with_reducible apply XC.region (Γ := Γ))))
  ((with_reducible apply XC.cond); (case hc => exact rfl); all_goals (intro hb_; try simp only [pd_true, pd_false, Bool.not_eq_true', Bool.not_eq_false', Bool.and_eq_true, Bool.and_eq_false_iff, Bool.or_eq_true, Bool.or_eq_false_iff, not_true_eq_false, not_false_eq_true, Int.not_lt, Int.not_le] at hb_))
  · have hA6 := hw6.at_ _ hA
    have hsn := iter_snoc fL i qT.2
    generalize hrL' : (iterS fL i qT.2).2 = rL' at *
    generalize hls : (iterS fL i qT.2).1 = lls at *
    (repeat (first | (with_reducible apply XC.seq) | (with_reducible apply XQ.skip) | (with_reducible apply XQ.nt) | (with_reducible apply XC.block)))
    ((with_reducible apply XC.regionL (Γ := Γ) mixed (.q 0 (.q 1 (.q 2 (.q 3 (.e 4 (.e 5 (.e 6 (.q 7 (.e 8 (.done)))))))))) [8] ([(xb, Obj.cells ⟨rwC cf e' (.slice at' (cf.head / 2).toNat ct') (.slice al i cl) zlv zmat (.slice none 0 0)⟩ 31 (0, 0)), (cb, Obj.cells ⟨cf.cells⟩ 23 (0, 0))])); (case hc => kernel_rfl); (case hs => first | exact List.nil_sublist _ | exact List.Sublist.refl _ | exact List.sublist_append_right _ _ | (refine List.Sublist.cons_cons _ (List.nil_sublist _)) | (refine List.Sublist.cons_cons _ (List.Sublist.cons_cons _ (List.nil_sublist _))) | (refine List.Sublist.cons_cons _ (List.Sublist.cons_cons _ (List.Sublist.cons_cons _ (List.nil_sublist _)))) | (refine List.Sublist.cons_cons _ (List.Sublist.cons_cons _ (List.Sublist.cons_cons _ (List.Sublist.cons_cons _ (List.nil_sublist _))))) | ((try simp only [List.append_eq, List.cons_append, List.nil_append, List.append_assoc]); (repeat (first | exact List.Sublist.refl _ | exact List.nil_sublist _ | (with_reducible apply List.Sublist.cons_cons) | (with_reducible apply List.Sublist.cons))); done)))
    (repeat (first | ((with_reducible apply XP.p1); (case ho | hg | hv => exact rfl)) | ((with_reducible apply XP.load); (case ho | hg | ht | hk | hx => exact rfl); (case hc => exact own_cell (i := 0) rfl rfl)) | ((with_reducible apply XP.loadO (j := 1)); (case ho | hg | ht | hk | hx | hi | hc => exact rfl)) | ((with_reducible apply XP.e); (first | ((with_reducible apply XE.d); (case ho => exact rfl); (case hd => exact rfl)) | ((with_reducible apply XE.e); (case ho => exact rfl))))))
    ((with_reducible apply XOp.callM (R := [_, _, _]) (hF := rlayer_fn rb a6 c6 rL' cf hc)); (case hg => exact rfl); (case hc => exact rfl); (case ha => exact rfl); (case hL => exact rfl); try (case hA => exact Known.true))
    case hA => exact Known.and (Known.of_old hS sides_mono) (Known.of_old hA6 (Mono.sl _ _ _ _ _))
    rintro _ _ ⟨a7, c7, l', F7, rfl, hlay, rfl, hF7, hw7⟩
    rw [← hfL] at hlay hw7 ⊢
    (refine ⟨fun y_ hy_ => (by rcases List.mem_cons.1 hy_ with rfl | hy_; simp; (rw [List.mem_singleton.1 hy_]; simp)), ?_⟩)
    (repeat (((with_reducible apply XP.e); (first | ((with_reducible apply XE.d); (case ho => exact rfl); (case hd => exact rfl)) | ((with_reducible apply XE.e); (case ho => exact rfl))))))
    ((with_reducible apply XOp.buildSlice); (case hg | ht | hk | he | hz | hzl | hf => exact rfl); intro bb)
    (refine ⟨fun y_ hy_ => (by rcases List.mem_cons.1 hy_ with rfl | hy_; simp; (rw [List.mem_singleton.1 hy_]; simp)), ?_⟩)
    (repeat (((with_reducible apply XP.e); (first | ((with_reducible apply XE.d); (case ho => exact rfl); (case hd => exact rfl)) | ((with_reducible apply XE.e); (case ho => exact rfl))))))
    (refine (show XOp _ _ _ _ _ _ _ _ ((bb, Obj.cells ⟨l'.cells⟩ 67 (0, 0)) :: [(xb, Obj.cells ⟨rwC cf e' (.slice at' (cf.head / 2).toNat ct') (.slice al i cl) zlv zmat (.slice none 0 0)⟩ 31 (0, 0)), (rs, Obj.cells ⟨zeroW⟩ 31 (0, 0)), (cb, Obj.cells ⟨cf.cells⟩ 23 (0, 0))] ++ ((RdB rb a7 c7 (fL rL').2 :: F7) ++ (GG ++ Fl))) from XOp.perm (L' :=  (bb, Obj.cells ⟨l'.cells⟩ 67 (0, 0)) :: (([(xb, Obj.cells ⟨rwC cf e' (.slice at' (cf.head / 2).toNat ct') (.slice al i cl) zlv zmat (.slice none 0 0)⟩ 31 (0, 0)), (rs, Obj.cells ⟨zeroW⟩ 31 (0, 0)), (cb, Obj.cells ⟨cf.cells⟩ 23 (0, 0))] ++ (RdB rb a7 c7 (fL rL').2 :: (F7 ++ GG))) ++ Fl)) rfl ?_ (by (first | (with_reducible exact List.Perm.refl _) | refine perm_of_cnt fun p_ => ?_; simp only [List.countP_append, List.countP_cons, List.countP_nil]; omega))))
    ((with_reducible apply XOp.append1R (R := [(xb, Obj.cells ⟨rwC cf e' (.slice at' (cf.head / 2).toNat ct') (.slice al i cl) zlv zmat (.slice none 0 0)⟩ 31 (0, 0)), (rs, Obj.cells ⟨zeroW⟩ 31 (0, 0)), (cb, Obj.cells ⟨cf.cells⟩ 23 (0, 0))] ++ (RdB rb a7 c7 (fL rL').2 :: (F7 ++ GG)))); (case hg => exact rfl); (case ht => exact rfl); (case hk => exact rfl); (case he => exact rfl); (case hown => exact hownL); (case hs => exact rfl); (case hx => exact rfl); (case hL => exact rfl); (case hl => exact rfl); (case h1 => exact rfl); (case hz => exact rfl); (case hsz => exact Nat.zero_lt_succ _); (case hk0 => exact Nat.zero_lt_succ _); (case h63 => simp only [maxLen]; omega); (case hb => simp only []; omega); intro v_ F_ hown_; obtain ⟨a_, c_, rfl⟩ := hown_.val)
    (refine ⟨fun y_ hy_ => (by rcases List.mem_cons.1 hy_ with rfl | hy_; simp; (rw [List.mem_singleton.1 hy_]; simp)), ?_⟩)
    (repeat (first | (with_reducible apply XL.op) | ((with_reducible apply XOp.p1); (case hg | hv => exact rfl)) | ((with_reducible apply XOp.store (i := 0)); (case hg | ht | hk | hx | hv | h1 | hi | hs | ha => exact rfl)) | (with_reducible apply XL.nilT) | (with_reducible apply XC.region (Γ := Γ)) | (with_reducible apply XQ.nt) | (with_reducible apply XQ.nb) | ((with_reducible apply XP.p1); (case ho | hg | hv => exact rfl)) | (with_reducible apply XP.done) | ((with_reducible apply XP.e); (first | ((with_reducible apply XE.d); (case ho => exact rfl); (case hd => exact rfl)) | ((with_reducible apply XE.e); (case ho => exact rfl))))))
    refine ⟨k - 1, by omega, _, .of (List.Sublist.refl _), i + 1, _, A ++ [l'], a7, c7, F7 ++ GG, F_, by omega, hown_.conv rfl (by simp), ?_, ?_, ?_, fun y hy => List.mem_append_right _ (hGG y hy), ?_, rfl, rfl, rfl, rfl, rfl, intS2 (m := 64) (by omega) (by omega), trivial⟩
    · rw [hsn, List.map_append, hAl, List.map_singleton, hlay]
    · intro h hh z hz
      rcases List.mem_append.1 hz with h1 | h1
      · exact hG h (fun y hy => hh y (List.mem_append_right _ hy)) z h1
      · rw [List.mem_singleton.1 h1]; exact hF7 h (fun y hy => hh y (List.mem_append_left _ hy))
    · rw [hsn]; exact hw6.trans hw7
    · rw [hsn]; rfl
  obtain rfl : k = 0 := by omega
  rw [Nat.add_zero] at hik
  subst hik
  have hfl' : iterS fL cf.Layers.toNat qT.2 = iterS (fun r => layF cf (openS r 76 (layN cf))) cf.Layers.toNat qT.2 := by rw [hfL]; rfl
  generalize hqL : iterS fL cf.Layers.toNat qT.2 = qL at *
  have hqLl : qL.1.length = cf.Layers.toNat := by rw [← hqL]; exact iter_len _ _ _
  clear hs
  (repeat (first | (with_reducible apply XL.op) | ((with_reducible apply XOp.p1); (case hg | hv => exact rfl)) | ((with_reducible apply XOp.load); (case hg | ht | hk | hx => exact rfl); (case hc => exact own_cell (i := 2) rfl rfl)) | (with_reducible apply XC.seq) | (with_reducible apply XC.region (Γ := Γ)) | (with_reducible apply XQ.exit) | (with_reducible apply XQ.nt) | (with_reducible apply XQ.et) | ((with_reducible apply XQ.eb); (case hb => exact rfl))))
  ((with_reducible apply XOp.callM (R := [_, _, _]) (hF := open_fn rb a6 c6 qL.2 70 cf.Width (by omega))); (case hg => exact rfl); (case hc => exact rfl); (case ha => exact rfl); (case hL => exact rfl); try (case hA => exact Known.true))
  case hA => exact Known.of_old (hw6.at_ _ hA) (Mono.sl _ _ _ _ _)
  rintro _ _ ⟨a8, c8, rfl, hw8⟩
  have hwF := hw6.trans hw8
  (repeat (first | (with_reducible apply XL.op) | ((with_reducible apply XOp.p1); (case hg | hv => exact rfl)) | ((with_reducible apply XOp.load); (case hg | ht | hk | hx => exact rfl); (case hc => exact own_cell (i := 2) rfl rfl)) | (with_reducible apply XL.nilT) | (with_reducible apply XC.seq) | (with_reducible apply XC.region (Γ := Γ))))
  ((with_reducible apply XOp.callM (R := [_, _, _]) (hF := narrowI_fn rb a8 c8 (openS qL.2 70 cf.Width) cf.Width (by omega))); (case hg => exact rfl); (case hc => exact rfl); (case ha => exact rfl); (case hL => exact rfl); try (case hA => exact Known.true))
  case hA => exact Known.of_old (hwF.at_ _ hA) (Mono.sl _ _ _ _ _)
  rintro _ _ ⟨a9, c9, f', F9, rfl, hf, rfl, hF9, hw9⟩
  have hwG := hwF.trans hw9
  generalize hqF : narrowS (openS qL.2 70 cf.Width) cf.Width.toNat = qF at *
  (repeat (first | (with_reducible apply XL.op) | ((with_reducible apply XOp.p1); (case hg | hv => exact rfl)) | ((with_reducible apply XOp.load); (case hg | ht | hk | hx => exact rfl); (case hc => exact own_cell (i := 2) rfl rfl)) | ((with_reducible apply XOp.store (i := 0)); (case hg | ht | hk | hx | hv | h1 | hi | hs | ha => exact rfl)) | (with_reducible apply XL.nilT) | (with_reducible apply XC.seq) | (with_reducible apply XC.region (Γ := Γ))))
  rw [eVW]
  ((with_reducible apply XOp.callM (R := [_, _, _]) (hF := open_fn rb a9 c9 qF.2 72 (cf.Vocab * cf.Width) (by omega))); (case hg => exact rfl); (case hc => exact rfl); (case ha => exact rfl); (case hL => exact rfl); try (case hA => exact Known.true))
  case hA => exact Known.of_old (hwG.at_ _ hA) (Mono.sl _ _ _ _ _)
  rintro _ _ ⟨a10, c10, rfl, hw10⟩
  have hwH := hwG.trans hw10
  (repeat (first | (with_reducible apply XL.op) | ((with_reducible apply XOp.p1); (case hg | hv => exact rfl)) | ((with_reducible apply XOp.load); (case hg | ht | hk | hx => exact rfl); (case hc => exact own_cell (i := 2) rfl rfl)) | (with_reducible apply XL.nilT) | (with_reducible apply XC.seq) | (with_reducible apply XC.region (Γ := Γ))))
  ((with_reducible apply XOp.callM (R := [_, _, _]) (hF := rmatrix_fn rb a10 c10 (openS qF.2 72 (cf.Vocab * cf.Width)) cf.Vocab cf.Width (by omega))); (case hg => exact rfl); (case hc => exact rfl); (case ha => exact rfl); (case hL => exact rfl); try (case hA => exact Known.true))
  case hA => exact Known.of_old (hwH.at_ _ hA) (Mono.sl _ _ _ _ _)
  rintro _ _ ⟨a11, c11, h', F11, rfl, hh', rfl, hF11, hw11⟩
  have hwI := hwH.trans hw11
  generalize hqH : matS (openS qF.2 72 (cf.Vocab * cf.Width)) cf.Vocab cf.Width = qH at *
  (repeat (first | (with_reducible apply XL.op) | ((with_reducible apply XOp.p1); (case hg | hv => exact rfl)) | ((with_reducible apply XOp.load); (case hg | ht | hk | hx => exact rfl); (case hc => exact own_cell (i := 2) rfl rfl)) | ((with_reducible apply XOp.storeN (i := 0)); (case hg | ht | hx | hv' | hk | h1 | hi | hs | ha => exact rfl)) | (with_reducible apply XL.nilT) | (with_reducible apply XC.seq) | (with_reducible apply XC.region (Γ := Γ)) | (with_reducible apply XC.block)))
  obtain ⟨fM, hfM⟩ : ∃ f, f = secS (fun r => matS r cf.Vocab cf.Width) 77 (cf.Vocab * cf.Width) := ⟨_, rfl⟩
  refine XC.loopP (fun k ρ L => ∃ (i : Nat) (v : Value) (D : List LM) (a12 : Option Addr) (c12 : Nat) (HH Fm : HL), i + k = cf.Medusa.toNat ∧ OwnS 26 3 v i (D.flatMap LM.cells) Fm ∧ D.map LM.mat = (iterS fM i qH.2).1 ∧ Held HH (fun h => ∀ m ∈ D, lmAt h m) ∧ Went r (iterS fM i qH.2).2 a c a12 c12 ∧ (∀ y ∈ F11 ++ (F9 ++ (GG ++ Fl)), y ∈ HH) ∧ L = [(xb, Obj.cells ⟨rwC cf e' (.slice at' (cf.head / 2).toNat ct') (.slice al cf.Layers.toNat cl) f' h' v⟩ 31 (0, 0)), (rs, Obj.cells ⟨zeroW⟩ 31 (0, 0)), (cb, Obj.cells ⟨cf.cells⟩ 23 (0, 0))] ++ (RdB rb a12 c12 (iterS fM i qH.2).2 :: (HH ++ Fm)) ∧ Slots ρ [(0, .pointer (some ⟨rb, 0, none⟩)), (3, .pointer (some ⟨cb, 0, none⟩)), (4, .pointer (some ⟨rs, 0, none⟩)), (5, .pointer (some ⟨xb, 0, none⟩)), (89, .int .i64 cf.Medusa), (90, .int .i64 i)])
    cf.Medusa.toNat ⟨0, _, [], a11, c11, F11 ++ (F9 ++ (GG ++ Fl)), [], by simp, OwnS.nil _ _, rfl, fun h hh l hl => by simp at hl, hwI, fun _ h => h, by rw [List.append_nil]; rfl, rfl, rfl, rfl, rfl, rfl, rfl, trivial⟩ ?_
  rintro k ρ L ⟨i, v, D, a12, c12, HH, Fm, hik, hownM, hDl, hH, hw12, hHH, rfl, hs⟩
  obtain ⟨am, cm, rfl⟩ := hownM.val
  refine XC.slots _ hs ?_
  (repeat (first | (with_reducible apply XL.op) | ((with_reducible apply XOp.p1); (case hg | hv => exact rfl)) | (with_reducible apply XL.nilT) | (with_reducible apply XC.seq) | (with_reducible apply XC.region (Γ := Γ))))
  ((with_reducible apply XC.cond); (case hc => exact rfl); all_goals (intro hb_; try simp only [pd_true, pd_false, Bool.not_eq_true', Bool.not_eq_false', Bool.and_eq_true, Bool.and_eq_false_iff, Bool.or_eq_true, Bool.or_eq_false_iff, not_true_eq_false, not_false_eq_true, Int.not_lt, Int.not_le] at hb_))
  · have hA12 := hw12.at_ _ hA
    have hsn := iter_snoc fM i qH.2
    generalize hrM' : (iterS fM i qH.2).2 = rM' at *
    generalize hms : (iterS fM i qH.2).1 = mms at *
    (repeat (first | (with_reducible apply XL.op) | ((with_reducible apply XOp.p1); (case hg | hv => exact rfl)) | ((with_reducible apply XOp.load); (case hg | ht | hk | hx => exact rfl); (case hc => exact own_cell (i := 2) rfl rfl)) | (with_reducible apply XC.seq) | (with_reducible apply XC.region (Γ := Γ)) | (with_reducible apply XQ.skip) | (with_reducible apply XQ.nt) | (with_reducible apply XC.block)))
    rw [eVW]
    ((with_reducible apply XOp.callM (R := [_, _, _]) (hF := open_fn rb a12 c12 rM' 77 (cf.Vocab * cf.Width) (by omega))); (case hg => exact rfl); (case hc => exact rfl); (case ha => exact rfl); (case hL => exact rfl); try (case hA => exact Known.true))
    case hA => exact Known.of_old hA12 (Mono.sl _ _ _ _ _)
    rintro _ _ ⟨a13, c13, rfl, hw13⟩
    have hw13' := hw12.trans hw13
    (repeat ((with_reducible apply XL.nilT)))
    ((with_reducible apply XC.regionL (Γ := Γ) mixed (.q 0 (.q 1 (.q 2 (.q 3 (.q 4 (.q 5 (.q 6 (.e 7 (.e 8 (.e 9 (.q 10 (.e 11 (.done))))))))))))) [11] ([(xb, Obj.cells ⟨rwC cf e' (.slice at' (cf.head / 2).toNat ct') (.slice al cf.Layers.toNat cl) f' h' (.slice am i cm)⟩ 31 (0, 0)), (cb, Obj.cells ⟨cf.cells⟩ 23 (0, 0))])); (case hc => kernel_rfl); (case hs => first | exact List.nil_sublist _ | exact List.Sublist.refl _ | exact List.sublist_append_right _ _ | (refine List.Sublist.cons_cons _ (List.nil_sublist _)) | (refine List.Sublist.cons_cons _ (List.Sublist.cons_cons _ (List.nil_sublist _))) | (refine List.Sublist.cons_cons _ (List.Sublist.cons_cons _ (List.Sublist.cons_cons _ (List.nil_sublist _)))) | (refine List.Sublist.cons_cons _ (List.Sublist.cons_cons _ (List.Sublist.cons_cons _ (List.Sublist.cons_cons _ (List.nil_sublist _))))) | ((try simp only [List.append_eq, List.cons_append, List.nil_append, List.append_assoc]); (repeat (first | exact List.Sublist.refl _ | exact List.nil_sublist _ | (with_reducible apply List.Sublist.cons_cons) | (with_reducible apply List.Sublist.cons))); done)))
    (repeat (first | ((with_reducible apply XP.p1); (case ho | hg | hv => exact rfl)) | ((with_reducible apply XP.load); (case ho | hg | ht | hk | hx => exact rfl); (case hc => exact own_cell (i := 0) rfl rfl)) | ((with_reducible apply XP.load); (case ho | hg | ht | hk | hx => exact rfl); (case hc => exact own_cell (i := 1) rfl rfl)) | ((with_reducible apply XP.e); (first | ((with_reducible apply XE.d); (case ho => exact rfl); (case hd => exact rfl)) | ((with_reducible apply XE.e); (case ho => exact rfl))))))
    ((with_reducible apply XOp.callM (R := [_, _, _]) (hF := rmatrix_fn rb a13 c13 (openS rM' 77 (cf.Vocab * cf.Width)) cf.Vocab cf.Width (by omega))); (case hg => exact rfl); (case hc => exact rfl); (case ha => exact rfl); (case hL => exact rfl); try (case hA => exact Known.true))
    case hA => exact Known.of_old (hw13'.at_ _ hA) (Mono.sl _ _ _ _ _)
    rintro _ _ ⟨a14, c14, m', F14, rfl, hmat, rfl, hF14, hw14⟩
    have hmf : matS (openS rM' 77 (cf.Vocab * cf.Width)) cf.Vocab cf.Width = fM rM' := by rw [hfM]; rfl
    rw [hmf] at hmat hw14 ⊢
    (refine ⟨fun y_ hy_ => (by rcases List.mem_cons.1 hy_ with rfl | hy_; simp; (rw [List.mem_singleton.1 hy_]; simp)), ?_⟩)
    (repeat (((with_reducible apply XP.e); (first | ((with_reducible apply XE.d); (case ho => exact rfl); (case hd => exact rfl)) | ((with_reducible apply XE.e); (case ho => exact rfl))))))
    ((with_reducible apply XOp.buildSlice); (case hg | ht | hk | he | hz | hzl | hf => exact rfl); intro bb)
    (refine ⟨fun y_ hy_ => (by rcases List.mem_cons.1 hy_ with rfl | hy_; simp; (rw [List.mem_singleton.1 hy_]; simp)), ?_⟩)
    (repeat (((with_reducible apply XP.e); (first | ((with_reducible apply XE.d); (case ho => exact rfl); (case hd => exact rfl)) | ((with_reducible apply XE.e); (case ho => exact rfl))))))
    (refine (show XOp _ _ _ _ _ _ _ _ ((bb, Obj.cells ⟨m'.cells⟩ 26 (0, 0)) :: [(xb, Obj.cells ⟨rwC cf e' (.slice at' (cf.head / 2).toNat ct') (.slice al cf.Layers.toNat cl) f' h' (.slice am i cm)⟩ 31 (0, 0)), (rs, Obj.cells ⟨zeroW⟩ 31 (0, 0)), (cb, Obj.cells ⟨cf.cells⟩ 23 (0, 0))] ++ ((RdB rb a14 c14 (fM rM').2 :: F14) ++ (HH ++ Fm))) from XOp.perm (L' :=  (bb, Obj.cells ⟨m'.cells⟩ 26 (0, 0)) :: (([(xb, Obj.cells ⟨rwC cf e' (.slice at' (cf.head / 2).toNat ct') (.slice al cf.Layers.toNat cl) f' h' (.slice am i cm)⟩ 31 (0, 0)), (rs, Obj.cells ⟨zeroW⟩ 31 (0, 0)), (cb, Obj.cells ⟨cf.cells⟩ 23 (0, 0))] ++ (RdB rb a14 c14 (fM rM').2 :: (F14 ++ HH))) ++ Fm)) rfl ?_ (by (first | (with_reducible exact List.Perm.refl _) | refine perm_of_cnt fun p_ => ?_; simp only [List.countP_append, List.countP_cons, List.countP_nil]; omega))))
    ((with_reducible apply XOp.append1R (R := [(xb, Obj.cells ⟨rwC cf e' (.slice at' (cf.head / 2).toNat ct') (.slice al cf.Layers.toNat cl) f' h' (.slice am i cm)⟩ 31 (0, 0)), (rs, Obj.cells ⟨zeroW⟩ 31 (0, 0)), (cb, Obj.cells ⟨cf.cells⟩ 23 (0, 0))] ++ (RdB rb a14 c14 (fM rM').2 :: (F14 ++ HH)))); (case hg => exact rfl); (case ht => exact rfl); (case hk => exact rfl); (case he => exact rfl); (case hown => exact hownM); (case hs => exact rfl); (case hx => exact rfl); (case hL => exact rfl); (case hl => exact rfl); (case h1 => exact rfl); (case hz => exact rfl); (case hsz => exact Nat.zero_lt_succ _); (case hk0 => exact Nat.zero_lt_succ _); (case h63 => simp only [maxLen]; omega); (case hb => simp only []; omega); intro v_ F_ hown_; obtain ⟨a_, c_, rfl⟩ := hown_.val)
    (refine ⟨fun y_ hy_ => (by rcases List.mem_cons.1 hy_ with rfl | hy_; simp; (rw [List.mem_singleton.1 hy_]; simp)), ?_⟩)
    (repeat (first | (with_reducible apply XL.op) | ((with_reducible apply XOp.p1); (case hg | hv => exact rfl)) | ((with_reducible apply XOp.store (i := 0)); (case hg | ht | hk | hx | hv | h1 | hi | hs | ha => exact rfl)) | (with_reducible apply XL.nilT) | (with_reducible apply XC.region (Γ := Γ)) | (with_reducible apply XQ.nt) | (with_reducible apply XQ.nb) | ((with_reducible apply XP.p1); (case ho | hg | hv => exact rfl)) | (with_reducible apply XP.done) | ((with_reducible apply XP.e); (first | ((with_reducible apply XE.d); (case ho => exact rfl); (case hd => exact rfl)) | ((with_reducible apply XE.e); (case ho => exact rfl))))))
    refine ⟨k - 1, by omega, _, .of (List.Sublist.refl _), i + 1, _, D ++ [m'], a14, c14, F14 ++ HH, F_, by omega, hown_.conv rfl (by simp), ?_, ?_, ?_, fun y hy => List.mem_append_right _ (hHH y hy), ?_, rfl, rfl, rfl, rfl, rfl, intS2 (m := 64) (by omega) (by omega), trivial⟩
    · rw [hsn, List.map_append, hDl, List.map_singleton, hmat]
    · intro h hh z hz
      rcases List.mem_append.1 hz with h1 | h1
      · exact hH h (fun y hy => hh y (List.mem_append_right _ hy)) z h1
      · rw [List.mem_singleton.1 h1]; exact hF14 h (fun y hy => hh y (List.mem_append_left _ hy))
    · rw [hsn]; exact hw13'.trans hw14
    · rw [hsn]; rfl
  obtain rfl : k = 0 := by omega
  rw [Nat.add_zero] at hik
  subst hik
  have hfm' : iterS fM cf.Medusa.toNat qH.2 = iterS (fun r => matS (openS r 77 (cf.Vocab * cf.Width)) cf.Vocab cf.Width) cf.Medusa.toNat qH.2 := by rw [hfM]; rfl
  have hqMl := iter_len fM cf.Medusa.toNat qH.2
  generalize hqM : iterS fM cf.Medusa.toNat qH.2 = qM at *
  clear hs
  have hAn : A.length = cf.Layers.toNat := by have := congrArg List.length hAl; rw [List.length_map] at this; omega
  have hDn : D.length = cf.Medusa.toNat := by have := congrArg List.length hDl; rw [List.length_map] at this; omega
  obtain ⟨aT, cT, eT, sT⟩ := hown.raw (f := turnV) (k := 2) (hk := fun _ => rfl) (by_ := 16) hqTl.symm (by omega)
  obtain ⟨aL, cL, eL, sL⟩ := hownL.raw (f := LL.cells) (k := 30) (hk := fun _ => rfl) (by_ := 384) hAn.symm (by omega)
  obtain ⟨aM, cM, eM, sM⟩ := hownM.raw (f := LM.cells) (k := 3) (hk := fun _ => rfl) (by_ := 40) hDn.symm (by omega)
  obtain ⟨rfl, _, rfl⟩ := Value.slice.inj eT
  obtain ⟨rfl, _, rfl⟩ := Value.slice.inj eL
  obtain ⟨rfl, _, rfl⟩ := Value.slice.inj eM
  (repeat (first | (with_reducible apply XL.op) | ((with_reducible apply XOp.loadO (i := 0)); (case hg | ht | hk | hx | hi | hc => exact rfl)) | ((with_reducible apply XOp.storeN (i := 1)); (case hg | ht | hx | hv' | hk | h1 | hi | hs | ha => exact rfl)) | (with_reducible apply XL.nilT) | (with_reducible apply XC.seq) | (with_reducible apply XC.region (Γ := Γ)) | (with_reducible apply XQ.ret) | (with_reducible apply XQ.exit) | (with_reducible apply XQ.nt) | (with_reducible apply XQ.et) | ((with_reducible apply XQ.eb); (case hb => exact rfl))))
  ((with_reducible apply XQ.retE); (case hr => exact .row rfl (by kernel_rfl) (by kernel_rfl) (own_row (i := 1) (m := 18) rfl rfl) .nil))
  rw [← hfL, ← hfM, hqL, hqF, hqH, hqM]
  refine ⟨RdB rb a12 c12 qM.2 :: (HH ++ Fm), .of (by ((try simp only [List.append_eq, List.cons_append, List.nil_append, List.append_assoc]); repeat (first | exact List.Sublist.refl _ | exact List.nil_sublist _ | (with_reducible apply List.Sublist.cons_cons) | (with_reducible apply List.Sublist.cons) | exact List.sublist_append_right _ _))), a12, c12, ⟨cf, e', (qT.1, at', ct'), (A, al, cl), f', h', (D, am, cm)⟩, HH ++ Fm, ?_, ?_, ?_, fun h hh => ?_, ?_⟩
  · simp only [LW.cells, sla, hqTl, hAn, hDn]; rfl
  · show (⟨cf, e'.mat, qT.1, A.map LL.lay, f'.1, h'.mat, D.map LM.mat⟩ : Wts) = _
    rw [he, hAl, hf, hh', hDl]
  · rfl
  · have q1 := hF1 h fun y hy => hh y (List.mem_append_left _ (hHH y (by simp [hGG y (List.mem_append_left _ (hFF y hy))])))
    have q2 := Held.frag sT (Mono.sl _ _ _ _ _) h fun y hy => hh y (List.mem_append_left _ (hHH y (by simp [hGG y (List.mem_append_right _ hy)])))
    have q3 := Held.frag sL (Mono.sl _ _ _ _ _) h fun y hy => hh y (List.mem_append_left _ (hHH y (by simp [hy])))
    have q4 := hG h fun y hy => hh y (List.mem_append_left _ (hHH y (by simp [hy])))
    have q5 := hF9 h fun y hy => hh y (List.mem_append_left _ (hHH y (by simp [hy])))
    have q6 := hF11 h fun y hy => hh y (List.mem_append_left _ (hHH y (by simp [hy])))
    have q7 := Held.frag sM (Mono.sl _ _ _ _ _) h fun y hy => hh y (List.mem_append_right _ hy)
    have q8 := hH h fun y hy => hh y (List.mem_append_left _ hy)
    exact ⟨q1, q2, SlA.ofRaw q3 q4, q5, q6, SlA.ofRaw q7 q8⟩
  · exact hw12
end Go.Proofs.YtppggaiahkecoaaDoorX
/- Are the shifts those that stand in the bytes? Of a file: yes. -/
namespace Go.Proofs.YtppggaiahkecoaaDoorX
open Go Go.SX

/-- Where the i-th layer's section begins. -/
def posL (x : LW) : Nat → Nat
  | 0 => 29 + x.E.d.1.length + 4 * x.T.1.length
  | i + 1 => posL x i + (match x.Ls.1[i]? with | some l => 5 + (layBody l.lay).length | none => 0)
def preL (x : LW) (i : Nat) : List Int := beginB ++ secB 67 (x.C.list.map toB) ++ secB 69 (x.E.d.1.map toB) ++ secB 84 (x.T.1.flatMap turnB) ++ (x.Ls.1.take i).flatMap (fun l => secB 76 (layBody l.lay))
theorem preL_len (x : LW) : ∀ i, i ≤ x.Ls.1.length → (preL x i).length = posL x i
  | 0, _ => by
    have h8 : x.C.list.length = 8 := rfl
    simp only [preL, posL, List.length_append, secB_len, beginB_len, List.length_map, turnsLen, List.take_zero, List.flatMap_nil, List.length_nil]; omega
  | i + 1, h => by
    obtain ⟨l, hl⟩ : ∃ l, x.Ls.1[i]? = some l := ⟨_, List.getElem?_eq_getElem (by omega)⟩
    have ih := preL_len x i (by omega)
    have e : preL x (i + 1) = preL x i ++ secB 76 (layBody l.lay) := inv_snoc hl _ _
    have e2 : posL x (i + 1) = posL x i + (5 + (layBody l.lay).length) := by conv => lhs; unfold posL; rw [hl]
    rw [e, List.length_append, ih, secB_len, e2]; omega
/-- The bytes are the file of these weights, up to what is behind the weights' sections. -/
def isFileOf (b : List Int) (x : LW) : Prop := ∃ tl, b = beginB ++ (secB 67 (x.C.list.map toB) ++ (wtsB x.w ++ tl))
theorem file_by {b : List Int} {x : LW} (hb : isFileOf b x) {i : Nat} {l : LL} (hi : x.Ls.1[i]? = some l) {k : Nat} (hk : k < 7) : b[posL x i + 5 + ((layBody l.lay).length - 7) + k]? = some (toB (l.by_.getD k 0)) := by
  obtain ⟨tl, rfl⟩ := hb
  have hsplit : x.Ls.1 = x.Ls.1.take i ++ l :: x.Ls.1.drop (i + 1) := by
    obtain ⟨hlt, rfl⟩ := List.getElem?_eq_some_iff.1 hi
    rw [← List.drop_eq_getElem_cons hlt, List.take_append_drop]
  have e : beginB ++ (secB 67 (x.C.list.map toB) ++ (wtsB x.w ++ tl)) = preL x i ++ (76 :: (numB (layBody l.lay).length 4 ++ (layBody l.lay ++ ((x.Ls.1.drop (i + 1)).flatMap (fun l => secB 76 (layBody l.lay)) ++ (secB 70 (x.F.1.map toB) ++ (secB 72 (x.H.d.1.map toB) ++ x.M.1.flatMap (fun m => secB 77 (m.d.1.map toB)))) ++ tl)))) := by
    have e2 : x.w.Layers.flatMap (fun l => secB 76 (layBody l)) = (x.Ls.1.take i).flatMap (fun l => secB 76 (layBody l.lay)) ++ (secB 76 (layBody l.lay) ++ (x.Ls.1.drop (i + 1)).flatMap (fun l => secB 76 (layBody l.lay))) := by
      show (x.Ls.1.map LL.lay).flatMap _ = _
      rw [List.flatMap_map]
      conv => lhs; rw [hsplit]
      rw [List.flatMap_append, List.flatMap_cons]
    unfold wtsB
    rw [e2]
    simp only [preL, secB, LW.w, LM.mat, Mat.bytes, List.flatMap_map, List.append_assoc, List.cons_append]
  have hil : i ≤ x.Ls.1.length := Nat.le_of_lt (List.getElem?_eq_some_iff.1 hi).1
  have hbl := layBody_sum l
  rw [e, List.getElem?_append_right (by rw [preL_len x i hil]; omega), preL_len x i hil]
  rw [show posL x i + 5 + ((layBody l.lay).length - 7) + k - posL x i = (4 + ((layBody l.lay).length - 7 + k)) + 1 by omega, List.getElem?_cons_succ]
  rw [List.getElem?_append_right (by rw [numB_len]; omega), numB_len, Nat.add_sub_cancel_left]
  rw [List.getElem?_append_left (by omega)]
  have e3 : layBody l.lay = (l.n1.1.map toB ++ l.n2.1.map toB ++ (mlist l).flatMap lvB) ++ l.by_.map toB := by simp [layBody, mlist, lvB, Mat.bytes, LL.lay, LM.mat]
  rw [e3, tail7 _ _ (by simp [LL.by_]), List.getElem?_map, List.getElem?_eq_getElem (show k < l.by_.length from hk), List.getD_eq_getElem?_getD, List.getElem?_eq_getElem (show k < l.by_.length from hk)]
  rfl
theorem posL_bnd {x : LW} (hok : okW x.w) : ∀ i, i ≤ x.Ls.1.length → posL x i ≤ 10000 + 40000 * i
  | 0, _ => by
    have sz := okW_sz hok
    have se : x.E.d.1.length ≤ 2048 := sz.e
    have st : x.T.1.length ≤ 16 := sz.t
    unfold posL; omega
  | i + 1, h => by
    have ih := posL_bnd hok i (by omega)
    obtain ⟨l, hl⟩ : ∃ l, x.Ls.1[i]? = some l := ⟨_, List.getElem?_eq_getElem (by omega)⟩
    have := (okW_sz hok).lb l.lay (List.mem_map.2 ⟨l, List.mem_of_getElem? hl, rfl⟩)
    unfold posL; rw [hl]; simp only; omega
def byL (l : LL) (i : Nat) : List Value := [zf i 0 l.b0, zf i 1 l.b1, zf i 2 l.b2, zf i 3 l.b3, zf i 4 l.b4, zf i 5 l.b5, zf i 6 l.b6]
set_option maxHeartbeats 16000000 in
set_option maxRecDepth 10000 in
theorem same_fn (b : List Int) (a : Option Addr) (c : Nat) (x : LW) (hok : okW x.w) (hf : isFileOf b x) : FC Tryd.prog 56 [.slice a b.length c, .agg ⟨x.cells⟩] [] (fun h => sidesK h ∧ byAt h b a c ∧ lwAt h x)
    (fun v L => v = .bool true ∧ L = []) := by
  refine FC.nil ?_
  refine FC.intro Tryd.func56 rfl (by kernel_rfl) 88 [.tmp 4] rfl rfl rfl ?_
  rintro w0 ⟨hS, hB, hA⟩
  have hcm : x.C.may := hok.c
  have sz := okW_sz hok
  have se : x.E.d.1.length ≤ 2048 := sz.e
  have st : x.T.1.length ≤ 16 := sz.t
  have sl : x.Ls.1.length ≤ 4 := by have := sz.l; change (x.Ls.1.map LL.lay).length ≤ 4 at this; rwa [List.length_map] at this
  have hL := hA.l.locRaw
  have hLa := hL.at_
  have hBa := hB.at_
  have hsm := hB.bytes
  have e0 : IntKind.i64.wrap (IntKind.i64.wrap (IntKind.i64.wrap (24 + (x.E.d.1.length : Int)) + 5) + IntKind.i64.wrap (4 * (x.T.1.length : Int))) = ((posL x 0 : Nat) : Int) := by
    rw [show IntKind.i64.wrap (24 + (x.E.d.1.length : Int)) = 24 + (x.E.d.1.length : Int) from wrap64_of (by omega) (by omega), show IntKind.i64.wrap (24 + (x.E.d.1.length : Int) + 5) = 24 + (x.E.d.1.length : Int) + 5 from wrap64_of (by omega) (by omega), show IntKind.i64.wrap (4 * (x.T.1.length : Int)) = 4 * (x.T.1.length : Int) from wrap64_of (by omega) (by omega), wrap64_of (by omega) (by omega)]
    unfold posL; omega
  (repeat (first | (with_reducible apply XL.op) | (with_reducible apply XC.seq) | (with_reducible apply XC.region (Γ := Γ))))
  ((with_reducible apply XOp.box); (case hg | hx' => exact rfl); intro xb)
  (repeat (first | (with_reducible apply XL.op) | ((with_reducible apply XOp.p1); (case hg | hv => exact rfl)) | ((with_reducible apply XOp.load); (case hg | ht | hk | hx => exact rfl); (case hc => exact own_cell (i := 0) rfl rfl)) | (with_reducible apply XL.nilT) | (with_reducible apply XC.seq) | (with_reducible apply XC.region (Γ := Γ)) | (with_reducible apply XC.block)))
  rw [e0]
  refine XC.loopP (fun k ρ L => ∃ i : Nat, i + k = x.Ls.1.length ∧ L = [(xb, Obj.cells ⟨x.cells⟩ 31 (0, 0))] ∧ Slots ρ [(0, .slice a b.length c), (3, .pointer (some ⟨xb, 0, none⟩)), (5, .int .i64 ((posL x i : Nat) : Int)), (25, .int .i64 x.Ls.1.length), (26, .int .i64 i)])
    x.Ls.1.length ⟨0, by simp, rfl, rfl, rfl, rfl, rfl, rfl, trivial⟩ ?_
  rintro k ρ L ⟨i, hik, rfl, hs⟩
  refine XC.slots _ hs ?_
  (repeat (first | (with_reducible apply XL.op) | ((with_reducible apply XOp.p1); (case hg | hv => exact rfl)) | (with_reducible apply XL.nilT) | (with_reducible apply XC.seq) | (with_reducible apply XC.region (Γ := Γ))))
  ((with_reducible apply XC.cond); (case hc => exact rfl); all_goals (intro hb_; try simp only [pd_true, pd_false, Bool.not_eq_true', Bool.not_eq_false', Bool.and_eq_true, Bool.and_eq_false_iff, Bool.or_eq_true, Bool.or_eq_false_iff, not_true_eq_false, not_false_eq_true, Int.not_lt, Int.not_le] at hb_))
  · obtain ⟨l, hi⟩ : ∃ l, x.Ls.1[i]? = some l := ⟨_, List.getElem?_eq_getElem (by omega)⟩
    have hl := hA.l.locAt (List.mem_of_getElem? hi)
    have hll := sz.lb l.lay (List.mem_map.2 ⟨l, List.mem_of_getElem? hi, rfl⟩)
    have hpb := posL_bnd hok i (by omega)
    have hpn : posL x (i + 1) = posL x i + (5 + (layBody l.lay).length) := by conv => lhs; unfold posL; rw [hi]
    have hby : ∀ k < 7, b[posL x i + 5 + ((layBody l.lay).length - 7) + k]? = some (toB (l.by_.getD k 0)) := fun k hk => file_by hf hi hk
    have hbr := (hok.l.2 l.lay (List.mem_map.2 ⟨l, List.mem_of_getElem? hi, rfl⟩)).by_.2
    have hsum := layBody_sum l
    have hR : rowv (oldv w0 (keys [])) (ablk x.Ls.2.1) (aoff x.Ls.2.1 + i * 30) l.cells := hL.rawAt hi
    (repeat (first | (with_reducible apply XL.op) | ((with_reducible apply XOp.p1); (case hg | hv => exact rfl)) | ((with_reducible apply XOp.load); (case hg | ht | hk | hx => exact rfl); (case hc => exact own_cell (i := 0) rfl rfl)) | ((with_reducible apply XOp.pr); (case hg => exact rfl); (case hr => ((with_reducible apply PR.idxA); (case ht | hk | he | hx | hi => exact rfl); (case hr => first | assumption | omega); (case ha => first | assumption | exact SlA.at_ (by assumption))))) | (with_reducible apply XL.nilT) | (with_reducible apply XC.seq) | (with_reducible apply XC.region (Γ := Γ)) | (with_reducible apply XQ.skip) | (with_reducible apply XQ.nt) | (with_reducible apply XC.block)))
    have hlo : aoff x.Ls.2.1 + ((i : Nat) : Int).toNat * 30 = aoff x.Ls.2.1 + i * 30 := rfl
    generalize hlp : ablk x.Ls.2.1 = lp at hR ⊢
    generalize aoff x.Ls.2.1 + i * 30 = lo at hR hlo
    generalize posL x i = p at *
    have hN0 : cellv (oldv w0 (keys [])) ⟨lp, lo + 0, none⟩ = some (slv l.n1) := hR 0 _ rfl
    have hN1 : cellv (oldv w0 (keys [])) ⟨lp, lo + 1, none⟩ = some (slv l.n2) := hR 1 _ rfl
    have q0 : cellv (oldv w0 (keys [])) ⟨lp, lo + 2 + 2, none⟩ = some (slv l.q.d) := hR 4 _ rfl
    have q1 : cellv (oldv w0 (keys [])) ⟨lp, lo + 5 + 2, none⟩ = some (slv l.k.d) := hR 7 _ rfl
    have q2 : cellv (oldv w0 (keys [])) ⟨lp, lo + 8 + 2, none⟩ = some (slv l.v.d) := hR 10 _ rfl
    have q3 : cellv (oldv w0 (keys [])) ⟨lp, lo + 11 + 2, none⟩ = some (slv l.o.d) := hR 13 _ rfl
    have q4 : cellv (oldv w0 (keys [])) ⟨lp, lo + 14 + 2, none⟩ = some (slv l.g.d) := hR 16 _ rfl
    have q5 : cellv (oldv w0 (keys [])) ⟨lp, lo + 17 + 2, none⟩ = some (slv l.u.d) := hR 19 _ rfl
    have q6 : cellv (oldv w0 (keys [])) ⟨lp, lo + 20 + 2, none⟩ = some (slv l.d.d) := hR 22 _ rfl
    have hBy : rowv (oldv w0 (keys [])) lp (lo + 23) (l.by_.map (Value.int .i64)) := rowv_sub hR 23 7
    have e1 : IntKind.i64.wrap ((p : Int) + IntKind.i64.wrap (IntKind.i64.wrap (5 + (l.n1.1.length : Int)) + (l.n2.1.length : Int))) = ((p + 5 + l.n1.1.length + l.n2.1.length : Nat) : Int) := by
      rw [show IntKind.i64.wrap (5 + (l.n1.1.length : Int)) = 5 + (l.n1.1.length : Int) from wrap64_of (by omega) (by omega), show IntKind.i64.wrap (5 + (l.n1.1.length : Int) + (l.n2.1.length : Int)) = 5 + (l.n1.1.length : Int) + (l.n2.1.length : Int) from wrap64_of (by omega) (by omega), wrap64_of (by omega) (by omega)]
      omega
    ((with_reducible apply XC.regionL (Γ := Γ) mixed (.q 0 (.q 1 (.q 2 (.q 3 (.q 4 (.q 5 (.q 6 (.q 7 (.q 8 (.q 9 (.q 10 (.q 11 (.q 12 (.q 13 (.q 14 (.done)))))))))))))))) [] ([])); (case hc => kernel_rfl); (case hs => first | exact List.nil_sublist _ | exact List.Sublist.refl _ | exact List.sublist_append_right _ _ | (refine List.Sublist.cons_cons _ (List.nil_sublist _)) | (refine List.Sublist.cons_cons _ (List.Sublist.cons_cons _ (List.nil_sublist _))) | (refine List.Sublist.cons_cons _ (List.Sublist.cons_cons _ (List.Sublist.cons_cons _ (List.nil_sublist _)))) | (refine List.Sublist.cons_cons _ (List.Sublist.cons_cons _ (List.Sublist.cons_cons _ (List.Sublist.cons_cons _ (List.nil_sublist _))))) | ((try simp only [List.append_eq, List.cons_append, List.nil_append, List.append_assoc]); (repeat (first | exact List.Sublist.refl _ | exact List.nil_sublist _ | (with_reducible apply List.Sublist.cons_cons) | (with_reducible apply List.Sublist.cons))); done)))
    (repeat (first | (with_reducible apply XL.op) | ((with_reducible apply XOp.p1); (case hg | hv => exact rfl)) | ((with_reducible apply XOp.loadO (i := 0)); (case hg | ht | hk | hx | hi | hc => exact rfl)) | (with_reducible apply XC.seq) | (with_reducible apply XC.region (Γ := Γ)) | (with_reducible apply XQ.nt) | ((with_reducible apply XP.p1); (case ho | hg | hv => exact rfl)) | (with_reducible apply XP.done) | (first | ((with_reducible apply XOp.load); (case hg | ht | hk | hx => exact rfl); (case hc => rw [hlo]; exact Known.of_old hN0 (Mono.cell _ _))) | ((with_reducible apply XP.load); (case ho | hg | ht | hk | hx => exact rfl); (case hc => rw [hlo]; exact Known.of_old hN0 (Mono.cell _ _)))) | (first | ((with_reducible apply XOp.load); (case hg | ht | hk | hx => exact rfl); (case hc => rw [hlo]; exact Known.of_old hN1 (Mono.cell _ _))) | ((with_reducible apply XP.load); (case ho | hg | ht | hk | hx => exact rfl); (case hc => rw [hlo]; exact Known.of_old hN1 (Mono.cell _ _))))))
    rw [e1]
    ((with_reducible apply XOp.call (hF := shapes_fn x.C hcm)); (case hg => exact rfl); (case hc => exact rfl); (case ha => exact rfl); (case hL => exact (List.nil_append _).symm); try (case hA => exact Known.true))
    case hA => exact Known.of_old hS sides_mono
    rintro _ _ ⟨sb, rfl, rfl⟩
    (repeat (first | (with_reducible apply XL.op) | ((with_reducible apply XOp.p1); (case hg | hv => exact rfl)) | (with_reducible apply XL.nilT) | (with_reducible apply XC.block)))
    have hms : ∀ j, sumL ((mlist l).take j) ≤ sumL (mlist l) := fun j => sumL_le _ _
    have hmt : sumL (mlist l) = l.q.d.1.length + l.k.d.1.length + l.v.d.1.length + l.o.d.1.length + l.g.d.1.length + l.u.d.1.length + l.d.d.1.length := by simp [sumL, mlist, lvB]; omega
    refine XC.loopP (fun k2 ρ L => ∃ j : Nat, j + k2 = 7 ∧ L = [(sb, Obj.cells ⟨shC x.C 7⟩ 80 (0, 0)), (xb, Obj.cells ⟨x.cells⟩ 31 (0, 0))] ∧ Slots ρ [(0, .slice a b.length c), (3, .pointer (some ⟨xb, 0, none⟩)), (7, .pointer (some ⟨lp, lo, none⟩)), (25, .int .i64 x.Ls.1.length), (26, .int .i64 i), (5, .int .i64 ((p + 5 + l.n1.1.length + l.n2.1.length + sumL ((mlist l).take j) : Nat) : Int)), (49, .slice (some ⟨sb, 0, none⟩) 7 7), (50, .int .i64 7), (51, .int .i64 j)])
      7 ⟨0, by simp, rfl, rfl, rfl, (by show Value.pointer _ = _; rw [hlo]), rfl, rfl, rfl, rfl, rfl, rfl, trivial⟩ ?_
    rintro k2 ρ L ⟨j, hjk, rfl, hs2⟩
    refine XC.slots _ hs2 ?_
    (repeat (first | (with_reducible apply XL.op) | ((with_reducible apply XOp.p1); (case hg | hv => exact rfl)) | (with_reducible apply XL.nilT) | (with_reducible apply XC.seq) | (with_reducible apply XC.region (Γ := Γ))))
    ((with_reducible apply XC.cond); (case hc => exact rfl); all_goals (intro hb_; try simp only [pd_true, pd_false, Bool.not_eq_true', Bool.not_eq_false', Bool.and_eq_true, Bool.and_eq_false_iff, Bool.or_eq_true, Bool.or_eq_false_iff, not_true_eq_false, not_false_eq_true, Int.not_lt, Int.not_le] at hb_))
    · have e2 : ∀ j y, (mlist l)[j]? = some y → IntKind.i64.wrap (((p + 5 + l.n1.1.length + l.n2.1.length + sumL ((mlist l).take j) : Nat) : Int) + (y.1.length : Int)) = ((p + 5 + l.n1.1.length + l.n2.1.length + sumL ((mlist l).take (j + 1)) : Nat) : Int) := fun j y hy => by
        have h1 := sumL_take hy
        have h2 := hms (j + 1)
        rw [h1] at h2
        rw [wrap64_of (by omega) (by omega), h1]; omega
      rcases (by omega : j = 0 ∨ j = 1 ∨ j = 2 ∨ j = 3 ∨ j = 4 ∨ j = 5 ∨ j = 6) with rfl | rfl | rfl | rfl | rfl | rfl | rfl
      all_goals (repeat (first | (with_reducible apply XL.op) | ((with_reducible apply XOp.p1); (case hg | hv => exact rfl)) | ((with_reducible apply XOp.loadO (i := 0)); (case hg | ht | hk | hx | hi | hc => exact rfl)) | (with_reducible apply XC.seq) | (with_reducible apply XC.region (Γ := Γ)) | (with_reducible apply XQ.skip) | (with_reducible apply XQ.nt) | (with_reducible apply XC.block)))
      all_goals ((with_reducible apply XOp.alloc); (case hg | ht | hx' => exact rfl); intro zb)
      all_goals (repeat (first | (with_reducible apply XL.op) | ((with_reducible apply XOp.p1); (case hg | hv => exact rfl)) | ((with_reducible apply XOp.load); (case hg | ht | hk | hx => exact rfl); (case hc => exact own_cell (i := 0) rfl rfl)) | ((with_reducible apply XOp.storeN (i := 0)); (case hg | ht | hx | hv' | hk | h1 | hi | hs | ha => exact rfl)) | (with_reducible apply XL.nilT) | (with_reducible apply XC.region (Γ := Γ)) | (with_reducible apply XL.nilQ) | (with_reducible apply XQ.nt) | (with_reducible apply XQ.nb) | (((with_reducible apply XOp.callQ (hF := shape1_fn lp lo)); (case hg => exact rfl); (case hc => exact rfl); (case ha => exact rfl); try (case hA => exact Known.true)); rintro _ rfl) | (((with_reducible apply XOp.callQ (hF := shape2_fn lp lo)); (case hg => exact rfl); (case hc => exact rfl); (case ha => exact rfl); try (case hA => exact Known.true)); rintro _ rfl) | (((with_reducible apply XOp.callQ (hF := shape3_fn lp lo)); (case hg => exact rfl); (case hc => exact rfl); (case ha => exact rfl); try (case hA => exact Known.true)); rintro _ rfl) | (((with_reducible apply XOp.callQ (hF := shape4_fn lp lo)); (case hg => exact rfl); (case hc => exact rfl); (case ha => exact rfl); try (case hA => exact Known.true)); rintro _ rfl) | (((with_reducible apply XOp.callQ (hF := shape5_fn lp lo)); (case hg => exact rfl); (case hc => exact rfl); (case ha => exact rfl); try (case hA => exact Known.true)); rintro _ rfl) | (((with_reducible apply XOp.callQ (hF := shape6_fn lp lo)); (case hg => exact rfl); (case hc => exact rfl); (case ha => exact rfl); try (case hA => exact Known.true)); rintro _ rfl) | (((with_reducible apply XOp.callQ (hF := shape7_fn lp lo)); (case hg => exact rfl); (case hc => exact rfl); (case ha => exact rfl); try (case hA => exact Known.true)); rintro _ rfl) | (first | ((with_reducible apply XOp.load); (case hg | ht | hk | hx => exact rfl); (case hc => exact Known.of_old q0 (Mono.cell _ _))) | ((with_reducible apply XP.load); (case ho | hg | ht | hk | hx => exact rfl); (case hc => exact Known.of_old q0 (Mono.cell _ _)))) | (first | ((with_reducible apply XOp.load); (case hg | ht | hk | hx => exact rfl); (case hc => exact Known.of_old q1 (Mono.cell _ _))) | ((with_reducible apply XP.load); (case ho | hg | ht | hk | hx => exact rfl); (case hc => exact Known.of_old q1 (Mono.cell _ _)))) | (first | ((with_reducible apply XOp.load); (case hg | ht | hk | hx => exact rfl); (case hc => exact Known.of_old q2 (Mono.cell _ _))) | ((with_reducible apply XP.load); (case ho | hg | ht | hk | hx => exact rfl); (case hc => exact Known.of_old q2 (Mono.cell _ _)))) | (first | ((with_reducible apply XOp.load); (case hg | ht | hk | hx => exact rfl); (case hc => exact Known.of_old q3 (Mono.cell _ _))) | ((with_reducible apply XP.load); (case ho | hg | ht | hk | hx => exact rfl); (case hc => exact Known.of_old q3 (Mono.cell _ _)))) | (first | ((with_reducible apply XOp.load); (case hg | ht | hk | hx => exact rfl); (case hc => exact Known.of_old q4 (Mono.cell _ _))) | ((with_reducible apply XP.load); (case ho | hg | ht | hk | hx => exact rfl); (case hc => exact Known.of_old q4 (Mono.cell _ _)))) | (first | ((with_reducible apply XOp.load); (case hg | ht | hk | hx => exact rfl); (case hc => exact Known.of_old q5 (Mono.cell _ _))) | ((with_reducible apply XP.load); (case ho | hg | ht | hk | hx => exact rfl); (case hc => exact Known.of_old q5 (Mono.cell _ _)))) | (first | ((with_reducible apply XOp.load); (case hg | ht | hk | hx => exact rfl); (case hc => exact Known.of_old q6 (Mono.cell _ _))) | ((with_reducible apply XP.load); (case ho | hg | ht | hk | hx => exact rfl); (case hc => exact Known.of_old q6 (Mono.cell _ _))))))
      all_goals first | exact ⟨k2 - 1, by omega, _, .of (List.sublist_cons_self _ _), 1, by omega, rfl, rfl, rfl, rfl, rfl, rfl, congrArg (Value.int .i64) (e2 0 l.q.d rfl), rfl, rfl, intS2 (i := 0) (m := 7) (by omega) (by omega), trivial⟩ | exact ⟨k2 - 1, by omega, _, .of (List.sublist_cons_self _ _), 2, by omega, rfl, rfl, rfl, rfl, rfl, rfl, congrArg (Value.int .i64) (e2 1 l.k.d rfl), rfl, rfl, intS2 (i := 1) (m := 7) (by omega) (by omega), trivial⟩ | exact ⟨k2 - 1, by omega, _, .of (List.sublist_cons_self _ _), 3, by omega, rfl, rfl, rfl, rfl, rfl, rfl, congrArg (Value.int .i64) (e2 2 l.v.d rfl), rfl, rfl, intS2 (i := 2) (m := 7) (by omega) (by omega), trivial⟩ | exact ⟨k2 - 1, by omega, _, .of (List.sublist_cons_self _ _), 4, by omega, rfl, rfl, rfl, rfl, rfl, rfl, congrArg (Value.int .i64) (e2 3 l.o.d rfl), rfl, rfl, intS2 (i := 3) (m := 7) (by omega) (by omega), trivial⟩ | exact ⟨k2 - 1, by omega, _, .of (List.sublist_cons_self _ _), 5, by omega, rfl, rfl, rfl, rfl, rfl, rfl, congrArg (Value.int .i64) (e2 4 l.g.d rfl), rfl, rfl, intS2 (i := 4) (m := 7) (by omega) (by omega), trivial⟩ | exact ⟨k2 - 1, by omega, _, .of (List.sublist_cons_self _ _), 6, by omega, rfl, rfl, rfl, rfl, rfl, rfl, congrArg (Value.int .i64) (e2 5 l.u.d rfl), rfl, rfl, intS2 (i := 5) (m := 7) (by omega) (by omega), trivial⟩ | exact ⟨k2 - 1, by omega, _, .of (List.sublist_cons_self _ _), 7, by omega, rfl, rfl, rfl, rfl, rfl, rfl, congrArg (Value.int .i64) (e2 6 l.d.d rfl), rfl, rfl, intS2 (i := 6) (m := 7) (by omega) (by omega), trivial⟩
    obtain rfl : j = 7 := by omega
    clear hs2 hjk
    have hm7 : (mlist l).take 7 = mlist l := rfl
    rw [hm7]
    refine XC.subl (L' := [(xb, Obj.cells ⟨x.cells⟩ 31 (0, 0))]) (List.sublist_cons_self _ _) ?_
    (repeat (first | (with_reducible apply XL.op) | (with_reducible apply XC.seq) | (with_reducible apply XC.region (Γ := Γ)) | (with_reducible apply XQ.exit) | (with_reducible apply XQ.nt) | (with_reducible apply XQ.et) | ((with_reducible apply XQ.eb); (case hb => exact rfl))))
    ((with_reducible apply XOp.alloc); (case hg | ht | hx' => exact rfl); intro yb)
    (repeat (first | (with_reducible apply XL.op) | ((with_reducible apply XOp.p1); (case hg | hv => exact rfl)) | (with_reducible apply XL.nilT) | (with_reducible apply XC.seq) | (with_reducible apply XC.region (Γ := Γ)) | (with_reducible apply XC.block)))
    have hq : p + 5 + l.n1.1.length + l.n2.1.length + sumL (mlist l) = p + 5 + ((layBody l.lay).length - 7) := by omega
    rw [hq]
    refine XC.loopP (fun k2 ρ L => ∃ kk : Nat, kk + k2 = 7 ∧ L = [(yb, Obj.cells ⟨byL l kk⟩ 65 (0, 0)), (xb, Obj.cells ⟨x.cells⟩ 31 (0, 0))] ∧ Slots ρ [(0, .slice a b.length c), (3, .pointer (some ⟨xb, 0, none⟩)), (7, .pointer (some ⟨lp, lo, none⟩)), (25, .int .i64 x.Ls.1.length), (26, .int .i64 i), (5, .int .i64 ((p + 5 + ((layBody l.lay).length - 7) : Nat) : Int)), (10, .pointer (some ⟨yb, 0, none⟩)), (66, .int .i64 kk)])
      7 ⟨0, by simp, rfl, rfl, rfl, rfl, rfl, rfl, rfl, rfl, rfl, trivial⟩ ?_
    rintro k2 ρ L ⟨kk, hkk, rfl, hs3⟩
    refine XC.slots _ hs3 ?_
    (repeat (first | (with_reducible apply XL.op) | ((with_reducible apply XOp.p1); (case hg | hv => exact rfl)) | (with_reducible apply XL.nilT) | (with_reducible apply XC.seq) | (with_reducible apply XC.region (Γ := Γ))))
    ((with_reducible apply XC.cond); (case hc => exact rfl); all_goals (intro hb_; try simp only [pd_true, pd_false, Bool.not_eq_true', Bool.not_eq_false', Bool.and_eq_true, Bool.and_eq_false_iff, Bool.or_eq_true, Bool.or_eq_false_iff, not_true_eq_false, not_false_eq_true, Int.not_lt, Int.not_le] at hb_))
    · have hk := hby kk (by omega)
      have hlt := (List.getElem?_eq_some_iff.1 hk).1
      have e3 : IntKind.i64.wrap (((p + 5 + ((layBody l.lay).length - 7) : Nat) : Int) + (kk : Int)) = ((p + 5 + ((layBody l.lay).length - 7) + kk : Nat) : Int) := by rw [wrap64_of (by omega) (by omega)]; omega
      have hcell := (hB.int (p + 5 + ((layBody l.lay).length - 7) + kk) hlt).1
      rw [hk] at hcell
      have hv : IntKind.i64.wrap (toB (l.by_.getD kk 0)) = l.by_.getD kk 0 := by
        have := hbr _ (by_mem l (j := kk) (by omega))
        have e : toB (l.by_.getD kk 0) = l.by_.getD kk 0 := by unfold toB; omega
        rw [e]; exact wrap64_of (by omega) (by omega)
      (repeat (first | (with_reducible apply XL.op) | ((with_reducible apply XOp.p1); (case hg | hv => exact rfl)) | ((with_reducible apply XOp.pr); (case hg => exact rfl); (case hr => ((with_reducible apply PR.idxA); (case ht | hk | he | hx | hi => exact rfl); (case hr => first | assumption | omega); (case ha => first | assumption | exact SlA.at_ (by assumption))))) | (with_reducible apply XL.nilT) | (with_reducible apply XC.seq) | (with_reducible apply XC.region (Γ := Γ)) | (with_reducible apply XQ.skip) | (with_reducible apply XQ.nt) | (with_reducible apply XC.block)))
      rw [e3]
      have hlen2 : (0 : Int) ≤ ((p + 5 + ((layBody l.lay).length - 7) + kk : Nat) : Int) ∧ ((p + 5 + ((layBody l.lay).length - 7) + kk : Nat) : Int) < ((b.length : Nat) : Int) := by omega
      rcases (by omega : kk = 0 ∨ kk = 1 ∨ kk = 2 ∨ kk = 3 ∨ kk = 4 ∨ kk = 5 ∨ kk = 6) with rfl | rfl | rfl | rfl | rfl | rfl | rfl
      all_goals (repeat (first | (with_reducible apply XL.op) | ((with_reducible apply XOp.p1); (case hg | hv => exact rfl)) | ((with_reducible apply XOp.store (i := 0)); (case hg | ht | hk | hx | hv | h1 | hi | hs | ha => exact rfl)) | (with_reducible apply XL.nilT) | (with_reducible apply XC.region (Γ := Γ)) | (with_reducible apply XL.nilQ) | (with_reducible apply XQ.nt) | (with_reducible apply XQ.nb) | (first | ((with_reducible apply XOp.load); (case hg | ht | hk | hx => exact rfl); (case hc => exact Known.of_old hcell (Mono.cell _ _))) | ((with_reducible apply XP.load); (case ho | hg | ht | hk | hx => exact rfl); (case hc => exact Known.of_old hcell (Mono.cell _ _))))))
      all_goals simp only [Option.getD_some, hv]
      all_goals first | exact ⟨k2 - 1, by omega, _, .of (List.Sublist.refl _), 1, by omega, rfl, rfl, rfl, rfl, rfl, rfl, rfl, rfl, intS2 (i := 0) (m := 7) (by omega) (by omega), trivial⟩ | exact ⟨k2 - 1, by omega, _, .of (List.Sublist.refl _), 2, by omega, rfl, rfl, rfl, rfl, rfl, rfl, rfl, rfl, intS2 (i := 1) (m := 7) (by omega) (by omega), trivial⟩ | exact ⟨k2 - 1, by omega, _, .of (List.Sublist.refl _), 3, by omega, rfl, rfl, rfl, rfl, rfl, rfl, rfl, rfl, intS2 (i := 2) (m := 7) (by omega) (by omega), trivial⟩ | exact ⟨k2 - 1, by omega, _, .of (List.Sublist.refl _), 4, by omega, rfl, rfl, rfl, rfl, rfl, rfl, rfl, rfl, intS2 (i := 3) (m := 7) (by omega) (by omega), trivial⟩ | exact ⟨k2 - 1, by omega, _, .of (List.Sublist.refl _), 5, by omega, rfl, rfl, rfl, rfl, rfl, rfl, rfl, rfl, intS2 (i := 4) (m := 7) (by omega) (by omega), trivial⟩ | exact ⟨k2 - 1, by omega, _, .of (List.Sublist.refl _), 6, by omega, rfl, rfl, rfl, rfl, rfl, rfl, rfl, rfl, intS2 (i := 5) (m := 7) (by omega) (by omega), trivial⟩ | exact ⟨k2 - 1, by omega, _, .of (List.Sublist.refl _), 7, by omega, rfl, rfl, rfl, rfl, rfl, rfl, rfl, rfl, intS2 (i := 6) (m := 7) (by omega) (by omega), trivial⟩
    obtain rfl : kk = 7 := by omega
    clear hs3 hkk
    have e4 : IntKind.i64.wrap (((p + 5 + ((layBody l.lay).length - 7) : Nat) : Int) + 7) = ((posL x (i + 1) : Nat) : Int) := by
      rw [wrap64_of (by omega) (by omega), hpn]; omega
    (repeat (first | (with_reducible apply XC.seq) | (with_reducible apply XQ.exit) | (with_reducible apply XQ.nt) | (with_reducible apply XQ.et) | ((with_reducible apply XQ.eb); (case hb => exact rfl))))
    ((with_reducible apply XC.regionD (Γ := Γ) mixed (.q 0 (.q 1 (.q 2 (.q 3 (.q 4 (.q 5 (.done))))))) [] []); (case hc => kernel_rfl))
    (repeat (first | (with_reducible apply XL.op) | ((with_reducible apply XOp.p1); (case hg | hv => exact rfl)) | (with_reducible apply XL.nilT) | (with_reducible apply XC.region (Γ := Γ)) | (with_reducible apply XL.nilQ) | (with_reducible apply XQ.skip) | (with_reducible apply XQ.nt) | (with_reducible apply XQ.nb) | ((with_reducible apply XP.p1); (case ho | hg | hv => exact rfl)) | ((with_reducible apply XP.loadO (j := 0)); (case ho | hg | ht | hk | hx | hi | hc => exact rfl)) | (with_reducible apply XP.done) | (first | ((with_reducible apply XOp.loadN); (case hg | ht | hk | hx => exact rfl); (case hc => exact Known.of_old hBy (Mono.row _ _ _)); (case hl => exact rfl)) | ((with_reducible apply XP.loadN); (case ho | hg | ht | hk | hx => exact rfl); (case hc => exact Known.of_old hBy (Mono.row _ _ _)); (case hl => exact rfl))) | ((with_reducible apply XP.pr); (case ho => exact rfl); (case hg => exact rfl); (case hr => exact PR.neqArr (xs := l.by_) (ys := l.by_) (by kernel_rfl) rfl rfl rfl rfl rfl ⟨rfl, rfl⟩ rfl rfl)) | (first | ((with_reducible apply XOp.split); (case hg | hj | hd | hb => exact rfl); (fail_if_success (case hf => exact fun h => Bool.noConfusion h)); (fail_if_success (case ht => exact fun h => Bool.noConfusion h)); (first | (case ht => intro hb_; try simp only [pd_true, pd_false, Bool.not_eq_true', Bool.not_eq_false', Bool.and_eq_true, Bool.and_eq_false_iff, Bool.or_eq_true, Bool.or_eq_false_iff, not_true_eq_false, not_false_eq_true, Int.not_lt, Int.not_le] at hb_; first | done | (exfalso; first | omega | contradiction)) | (case hf => intro hb_; try simp only [pd_true, pd_false, Bool.not_eq_true', Bool.not_eq_false', Bool.and_eq_true, Bool.and_eq_false_iff, Bool.or_eq_true, Bool.or_eq_false_iff, not_true_eq_false, not_false_eq_true, Int.not_lt, Int.not_le] at hb_; first | done | (exfalso; first | omega | contradiction))); intro hb_; try simp only [pd_true, pd_false, Bool.not_eq_true', Bool.not_eq_false', Bool.and_eq_true, Bool.and_eq_false_iff, Bool.or_eq_true, Bool.or_eq_false_iff, not_true_eq_false, not_false_eq_true, Int.not_lt, Int.not_le] at hb_) | ((with_reducible apply XP.split); (case ho | hg | hj | hd | hb => exact rfl); (fail_if_success (case hf => exact fun h => Bool.noConfusion h)); (fail_if_success (case ht => exact fun h => Bool.noConfusion h)); (first | (case ht => intro hb_; try simp only [pd_true, pd_false, Bool.not_eq_true', Bool.not_eq_false', Bool.and_eq_true, Bool.and_eq_false_iff, Bool.or_eq_true, Bool.or_eq_false_iff, not_true_eq_false, not_false_eq_true, Int.not_lt, Int.not_le] at hb_; first | done | (exfalso; first | omega | contradiction)) | (case hf => intro hb_; try simp only [pd_true, pd_false, Bool.not_eq_true', Bool.not_eq_false', Bool.and_eq_true, Bool.and_eq_false_iff, Bool.or_eq_true, Bool.or_eq_false_iff, not_true_eq_false, not_false_eq_true, Int.not_lt, Int.not_le] at hb_; first | done | (exfalso; first | omega | contradiction))); intro hb_; try simp only [pd_true, pd_false, Bool.not_eq_true', Bool.not_eq_false', Bool.and_eq_true, Bool.and_eq_false_iff, Bool.or_eq_true, Bool.or_eq_false_iff, not_true_eq_false, not_false_eq_true, Int.not_lt, Int.not_le] at hb_) | ((with_reducible apply XC.cond); (case hc => exact rfl); (first | (case ht => intro hb_; try simp only [pd_true, pd_false, Bool.not_eq_true', Bool.not_eq_false', Bool.and_eq_true, Bool.and_eq_false_iff, Bool.or_eq_true, Bool.or_eq_false_iff, not_true_eq_false, not_false_eq_true, Int.not_lt, Int.not_le] at hb_; first | done | (exfalso; first | omega | contradiction)) | (case hf => intro hb_; try simp only [pd_true, pd_false, Bool.not_eq_true', Bool.not_eq_false', Bool.and_eq_true, Bool.and_eq_false_iff, Bool.or_eq_true, Bool.or_eq_false_iff, not_true_eq_false, not_false_eq_true, Int.not_lt, Int.not_le] at hb_; first | done | (exfalso; first | omega | contradiction))); intro hb_; try simp only [pd_true, pd_false, Bool.not_eq_true', Bool.not_eq_false', Bool.and_eq_true, Bool.and_eq_false_iff, Bool.or_eq_true, Bool.or_eq_false_iff, not_true_eq_false, not_false_eq_true, Int.not_lt, Int.not_le] at hb_))))
    exact ⟨k - 1, by omega, _, .of (List.sublist_cons_self _ _), i + 1, by omega, rfl, rfl, rfl, congrArg (Value.int .i64) e4, rfl, intS2 (m := x.Ls.1.length) (by omega) (by omega), trivial⟩
  (repeat (first | (with_reducible apply XL.op) | ((with_reducible apply XOp.p1); (case hg | hv => exact rfl)) | (with_reducible apply XL.nilT) | (with_reducible apply XC.seq) | (with_reducible apply XC.region (Γ := Γ)) | (with_reducible apply XQ.ret) | (with_reducible apply XQ.exit) | (with_reducible apply XQ.nt) | (with_reducible apply XQ.et) | ((with_reducible apply XQ.eb); (case hb => exact rfl))))
  ((with_reducible apply XQ.retE); (case hr => exact .t rfl .nil))
  rfl
end Go.Proofs.YtppggaiahkecoaaDoorX
/- The program's Decode. -/
namespace Go.Proofs.YtppggaiahkecoaaDoorX
open Go Go.SX

def zeroLW : LW := ⟨⟨0, 0, 0, 0, 0, 0, 0, 0⟩, zmat, ([], none, 0), ([], none, 0), zlv, zmat, ([], none, 0)⟩
theorem slA_nil {α : Type} {d : Kd α} {by_ : Nat} {h : HV} : SlA d by_ h [] none 0 := ⟨by simp, by simp, fun _ => rfl, fun h => absurd h (by simp), fun i x h => by simp at h⟩
theorem zeroLW_at (h : HV) : lwAt h zeroLW := ⟨slA_nil, slA_nil, slA_nil, slA_nil, slA_nil, slA_nil⟩
noncomputable def errD (b : List Int) : Int := match decS digS b with | some _ => 0 | none => 42
noncomputable def decW (b : List Int) : Wts := match decS digS b with | some w => w | none => zeroLW.w
def DecR (b : List Int) (v : Value) (L : HL) : Prop := ∃ x : LW, v = .tuple #[.agg ⟨x.cells⟩, .int .i64 (errD b)] ∧ x.w = decW b ∧ Held L (fun h => lwAt h x)
theorem decR_none {b : List Int} (h : decS digS b = none) : DecR b (.tuple #[.agg ⟨zeroW⟩, .int .i64 42]) [] :=
  ⟨zeroLW, by unfold errD; rw [h]; rfl, by unfold decW; rw [h], fun h _ => zeroLW_at h⟩
theorem decR_some {b : List Int} {x : LW} {L : HL} (h : decS digS b = some x.w) (hx : Held L (fun h => lwAt h x)) : DecR b (.tuple #[.agg ⟨x.cells⟩, .int .i64 0]) L :=
  ⟨x, by unfold errD; rw [h], by unfold decW; rw [h], hx⟩
/-! ### A step of the reader leaves no more than there was -/
def Shr {α : Type} (f : RS → α × RS) : Prop := ∀ r, (f r).2.rest.length ≤ r.rest.length
theorem shr_take (n : Nat) : Shr (fun r => takeS r n) := fun r => by
  show (takeS r n).2.rest.length ≤ _
  unfold takeS; split
  · exact Nat.le_refl _
  · show (r.rest.drop n).length ≤ _; rw [List.length_drop]; omega
theorem shr_open (r : RS) (letter n : Int) : (openS r letter n).rest.length ≤ r.rest.length := by
  unfold openS; split <;> exact shr_take 5 r
theorem shr_narrow (n : Nat) : Shr (fun r => narrowS r n) := fun r => shr_take n r
theorem shr_mat (rows cols : Int) : Shr (fun r => matS r rows cols) := fun r => shr_take _ r
theorem shr_iter {α : Type} {f : RS → α × RS} (h : Shr f) : ∀ n, Shr (iterS f n)
  | 0 => fun _ => Nat.le_refl _
  | n + 1 => fun r => Nat.le_trans (shr_iter h n (f r).2) (h r)
theorem shr_sec {α : Type} {f : RS → α × RS} (h : Shr f) (letter n : Int) : Shr (secS f letter n) := fun r => Nat.le_trans (h _) (shr_open r letter n)
theorem shr_turn : Shr turnS := fun r => shr_take 4 r
theorem shr_lay (c : Cfg) : Shr (layF c) := fun r =>
  Nat.le_trans (shr_take 7 _) (Nat.le_trans (shr_mat _ _ _) (Nat.le_trans (shr_mat _ _ _) (Nat.le_trans (shr_mat _ _ _) (Nat.le_trans (shr_mat _ _ _) (Nat.le_trans (shr_mat _ _ _) (Nat.le_trans (shr_mat _ _ _) (Nat.le_trans (shr_mat _ _ _) (Nat.le_trans (shr_narrow _ _) (shr_narrow _ r)))))))))
theorem shr_weights (c : Cfg) : Shr (weightsS c) := fun r =>
  Nat.le_trans (shr_iter (shr_sec (shr_mat _ _) _ _) _ _) (Nat.le_trans (shr_sec (shr_mat _ _) _ _ _) (Nat.le_trans (shr_sec (shr_narrow _) _ _ _) (Nat.le_trans (shr_iter (shr_sec (shr_lay _) _ _) _ _) (Nat.le_trans (shr_sec (shr_iter shr_turn _) _ _ _) (shr_sec (shr_mat _ _) _ _ r)))))
theorem strOf_begin {xs : List Int} (hl : xs.length = 6) (hb : isB xs) : strOf xs = ⟨#[97, 117, 103, 117, 114, 1]⟩ ↔ xs = beginB := by
  obtain ⟨x0, x1, x2, x3, x4, x5, rfl⟩ := len6 hl
  have b0 := hb x0 (by simp); have b1 := hb x1 (by simp); have b2 := hb x2 (by simp); have b3 := hb x3 (by simp); have b4 := hb x4 (by simp); have b5 := hb x5 (by simp)
  have key : ∀ (x : Int) (n : Nat), 0 ≤ x ∧ x ≤ 255 → n < 256 → (UInt8.ofNat x.toNat = UInt8.ofNat n ↔ x = n) := fun x n hx hn => by
    constructor
    · intro h
      have h2 := congrArg UInt8.toNat h
      simp only [UInt8.toNat_ofNat'] at h2
      omega
    · rintro rfl; rw [Int.toNat_natCast]
  constructor
  · intro h
    have h2 := congrArg (fun b : ByteArray => b.data.toList) h
    simp only [strOf, List.map_cons, List.map_nil, List.cons.injEq, and_true] at h2
    obtain ⟨c0, c1, c2, c3, c4, c5⟩ := h2
    rw [beginB, (key x0 97 b0 (by omega)).1 c0, (key x1 117 b1 (by omega)).1 c1, (key x2 103 b2 (by omega)).1 c2, (key x3 117 b3 (by omega)).1 c3, (key x4 114 b4 (by omega)).1 c4, (key x5 1 b5 (by omega)).1 c5]
    rfl
  · intro h
    simp only [beginB, List.cons.injEq, and_true] at h
    obtain ⟨rfl, rfl, rfl, rfl, rfl, rfl⟩ := h
    rfl
theorem decS_1 {D : List Int → Int} {b : List Int} {t : List Int × RS} (ht : takeS ⟨b, false⟩ 6 = t) (h : t.1 ≠ beginB) : decS D b = none := by
  subst ht; unfold decS; simp only []; rw [if_pos h]
theorem decS_2 {D : List Int → Int} {b : List Int} {t m : List Int × RS} (ht : takeS ⟨b, false⟩ 6 = t) (h : t.1 = beginB) (hm : takeS (openS t.2 67 8) 8 = m) (h2 : m.2.bad = true ∨ ¬ (cfgOf m.1).may) : decS D b = none := by
  subst ht; subst hm; unfold decS; simp only []; rw [if_neg (fun hn => hn h), if_pos h2]
/-- What makes the end bad. -/
def badEnd (D : List Int → Int) (b : List Int) (w : Wts × RS) (z : List Int × RS) : Prop := valB z.1 ≠ D (b.take (b.length - w.2.rest.length)) ∨ z.2.bad = true ∨ z.2.rest ≠ [] ∨ ¬ okW w.1
theorem decS_3 {D : List Int → Int} {b : List Int} {t m : List Int × RS} {w : Wts × RS} {z : List Int × RS} (ht : takeS ⟨b, false⟩ 6 = t) (h : t.1 = beginB) (hm : takeS (openS t.2 67 8) 8 = m) (h2 : m.2.bad = false) (h3 : (cfgOf m.1).may) (hw : weightsS (cfgOf m.1) m.2 = w) (hz : takeS (openS w.2 90 8) 8 = z) :
    (badEnd D b w z → decS D b = none) ∧ (¬ badEnd D b w z → decS D b = some w.1) := by
  subst ht; subst hm; subst hw; subst hz
  unfold decS; simp only []; rw [if_neg (fun hn => hn h), if_neg (by rintro (hh | hh); rw [h2] at hh; cases hh; exact hh h3)]
  exact ⟨fun hb => if_pos hb, fun hb => if_neg hb⟩
theorem digestN_fn (l : List Int) (a : Option Addr) (cap : Nat) {n : Nat} (hn : l.length = n) : FC Tryd.prog 35 [.slice a n cap] [] (fun h => SlA (Kd.int .u8) 1 h l a cap)
    (fun v L => v = .int .u64 (digS l) ∧ L = []) := hn ▸ digest_fn l a cap
theorem valueN_fn (l : List Int) (a : Option Addr) (cap : Nat) {n : Nat} (hn : l.length = n) (h8 : n ≤ 8) : FC Tryd.prog 55 [.slice a n cap] [] (fun h => byAt h l a cap)
    (fun v L => v = .int .u64 (valB l) ∧ L = []) := by subst hn; exact value_fn l a cap h8
set_option maxHeartbeats 16000000 in
set_option maxRecDepth 10000 in
theorem decode_fn (b : List Int) (a : Option Addr) (c : Nat) : FC Tryd.prog 22 [.slice a b.length c] [] (fun h => sidesK h ∧ byAt h b a c)
    (fun v L => DecR b v L) := by
  refine FC.sub2 ?_
  refine FC.intro Tryd.func22 rfl (by kernel_rfl) 112 [.cell 2 31, .tmp 3] rfl rfl rfl ?_
  rintro w0 ⟨hS, hB⟩
  have hsm := hB.bytes
  have hbB : isB b := fun y hy => inK_u8.1 (hB.okAll y hy)
  (repeat (first | (with_reducible apply XL.op) | (with_reducible apply XC.seq) | (with_reducible apply XC.region (Γ := Γ))))
  ((with_reducible apply XOp.alloc); (case hg | ht | hx' => exact rfl); intro ws)
  (repeat (first | (with_reducible apply XL.op) | ((with_reducible apply XOp.p1); (case hg | hv => exact rfl)) | ((with_reducible apply XOp.pr); (case hg => exact rfl); (case hr => ((with_reducible apply PR.build); (case ht | hk | hok | hz | hf => exact rfl)))) | (with_reducible apply XL.nilT) | (with_reducible apply XC.seq) | (with_reducible apply XC.region (Γ := Γ))))
  ((with_reducible apply XOp.box); (case hg | hx' => exact rfl); intro rb)
  (repeat (first | (with_reducible apply XL.op) | ((with_reducible apply XOp.p1); (case hg | hv => exact rfl)) | (with_reducible apply XL.nilT) | (with_reducible apply XC.seq) | (with_reducible apply XC.region (Γ := Γ))))
  (refine (show XOp _ _ _ _ _ _ _ _ (RdB rb a c ⟨b, false⟩ :: [(ws, Obj.cells ⟨zeroW⟩ 31 (0, 0))]) from XOp.perm (L' :=  [(ws, Obj.cells ⟨zeroW⟩ 31 (0, 0))] ++ (RdB rb a c ⟨b, false⟩ :: [])) rfl ?_ (by (first | (with_reducible exact List.Perm.refl _) | refine perm_of_cnt fun p_ => ?_; simp only [List.countP_append, List.countP_cons, List.countP_nil]; omega))))
  ((with_reducible apply XOp.callM (R := [_]) (hF := take_fn rb a c ⟨b, false⟩ 6 (by omega))); (case hg => exact rfl); (case hc => exact rfl); (case ha => exact rfl); (case hL => exact rfl); try (case hA => exact Known.true))
  case hA => exact Known.of_old hB (Mono.sl _ _ _ _ _)
  rintro _ _ ⟨a1, c1, ao1, F1, rfl, rfl, hout1, hw1, hat1⟩
  have hl1 := takeS_len ⟨b, false⟩ 6
  have hB1 := takeS_isB (r := ⟨b, false⟩) hbB 6
  have hR1 := takeS_rest (r := ⟨b, false⟩) hbB 6
  have hs1 := shr_take 6 ⟨b, false⟩
  have hd1 : (takeS ⟨b, false⟩ 6).1 ≠ beginB → decS digS b = none := fun h => decS_1 rfl h
  have hd2 : ∀ m, takeS (openS (takeS ⟨b, false⟩ 6).2 67 8) 8 = m → (takeS ⟨b, false⟩ 6).1 = beginB → m.2.bad = true ∨ ¬ (cfgOf m.1).may → decS digS b = none := fun m hm h h2 => decS_2 rfl h hm h2
  have hd3 : ∀ m w z, takeS (openS (takeS ⟨b, false⟩ 6).2 67 8) 8 = m → weightsS (cfgOf m.1) m.2 = w → takeS (openS w.2 90 8) 8 = z → (takeS ⟨b, false⟩ 6).1 = beginB → m.2.bad = false → (cfgOf m.1).may → (badEnd digS b w z → decS digS b = none) ∧ (¬ badEnd digS b w z → decS digS b = some w.1) := fun m w z hm hw hz h h2 h3 => decS_3 rfl h hm h2 h3 hw hz
  have hs1' : (takeS ⟨b, false⟩ 6).2.rest.length ≤ b.length := hs1
  have hK1 : ∀ {L : HL}, (∀ x ∈ F1, x ∈ L) → Known w0 (keys []) L (fun h => byAt h (takeS ⟨b, false⟩ 6).1 ao1 6) := fun s => known_out (Known.of_old hB (Mono.sl _ _ _ _ _)) hout1 s
  generalize (takeS ⟨b, false⟩ 6).1 = out1 at *
  generalize (takeS ⟨b, false⟩ 6).2 = r1 at *
  (repeat ((with_reducible apply XL.op)))
  ((with_reducible apply XOp.pr); (case hg => exact rfl); (case hr => (with_reducible apply PR.toStr); (case hs => exact rfl); (case hk => exact rfl); (case he => exact rfl); (case hek => exact rfl); (case hd => exact rfl); (case hdk => exact rfl); (case hx => exact rfl); (case hl => exact hl1); (case hA => exact  hK1 (fun y hy => by simp [hy]))))
  (repeat (first | (with_reducible apply XL.op) | ((with_reducible apply XOp.p1); (case hg | hv => exact rfl)) | (with_reducible apply XL.nilT)))
  ((with_reducible apply XC.cond); (case hc => exact rfl); all_goals (intro hb_; try simp only [pd_true, pd_false, Bool.not_eq_true', Bool.not_eq_false', Bool.and_eq_true, Bool.and_eq_false_iff, Bool.or_eq_true, Bool.or_eq_false_iff, not_true_eq_false, not_false_eq_true, Int.not_lt, Int.not_le] at hb_))
  · (repeat (first | (with_reducible apply XL.op) | ((with_reducible apply XOp.p1); (case hg | hv => exact rfl)) | ((with_reducible apply XOp.storeN (i := 0)); (case hg | ht | hx | hv' | hk | h1 | hi | hs | ha => exact rfl)) | ((with_reducible apply XOp.pr); (case hg => exact rfl); (case hr => ((with_reducible apply PR.build); (case ht | hk | hok | hz | hf => exact rfl)))) | (with_reducible apply XL.nilT) | (with_reducible apply XC.seq) | (with_reducible apply XC.region (Γ := Γ)) | (with_reducible apply XQ.ret) | (with_reducible apply XQ.rt)))
    ((with_reducible apply XQ.retE); (case hr => exact .row rfl (by kernel_rfl) (by kernel_rfl) (own_row (i := 0) (m := 18) rfl rfl) (.t rfl .nil)))
    exact ⟨[], .of (List.nil_sublist _), decR_none (hd1 fun h => hb_ ((strOf_begin hl1 hB1).2 h))⟩
  have hbeg : out1 = beginB := (strOf_begin hl1 hB1).1 (by assumption)
  have hFB : F1 ++ [] = F1 := List.append_nil _
  (repeat (first | (with_reducible apply XL.op) | ((with_reducible apply XOp.p1); (case hg | hv => exact rfl)) | (with_reducible apply XC.seq) | (with_reducible apply XC.region (Γ := Γ)) | (with_reducible apply XQ.skip) | (with_reducible apply XQ.nt)))
  ((with_reducible apply XOp.callM (R := [_]) (hF := open_fn rb a1 c1 r1 67 8 (by omega))); (case hg => exact rfl); (case hc => exact rfl); (case ha => exact rfl); (case hL => exact rfl); try (case hA => exact Known.true))
  case hA => exact Known.of_old (hw1.at_ _ hB) (Mono.sl _ _ _ _ _)
  rintro _ _ ⟨a2, c2, rfl, hw2⟩
  have hw12 := hw1.trans hw2
  have hR2 := openS_rest hR1 67 8
  have hs2 := shr_open r1 67 8
  generalize openS r1 67 8 = r2 at *
  (repeat (first | (with_reducible apply XL.op) | ((with_reducible apply XOp.p1); (case hg | hv => exact rfl)) | (with_reducible apply XL.nilT) | (with_reducible apply XC.seq) | (with_reducible apply XC.region (Γ := Γ))))
  ((with_reducible apply XOp.callM (R := [_]) (hF := take_fn rb a2 c2 r2 8 (by omega))); (case hg => exact rfl); (case hc => exact rfl); (case ha => exact rfl); (case hL => exact rfl); try (case hA => exact Known.true))
  case hA => exact Known.of_old (hw12.at_ _ hB) (Mono.sl _ _ _ _ _)
  rintro _ _ ⟨a3, c3, ao3, F3, rfl, rfl, hout3, hw3, hat3⟩
  have hw13 := hw12.trans hw3
  have hl3 := takeS_len r2 8
  have hB3 := takeS_isB hR2 8
  have hR3 := takeS_rest hR2 8
  have hs3 : (takeS r2 8).2.rest.length ≤ r2.rest.length := shr_take 8 r2
  have hK3 : ∀ {L : HL}, (∀ x ∈ F3, x ∈ L) → Known w0 (keys []) L (fun h => byAt h (takeS r2 8).1 ao3 8) := fun s => known_out (Known.of_old (hw12.at_ _ hB) (Mono.sl _ _ _ _ _)) hout3 s
  generalize hm3 : takeS r2 8 = m3 at *
  obtain ⟨out3, r3⟩ := m3
  simp only [] at hl3 hB3 hR3 hs3 hK3 hw13 hw3
  obtain ⟨o0, o1, o2, o3, o4, o5, o6, o7, rfl⟩ := len8 hl3
  have hwr : ∀ o ∈ [o0, o1, o2, o3, o4, o5, o6, o7], IntKind.i64.wrap o = o := fun o h => by have := hB3 o h; exact wrap64_of (by omega) (by omega)
  have v0 := hwr o0 (by simp); have v1 := hwr o1 (by simp); have v2 := hwr o2 (by simp); have v3 := hwr o3 (by simp); have v4 := hwr o4 (by simp); have v5 := hwr o5 (by simp); have v6 := hwr o6 (by simp); have v7 := hwr o7 (by simp)
  have hd2' := hd2 _ rfl hbeg
  have hd3' := fun hb hm => hd3 _ _ _ rfl rfl rfl hbeg hb hm
  (repeat (first | (with_reducible apply XL.op) | ((with_reducible apply XOp.p1); (case hg | hv => exact rfl)) | (with_reducible apply XL.nilT) | (with_reducible apply XC.seq)))
  ((with_reducible apply XC.regionD (Γ := Γ) mixed (.q 0 (.q 1 (.q 2 (.q 3 (.q 4 (.q 5 (.q 6 (.q 7 (.q 8 (.q 9 (.q 10 (.q 11 (.q 12 (.q 13 (.q 14 (.q 15 (.q 16 (.q 17 (.q 18 (.q 19 (.q 20 (.q 21 (.q 22 (.q 23 (.q 24 (.q 25 (.q 26 (.q 27 (.q 28 (.q 29 (.q 30 (.q 31 (.q 32 (.e 33 (.e 34 (.done)))))))))))))))))))))))))))))))))))) [] []); (case hc => kernel_rfl))
  (repeat (first | ((with_reducible apply XP.p1); (case ho | hg | hv => exact rfl)) | ((with_reducible apply XP.pr); (case ho => exact rfl); (case hg => exact rfl); (case hr => ((with_reducible apply PR.idxA); (case ht | hk | he | hx | hi => exact rfl); (case hr => first | assumption | omega); (case ha => first | assumption | exact SlA.at_ (by assumption))))) | ((with_reducible apply XP.pr); (case ho => exact rfl); (case hg => exact rfl); (case hr => ((with_reducible apply PR.build); (case ht | hk | hok | hz | hf => exact rfl)))) | ((with_reducible apply XP.e); (first | ((with_reducible apply XE.d); (case ho => exact rfl); (case hd => exact rfl)) | ((with_reducible apply XE.e); (case ho => exact rfl)))) | (first | ((with_reducible apply XOp.load); (case hg | ht | hk | hx => exact rfl); (case hc => exact (hK3 (fun y hy => by simp [sel, hy])).imp fun h s => (s.int 0 (by simp)).1)) | ((with_reducible apply XP.load); (case ho | hg | ht | hk | hx => exact rfl); (case hc => exact (hK3 (fun y hy => by simp [sel, hy])).imp fun h s => (s.int 0 (by simp)).1))) | (first | ((with_reducible apply XOp.load); (case hg | ht | hk | hx => exact rfl); (case hc => exact (hK3 (fun y hy => by simp [sel, hy])).imp fun h s => (s.int 1 (by simp)).1)) | ((with_reducible apply XP.load); (case ho | hg | ht | hk | hx => exact rfl); (case hc => exact (hK3 (fun y hy => by simp [sel, hy])).imp fun h s => (s.int 1 (by simp)).1))) | (first | ((with_reducible apply XOp.load); (case hg | ht | hk | hx => exact rfl); (case hc => exact (hK3 (fun y hy => by simp [sel, hy])).imp fun h s => (s.int 2 (by simp)).1)) | ((with_reducible apply XP.load); (case ho | hg | ht | hk | hx => exact rfl); (case hc => exact (hK3 (fun y hy => by simp [sel, hy])).imp fun h s => (s.int 2 (by simp)).1))) | (first | ((with_reducible apply XOp.load); (case hg | ht | hk | hx => exact rfl); (case hc => exact (hK3 (fun y hy => by simp [sel, hy])).imp fun h s => (s.int 3 (by simp)).1)) | ((with_reducible apply XP.load); (case ho | hg | ht | hk | hx => exact rfl); (case hc => exact (hK3 (fun y hy => by simp [sel, hy])).imp fun h s => (s.int 3 (by simp)).1))) | (first | ((with_reducible apply XOp.load); (case hg | ht | hk | hx => exact rfl); (case hc => exact (hK3 (fun y hy => by simp [sel, hy])).imp fun h s => (s.int 4 (by simp)).1)) | ((with_reducible apply XP.load); (case ho | hg | ht | hk | hx => exact rfl); (case hc => exact (hK3 (fun y hy => by simp [sel, hy])).imp fun h s => (s.int 4 (by simp)).1))) | (first | ((with_reducible apply XOp.load); (case hg | ht | hk | hx => exact rfl); (case hc => exact (hK3 (fun y hy => by simp [sel, hy])).imp fun h s => (s.int 5 (by simp)).1)) | ((with_reducible apply XP.load); (case ho | hg | ht | hk | hx => exact rfl); (case hc => exact (hK3 (fun y hy => by simp [sel, hy])).imp fun h s => (s.int 5 (by simp)).1))) | (first | ((with_reducible apply XOp.load); (case hg | ht | hk | hx => exact rfl); (case hc => exact (hK3 (fun y hy => by simp [sel, hy])).imp fun h s => (s.int 6 (by simp)).1)) | ((with_reducible apply XP.load); (case ho | hg | ht | hk | hx => exact rfl); (case hc => exact (hK3 (fun y hy => by simp [sel, hy])).imp fun h s => (s.int 6 (by simp)).1))) | (first | ((with_reducible apply XOp.load); (case hg | ht | hk | hx => exact rfl); (case hc => exact (hK3 (fun y hy => by simp [sel, hy])).imp fun h s => (s.int 7 (by simp)).1)) | ((with_reducible apply XP.load); (case ho | hg | ht | hk | hx => exact rfl); (case hc => exact (hK3 (fun y hy => by simp [sel, hy])).imp fun h s => (s.int 7 (by simp)).1)))))
  rw [show IntKind.i64.wrap ([o0, o1, o2, o3, o4, o5, o6, o7][0]?.getD 0) = o0 from v0, show IntKind.i64.wrap ([o0, o1, o2, o3, o4, o5, o6, o7][1]?.getD 0) = o1 from v1, show IntKind.i64.wrap ([o0, o1, o2, o3, o4, o5, o6, o7][2]?.getD 0) = o2 from v2, show IntKind.i64.wrap ([o0, o1, o2, o3, o4, o5, o6, o7][3]?.getD 0) = o3 from v3, show IntKind.i64.wrap ([o0, o1, o2, o3, o4, o5, o6, o7][4]?.getD 0) = o4 from v4, show IntKind.i64.wrap ([o0, o1, o2, o3, o4, o5, o6, o7][5]?.getD 0) = o5 from v5, show IntKind.i64.wrap ([o0, o1, o2, o3, o4, o5, o6, o7][6]?.getD 0) = o6 from v6, show IntKind.i64.wrap ([o0, o1, o2, o3, o4, o5, o6, o7][7]?.getD 0) = o7 from v7]
  have hcf : cfgOf [o0, o1, o2, o3, o4, o5, o6, o7] = ⟨o0, o1, o2, o3, o4, o5, o6, o7⟩ := rfl
  simp only [hcf] at hd2' hd3'
  generalize hcfd : (⟨o0, o1, o2, o3, o4, o5, o6, o7⟩ : Cfg) = cf at *
  have hcc : [Value.int .i64 o0, .int .i64 o1, .int .i64 o2, .int .i64 o3, .int .i64 o4, .int .i64 o5, .int .i64 o6, .int .i64 o7] = cf.cells := by rw [← hcfd]; rfl
  rw [hcc]
  skip
  ((with_reducible apply XOp.alloc); (case hg | ht | hx' => exact rfl); intro cb)
  (repeat (first | (with_reducible apply XL.op) | ((with_reducible apply XOp.p1); (case hg | hv => exact rfl)) | ((with_reducible apply XOp.load); (case hg | ht | hk | hx => exact rfl); (case hc => exact own_cell (i := 2) rfl rfl)) | ((with_reducible apply XOp.storeN (i := 0)); (case hg | ht | hx | hv' | hk | h1 | hi | hs | ha => exact rfl)) | (with_reducible apply XC.seq) | (with_reducible apply XC.region (Γ := Γ)) | (with_reducible apply XQ.nt) | (with_reducible apply XP.done) | ((with_reducible apply XP.e); (first | ((with_reducible apply XE.d); (case ho => exact rfl); (case hd => exact rfl)) | ((with_reducible apply XE.e); (case ho => exact rfl)))) | ((with_reducible apply XP.keep); (case hk => first | ((repeat' (first | exact List.forall_mem_nil _ | (with_reducible refine List.forall_mem_cons.2 ⟨?_, ?_⟩) | exact List.mem_cons_self .. | (with_reducible apply List.mem_cons_of_mem) | (with_reducible apply List.mem_append_right))); done) | (intro x hx; first | exact sel_in hx | exact List.mem_cons_of_mem _ (sel_in hx) | exact List.mem_append_right _ (sel_in hx) | exact hx | exact List.mem_cons_of_mem _ hx | exact List.mem_append_right _ hx | ((repeat (first | exact sel_in hx | exact hx | (with_reducible apply List.mem_cons_of_mem) | (with_reducible apply List.mem_append_right))); done) | (rw [List.mem_singleton.1 hx]; (simp; done)) | (rcases List.mem_cons.1 hx with rfl | hx; (simp; done); (rw [List.mem_singleton.1 hx]; (simp; done))) | cases hx)))))
  ((with_reducible apply XOp.split); (case hg | hj | hd | hb => exact rfl); (fail_if_success (case hf => exact fun h => Bool.noConfusion h)); (fail_if_success (case ht => exact fun h => Bool.noConfusion h)); all_goals (intro hb_; try simp only [pd_true, pd_false, Bool.not_eq_true', Bool.not_eq_false', Bool.and_eq_true, Bool.and_eq_false_iff, Bool.or_eq_true, Bool.or_eq_false_iff, not_true_eq_false, not_false_eq_true, Int.not_lt, Int.not_le] at hb_))
  · (repeat (first | (with_reducible apply XL.op) | ((with_reducible apply XOp.p1); (case hg | hv => exact rfl)) | ((with_reducible apply XOp.p0); (case hg => exact rfl)) | ((with_reducible apply XOp.storeN (i := 1)); (case hg | ht | hx | hv' | hk | h1 | hi | hs | ha => exact rfl)) | ((with_reducible apply XOp.pr); (case hg => exact rfl); (case hr => ((with_reducible apply PR.build); (case ht | hk | hok | hz | hf => exact rfl)))) | (with_reducible apply XL.nilT) | (with_reducible apply XC.seq) | (with_reducible apply XC.region (Γ := Γ)) | (with_reducible apply XQ.ret) | (with_reducible apply XQ.rt) | ((with_reducible apply XC.condT); (case hc => exact rfl))))
    ((with_reducible apply XQ.retE); (case hr => exact .row rfl (by kernel_rfl) (by kernel_rfl) (own_row (i := 1) (m := 18) rfl rfl) (.t rfl .nil)))
    exact ⟨[], .of (List.nil_sublist _), decR_none (hd2' (Or.inl hb_))⟩
  have hbad : r3.bad = false := hb_
  clear hb_
  (repeat (first | (with_reducible apply XL.op) | ((with_reducible apply XOp.p1); (case hg | hv => exact rfl)) | ((with_reducible apply XOp.loadO (i := 0)); (case hg | ht | hk | hx | hi | hc => exact rfl)) | (with_reducible apply XL.nilT) | (((with_reducible apply XOp.callQ (hF := FC.nil (check_fn cf))); (case hg => exact rfl); (case hc => exact rfl); (case ha => exact rfl); try (case hA => exact Known.true)); rintro _ rfl)))
  ((with_reducible apply XC.cond); (case hc => exact rfl); all_goals (intro hb_; try simp only [pd_true, pd_false, Bool.not_eq_true', Bool.not_eq_false', Bool.and_eq_true, Bool.and_eq_false_iff, Bool.or_eq_true, Bool.or_eq_false_iff, not_true_eq_false, not_false_eq_true, Int.not_lt, Int.not_le] at hb_))
  · (repeat (first | (with_reducible apply XL.op) | ((with_reducible apply XOp.p1); (case hg | hv => exact rfl)) | ((with_reducible apply XOp.storeN (i := 1)); (case hg | ht | hx | hv' | hk | h1 | hi | hs | ha => exact rfl)) | ((with_reducible apply XOp.pr); (case hg => exact rfl); (case hr => ((with_reducible apply PR.build); (case ht | hk | hok | hz | hf => exact rfl)))) | (with_reducible apply XL.nilT) | (with_reducible apply XC.seq) | (with_reducible apply XC.region (Γ := Γ)) | (with_reducible apply XQ.ret) | (with_reducible apply XQ.rt)))
    ((with_reducible apply XQ.retE); (case hr => exact .row rfl (by kernel_rfl) (by kernel_rfl) (own_row (i := 1) (m := 18) rfl rfl) (.t rfl .nil)))
    exact ⟨[], .of (List.nil_sublist _), decR_none (hd2' (Or.inr fun h => hb_ ((cerr_iff _).2 h)))⟩
  have hc : cf.may := (cerr_iff _).1 (by first | assumption | exact Classical.not_not.1 hb_)
  clear hb_
  have hd4 := hd3' hbad hc
  clear hd1 hd2 hd3 hd2' hd3' v0 v1 v2 v3 v4 v5 v6 v7 hwr hcf hcc hK1 hK3
  (repeat (first | (with_reducible apply XL.op) | ((with_reducible apply XOp.p1); (case hg | hv => exact rfl)) | ((with_reducible apply XOp.loadO (i := 0)); (case hg | ht | hk | hx | hi | hc => exact rfl)) | (with_reducible apply XC.seq) | (with_reducible apply XC.region (Γ := Γ)) | (with_reducible apply XQ.skip) | (with_reducible apply XQ.nt)))
  ((with_reducible apply XOp.callM (R := [_, _]) (hF := rweights_fn rb a3 c3 r3 cf hc)); (case hg => exact rfl); (case hc => exact rfl); (case ha => exact rfl); (case hL => exact rfl); try (case hA => exact Known.true))
  case hA => exact Known.and (Known.of_old hS sides_mono) (Known.of_old (hw13.at_ _ hB) (Mono.sl _ _ _ _ _))
  rintro _ _ ⟨a4, c4, x, F4, rfl, hx, rfl, hF4, hw4⟩
  have hw14 := hw13.trans hw4
  have hs4 : (weightsS cf r3).2.rest.length ≤ r3.rest.length := shr_weights cf r3
  generalize weightsS cf r3 = W at *
  obtain ⟨ww, r4⟩ := W
  simp only [] at hx hs4 hw4 hw14
  subst hx
  (repeat ((with_reducible apply XL.op)))
  ((with_reducible apply XOp.alloc); (case hg | ht | hx' => exact rfl); intro xb)
  have hle := hB.le
  (repeat (first | (with_reducible apply XL.op) | ((with_reducible apply XOp.p1); (case hg | hv => exact rfl)) | ((with_reducible apply XOp.load); (case hg | ht | hk | hx => exact rfl); (case hc => exact own_cell (i := 3) rfl rfl)) | ((with_reducible apply XOp.storeN (i := 0)); (case hg | ht | hx | hv' | hk | h1 | hi | hs | ha => exact rfl)) | (with_reducible apply XL.nilT) | (with_reducible apply XC.seq) | (with_reducible apply XC.region (Γ := Γ))))
  rw [show IntKind.i64.wrap ((b.length : Int) - (r4.rest.length : Int)) = ((b.length - r4.rest.length : Nat) : Int) from by rw [wrap64_of (by omega) (by omega)]; omega]
  (repeat (first | (with_reducible apply XL.op) | (first | ((with_reducible apply XOp.pr); (case hg => exact rfl); (case hr => (with_reducible apply PR.sliceTo); (case ht => exact rfl); (case hk => exact rfl); (case he => exact rfl); (case hx => exact rfl); (case hh => exact rfl); (case hb => omega))) | ((with_reducible apply XP.pr); (case ho => exact rfl); (case hg => exact rfl); (case hr => (with_reducible apply PR.sliceTo); (case ht => exact rfl); (case hk => exact rfl); (case he => exact rfl); (case hx => exact rfl); (case hh => exact rfl); (case hb => omega))))))
  ((with_reducible apply XOp.callQ (hF := digestN_fn (n := b.length - r4.rest.length) (b.take (b.length - r4.rest.length)) a c (by rw [List.length_take]; omega))); (case hg => exact rfl); (case hc => exact rfl); (case ha => exact rfl); try (case hA => exact Known.true))
  case hA => exact (Known.of_old hB (Mono.sl _ _ _ _ _)).imp fun h s => SlA.takeC s _
  rintro _ rfl
  generalize hdg : digS (b.take (b.length - r4.rest.length)) = dg at *
  (repeat (first | (with_reducible apply XL.op) | ((with_reducible apply XOp.p1); (case hg | hv => exact rfl)) | (with_reducible apply XL.nilT) | (with_reducible apply XC.seq) | (with_reducible apply XC.region (Γ := Γ))))
  ((with_reducible apply XOp.callM (R := [_, _, _]) (hF := open_fn rb a4 c4 r4 90 8 (by omega))); (case hg => exact rfl); (case hc => exact rfl); (case ha => exact rfl); (case hL => exact rfl); try (case hA => exact Known.true))
  case hA => exact Known.of_old (hw14.at_ _ hB) (Mono.sl _ _ _ _ _)
  rintro _ _ ⟨a5, c5, rfl, hw5⟩
  have hw15 := hw14.trans hw5
  generalize openS r4 90 8 = r5 at *
  (repeat (first | (with_reducible apply XL.op) | ((with_reducible apply XOp.p1); (case hg | hv => exact rfl)) | (with_reducible apply XL.nilT) | (with_reducible apply XC.seq) | (with_reducible apply XC.region (Γ := Γ))))
  ((with_reducible apply XOp.callM (R := [_, _, _]) (hF := take_fn rb a5 c5 r5 8 (by omega))); (case hg => exact rfl); (case hc => exact rfl); (case ha => exact rfl); (case hL => exact rfl); try (case hA => exact Known.true))
  case hA => exact Known.of_old (hw15.at_ _ hB) (Mono.sl _ _ _ _ _)
  rintro _ _ ⟨a6, c6, ao6, F6, rfl, rfl, hout6, hw6, hat6⟩
  have hw16 := hw15.trans hw6
  have hl6 := takeS_len r5 8
  have hK6 : ∀ {L : HL}, (∀ x ∈ F6, x ∈ L) → Known w0 (keys []) L (fun h => byAt h (takeS r5 8).1 ao6 8) := fun s => known_out (Known.of_old (hw15.at_ _ hB) (Mono.sl _ _ _ _ _)) hout6 s
  generalize hm6 : takeS r5 8 = m6 at *
  obtain ⟨out6, r6⟩ := m6
  simp only [] at hl6 hK6 hw16 hw6
  (repeat ((with_reducible apply XL.op)))
  ((with_reducible apply XOp.callQ (hF := valueN_fn (n := 8) out6 ao6 8 hl6 (by omega))); (case hg => exact rfl); (case hc => exact rfl); (case ha => exact rfl); try (case hA => exact Known.true))
  case hA => exact hK6 (fun y hy => by simp [hy])
  rintro _ rfl
  (repeat (first | (with_reducible apply XL.op) | ((with_reducible apply XOp.p1); (case hg | hv => exact rfl))))
  have hfail : ∀ {p : Prop}, p → (p → badEnd digS b (x.w, r4) (out6, r6)) → decS digS b = none := fun hp h => hd4.1 (h hp)
  ((with_reducible apply XOp.split); (case hg | hj | hd | hb => exact rfl); (fail_if_success (case hf => exact fun h => Bool.noConfusion h)); (fail_if_success (case ht => exact fun h => Bool.noConfusion h)); all_goals (intro hb_; try simp only [pd_true, pd_false, Bool.not_eq_true', Bool.not_eq_false', Bool.and_eq_true, Bool.and_eq_false_iff, Bool.or_eq_true, Bool.or_eq_false_iff, not_true_eq_false, not_false_eq_true, Int.not_lt, Int.not_le] at hb_))
  · (repeat (first | (with_reducible apply XL.op) | ((with_reducible apply XOp.p1); (case hg | hv => exact rfl)) | ((with_reducible apply XOp.p0); (case hg => exact rfl)) | ((with_reducible apply XOp.storeN (i := 2)); (case hg | ht | hx | hv' | hk | h1 | hi | hs | ha => exact rfl)) | ((with_reducible apply XOp.pr); (case hg => exact rfl); (case hr => ((with_reducible apply PR.build); (case ht | hk | hok | hz | hf => exact rfl)))) | (with_reducible apply XL.nilT) | (with_reducible apply XC.seq) | (with_reducible apply XC.region (Γ := Γ)) | (with_reducible apply XQ.ret) | (with_reducible apply XQ.rt) | ((with_reducible apply XC.condT); (case hc => exact rfl))))
    ((with_reducible apply XQ.retE); (case hr => exact .row rfl (by kernel_rfl) (by kernel_rfl) (own_row (i := 2) (m := 18) rfl rfl) (.t rfl .nil)))
    exact ⟨[], .of (List.nil_sublist _), decR_none (hfail hb_ fun h => .inl (by rw [← hdg] at h; exact h))⟩
  have hv1 := hb_
  clear hb_
  (repeat (first | (with_reducible apply XL.op) | ((with_reducible apply XOp.p1); (case hg | hv => exact rfl)) | ((with_reducible apply XOp.load); (case hg | ht | hk | hx => exact rfl); (case hc => exact own_cell (i := 3) rfl rfl))))
  ((with_reducible apply XOp.split); (case hg | hj | hd | hb => exact rfl); (fail_if_success (case hf => exact fun h => Bool.noConfusion h)); (fail_if_success (case ht => exact fun h => Bool.noConfusion h)); all_goals (intro hb_; try simp only [pd_true, pd_false, Bool.not_eq_true', Bool.not_eq_false', Bool.and_eq_true, Bool.and_eq_false_iff, Bool.or_eq_true, Bool.or_eq_false_iff, not_true_eq_false, not_false_eq_true, Int.not_lt, Int.not_le] at hb_))
  · (repeat (first | (with_reducible apply XL.op) | ((with_reducible apply XOp.p1); (case hg | hv => exact rfl)) | ((with_reducible apply XOp.p0); (case hg => exact rfl)) | ((with_reducible apply XOp.storeN (i := 2)); (case hg | ht | hx | hv' | hk | h1 | hi | hs | ha => exact rfl)) | ((with_reducible apply XOp.pr); (case hg => exact rfl); (case hr => ((with_reducible apply PR.build); (case ht | hk | hok | hz | hf => exact rfl)))) | (with_reducible apply XL.nilT) | (with_reducible apply XC.seq) | (with_reducible apply XC.region (Γ := Γ)) | (with_reducible apply XQ.ret) | (with_reducible apply XQ.rt) | ((with_reducible apply XC.condT); (case hc => exact rfl))))
    ((with_reducible apply XQ.retE); (case hr => exact .row rfl (by kernel_rfl) (by kernel_rfl) (own_row (i := 2) (m := 18) rfl rfl) (.t rfl .nil)))
    exact ⟨[], .of (List.nil_sublist _), decR_none (hfail hb_ fun h => .inr (.inl h))⟩
  have hv2 : r6.bad = false := hb_
  clear hb_
  (repeat (first | (with_reducible apply XL.op) | ((with_reducible apply XOp.p1); (case hg | hv => exact rfl)) | ((with_reducible apply XOp.load); (case hg | ht | hk | hx => exact rfl); (case hc => exact own_cell (i := 3) rfl rfl))))
  ((with_reducible apply XOp.split); (case hg | hj | hd | hb => exact rfl); (fail_if_success (case hf => exact fun h => Bool.noConfusion h)); (fail_if_success (case ht => exact fun h => Bool.noConfusion h)); all_goals (intro hb_; try simp only [pd_true, pd_false, Bool.not_eq_true', Bool.not_eq_false', Bool.and_eq_true, Bool.and_eq_false_iff, Bool.or_eq_true, Bool.or_eq_false_iff, not_true_eq_false, not_false_eq_true, Int.not_lt, Int.not_le] at hb_))
  · (repeat (first | (with_reducible apply XL.op) | ((with_reducible apply XOp.p1); (case hg | hv => exact rfl)) | ((with_reducible apply XOp.p0); (case hg => exact rfl)) | ((with_reducible apply XOp.storeN (i := 2)); (case hg | ht | hx | hv' | hk | h1 | hi | hs | ha => exact rfl)) | ((with_reducible apply XOp.pr); (case hg => exact rfl); (case hr => ((with_reducible apply PR.build); (case ht | hk | hok | hz | hf => exact rfl)))) | (with_reducible apply XL.nilT) | (with_reducible apply XC.seq) | (with_reducible apply XC.region (Γ := Γ)) | (with_reducible apply XQ.ret) | (with_reducible apply XQ.rt) | ((with_reducible apply XC.condT); (case hc => exact rfl))))
    ((with_reducible apply XQ.retE); (case hr => exact .row rfl (by kernel_rfl) (by kernel_rfl) (own_row (i := 2) (m := 18) rfl rfl) (.t rfl .nil)))
    exact ⟨[], .of (List.nil_sublist _), decR_none (hfail hb_ fun h => .inr (.inr (.inl fun hh => by rw [hh] at h; simp at h)))⟩
  have hv3 : ¬ (0 : Int) < r6.rest.length := by omega
  clear hb_
  (repeat (first | (with_reducible apply XL.op) | ((with_reducible apply XOp.p1); (case hg | hv => exact rfl)) | ((with_reducible apply XOp.loadO (i := 0)); (case hg | ht | hk | hx | hi | hc => exact rfl)) | (((with_reducible apply XOp.callQ (hF := checkW_fn x)); (case hg => exact rfl); (case hc => exact rfl); (case ha => exact rfl); try (case hA => exact Known.true)); (case hA => exact Known.and (Known.of_old hS sides_mono) (hF4.known (fun y hy => by simp [hy]))); rintro _ rfl)))
  ((with_reducible apply XOp.split); (case hg | hj | hd | hb => exact rfl); (fail_if_success (case hf => exact fun h => Bool.noConfusion h)); (fail_if_success (case ht => exact fun h => Bool.noConfusion h)); all_goals (intro hb_; try simp only [pd_true, pd_false, Bool.not_eq_true', Bool.not_eq_false', Bool.and_eq_true, Bool.and_eq_false_iff, Bool.or_eq_true, Bool.or_eq_false_iff, not_true_eq_false, not_false_eq_true, Int.not_lt, Int.not_le] at hb_))
  · (repeat (first | (with_reducible apply XL.op) | ((with_reducible apply XOp.p1); (case hg | hv => exact rfl)) | ((with_reducible apply XOp.p0); (case hg => exact rfl)) | ((with_reducible apply XOp.storeN (i := 2)); (case hg | ht | hx | hv' | hk | h1 | hi | hs | ha => exact rfl)) | ((with_reducible apply XOp.pr); (case hg => exact rfl); (case hr => ((with_reducible apply PR.build); (case ht | hk | hok | hz | hf => exact rfl)))) | (with_reducible apply XL.nilT) | (with_reducible apply XC.seq) | (with_reducible apply XC.region (Γ := Γ)) | (with_reducible apply XQ.ret) | (with_reducible apply XQ.rt) | ((with_reducible apply XC.condT); (case hc => exact rfl))))
    ((with_reducible apply XQ.retE); (case hr => exact .row rfl (by kernel_rfl) (by kernel_rfl) (own_row (i := 2) (m := 18) rfl rfl) (.t rfl .nil)))
    exact ⟨[], .of (List.nil_sublist _), decR_none (hfail hb_ fun h => .inr (.inr (.inr fun hok => h (errW_ok hok))))⟩
  have hok : okW x.w := errW_zero (by first | assumption | exact Classical.not_not.1 hb_)
  clear hb_
  have hsome : decS digS b = some x.w := hd4.2 (by
    rintro (h | h | h | h)
    · rw [hdg] at h; exact h hv1
    · rw [hv2] at h; cases h
    · refine h (List.length_eq_zero_iff.1 ?_)
      show r6.rest.length = 0
      omega
    · exact h hok)
  have hfile : isFileOf b x := by
    have h := (dec_sound digS hbB hsome).2
    exact ⟨secB 90 (numB (digS (fileB x.w)) 8), by rw [← h]; simp only [fileOf, fileB, List.append_assoc]; rfl⟩
  (repeat (first | (with_reducible apply XL.op) | ((with_reducible apply XOp.p1); (case hg | hv => exact rfl)) | ((with_reducible apply XOp.loadO (i := 0)); (case hg | ht | hk | hx | hi | hc => exact rfl)) | ((with_reducible apply XOp.storeN (i := 2)); (case hg | ht | hx | hv' | hk | h1 | hi | hs | ha => exact rfl)) | (with_reducible apply XL.nilT) | (with_reducible apply XC.seq) | (with_reducible apply XC.region (Γ := Γ)) | (with_reducible apply XQ.skip) | (with_reducible apply XQ.ret) | (with_reducible apply XQ.nt) | ((with_reducible apply XC.condF); (case hc => exact rfl)) | (((with_reducible apply XOp.callQ (hF := same_fn b a c x hok hfile)); (case hg => exact rfl); (case hc => exact rfl); (case ha => exact rfl); try (case hA => exact Known.true)); (case hA => exact Known.and (Known.of_old hS sides_mono) (Known.and (Known.of_old hB (Mono.sl _ _ _ _ _)) (hF4.known (fun y hy => by simp [hy])))); rintro _ ⟨rfl⟩)))
  ((with_reducible apply XQ.retE); (case hr => exact .row rfl (by kernel_rfl) (by kernel_rfl) (own_row (i := 2) (m := 18) rfl rfl) (.t rfl .nil)))
  exact ⟨F4, .of (by ((try simp only [List.append_eq, List.cons_append, List.nil_append, List.append_assoc]); repeat (first | exact List.Sublist.refl _ | exact List.nil_sublist _ | (with_reducible apply List.Sublist.cons_cons) | (with_reducible apply List.Sublist.cons) | exact List.sublist_append_right _ _)); exact (List.sublist_append_left _ _).trans (List.sublist_append_right _ _)), decR_some hsome hF4⟩
end Go.Proofs.YtppggaiahkecoaaDoorX
/- The program's own copy of weights: each list in memory of its own. -/
namespace Go.Proofs.YtppggaiahkecoaaDoorX
open Go Go.SX

/-- A list of numbers in memory of its own. -/
def OwnV (x : LV) (F : HL) : Prop := OwnS 39 1 (slv x) x.1.length (x.1.map (.int .i8)) F ∧ x.1.length * 1 ≤ 140737488355328 ∧ ∀ y ∈ x.1, inK .i8 y
theorem OwnV.held {x : LV} {F : HL} (h : OwnV x F) : Held F (fun h => lvAt h x) := by
  obtain ⟨xs, a, c⟩ := x
  obtain ⟨h1, h2, h3⟩ := h
  obtain ⟨a2, c2, e2, _, s2⟩ := h1.slA (by_ := 1) h3 h2
  obtain ⟨rfl, _, rfl⟩ := Value.slice.inj e2
  exact Held.frag s2 (Mono.sl _ _ _ _ _)
/-- Lists of numbers, each in memory of its own. -/
def OwnAll : List LV → HL → Prop
  | [], L => L = []
  | x :: xs, L => ∃ F G, OwnV x F ∧ OwnAll xs G ∧ L = F ++ G
theorem OwnAll.nil : OwnAll [] [] := rfl
theorem OwnV.all {x : LV} {F : HL} (h : OwnV x F) : OwnAll [x] F := ⟨F, [], h, rfl, (List.append_nil F).symm⟩
theorem OwnAll.app {xs ys : List LV} {F G : HL} (h : OwnAll xs F) (h2 : OwnAll ys G) : OwnAll (xs ++ ys) (F ++ G) := by
  induction xs generalizing F with
  | nil => obtain rfl := h; exact h2
  | cons x xs ih =>
    obtain ⟨A, B, ha, hb, rfl⟩ := h
    exact ⟨A, B ++ G, ha, ih hb, List.append_assoc _ _ _⟩
theorem OwnAll.held {xs : List LV} {F : HL} (h : OwnAll xs F) : Held F (fun h => ∀ x ∈ xs, lvAt h x) := by
  induction xs generalizing F with
  | nil => exact fun _ _ x hx => by simp at hx
  | cons x xs ih =>
    obtain ⟨A, B, ha, hb, rfl⟩ := h
    intro h hh y hy
    rcases List.mem_cons.1 hy with rfl | hy
    · exact ha.held h fun z hz => hh z (List.mem_append_left _ hz)
    · exact ih hb h (fun z hz => hh z (List.mem_append_right _ hz)) y hy
def LL.nl (l : LL) : List LV := [l.n1, l.n2, l.q.d, l.k.d, l.v.d, l.o.d, l.g.d, l.u.d, l.d.d]
def LW.nl (x : LW) : List LV := [x.E.d, x.F, x.H.d] ++ (x.Ls.1.flatMap LL.nl ++ x.M.1.map (·.d))
/-- Weights whose lists lie each in memory of its own. -/
structure OwnW (x : LW) (L : HL) : Prop where
  bt : x.T.1.length * 16 ≤ 140737488355328
  bl : x.Ls.1.length * 384 ≤ 140737488355328
  bm : x.M.1.length * 40 ≤ 140737488355328
  lists : ∃ Fn Ft Fl Fm : HL, OwnAll x.nl Fn ∧ OwnS 70 2 (sla x.T) x.T.1.length (x.T.1.flatMap turnV) Ft ∧ OwnS 67 30 (sla x.Ls) x.Ls.1.length (x.Ls.1.flatMap LL.cells) Fl ∧ OwnS 26 3 (sla x.M) x.M.1.length (x.M.1.flatMap LM.cells) Fm ∧ L.Perm (Fn ++ (Ft ++ (Fl ++ Fm)))
theorem raw_at {α : Type} {f : α → List Value} {k : Nat} {hk : ∀ x, (f x).length = k} {by_ e : Nat} {xs : List α} {a : Option Addr} {c : Nat} {F : HL} (h : OwnS e k (.slice a xs.length c) xs.length (xs.flatMap f) F) (hb : xs.length * by_ ≤ 140737488355328) :
    Held F (fun h => SlA (Kd.raw f k hk) by_ h xs a c) := by
  obtain ⟨a2, c2, e2, s2⟩ := h.raw (f := f) (k := k) (hk := hk) (by_ := by_) rfl hb
  obtain ⟨rfl, _, rfl⟩ := Value.slice.inj e2
  exact Held.frag s2 (Mono.sl _ _ _ _ _)
theorem OwnW.held {x : LW} {L : HL} (h : OwnW x L) : Held L (fun h => lwAt h x) := by
  obtain ⟨bt, bl, bm, Fn, Ft, Fl, Fm, h1, h2, h3, h4, hp⟩ := h
  intro h hh
  have g : ∀ {A : HL}, (∀ y ∈ A, y ∈ Fn ++ (Ft ++ (Fl ++ Fm))) → ∀ y ∈ A, _ := fun s y hy => hh y (hp.mem_iff.2 (s y hy))
  have q1 := h1.held h (g (A := Fn) fun y hy => by simp [hy])
  have q2 := raw_at (f := turnV) (k := 2) (hk := fun _ => rfl) (a := x.T.2.1) (c := x.T.2.2) h2 bt h (g (A := Ft) fun y hy => by simp [hy])
  have q3 := raw_at (f := LL.cells) (k := 30) (hk := fun _ => rfl) (a := x.Ls.2.1) (c := x.Ls.2.2) h3 bl h (g (A := Fl) fun y hy => by simp [hy])
  have q4 := raw_at (f := LM.cells) (k := 3) (hk := fun _ => rfl) (a := x.M.2.1) (c := x.M.2.2) h4 bm h (g (A := Fm) fun y hy => by simp [hy])
  refine ⟨q1 _ (by simp [LW.nl]), q2, SlA.ofRaw q3 fun l hl => ?_, q1 _ (by simp [LW.nl]), q1 _ (by simp [LW.nl]), SlA.ofRaw q4 fun m hm => q1 _ ?_⟩
  · have hin : ∀ y ∈ l.nl, lvAt h y := fun y hy => q1 y (by
      unfold LW.nl
      exact List.mem_append_right _ (List.mem_append_left _ (List.mem_flatMap.2 ⟨l, hl, hy⟩)))
    exact ⟨hin _ (by simp [LL.nl]), hin _ (by simp [LL.nl]), hin _ (by simp [LL.nl]), hin _ (by simp [LL.nl]), hin _ (by simp [LL.nl]), hin _ (by simp [LL.nl]), hin _ (by simp [LL.nl]), hin _ (by simp [LL.nl]), hin _ (by simp [LL.nl])⟩
  · unfold LW.nl
    exact List.mem_append_right _ (List.mem_append_right _ (List.mem_map.2 ⟨m, hm, rfl⟩))
theorem nar_fn (x : LV) : FC Tryd.prog 88 [slv x] [] (fun h => lvAt h x)
    (fun v L => ∃ x' : LV, v = slv x' ∧ x'.1 = x.1 ∧ OwnV x' L) := by
  obtain ⟨xs, a, cap⟩ := x
  refine FC.intro Tryd.func88 rfl (by kernel_rfl) 5 [.tmp 2] rfl rfl rfl ?_
  intro w0 hA
  change SlA (Kd.int .i8) 1 _ xs a cap at hA
  have hsm := hA.bytes
  have hok := hA.okAll
  (repeat (first | (with_reducible apply XL.op) | ((with_reducible apply XOp.p1); (case hg | hv => exact rfl)) | (with_reducible apply XL.nilT) | (with_reducible apply XC.seq) | (with_reducible apply XC.region (Γ := Γ))))
  ((with_reducible apply XOp.appendG); (case hg => exact rfl); (case ht => exact rfl); (case hk => exact rfl); (case he => exact rfl); (case hs => exact rfl); (case hx => exact rfl); (case hown => exact OwnS.nil _ _); (case hL => rfl); (case ha => exact hA.at_); (case hc => exact fun _ => Known.of_old (rowInts hA) (Mono.row _ _ _)); (case hl => exact by simp); (case h1 => exact List.all_eq_true.2 fun v hv => by obtain ⟨x, _, rfl⟩ := List.mem_map.1 hv; rfl); (case hz => exact rfl); (case hsz => exact Nat.zero_lt_succ _); (case h63 => simp only [maxLen]; omega); (case hb => simp only []; omega))
  intro v' F' hown
  obtain ⟨a', c', rfl⟩ := hown.val
  (repeat (first | (with_reducible apply XL.op) | ((with_reducible apply XOp.p1); (case hg | hv => exact rfl)) | (with_reducible apply XL.nilT) | (with_reducible apply XQ.ret)))
  ((with_reducible apply XQ.retE); (case hr => exact .t rfl .nil))
  rw [List.append_nil]
  have ho := hown.conv (Nat.zero_add _) (List.nil_append _)
  exact ⟨(xs, a', c'), by rw [Nat.zero_add]; rfl, rfl, by rw [Nat.zero_add] at ho; exact ho, hsm, hok⟩
theorem mtx_fn (m : LM) : FC Tryd.prog 87 [.agg ⟨m.cells⟩] [] (fun h => lmAt h m)
    (fun v L => ∃ m' : LM, v = .agg ⟨m'.cells⟩ ∧ m'.mat = m.mat ∧ OwnV m'.d L) := by
  refine FC.sub2 ?_
  refine FC.intro Tryd.func87 rfl (by kernel_rfl) 8 [.cell 2 26] rfl rfl rfl ?_
  intro w0 hA
  (repeat (first | (with_reducible apply XL.op) | (with_reducible apply XC.seq) | (with_reducible apply XC.region (Γ := Γ))))
  ((with_reducible apply XOp.box); (case hg | hx' => exact rfl); intro mb)
  (repeat ((with_reducible apply XL.op)))
  ((with_reducible apply XOp.alloc); (case hg | ht | hx' => exact rfl); intro rb)
  (repeat (first | (with_reducible apply XL.op) | ((with_reducible apply XOp.p1); (case hg | hv => exact rfl)) | ((with_reducible apply XOp.load); (case hg | ht | hk | hx => exact rfl); (case hc => exact own_cell (i := 1) rfl rfl)) | (with_reducible apply XL.nilT) | (with_reducible apply XC.seq) | (with_reducible apply XC.region (Γ := Γ))))
  ((with_reducible apply XOp.callN (hF := nar_fn m.d)); (case hg => exact rfl); (case hc => exact rfl); (case ha => exact rfl); try (case hA => exact Known.true))
  case hA => exact Known.of_old hA (lm_mono _)
  rintro _ F ⟨d', rfl, hd, hF⟩
  (repeat (first | (with_reducible apply XL.op) | ((with_reducible apply XOp.p1); (case hg | hv => exact rfl)) | ((with_reducible apply XOp.loadO (i := 1)); (case hg | ht | hk | hx | hi | hc => exact rfl)) | ((with_reducible apply XOp.store (i := 1)); (case hg | ht | hk | hx | hv | h1 | hi | hs | ha => exact rfl)) | ((with_reducible apply XOp.storeN (i := 0)); (case hg | ht | hx | hv' | hk | h1 | hi | hs | ha => exact rfl)) | (with_reducible apply XL.nilT) | (with_reducible apply XC.seq) | (with_reducible apply XC.region (Γ := Γ)) | (with_reducible apply XQ.ret)))
  ((with_reducible apply XQ.retE); (case hr => exact .row rfl (by kernel_rfl) (by kernel_rfl) (own_row (i := 0) (m := 3) rfl rfl) .nil))
  exact ⟨F, .of (by ((try simp only [List.append_eq, List.cons_append, List.nil_append, List.append_assoc]); repeat (first | exact List.Sublist.refl _ | exact List.nil_sublist _ | (with_reducible apply List.Sublist.cons_cons) | (with_reducible apply List.Sublist.cons) | exact List.sublist_append_right _ _))), ⟨m.r, m.c, d'⟩, rfl, by simp [LM.mat, hd], hF⟩
theorem turn_one (y : Int × Int) (v : Value) (h : v ∈ turnV y) : v.oneCell' = true := by
  simp only [turnV, List.mem_cons, List.not_mem_nil, or_false] at h
  rcases h with rfl | rfl <;> rfl
/-- A layer with new norms and the first new matrices. -/
def mkT (l : LL) (n1 n2 : LV) (D : List LM) : LL := ⟨n1, n2, D.getD 0 l.q, D.getD 1 l.k, D.getD 2 l.v, D.getD 3 l.o, D.getD 4 l.g, D.getD 5 l.u, D.getD 6 l.d, l.b0, l.b1, l.b2, l.b3, l.b4, l.b5, l.b6⟩
def LL.ms (l : LL) : List LM := [l.q, l.k, l.v, l.o, l.g, l.u, l.d]
set_option maxHeartbeats 16000000 in
set_option maxRecDepth 10000 in
theorem twin_fn (x : LW) (hc : x.C.may) : FC Tryd.prog 50 [.agg ⟨x.cells⟩] [] (fun h => sidesK h ∧ lwAt h x)
    (fun v L => ∃ x' : LW, v = .agg ⟨x'.cells⟩ ∧ x'.w = x.w ∧ OwnW x' L) := by
  refine FC.sub2 ?_
  refine FC.intro Tryd.func50 rfl (by kernel_rfl) 82 [.cell 2 31] rfl rfl rfl ?_
  rintro w0 ⟨hS, hA⟩
  have hL := hA.l.locRaw
  have hLa := hL.at_
  have hLb := hL.bytes
  have hM := hA.m.locRaw
  have hMa := hM.at_
  have hMb := hM.bytes
  have hT := hA.t
  have hTa := hT.at_
  have hTb := hT.bytes
  (repeat (first | (with_reducible apply XL.op) | (with_reducible apply XC.seq) | (with_reducible apply XC.region (Γ := Γ))))
  ((with_reducible apply XOp.box); (case hg | hx' => exact rfl); intro wb)
  (repeat ((with_reducible apply XL.op)))
  ((with_reducible apply XOp.alloc); (case hg | ht | hx' => exact rfl); intro rb)
  (repeat (first | (with_reducible apply XL.nilT) | (with_reducible apply XC.seq)))
  refine XC.cut (fun ρ L => ∃ (xb : Nat) (e' : LM) (t' : LA (Int × Int)) (f' : LV) (h' : LM) (F1 F2 F3 F4 : HL), e'.mat = x.E.mat ∧ t'.1 = x.T.1 ∧ f'.1 = x.F.1 ∧ h'.mat = x.H.mat ∧ OwnV e'.d F1 ∧ OwnS 70 2 (.slice t'.2.1 x.T.1.length t'.2.2) x.T.1.length (x.T.1.flatMap turnV) F2 ∧ OwnV f' F3 ∧ OwnV h'.d F4 ∧
    L = [(xb, Obj.cells ⟨cpC x e' t' (.slice none 0 0) f' h' (.slice none 0 0)⟩ 31 (0, 0)), (rb, Obj.cells ⟨zeroW⟩ 31 (0, 0)), (wb, Obj.cells ⟨x.cells⟩ 31 (0, 0))] ++ (((F1 ++ F2) ++ F3) ++ F4) ∧ Slots ρ [(1, .pointer (some ⟨wb, 0, none⟩)), (2, .pointer (some ⟨rb, 0, none⟩)), (3, .pointer (some ⟨xb, 0, none⟩))]) _ ?_ ?_
  · ((with_reducible apply XC.regionL (Γ := Γ) mixed (.q 0 (.q 1 (.q 2 (.q 3 (.q 5 (.q 6 (.q 8 (.q 9 (.q 11 (.q 12 (.b [(4, .b [(7, .b [(10, .b [(13, .q 14 (.e 15 (.e 16 (.done)))), (15, .e 13 (.q 14 (.e 16 (.done))))]), (15, .e 10 (.e 13 (.q 14 (.e 16 (.done)))))]), (15, .e 7 (.e 10 (.e 13 (.q 14 (.e 16 (.done))))))]), (15, .e 4 (.e 7 (.e 10 (.e 13 (.q 14 (.e 16 (.done)))))))]))))))))))) [] ([(wb, Obj.cells ⟨x.cells⟩ 31 (0, 0))])); (case hc => kernel_rfl); (case hs => first | exact List.nil_sublist _ | exact List.Sublist.refl _ | exact List.sublist_append_right _ _ | (refine List.Sublist.cons_cons _ (List.nil_sublist _)) | (refine List.Sublist.cons_cons _ (List.Sublist.cons_cons _ (List.nil_sublist _))) | (refine List.Sublist.cons_cons _ (List.Sublist.cons_cons _ (List.Sublist.cons_cons _ (List.nil_sublist _)))) | (refine List.Sublist.cons_cons _ (List.Sublist.cons_cons _ (List.Sublist.cons_cons _ (List.Sublist.cons_cons _ (List.nil_sublist _))))) | ((try simp only [List.append_eq, List.cons_append, List.nil_append, List.append_assoc]); (repeat (first | exact List.Sublist.refl _ | exact List.nil_sublist _ | (with_reducible apply List.Sublist.cons_cons) | (with_reducible apply List.Sublist.cons))); done)))
    (repeat (first | ((with_reducible apply XP.p1); (case ho | hg | hv => exact rfl)) | ((with_reducible apply XP.load); (case ho | hg | ht | hk | hx => exact rfl); (case hc => exact own_cell (i := 0) rfl rfl)) | ((with_reducible apply XP.loadO (j := 0)); (case ho | hg | ht | hk | hx | hi | hc => exact rfl)) | (with_reducible apply XP.b) | (with_reducible apply XB.cons) | ((with_reducible apply XE.e); (case ho => exact rfl))))
    · ((with_reducible apply XOp.callN (hF := mtx_fn x.E)); (case hg => exact rfl); (case hc => exact rfl); (case ha => exact rfl); try (case hA => exact Known.true))
      case hA => exact Known.of_old hA.e (lm_mono _)
      rintro _ F1 ⟨e', rfl, he, hF1⟩
      (repeat (first | ((with_reducible apply XP.keep); (case hk => first | ((repeat' (first | exact List.forall_mem_nil _ | (with_reducible refine List.forall_mem_cons.2 ⟨?_, ?_⟩) | exact List.mem_cons_self .. | (with_reducible apply List.mem_cons_of_mem) | (with_reducible apply List.mem_append_right))); done) | (intro x hx; first | exact sel_in hx | exact List.mem_cons_of_mem _ (sel_in hx) | exact List.mem_append_right _ (sel_in hx) | exact hx | exact List.mem_cons_of_mem _ hx | exact List.mem_append_right _ hx | ((repeat (first | exact sel_in hx | exact hx | (with_reducible apply List.mem_cons_of_mem) | (with_reducible apply List.mem_append_right))); done) | (rw [List.mem_singleton.1 hx]; (simp; done)) | (rcases List.mem_cons.1 hx with rfl | hx; (simp; done); (rw [List.mem_singleton.1 hx]; (simp; done))) | cases hx))) | (with_reducible apply XP.b) | (with_reducible apply XB.cons) | ((with_reducible apply XE.e); (case ho => exact rfl))))
      skip
      · ((with_reducible apply XOp.appendG); (case hg => exact rfl); (case ht => exact rfl); (case hk => exact rfl); (case he => exact rfl); (case hs => exact rfl); (case hx => exact rfl); (case hown => exact OwnS.nil _ _); (case hL => rfl); (case ha => exact hTa); (case hc => exact fun _ => Known.of_old (rows_flat turnV 2 (fun _ => rfl) x.T.1 (aoff x.T.2.1) fun i y hi => hT.rawAt hi) (Mono.row _ _ _)); (case hl => exact flat_len turnV 2 (fun _ => rfl) x.T.1); (case h1 => exact List.all_eq_true.2 fun v hv => by obtain ⟨y, _, hy⟩ := List.mem_flatMap.1 hv; exact turn_one y v hy); (case hz => exact rfl); (case hsz => exact Nat.zero_lt_succ _); (case h63 => simp only [maxLen]; omega); (case hb => simp only []; omega))
        intro tv F2 ht
        have ht0 := ht.conv (Nat.zero_add _) (List.nil_append _)
        obtain ⟨ta, tc, rfl⟩ := ht0.val
        (repeat (first | ((with_reducible apply XP.keep); (case hk => first | ((repeat' (first | exact List.forall_mem_nil _ | (with_reducible refine List.forall_mem_cons.2 ⟨?_, ?_⟩) | exact List.mem_cons_self .. | (with_reducible apply List.mem_cons_of_mem) | (with_reducible apply List.mem_append_right))); done) | (intro x hx; first | exact sel_in hx | exact List.mem_cons_of_mem _ (sel_in hx) | exact List.mem_append_right _ (sel_in hx) | exact hx | exact List.mem_cons_of_mem _ hx | exact List.mem_append_right _ hx | ((repeat (first | exact sel_in hx | exact hx | (with_reducible apply List.mem_cons_of_mem) | (with_reducible apply List.mem_append_right))); done) | (rw [List.mem_singleton.1 hx]; (simp; done)) | (rcases List.mem_cons.1 hx with rfl | hx; (simp; done); (rw [List.mem_singleton.1 hx]; (simp; done))) | cases hx))) | (with_reducible apply XP.b) | (with_reducible apply XB.cons) | ((with_reducible apply XE.e); (case ho => exact rfl))))
        skip
        · (refine (show XOp _ _ _ _ _ _ _ _ (F2 ++ ([(rb, Obj.cells ⟨zeroW⟩ 31 (0, 0)), (wb, Obj.cells ⟨x.cells⟩ 31 (0, 0))] ++ F1)) from XOp.perm (L' :=  [(rb, Obj.cells ⟨zeroW⟩ 31 (0, 0)), (wb, Obj.cells ⟨x.cells⟩ 31 (0, 0))] ++ (F1 ++ F2)) rfl ?_ (by (first | (with_reducible exact List.Perm.refl _) | refine perm_of_cnt fun p_ => ?_; simp only [List.countP_append, List.countP_cons, List.countP_nil]; omega))))
          ((with_reducible apply XOp.callN (hF := nar_fn x.F)); (case hg => exact rfl); (case hc => exact rfl); (case ha => exact rfl); try (case hA => exact Known.true))
          case hA => exact Known.of_old hA.f (lv_mono _)
          rintro _ F3 ⟨f', rfl, hf, hF3⟩
          (repeat (first | ((with_reducible apply XP.keep); (case hk => first | ((repeat' (first | exact List.forall_mem_nil _ | (with_reducible refine List.forall_mem_cons.2 ⟨?_, ?_⟩) | exact List.mem_cons_self .. | (with_reducible apply List.mem_cons_of_mem) | (with_reducible apply List.mem_append_right))); done) | (intro x hx; first | exact sel_in hx | exact List.mem_cons_of_mem _ (sel_in hx) | exact List.mem_append_right _ (sel_in hx) | exact hx | exact List.mem_cons_of_mem _ hx | exact List.mem_append_right _ hx | ((repeat (first | exact sel_in hx | exact hx | (with_reducible apply List.mem_cons_of_mem) | (with_reducible apply List.mem_append_right))); done) | (rw [List.mem_singleton.1 hx]; (simp; done)) | (rcases List.mem_cons.1 hx with rfl | hx; (simp; done); (rw [List.mem_singleton.1 hx]; (simp; done))) | cases hx))) | (with_reducible apply XP.b) | (with_reducible apply XB.cons) | ((with_reducible apply XE.e); (case ho => exact rfl))))
          skip
          · ((with_reducible apply XOp.callN (hF := mtx_fn x.H)); (case hg => exact rfl); (case hc => exact rfl); (case ha => exact rfl); try (case hA => exact Known.true))
            case hA => exact Known.of_old hA.hd (lm_mono _)
            rintro _ F4 ⟨h', rfl, hh', hF4⟩
            (repeat (first | ((with_reducible apply XP.pr); (case ho => exact rfl); (case hg => exact rfl); (case hr => ((with_reducible apply PR.build); (case ht | hk | hok | hz | hf => exact rfl)))) | ((with_reducible apply XP.e); (first | ((with_reducible apply XE.d); (case ho => exact rfl); (case hd => exact rfl)) | ((with_reducible apply XE.e); (case ho => exact rfl)))) | ((with_reducible apply XP.keep); (case hk => first | ((repeat' (first | exact List.forall_mem_nil _ | (with_reducible refine List.forall_mem_cons.2 ⟨?_, ?_⟩) | exact List.mem_cons_self .. | (with_reducible apply List.mem_cons_of_mem) | (with_reducible apply List.mem_append_right))); done) | (intro x hx; first | exact sel_in hx | exact List.mem_cons_of_mem _ (sel_in hx) | exact List.mem_append_right _ (sel_in hx) | exact hx | exact List.mem_cons_of_mem _ hx | exact List.mem_append_right _ hx | ((repeat (first | exact sel_in hx | exact hx | (with_reducible apply List.mem_cons_of_mem) | (with_reducible apply List.mem_append_right))); done) | (rw [List.mem_singleton.1 hx]; (simp; done)) | (rcases List.mem_cons.1 hx with rfl | hx; (simp; done); (rw [List.mem_singleton.1 hx]; (simp; done))) | cases hx)))))
            skip
            ((with_reducible apply XOp.alloc); (case hg | ht | hx' => exact rfl); intro xb)
            (repeat (first | ((with_reducible apply XOp.storeN (i := 0)); (case hg | ht | hx | hv' | hk | h1 | hi | hs | ha => exact rfl)) | (with_reducible apply XQ.nt) | (with_reducible apply XP.done) | ((with_reducible apply XP.e); (first | ((with_reducible apply XE.d); (case ho => exact rfl); (case hd => exact rfl)) | ((with_reducible apply XE.e); (case ho => exact rfl)))) | ((with_reducible apply XP.keep); (case hk => first | ((repeat' (first | exact List.forall_mem_nil _ | (with_reducible refine List.forall_mem_cons.2 ⟨?_, ?_⟩) | exact List.mem_cons_self .. | (with_reducible apply List.mem_cons_of_mem) | (with_reducible apply List.mem_append_right))); done) | (intro x hx; first | exact sel_in hx | exact List.mem_cons_of_mem _ (sel_in hx) | exact List.mem_append_right _ (sel_in hx) | exact hx | exact List.mem_cons_of_mem _ hx | exact List.mem_append_right _ hx | ((repeat (first | exact sel_in hx | exact hx | (with_reducible apply List.mem_cons_of_mem) | (with_reducible apply List.mem_append_right))); done) | (rw [List.mem_singleton.1 hx]; (simp; done)) | (rcases List.mem_cons.1 hx with rfl | hx; (simp; done); (rw [List.mem_singleton.1 hx]; (simp; done))) | cases hx)))))
            skip
            exact ⟨xb, e', (x.T.1, ta, tc), f', h', F1, F2, F3, F4, he, rfl, hf, hh', hF1, ht0, hF3, hF4, rfl, rfl, rfl, rfl, trivial⟩
          · (repeat (first | (with_reducible apply XB.cons) | ((with_reducible apply XE.e); (case ho => exact rfl))))
            ((with_reducible apply XOp.alloc); (case hg | ht | hx' => exact rfl); intro xb)
            (repeat (first | ((with_reducible apply XP.e); (first | ((with_reducible apply XE.d); (case ho => exact rfl); (case hd => exact rfl)) | ((with_reducible apply XE.e); (case ho => exact rfl)))) | ((with_reducible apply XP.keep); (case hk => first | ((repeat' (first | exact List.forall_mem_nil _ | (with_reducible refine List.forall_mem_cons.2 ⟨?_, ?_⟩) | exact List.mem_cons_self .. | (with_reducible apply List.mem_cons_of_mem) | (with_reducible apply List.mem_append_right))); done) | (intro x hx; first | exact sel_in hx | exact List.mem_cons_of_mem _ (sel_in hx) | exact List.mem_append_right _ (sel_in hx) | exact hx | exact List.mem_cons_of_mem _ hx | exact List.mem_append_right _ hx | ((repeat (first | exact sel_in hx | exact hx | (with_reducible apply List.mem_cons_of_mem) | (with_reducible apply List.mem_append_right))); done) | (rw [List.mem_singleton.1 hx]; (simp; done)) | (rcases List.mem_cons.1 hx with rfl | hx; (simp; done); (rw [List.mem_singleton.1 hx]; (simp; done))) | cases hx)))))
            skip
            ((with_reducible apply XOp.callN (hF := mtx_fn x.H)); (case hg => exact rfl); (case hc => exact rfl); (case ha => exact rfl); try (case hA => exact Known.true))
            case hA => exact Known.of_old hA.hd (lm_mono _)
            rintro _ F4 ⟨h', rfl, hh', hF4⟩
            (repeat (first | ((with_reducible apply XOp.storeN (i := 0)); (case hg | ht | hx | hv' | hk | h1 | hi | hs | ha => exact rfl)) | (with_reducible apply XQ.nt) | ((with_reducible apply XP.pr); (case ho => exact rfl); (case hg => exact rfl); (case hr => ((with_reducible apply PR.build); (case ht | hk | hok | hz | hf => exact rfl)))) | (with_reducible apply XP.done) | ((with_reducible apply XP.e); (first | ((with_reducible apply XE.d); (case ho => exact rfl); (case hd => exact rfl)) | ((with_reducible apply XE.e); (case ho => exact rfl)))) | ((with_reducible apply XP.keep); (case hk => first | ((repeat' (first | exact List.forall_mem_nil _ | (with_reducible refine List.forall_mem_cons.2 ⟨?_, ?_⟩) | exact List.mem_cons_self .. | (with_reducible apply List.mem_cons_of_mem) | (with_reducible apply List.mem_append_right))); done) | (intro x hx; first | exact sel_in hx | exact List.mem_cons_of_mem _ (sel_in hx) | exact List.mem_append_right _ (sel_in hx) | exact hx | exact List.mem_cons_of_mem _ hx | exact List.mem_append_right _ hx | ((repeat (first | exact sel_in hx | exact hx | (with_reducible apply List.mem_cons_of_mem) | (with_reducible apply List.mem_append_right))); done) | (rw [List.mem_singleton.1 hx]; (simp; done)) | (rcases List.mem_cons.1 hx with rfl | hx; (simp; done); (rw [List.mem_singleton.1 hx]; (simp; done))) | cases hx)))))
            skip
            exact ⟨xb, e', (x.T.1, ta, tc), f', h', F1, F2, F3, F4, he, rfl, hf, hh', hF1, ht0, hF3, hF4, rfl, rfl, rfl, rfl, trivial⟩
            exact XB.nil
        · (repeat (first | (with_reducible apply XB.cons) | ((with_reducible apply XE.e); (case ho => exact rfl))))
          ((with_reducible apply XOp.alloc); (case hg | ht | hx' => exact rfl); intro xb)
          (repeat (first | ((with_reducible apply XP.e); (first | ((with_reducible apply XE.d); (case ho => exact rfl); (case hd => exact rfl)) | ((with_reducible apply XE.e); (case ho => exact rfl)))) | ((with_reducible apply XP.keep); (case hk => first | ((repeat' (first | exact List.forall_mem_nil _ | (with_reducible refine List.forall_mem_cons.2 ⟨?_, ?_⟩) | exact List.mem_cons_self .. | (with_reducible apply List.mem_cons_of_mem) | (with_reducible apply List.mem_append_right))); done) | (intro x hx; first | exact sel_in hx | exact List.mem_cons_of_mem _ (sel_in hx) | exact List.mem_append_right _ (sel_in hx) | exact hx | exact List.mem_cons_of_mem _ hx | exact List.mem_append_right _ hx | ((repeat (first | exact sel_in hx | exact hx | (with_reducible apply List.mem_cons_of_mem) | (with_reducible apply List.mem_append_right))); done) | (rw [List.mem_singleton.1 hx]; (simp; done)) | (rcases List.mem_cons.1 hx with rfl | hx; (simp; done); (rw [List.mem_singleton.1 hx]; (simp; done))) | cases hx)))))
          skip
          (refine (show XOp _ _ _ _ _ _ _ _ ((xb, Obj.cells ⟨zeroW⟩ 31 (0, 0)) :: (F2 ++ ([(rb, Obj.cells ⟨zeroW⟩ 31 (0, 0)), (wb, Obj.cells ⟨x.cells⟩ 31 (0, 0))] ++ F1))) from XOp.perm (L' :=  [(xb, Obj.cells ⟨zeroW⟩ 31 (0, 0)), (rb, Obj.cells ⟨zeroW⟩ 31 (0, 0)), (wb, Obj.cells ⟨x.cells⟩ 31 (0, 0))] ++ (F1 ++ F2)) rfl ?_ (by (first | (with_reducible exact List.Perm.refl _) | refine perm_of_cnt fun p_ => ?_; simp only [List.countP_append, List.countP_cons, List.countP_nil]; omega))))
          ((with_reducible apply XOp.callN (hF := nar_fn x.F)); (case hg => exact rfl); (case hc => exact rfl); (case ha => exact rfl); try (case hA => exact Known.true))
          case hA => exact Known.of_old hA.f (lv_mono _)
          rintro _ F3 ⟨f', rfl, hf, hF3⟩
          (repeat (first | ((with_reducible apply XP.e); (first | ((with_reducible apply XE.d); (case ho => exact rfl); (case hd => exact rfl)) | ((with_reducible apply XE.e); (case ho => exact rfl)))) | ((with_reducible apply XP.keep); (case hk => first | ((repeat' (first | exact List.forall_mem_nil _ | (with_reducible refine List.forall_mem_cons.2 ⟨?_, ?_⟩) | exact List.mem_cons_self .. | (with_reducible apply List.mem_cons_of_mem) | (with_reducible apply List.mem_append_right))); done) | (intro x hx; first | exact sel_in hx | exact List.mem_cons_of_mem _ (sel_in hx) | exact List.mem_append_right _ (sel_in hx) | exact hx | exact List.mem_cons_of_mem _ hx | exact List.mem_append_right _ hx | ((repeat (first | exact sel_in hx | exact hx | (with_reducible apply List.mem_cons_of_mem) | (with_reducible apply List.mem_append_right))); done) | (rw [List.mem_singleton.1 hx]; (simp; done)) | (rcases List.mem_cons.1 hx with rfl | hx; (simp; done); (rw [List.mem_singleton.1 hx]; (simp; done))) | cases hx)))))
          skip
          ((with_reducible apply XOp.callN (hF := mtx_fn x.H)); (case hg => exact rfl); (case hc => exact rfl); (case ha => exact rfl); try (case hA => exact Known.true))
          case hA => exact Known.of_old hA.hd (lm_mono _)
          rintro _ F4 ⟨h', rfl, hh', hF4⟩
          (repeat (first | ((with_reducible apply XOp.storeN (i := 0)); (case hg | ht | hx | hv' | hk | h1 | hi | hs | ha => exact rfl)) | (with_reducible apply XQ.nt) | ((with_reducible apply XP.pr); (case ho => exact rfl); (case hg => exact rfl); (case hr => ((with_reducible apply PR.build); (case ht | hk | hok | hz | hf => exact rfl)))) | (with_reducible apply XP.done) | ((with_reducible apply XP.e); (first | ((with_reducible apply XE.d); (case ho => exact rfl); (case hd => exact rfl)) | ((with_reducible apply XE.e); (case ho => exact rfl)))) | ((with_reducible apply XP.keep); (case hk => first | ((repeat' (first | exact List.forall_mem_nil _ | (with_reducible refine List.forall_mem_cons.2 ⟨?_, ?_⟩) | exact List.mem_cons_self .. | (with_reducible apply List.mem_cons_of_mem) | (with_reducible apply List.mem_append_right))); done) | (intro x hx; first | exact sel_in hx | exact List.mem_cons_of_mem _ (sel_in hx) | exact List.mem_append_right _ (sel_in hx) | exact hx | exact List.mem_cons_of_mem _ hx | exact List.mem_append_right _ hx | ((repeat (first | exact sel_in hx | exact hx | (with_reducible apply List.mem_cons_of_mem) | (with_reducible apply List.mem_append_right))); done) | (rw [List.mem_singleton.1 hx]; (simp; done)) | (rcases List.mem_cons.1 hx with rfl | hx; (simp; done); (rw [List.mem_singleton.1 hx]; (simp; done))) | cases hx)))))
          skip
          exact ⟨xb, e', (x.T.1, ta, tc), f', h', F1, F2, F3, F4, he, rfl, hf, hh', hF1, ht0, hF3, hF4, rfl, rfl, rfl, rfl, trivial⟩
          exact XB.nil
      · (repeat (first | (with_reducible apply XB.cons) | ((with_reducible apply XE.e); (case ho => exact rfl))))
        ((with_reducible apply XOp.alloc); (case hg | ht | hx' => exact rfl); intro xb)
        (repeat (first | ((with_reducible apply XP.e); (first | ((with_reducible apply XE.d); (case ho => exact rfl); (case hd => exact rfl)) | ((with_reducible apply XE.e); (case ho => exact rfl)))) | ((with_reducible apply XP.keep); (case hk => first | ((repeat' (first | exact List.forall_mem_nil _ | (with_reducible refine List.forall_mem_cons.2 ⟨?_, ?_⟩) | exact List.mem_cons_self .. | (with_reducible apply List.mem_cons_of_mem) | (with_reducible apply List.mem_append_right))); done) | (intro x hx; first | exact sel_in hx | exact List.mem_cons_of_mem _ (sel_in hx) | exact List.mem_append_right _ (sel_in hx) | exact hx | exact List.mem_cons_of_mem _ hx | exact List.mem_append_right _ hx | ((repeat (first | exact sel_in hx | exact hx | (with_reducible apply List.mem_cons_of_mem) | (with_reducible apply List.mem_append_right))); done) | (rw [List.mem_singleton.1 hx]; (simp; done)) | (rcases List.mem_cons.1 hx with rfl | hx; (simp; done); (rw [List.mem_singleton.1 hx]; (simp; done))) | cases hx)))))
        skip
        ((with_reducible apply XOp.appendG); (case hg => exact rfl); (case ht => exact rfl); (case hk => exact rfl); (case he => exact rfl); (case hs => exact rfl); (case hx => exact rfl); (case hown => exact OwnS.nil _ _); (case hL => rfl); (case ha => exact hTa); (case hc => exact fun _ => Known.of_old (rows_flat turnV 2 (fun _ => rfl) x.T.1 (aoff x.T.2.1) fun i y hi => hT.rawAt hi) (Mono.row _ _ _)); (case hl => exact flat_len turnV 2 (fun _ => rfl) x.T.1); (case h1 => exact List.all_eq_true.2 fun v hv => by obtain ⟨y, _, hy⟩ := List.mem_flatMap.1 hv; exact turn_one y v hy); (case hz => exact rfl); (case hsz => exact Nat.zero_lt_succ _); (case h63 => simp only [maxLen]; omega); (case hb => simp only []; omega))
        intro tv F2 ht
        have ht0 := ht.conv (Nat.zero_add _) (List.nil_append _)
        obtain ⟨ta, tc, rfl⟩ := ht0.val
        (repeat (first | ((with_reducible apply XP.e); (first | ((with_reducible apply XE.d); (case ho => exact rfl); (case hd => exact rfl)) | ((with_reducible apply XE.e); (case ho => exact rfl)))) | ((with_reducible apply XP.keep); (case hk => first | ((repeat' (first | exact List.forall_mem_nil _ | (with_reducible refine List.forall_mem_cons.2 ⟨?_, ?_⟩) | exact List.mem_cons_self .. | (with_reducible apply List.mem_cons_of_mem) | (with_reducible apply List.mem_append_right))); done) | (intro x hx; first | exact sel_in hx | exact List.mem_cons_of_mem _ (sel_in hx) | exact List.mem_append_right _ (sel_in hx) | exact hx | exact List.mem_cons_of_mem _ hx | exact List.mem_append_right _ hx | ((repeat (first | exact sel_in hx | exact hx | (with_reducible apply List.mem_cons_of_mem) | (with_reducible apply List.mem_append_right))); done) | (rw [List.mem_singleton.1 hx]; (simp; done)) | (rcases List.mem_cons.1 hx with rfl | hx; (simp; done); (rw [List.mem_singleton.1 hx]; (simp; done))) | cases hx)))))
        skip
        (refine (show XOp _ _ _ _ _ _ _ _ (F2 ++ ([(xb, Obj.cells ⟨zeroW⟩ 31 (0, 0)), (rb, Obj.cells ⟨zeroW⟩ 31 (0, 0)), (wb, Obj.cells ⟨x.cells⟩ 31 (0, 0))] ++ F1)) from XOp.perm (L' :=  [(xb, Obj.cells ⟨zeroW⟩ 31 (0, 0)), (rb, Obj.cells ⟨zeroW⟩ 31 (0, 0)), (wb, Obj.cells ⟨x.cells⟩ 31 (0, 0))] ++ (F1 ++ F2)) rfl ?_ (by (first | (with_reducible exact List.Perm.refl _) | refine perm_of_cnt fun p_ => ?_; simp only [List.countP_append, List.countP_cons, List.countP_nil]; omega))))
        ((with_reducible apply XOp.callN (hF := nar_fn x.F)); (case hg => exact rfl); (case hc => exact rfl); (case ha => exact rfl); try (case hA => exact Known.true))
        case hA => exact Known.of_old hA.f (lv_mono _)
        rintro _ F3 ⟨f', rfl, hf, hF3⟩
        (repeat (first | ((with_reducible apply XP.e); (first | ((with_reducible apply XE.d); (case ho => exact rfl); (case hd => exact rfl)) | ((with_reducible apply XE.e); (case ho => exact rfl)))) | ((with_reducible apply XP.keep); (case hk => first | ((repeat' (first | exact List.forall_mem_nil _ | (with_reducible refine List.forall_mem_cons.2 ⟨?_, ?_⟩) | exact List.mem_cons_self .. | (with_reducible apply List.mem_cons_of_mem) | (with_reducible apply List.mem_append_right))); done) | (intro x hx; first | exact sel_in hx | exact List.mem_cons_of_mem _ (sel_in hx) | exact List.mem_append_right _ (sel_in hx) | exact hx | exact List.mem_cons_of_mem _ hx | exact List.mem_append_right _ hx | ((repeat (first | exact sel_in hx | exact hx | (with_reducible apply List.mem_cons_of_mem) | (with_reducible apply List.mem_append_right))); done) | (rw [List.mem_singleton.1 hx]; (simp; done)) | (rcases List.mem_cons.1 hx with rfl | hx; (simp; done); (rw [List.mem_singleton.1 hx]; (simp; done))) | cases hx)))))
        skip
        ((with_reducible apply XOp.callN (hF := mtx_fn x.H)); (case hg => exact rfl); (case hc => exact rfl); (case ha => exact rfl); try (case hA => exact Known.true))
        case hA => exact Known.of_old hA.hd (lm_mono _)
        rintro _ F4 ⟨h', rfl, hh', hF4⟩
        (repeat (first | ((with_reducible apply XOp.storeN (i := 0)); (case hg | ht | hx | hv' | hk | h1 | hi | hs | ha => exact rfl)) | (with_reducible apply XQ.nt) | ((with_reducible apply XP.pr); (case ho => exact rfl); (case hg => exact rfl); (case hr => ((with_reducible apply PR.build); (case ht | hk | hok | hz | hf => exact rfl)))) | (with_reducible apply XP.done) | ((with_reducible apply XP.e); (first | ((with_reducible apply XE.d); (case ho => exact rfl); (case hd => exact rfl)) | ((with_reducible apply XE.e); (case ho => exact rfl)))) | ((with_reducible apply XP.keep); (case hk => first | ((repeat' (first | exact List.forall_mem_nil _ | (with_reducible refine List.forall_mem_cons.2 ⟨?_, ?_⟩) | exact List.mem_cons_self .. | (with_reducible apply List.mem_cons_of_mem) | (with_reducible apply List.mem_append_right))); done) | (intro x hx; first | exact sel_in hx | exact List.mem_cons_of_mem _ (sel_in hx) | exact List.mem_append_right _ (sel_in hx) | exact hx | exact List.mem_cons_of_mem _ hx | exact List.mem_append_right _ hx | ((repeat (first | exact sel_in hx | exact hx | (with_reducible apply List.mem_cons_of_mem) | (with_reducible apply List.mem_append_right))); done) | (rw [List.mem_singleton.1 hx]; (simp; done)) | (rcases List.mem_cons.1 hx with rfl | hx; (simp; done); (rw [List.mem_singleton.1 hx]; (simp; done))) | cases hx)))))
        skip
        exact ⟨xb, e', (x.T.1, ta, tc), f', h', F1, F2, F3, F4, he, rfl, hf, hh', hF1, ht0, hF3, hF4, rfl, rfl, rfl, rfl, trivial⟩
        exact XB.nil
    · (repeat (first | (with_reducible apply XB.cons) | ((with_reducible apply XE.e); (case ho => exact rfl))))
      ((with_reducible apply XOp.alloc); (case hg | ht | hx' => exact rfl); intro xb)
      (repeat (first | ((with_reducible apply XP.e); (first | ((with_reducible apply XE.d); (case ho => exact rfl); (case hd => exact rfl)) | ((with_reducible apply XE.e); (case ho => exact rfl)))) | ((with_reducible apply XP.keep); (case hk => first | ((repeat' (first | exact List.forall_mem_nil _ | (with_reducible refine List.forall_mem_cons.2 ⟨?_, ?_⟩) | exact List.mem_cons_self .. | (with_reducible apply List.mem_cons_of_mem) | (with_reducible apply List.mem_append_right))); done) | (intro x hx; first | exact sel_in hx | exact List.mem_cons_of_mem _ (sel_in hx) | exact List.mem_append_right _ (sel_in hx) | exact hx | exact List.mem_cons_of_mem _ hx | exact List.mem_append_right _ hx | ((repeat (first | exact sel_in hx | exact hx | (with_reducible apply List.mem_cons_of_mem) | (with_reducible apply List.mem_append_right))); done) | (rw [List.mem_singleton.1 hx]; (simp; done)) | (rcases List.mem_cons.1 hx with rfl | hx; (simp; done); (rw [List.mem_singleton.1 hx]; (simp; done))) | cases hx)))))
      skip
      ((with_reducible apply XOp.callN (hF := mtx_fn x.E)); (case hg => exact rfl); (case hc => exact rfl); (case ha => exact rfl); try (case hA => exact Known.true))
      case hA => exact Known.of_old hA.e (lm_mono _)
      rintro _ F1 ⟨e', rfl, he, hF1⟩
      (repeat (first | ((with_reducible apply XP.e); (first | ((with_reducible apply XE.d); (case ho => exact rfl); (case hd => exact rfl)) | ((with_reducible apply XE.e); (case ho => exact rfl)))) | ((with_reducible apply XP.keep); (case hk => first | ((repeat' (first | exact List.forall_mem_nil _ | (with_reducible refine List.forall_mem_cons.2 ⟨?_, ?_⟩) | exact List.mem_cons_self .. | (with_reducible apply List.mem_cons_of_mem) | (with_reducible apply List.mem_append_right))); done) | (intro x hx; first | exact sel_in hx | exact List.mem_cons_of_mem _ (sel_in hx) | exact List.mem_append_right _ (sel_in hx) | exact hx | exact List.mem_cons_of_mem _ hx | exact List.mem_append_right _ hx | ((repeat (first | exact sel_in hx | exact hx | (with_reducible apply List.mem_cons_of_mem) | (with_reducible apply List.mem_append_right))); done) | (rw [List.mem_singleton.1 hx]; (simp; done)) | (rcases List.mem_cons.1 hx with rfl | hx; (simp; done); (rw [List.mem_singleton.1 hx]; (simp; done))) | cases hx)))))
      skip
      ((with_reducible apply XOp.appendG); (case hg => exact rfl); (case ht => exact rfl); (case hk => exact rfl); (case he => exact rfl); (case hs => exact rfl); (case hx => exact rfl); (case hown => exact OwnS.nil _ _); (case hL => rfl); (case ha => exact hTa); (case hc => exact fun _ => Known.of_old (rows_flat turnV 2 (fun _ => rfl) x.T.1 (aoff x.T.2.1) fun i y hi => hT.rawAt hi) (Mono.row _ _ _)); (case hl => exact flat_len turnV 2 (fun _ => rfl) x.T.1); (case h1 => exact List.all_eq_true.2 fun v hv => by obtain ⟨y, _, hy⟩ := List.mem_flatMap.1 hv; exact turn_one y v hy); (case hz => exact rfl); (case hsz => exact Nat.zero_lt_succ _); (case h63 => simp only [maxLen]; omega); (case hb => simp only []; omega))
      intro tv F2 ht
      have ht0 := ht.conv (Nat.zero_add _) (List.nil_append _)
      obtain ⟨ta, tc, rfl⟩ := ht0.val
      (repeat (first | ((with_reducible apply XP.e); (first | ((with_reducible apply XE.d); (case ho => exact rfl); (case hd => exact rfl)) | ((with_reducible apply XE.e); (case ho => exact rfl)))) | ((with_reducible apply XP.keep); (case hk => first | ((repeat' (first | exact List.forall_mem_nil _ | (with_reducible refine List.forall_mem_cons.2 ⟨?_, ?_⟩) | exact List.mem_cons_self .. | (with_reducible apply List.mem_cons_of_mem) | (with_reducible apply List.mem_append_right))); done) | (intro x hx; first | exact sel_in hx | exact List.mem_cons_of_mem _ (sel_in hx) | exact List.mem_append_right _ (sel_in hx) | exact hx | exact List.mem_cons_of_mem _ hx | exact List.mem_append_right _ hx | ((repeat (first | exact sel_in hx | exact hx | (with_reducible apply List.mem_cons_of_mem) | (with_reducible apply List.mem_append_right))); done) | (rw [List.mem_singleton.1 hx]; (simp; done)) | (rcases List.mem_cons.1 hx with rfl | hx; (simp; done); (rw [List.mem_singleton.1 hx]; (simp; done))) | cases hx)))))
      skip
      (refine (show XOp _ _ _ _ _ _ _ _ (F2 ++ ([(xb, Obj.cells ⟨zeroW⟩ 31 (0, 0)), (rb, Obj.cells ⟨zeroW⟩ 31 (0, 0)), (wb, Obj.cells ⟨x.cells⟩ 31 (0, 0))] ++ F1)) from XOp.perm (L' :=  [(xb, Obj.cells ⟨zeroW⟩ 31 (0, 0)), (rb, Obj.cells ⟨zeroW⟩ 31 (0, 0)), (wb, Obj.cells ⟨x.cells⟩ 31 (0, 0))] ++ (F1 ++ F2)) rfl ?_ (by (first | (with_reducible exact List.Perm.refl _) | refine perm_of_cnt fun p_ => ?_; simp only [List.countP_append, List.countP_cons, List.countP_nil]; omega))))
      ((with_reducible apply XOp.callN (hF := nar_fn x.F)); (case hg => exact rfl); (case hc => exact rfl); (case ha => exact rfl); try (case hA => exact Known.true))
      case hA => exact Known.of_old hA.f (lv_mono _)
      rintro _ F3 ⟨f', rfl, hf, hF3⟩
      (repeat (first | ((with_reducible apply XP.e); (first | ((with_reducible apply XE.d); (case ho => exact rfl); (case hd => exact rfl)) | ((with_reducible apply XE.e); (case ho => exact rfl)))) | ((with_reducible apply XP.keep); (case hk => first | ((repeat' (first | exact List.forall_mem_nil _ | (with_reducible refine List.forall_mem_cons.2 ⟨?_, ?_⟩) | exact List.mem_cons_self .. | (with_reducible apply List.mem_cons_of_mem) | (with_reducible apply List.mem_append_right))); done) | (intro x hx; first | exact sel_in hx | exact List.mem_cons_of_mem _ (sel_in hx) | exact List.mem_append_right _ (sel_in hx) | exact hx | exact List.mem_cons_of_mem _ hx | exact List.mem_append_right _ hx | ((repeat (first | exact sel_in hx | exact hx | (with_reducible apply List.mem_cons_of_mem) | (with_reducible apply List.mem_append_right))); done) | (rw [List.mem_singleton.1 hx]; (simp; done)) | (rcases List.mem_cons.1 hx with rfl | hx; (simp; done); (rw [List.mem_singleton.1 hx]; (simp; done))) | cases hx)))))
      skip
      ((with_reducible apply XOp.callN (hF := mtx_fn x.H)); (case hg => exact rfl); (case hc => exact rfl); (case ha => exact rfl); try (case hA => exact Known.true))
      case hA => exact Known.of_old hA.hd (lm_mono _)
      rintro _ F4 ⟨h', rfl, hh', hF4⟩
      (repeat (first | ((with_reducible apply XOp.storeN (i := 0)); (case hg | ht | hx | hv' | hk | h1 | hi | hs | ha => exact rfl)) | (with_reducible apply XQ.nt) | ((with_reducible apply XP.pr); (case ho => exact rfl); (case hg => exact rfl); (case hr => ((with_reducible apply PR.build); (case ht | hk | hok | hz | hf => exact rfl)))) | (with_reducible apply XP.done) | ((with_reducible apply XP.e); (first | ((with_reducible apply XE.d); (case ho => exact rfl); (case hd => exact rfl)) | ((with_reducible apply XE.e); (case ho => exact rfl)))) | ((with_reducible apply XP.keep); (case hk => first | ((repeat' (first | exact List.forall_mem_nil _ | (with_reducible refine List.forall_mem_cons.2 ⟨?_, ?_⟩) | exact List.mem_cons_self .. | (with_reducible apply List.mem_cons_of_mem) | (with_reducible apply List.mem_append_right))); done) | (intro x hx; first | exact sel_in hx | exact List.mem_cons_of_mem _ (sel_in hx) | exact List.mem_append_right _ (sel_in hx) | exact hx | exact List.mem_cons_of_mem _ hx | exact List.mem_append_right _ hx | ((repeat (first | exact sel_in hx | exact hx | (with_reducible apply List.mem_cons_of_mem) | (with_reducible apply List.mem_append_right))); done) | (rw [List.mem_singleton.1 hx]; (simp; done)) | (rcases List.mem_cons.1 hx with rfl | hx; (simp; done); (rw [List.mem_singleton.1 hx]; (simp; done))) | cases hx)))))
      skip
      exact ⟨xb, e', (x.T.1, ta, tc), f', h', F1, F2, F3, F4, he, rfl, hf, hh', hF1, ht0, hF3, hF4, rfl, rfl, rfl, rfl, trivial⟩
      exact XB.nil
  rintro ρ L ⟨xb, e', t', f', h', F1, F2, F3, F4, he, ht, hf, hh', hF1, hF2, hF3, hF4, rfl, hs⟩
  refine XC.slots _ hs ?_
  clear hs
  (repeat (first | (with_reducible apply XL.op) | ((with_reducible apply XOp.p1); (case hg | hv => exact rfl)) | ((with_reducible apply XOp.load); (case hg | ht | hk | hx => exact rfl); (case hc => exact own_cell (i := 2) rfl rfl)) | (with_reducible apply XL.nilT) | (with_reducible apply XC.seq) | (with_reducible apply XC.region (Γ := Γ)) | (with_reducible apply XC.block)))
  refine XC.loopP (fun k ρ L => ∃ (i : Nat) (v : Value) (A : List LL) (G Fv : HL), i + k = x.Ls.1.length ∧ OwnS 67 30 v i (A.flatMap LL.cells) Fv ∧ A.map LL.lay = (x.Ls.1.take i).map LL.lay ∧ OwnAll (A.flatMap LL.nl) G ∧ L = ([(xb, Obj.cells ⟨cpC x e' t' v f' h' (.slice none 0 0)⟩ 31 (0, 0)), (rb, Obj.cells ⟨zeroW⟩ 31 (0, 0)), (wb, Obj.cells ⟨x.cells⟩ 31 (0, 0))] ++ ((((F1 ++ F2) ++ F3) ++ F4) ++ G)) ++ Fv ∧ Slots ρ [(1, .pointer (some ⟨wb, 0, none⟩)), (2, .pointer (some ⟨rb, 0, none⟩)), (3, .pointer (some ⟨xb, 0, none⟩)), (26, sla x.Ls), (27, .int .i64 x.Ls.1.length), (28, .int .i64 i)])
    x.Ls.1.length ⟨0, _, [], [], [], by simp, OwnS.nil _ _, by simp, rfl, by simp only [List.append_nil], rfl, rfl, rfl, rfl, rfl, rfl, trivial⟩ ?_
  rintro k ρ L ⟨i, v, A, G, Fv, hik, hown, hAl, hG, rfl, hs⟩
  obtain ⟨a', c', rfl⟩ := hown.val
  refine XC.slots _ hs ?_
  (repeat (first | (with_reducible apply XL.op) | ((with_reducible apply XOp.p1); (case hg | hv => exact rfl)) | (with_reducible apply XL.nilT) | (with_reducible apply XC.seq) | (with_reducible apply XC.region (Γ := Γ))))
  ((with_reducible apply XC.cond); (case hc => exact rfl); all_goals (intro hb_; try simp only [pd_true, pd_false, Bool.not_eq_true', Bool.not_eq_false', Bool.and_eq_true, Bool.and_eq_false_iff, Bool.or_eq_true, Bool.or_eq_false_iff, not_true_eq_false, not_false_eq_true, Int.not_lt, Int.not_le] at hb_))
  · obtain ⟨l, hi⟩ : ∃ l, x.Ls.1[i]? = some l := ⟨_, List.getElem?_eq_getElem (by omega)⟩
    have hl := hA.l.locAt (List.mem_of_getElem? hi)
    (repeat (first | (with_reducible apply XL.op) | ((with_reducible apply XOp.pr); (case hg => exact rfl); (case hr => ((with_reducible apply PR.idxA); (case ht | hk | he | hx | hi => exact rfl); (case hr => first | assumption | omega); (case ha => first | assumption | exact SlA.at_ (by assumption))))) | (with_reducible apply XC.seq) | (with_reducible apply XC.region (Γ := Γ)) | (with_reducible apply XQ.skip) | (with_reducible apply XQ.nt) | (with_reducible apply XC.block) | (first | ((with_reducible apply XOp.loadN); (case hg | ht | hk | hx => exact rfl); (case hc => exact Known.of_old (hL.rawAt hi) (Mono.row _ _ _)); (case hl => exact rfl)) | ((with_reducible apply XP.loadN); (case ho | hg | ht | hk | hx => exact rfl); (case hc => exact Known.of_old (hL.rawAt hi) (Mono.row _ _ _)); (case hl => exact rfl)))))
    ((with_reducible apply XOp.alloc); (case hg | ht | hx' => exact rfl); intro lb)
    (repeat (first | (with_reducible apply XL.op) | ((with_reducible apply XOp.storeN (i := 0)); (case hg | ht | hx | hv' | hk | h1 | hi | hs | ha => exact rfl)) | (with_reducible apply XL.nilT) | (with_reducible apply XC.seq)))
    ((with_reducible apply XC.regionL (Γ := Γ) mixed (.q 0 (.q 1 (.q 3 (.q 4 (.e 2 (.e 5 (.q 6 (.e 7 (.e 8 (.e 9 (.done))))))))))) [7, 8, 9] ([(lb, Obj.cells ⟨l.cells⟩ 67 (0, 0))])); (case hc => kernel_rfl); (case hs => first | exact List.nil_sublist _ | exact List.Sublist.refl _ | exact List.sublist_append_right _ _ | (refine List.Sublist.cons_cons _ (List.nil_sublist _)) | (refine List.Sublist.cons_cons _ (List.Sublist.cons_cons _ (List.nil_sublist _))) | (refine List.Sublist.cons_cons _ (List.Sublist.cons_cons _ (List.Sublist.cons_cons _ (List.nil_sublist _)))) | (refine List.Sublist.cons_cons _ (List.Sublist.cons_cons _ (List.Sublist.cons_cons _ (List.Sublist.cons_cons _ (List.nil_sublist _))))) | ((try simp only [List.append_eq, List.cons_append, List.nil_append, List.append_assoc]); (repeat (first | exact List.Sublist.refl _ | exact List.nil_sublist _ | (with_reducible apply List.Sublist.cons_cons) | (with_reducible apply List.Sublist.cons))); done)))
    (repeat (first | ((with_reducible apply XP.p1); (case ho | hg | hv => exact rfl)) | ((with_reducible apply XP.load); (case ho | hg | ht | hk | hx => exact rfl); (case hc => exact own_cell (i := 0) rfl rfl)) | ((with_reducible apply XP.e); (first | ((with_reducible apply XE.d); (case ho => exact rfl); (case hd => exact rfl)) | ((with_reducible apply XE.e); (case ho => exact rfl))))))
    ((with_reducible apply XOp.callN (hF := nar_fn l.n1)); (case hg => exact rfl); (case hc => exact rfl); (case ha => exact rfl); try (case hA => exact Known.true))
    case hA => exact Known.of_old hl.n1 (lv_mono _)
    rintro _ Fa ⟨n1', rfl, hn1, hFa⟩
    (repeat (first | ((with_reducible apply XP.e); (first | ((with_reducible apply XE.d); (case ho => exact rfl); (case hd => exact rfl)) | ((with_reducible apply XE.e); (case ho => exact rfl)))) | ((with_reducible apply XP.keep); (case hk => first | ((repeat' (first | exact List.forall_mem_nil _ | (with_reducible refine List.forall_mem_cons.2 ⟨?_, ?_⟩) | exact List.mem_cons_self .. | (with_reducible apply List.mem_cons_of_mem) | (with_reducible apply List.mem_append_right))); done) | (intro x hx; first | exact sel_in hx | exact List.mem_cons_of_mem _ (sel_in hx) | exact List.mem_append_right _ (sel_in hx) | exact hx | exact List.mem_cons_of_mem _ hx | exact List.mem_append_right _ hx | ((repeat (first | exact sel_in hx | exact hx | (with_reducible apply List.mem_cons_of_mem) | (with_reducible apply List.mem_append_right))); done) | (rw [List.mem_singleton.1 hx]; (simp; done)) | (rcases List.mem_cons.1 hx with rfl | hx; (simp; done); (rw [List.mem_singleton.1 hx]; (simp; done))) | cases hx)))))
    ((with_reducible apply XOp.callN (hF := nar_fn l.n2)); (case hg => exact rfl); (case hc => exact rfl); (case ha => exact rfl); try (case hA => exact Known.true))
    case hA => exact Known.of_old hl.n2 (lv_mono _)
    rintro _ Fb ⟨n2', rfl, hn2, hFb⟩
    (repeat (first | (with_reducible apply XL.op) | ((with_reducible apply XOp.p1); (case hg | hv => exact rfl)) | ((with_reducible apply XOp.loadO (i := 3)); (case hg | ht | hk | hx | hi | hc => exact rfl)) | ((with_reducible apply XOp.store (i := 0)); (case hg | ht | hk | hx | hv | h1 | hi | hs | ha => exact rfl)) | (with_reducible apply XC.seq) | (with_reducible apply XC.region (Γ := Γ)) | (with_reducible apply XQ.nt) | ((with_reducible apply XP.p1); (case ho | hg | hv => exact rfl)) | (with_reducible apply XP.done) | ((with_reducible apply XP.e); (first | ((with_reducible apply XE.d); (case ho => exact rfl); (case hd => exact rfl)) | ((with_reducible apply XE.e); (case ho => exact rfl)))) | ((with_reducible apply XP.keep); (case hk => first | ((repeat' (first | exact List.forall_mem_nil _ | (with_reducible refine List.forall_mem_cons.2 ⟨?_, ?_⟩) | exact List.mem_cons_self .. | (with_reducible apply List.mem_cons_of_mem) | (with_reducible apply List.mem_append_right))); done) | (intro x hx; first | exact sel_in hx | exact List.mem_cons_of_mem _ (sel_in hx) | exact List.mem_append_right _ (sel_in hx) | exact hx | exact List.mem_cons_of_mem _ hx | exact List.mem_append_right _ hx | ((repeat (first | exact sel_in hx | exact hx | (with_reducible apply List.mem_cons_of_mem) | (with_reducible apply List.mem_append_right))); done) | (rw [List.mem_singleton.1 hx]; (simp; done)) | (rcases List.mem_cons.1 hx with rfl | hx; (simp; done); (rw [List.mem_singleton.1 hx]; (simp; done))) | cases hx)))))
    ((with_reducible apply XOp.call (hF := shapes_fn x.C hc)); (case hg => exact rfl); (case hc => exact rfl); (case ha => exact rfl); (case hL => exact (List.nil_append _).symm); try (case hA => exact Known.true))
    case hA => exact Known.of_old hS sides_mono
    rintro _ _ ⟨sb, rfl, rfl⟩
    (repeat (first | (with_reducible apply XL.op) | ((with_reducible apply XOp.p1); (case hg | hv => exact rfl)) | (with_reducible apply XL.nilT) | (with_reducible apply XC.block)))
    refine XC.loopP (fun k ρ L => ∃ (j : Nat) (D : List LM) (J : HL), j + k = 7 ∧ D.length = j ∧ D.map LM.mat = (l.ms.take j).map LM.mat ∧ OwnAll (D.map (·.d)) J ∧ L = [(sb, Obj.cells ⟨shC x.C 7⟩ 80 (0, 0)), (lb, Obj.cells ⟨(mkT l n1' n2' D).cells⟩ 67 (0, 0)), (xb, Obj.cells ⟨cpC x e' t' (.slice a' i c') f' h' (.slice none 0 0)⟩ 31 (0, 0)), (rb, Obj.cells ⟨zeroW⟩ 31 (0, 0)), (wb, Obj.cells ⟨x.cells⟩ 31 (0, 0))] ++ ((((((((F1 ++ F2) ++ F3) ++ F4) ++ G) ++ Fv) ++ Fa) ++ Fb) ++ J) ∧ Slots ρ [(1, .pointer (some ⟨wb, 0, none⟩)), (2, .pointer (some ⟨rb, 0, none⟩)), (3, .pointer (some ⟨xb, 0, none⟩)), (5, .pointer (some ⟨lb, 0, none⟩)), (26, sla x.Ls), (27, .int .i64 x.Ls.1.length), (28, .int .i64 i), (42, .slice (some ⟨sb, 0, none⟩) 7 7), (43, .int .i64 7), (44, .int .i64 j)])
      7 ⟨0, [], [], by simp, rfl, rfl, rfl, by rw [List.append_nil]; rfl, rfl, rfl, rfl, rfl, rfl, rfl, rfl, rfl, rfl, rfl, trivial⟩ ?_
    rintro k_ ρ L ⟨j, D, J, hjk, hDl, hD, hJ, rfl, hs⟩
    refine XC.slots _ hs ?_
    (repeat (first | (with_reducible apply XL.op) | ((with_reducible apply XOp.p1); (case hg | hv => exact rfl)) | (with_reducible apply XL.nilT) | (with_reducible apply XC.seq) | (with_reducible apply XC.region (Γ := Γ))))
    ((with_reducible apply XC.cond); (case hc => exact rfl); all_goals (intro hb_; try simp only [pd_true, pd_false, Bool.not_eq_true', Bool.not_eq_false', Bool.and_eq_true, Bool.and_eq_false_iff, Bool.or_eq_true, Bool.or_eq_false_iff, not_true_eq_false, not_false_eq_true, Int.not_lt, Int.not_le] at hb_))
    · rcases (by omega : j = 0 ∨ j = 1 ∨ j = 2 ∨ j = 3 ∨ j = 4 ∨ j = 5 ∨ j = 6) with rfl | rfl | rfl | rfl | rfl | rfl | rfl
      · obtain rfl := List.eq_nil_of_length_eq_zero hDl
        (repeat (first | (with_reducible apply XL.op) | ((with_reducible apply XOp.p1); (case hg | hv => exact rfl)) | ((with_reducible apply XOp.loadO (i := 0)); (case hg | ht | hk | hx | hi | hc => exact rfl)) | (with_reducible apply XC.seq) | (with_reducible apply XC.region (Γ := Γ)) | (with_reducible apply XQ.skip) | (with_reducible apply XQ.nt) | (with_reducible apply XC.block)))
        ((with_reducible apply XOp.alloc); (case hg | ht | hx' => exact rfl); intro zb)
        (repeat (first | (with_reducible apply XL.op) | ((with_reducible apply XOp.storeN (i := 0)); (case hg | ht | hx | hv' | hk | h1 | hi | hs | ha => exact rfl)) | (with_reducible apply XL.nilT)))
        ((with_reducible apply XC.regionL (Γ := Γ) mixed (.q 0 (.q 1 (.q 3 (.q 4 (.e 2 (.e 5 (.q 6 (.q 7 (.e 8 (.q 9 (.e 10 (.done)))))))))))) [10] ([(zb, Obj.cells ⟨[.func (.func 71) #[] #[], zf 7 0 (measS x.C 0), zf 7 0 (measS x.C 0)]⟩ 80 (0, 0)), (lb, Obj.cells ⟨(mkT l n1' n2' []).cells⟩ 67 (0, 0))])); (case hc => kernel_rfl); (case hs => first | exact List.nil_sublist _ | exact List.Sublist.refl _ | exact List.sublist_append_right _ _ | (refine List.Sublist.cons_cons _ (List.nil_sublist _)) | (refine List.Sublist.cons_cons _ (List.Sublist.cons_cons _ (List.nil_sublist _))) | (refine List.Sublist.cons_cons _ (List.Sublist.cons_cons _ (List.Sublist.cons_cons _ (List.nil_sublist _)))) | (refine List.Sublist.cons_cons _ (List.Sublist.cons_cons _ (List.Sublist.cons_cons _ (List.Sublist.cons_cons _ (List.nil_sublist _))))) | ((try simp only [List.append_eq, List.cons_append, List.nil_append, List.append_assoc]); (repeat (first | exact List.Sublist.refl _ | exact List.nil_sublist _ | (with_reducible apply List.Sublist.cons_cons) | (with_reducible apply List.Sublist.cons))); done)))
        (repeat (first | ((with_reducible apply XP.p1); (case ho | hg | hv => exact rfl)) | ((with_reducible apply XP.load); (case ho | hg | ht | hk | hx => exact rfl); (case hc => exact own_cell (i := 0) rfl rfl)) | ((with_reducible apply XP.loadO (j := 1)); (case ho | hg | ht | hk | hx | hi | hc => exact rfl)) | ((with_reducible apply XP.e); (first | ((with_reducible apply XE.d); (case ho => exact rfl); (case hd => exact rfl)) | ((with_reducible apply XE.e); (case ho => exact rfl)))) | (((with_reducible apply XOp.callQ (hF := shape1_fn lb 0)); (case hg => exact rfl); (case hc => exact rfl); (case ha => exact rfl); try (case hA => exact Known.true)); rintro _ rfl) | ((with_reducible apply XP.keep); (case hk => (intro y hy; rcases List.mem_cons.1 hy with h_ | h_; (rw [h_]; exact List.mem_cons_self ..); (rw [List.mem_singleton.1 h_]; exact List.mem_cons_of_mem _ (List.mem_append_left _ (List.mem_cons_of_mem _ (List.mem_cons_self ..)))))))))
        ((with_reducible apply XOp.callN (hF := mtx_fn l.q)); (case hg => exact rfl); (case hc => exact rfl); (case ha => exact rfl); try (case hA => exact Known.true))
        case hA => exact Known.of_old hl.q (lm_mono _)
        rintro _ F' ⟨m', rfl, hm, hF'⟩
        refine ⟨fun y hy => List.mem_append_left F' (by rcases List.mem_cons.1 hy with h_ | h_; (rw [h_]; exact List.mem_cons_self ..); (rw [List.mem_singleton.1 h_]; exact List.mem_cons_of_mem _ (List.mem_append_left _ (List.mem_cons_of_mem _ (List.mem_cons_self ..))))), ?_⟩
        (repeat (first | (with_reducible apply XL.op) | ((with_reducible apply XOp.p1); (case hg | hv => exact rfl)) | ((with_reducible apply XOp.storeN (i := 2)); (case hg | ht | hx | hv' | hk | h1 | hi | hs | ha => exact rfl)) | (with_reducible apply XL.nilT) | (with_reducible apply XC.region (Γ := Γ)) | (with_reducible apply XQ.nt) | (with_reducible apply XQ.nb) | ((with_reducible apply XP.p1); (case ho | hg | hv => exact rfl)) | (with_reducible apply XP.done) | ((with_reducible apply XP.e); (first | ((with_reducible apply XE.d); (case ho => exact rfl); (case hd => exact rfl)) | ((with_reducible apply XE.e); (case ho => exact rfl))))))
        exact ⟨k_ - 1, by omega, _, .of (List.sublist_cons_self _ _), 1, [m'], J ++ F', by omega, rfl, (by rw [show [m'] = [] ++ [m'] from rfl, List.map_append, hD, List.map_singleton, hm]; rfl), (by rw [show [m'] = [] ++ [m'] from rfl, List.map_append]; exact hJ.app hF'.all), congrArg (fun z : HL => _ :: (_ :: (_ :: (_ :: (_ :: z))))) (List.append_assoc (((((((F1 ++ F2) ++ F3) ++ F4) ++ G) ++ Fv) ++ Fa) ++ Fb) J F'), rfl, rfl, rfl, rfl, rfl, rfl, rfl, rfl, rfl, intS2 (i := 0) (m := 7) (by omega) (by omega), trivial⟩
      · obtain ⟨d0, rfl⟩ := len1 hDl
        (repeat (first | (with_reducible apply XL.op) | ((with_reducible apply XOp.p1); (case hg | hv => exact rfl)) | ((with_reducible apply XOp.loadO (i := 0)); (case hg | ht | hk | hx | hi | hc => exact rfl)) | (with_reducible apply XC.seq) | (with_reducible apply XC.region (Γ := Γ)) | (with_reducible apply XQ.skip) | (with_reducible apply XQ.nt) | (with_reducible apply XC.block)))
        ((with_reducible apply XOp.alloc); (case hg | ht | hx' => exact rfl); intro zb)
        (repeat (first | (with_reducible apply XL.op) | ((with_reducible apply XOp.storeN (i := 0)); (case hg | ht | hx | hv' | hk | h1 | hi | hs | ha => exact rfl)) | (with_reducible apply XL.nilT)))
        ((with_reducible apply XC.regionL (Γ := Γ) mixed (.q 0 (.q 1 (.q 3 (.q 4 (.e 2 (.e 5 (.q 6 (.q 7 (.e 8 (.q 9 (.e 10 (.done)))))))))))) [10] ([(zb, Obj.cells ⟨[.func (.func 72) #[] #[], zf 7 1 (measS x.C 1), zf 7 1 (measS x.C 0)]⟩ 80 (0, 0)), (lb, Obj.cells ⟨(mkT l n1' n2' [d0]).cells⟩ 67 (0, 0))])); (case hc => kernel_rfl); (case hs => first | exact List.nil_sublist _ | exact List.Sublist.refl _ | exact List.sublist_append_right _ _ | (refine List.Sublist.cons_cons _ (List.nil_sublist _)) | (refine List.Sublist.cons_cons _ (List.Sublist.cons_cons _ (List.nil_sublist _))) | (refine List.Sublist.cons_cons _ (List.Sublist.cons_cons _ (List.Sublist.cons_cons _ (List.nil_sublist _)))) | (refine List.Sublist.cons_cons _ (List.Sublist.cons_cons _ (List.Sublist.cons_cons _ (List.Sublist.cons_cons _ (List.nil_sublist _))))) | ((try simp only [List.append_eq, List.cons_append, List.nil_append, List.append_assoc]); (repeat (first | exact List.Sublist.refl _ | exact List.nil_sublist _ | (with_reducible apply List.Sublist.cons_cons) | (with_reducible apply List.Sublist.cons))); done)))
        (repeat (first | ((with_reducible apply XP.p1); (case ho | hg | hv => exact rfl)) | ((with_reducible apply XP.load); (case ho | hg | ht | hk | hx => exact rfl); (case hc => exact own_cell (i := 0) rfl rfl)) | ((with_reducible apply XP.loadO (j := 1)); (case ho | hg | ht | hk | hx | hi | hc => exact rfl)) | ((with_reducible apply XP.e); (first | ((with_reducible apply XE.d); (case ho => exact rfl); (case hd => exact rfl)) | ((with_reducible apply XE.e); (case ho => exact rfl)))) | (((with_reducible apply XOp.callQ (hF := shape2_fn lb 0)); (case hg => exact rfl); (case hc => exact rfl); (case ha => exact rfl); try (case hA => exact Known.true)); rintro _ rfl) | ((with_reducible apply XP.keep); (case hk => (intro y hy; rcases List.mem_cons.1 hy with h_ | h_; (rw [h_]; exact List.mem_cons_self ..); (rw [List.mem_singleton.1 h_]; exact List.mem_cons_of_mem _ (List.mem_append_left _ (List.mem_cons_of_mem _ (List.mem_cons_self ..)))))))))
        ((with_reducible apply XOp.callN (hF := mtx_fn l.k)); (case hg => exact rfl); (case hc => exact rfl); (case ha => exact rfl); try (case hA => exact Known.true))
        case hA => exact Known.of_old hl.k (lm_mono _)
        rintro _ F' ⟨m', rfl, hm, hF'⟩
        refine ⟨fun y hy => List.mem_append_left F' (by rcases List.mem_cons.1 hy with h_ | h_; (rw [h_]; exact List.mem_cons_self ..); (rw [List.mem_singleton.1 h_]; exact List.mem_cons_of_mem _ (List.mem_append_left _ (List.mem_cons_of_mem _ (List.mem_cons_self ..))))), ?_⟩
        (repeat (first | (with_reducible apply XL.op) | ((with_reducible apply XOp.p1); (case hg | hv => exact rfl)) | ((with_reducible apply XOp.storeN (i := 2)); (case hg | ht | hx | hv' | hk | h1 | hi | hs | ha => exact rfl)) | (with_reducible apply XL.nilT) | (with_reducible apply XC.region (Γ := Γ)) | (with_reducible apply XQ.nt) | (with_reducible apply XQ.nb) | ((with_reducible apply XP.p1); (case ho | hg | hv => exact rfl)) | (with_reducible apply XP.done) | ((with_reducible apply XP.e); (first | ((with_reducible apply XE.d); (case ho => exact rfl); (case hd => exact rfl)) | ((with_reducible apply XE.e); (case ho => exact rfl))))))
        exact ⟨k_ - 1, by omega, _, .of (List.sublist_cons_self _ _), 2, [d0, m'], J ++ F', by omega, rfl, (by rw [show [d0, m'] = [d0] ++ [m'] from rfl, List.map_append, hD, List.map_singleton, hm]; rfl), (by rw [show [d0, m'] = [d0] ++ [m'] from rfl, List.map_append]; exact hJ.app hF'.all), congrArg (fun z : HL => _ :: (_ :: (_ :: (_ :: (_ :: z))))) (List.append_assoc (((((((F1 ++ F2) ++ F3) ++ F4) ++ G) ++ Fv) ++ Fa) ++ Fb) J F'), rfl, rfl, rfl, rfl, rfl, rfl, rfl, rfl, rfl, intS2 (i := 1) (m := 7) (by omega) (by omega), trivial⟩
      · obtain ⟨d0, d1, rfl⟩ := len2 hDl
        (repeat (first | (with_reducible apply XL.op) | ((with_reducible apply XOp.p1); (case hg | hv => exact rfl)) | ((with_reducible apply XOp.loadO (i := 0)); (case hg | ht | hk | hx | hi | hc => exact rfl)) | (with_reducible apply XC.seq) | (with_reducible apply XC.region (Γ := Γ)) | (with_reducible apply XQ.skip) | (with_reducible apply XQ.nt) | (with_reducible apply XC.block)))
        ((with_reducible apply XOp.alloc); (case hg | ht | hx' => exact rfl); intro zb)
        (repeat (first | (with_reducible apply XL.op) | ((with_reducible apply XOp.storeN (i := 0)); (case hg | ht | hx | hv' | hk | h1 | hi | hs | ha => exact rfl)) | (with_reducible apply XL.nilT)))
        ((with_reducible apply XC.regionL (Γ := Γ) mixed (.q 0 (.q 1 (.q 3 (.q 4 (.e 2 (.e 5 (.q 6 (.q 7 (.e 8 (.q 9 (.e 10 (.done)))))))))))) [10] ([(zb, Obj.cells ⟨[.func (.func 73) #[] #[], zf 7 2 (measS x.C 1), zf 7 2 (measS x.C 0)]⟩ 80 (0, 0)), (lb, Obj.cells ⟨(mkT l n1' n2' [d0, d1]).cells⟩ 67 (0, 0))])); (case hc => kernel_rfl); (case hs => first | exact List.nil_sublist _ | exact List.Sublist.refl _ | exact List.sublist_append_right _ _ | (refine List.Sublist.cons_cons _ (List.nil_sublist _)) | (refine List.Sublist.cons_cons _ (List.Sublist.cons_cons _ (List.nil_sublist _))) | (refine List.Sublist.cons_cons _ (List.Sublist.cons_cons _ (List.Sublist.cons_cons _ (List.nil_sublist _)))) | (refine List.Sublist.cons_cons _ (List.Sublist.cons_cons _ (List.Sublist.cons_cons _ (List.Sublist.cons_cons _ (List.nil_sublist _))))) | ((try simp only [List.append_eq, List.cons_append, List.nil_append, List.append_assoc]); (repeat (first | exact List.Sublist.refl _ | exact List.nil_sublist _ | (with_reducible apply List.Sublist.cons_cons) | (with_reducible apply List.Sublist.cons))); done)))
        (repeat (first | ((with_reducible apply XP.p1); (case ho | hg | hv => exact rfl)) | ((with_reducible apply XP.load); (case ho | hg | ht | hk | hx => exact rfl); (case hc => exact own_cell (i := 0) rfl rfl)) | ((with_reducible apply XP.loadO (j := 1)); (case ho | hg | ht | hk | hx | hi | hc => exact rfl)) | ((with_reducible apply XP.e); (first | ((with_reducible apply XE.d); (case ho => exact rfl); (case hd => exact rfl)) | ((with_reducible apply XE.e); (case ho => exact rfl)))) | (((with_reducible apply XOp.callQ (hF := shape3_fn lb 0)); (case hg => exact rfl); (case hc => exact rfl); (case ha => exact rfl); try (case hA => exact Known.true)); rintro _ rfl) | ((with_reducible apply XP.keep); (case hk => (intro y hy; rcases List.mem_cons.1 hy with h_ | h_; (rw [h_]; exact List.mem_cons_self ..); (rw [List.mem_singleton.1 h_]; exact List.mem_cons_of_mem _ (List.mem_append_left _ (List.mem_cons_of_mem _ (List.mem_cons_self ..)))))))))
        ((with_reducible apply XOp.callN (hF := mtx_fn l.v)); (case hg => exact rfl); (case hc => exact rfl); (case ha => exact rfl); try (case hA => exact Known.true))
        case hA => exact Known.of_old hl.v (lm_mono _)
        rintro _ F' ⟨m', rfl, hm, hF'⟩
        refine ⟨fun y hy => List.mem_append_left F' (by rcases List.mem_cons.1 hy with h_ | h_; (rw [h_]; exact List.mem_cons_self ..); (rw [List.mem_singleton.1 h_]; exact List.mem_cons_of_mem _ (List.mem_append_left _ (List.mem_cons_of_mem _ (List.mem_cons_self ..))))), ?_⟩
        (repeat (first | (with_reducible apply XL.op) | ((with_reducible apply XOp.p1); (case hg | hv => exact rfl)) | ((with_reducible apply XOp.storeN (i := 2)); (case hg | ht | hx | hv' | hk | h1 | hi | hs | ha => exact rfl)) | (with_reducible apply XL.nilT) | (with_reducible apply XC.region (Γ := Γ)) | (with_reducible apply XQ.nt) | (with_reducible apply XQ.nb) | ((with_reducible apply XP.p1); (case ho | hg | hv => exact rfl)) | (with_reducible apply XP.done) | ((with_reducible apply XP.e); (first | ((with_reducible apply XE.d); (case ho => exact rfl); (case hd => exact rfl)) | ((with_reducible apply XE.e); (case ho => exact rfl))))))
        exact ⟨k_ - 1, by omega, _, .of (List.sublist_cons_self _ _), 3, [d0, d1, m'], J ++ F', by omega, rfl, (by rw [show [d0, d1, m'] = [d0, d1] ++ [m'] from rfl, List.map_append, hD, List.map_singleton, hm]; rfl), (by rw [show [d0, d1, m'] = [d0, d1] ++ [m'] from rfl, List.map_append]; exact hJ.app hF'.all), congrArg (fun z : HL => _ :: (_ :: (_ :: (_ :: (_ :: z))))) (List.append_assoc (((((((F1 ++ F2) ++ F3) ++ F4) ++ G) ++ Fv) ++ Fa) ++ Fb) J F'), rfl, rfl, rfl, rfl, rfl, rfl, rfl, rfl, rfl, intS2 (i := 2) (m := 7) (by omega) (by omega), trivial⟩
      · obtain ⟨d0, d1, d2, rfl⟩ := len3 hDl
        (repeat (first | (with_reducible apply XL.op) | ((with_reducible apply XOp.p1); (case hg | hv => exact rfl)) | ((with_reducible apply XOp.loadO (i := 0)); (case hg | ht | hk | hx | hi | hc => exact rfl)) | (with_reducible apply XC.seq) | (with_reducible apply XC.region (Γ := Γ)) | (with_reducible apply XQ.skip) | (with_reducible apply XQ.nt) | (with_reducible apply XC.block)))
        ((with_reducible apply XOp.alloc); (case hg | ht | hx' => exact rfl); intro zb)
        (repeat (first | (with_reducible apply XL.op) | ((with_reducible apply XOp.storeN (i := 0)); (case hg | ht | hx | hv' | hk | h1 | hi | hs | ha => exact rfl)) | (with_reducible apply XL.nilT)))
        ((with_reducible apply XC.regionL (Γ := Γ) mixed (.q 0 (.q 1 (.q 3 (.q 4 (.e 2 (.e 5 (.q 6 (.q 7 (.e 8 (.q 9 (.e 10 (.done)))))))))))) [10] ([(zb, Obj.cells ⟨[.func (.func 74) #[] #[], zf 7 3 (measS x.C 0), zf 7 3 (measS x.C 0)]⟩ 80 (0, 0)), (lb, Obj.cells ⟨(mkT l n1' n2' [d0, d1, d2]).cells⟩ 67 (0, 0))])); (case hc => kernel_rfl); (case hs => first | exact List.nil_sublist _ | exact List.Sublist.refl _ | exact List.sublist_append_right _ _ | (refine List.Sublist.cons_cons _ (List.nil_sublist _)) | (refine List.Sublist.cons_cons _ (List.Sublist.cons_cons _ (List.nil_sublist _))) | (refine List.Sublist.cons_cons _ (List.Sublist.cons_cons _ (List.Sublist.cons_cons _ (List.nil_sublist _)))) | (refine List.Sublist.cons_cons _ (List.Sublist.cons_cons _ (List.Sublist.cons_cons _ (List.Sublist.cons_cons _ (List.nil_sublist _))))) | ((try simp only [List.append_eq, List.cons_append, List.nil_append, List.append_assoc]); (repeat (first | exact List.Sublist.refl _ | exact List.nil_sublist _ | (with_reducible apply List.Sublist.cons_cons) | (with_reducible apply List.Sublist.cons))); done)))
        (repeat (first | ((with_reducible apply XP.p1); (case ho | hg | hv => exact rfl)) | ((with_reducible apply XP.load); (case ho | hg | ht | hk | hx => exact rfl); (case hc => exact own_cell (i := 0) rfl rfl)) | ((with_reducible apply XP.loadO (j := 1)); (case ho | hg | ht | hk | hx | hi | hc => exact rfl)) | ((with_reducible apply XP.e); (first | ((with_reducible apply XE.d); (case ho => exact rfl); (case hd => exact rfl)) | ((with_reducible apply XE.e); (case ho => exact rfl)))) | (((with_reducible apply XOp.callQ (hF := shape4_fn lb 0)); (case hg => exact rfl); (case hc => exact rfl); (case ha => exact rfl); try (case hA => exact Known.true)); rintro _ rfl) | ((with_reducible apply XP.keep); (case hk => (intro y hy; rcases List.mem_cons.1 hy with h_ | h_; (rw [h_]; exact List.mem_cons_self ..); (rw [List.mem_singleton.1 h_]; exact List.mem_cons_of_mem _ (List.mem_append_left _ (List.mem_cons_of_mem _ (List.mem_cons_self ..)))))))))
        ((with_reducible apply XOp.callN (hF := mtx_fn l.o)); (case hg => exact rfl); (case hc => exact rfl); (case ha => exact rfl); try (case hA => exact Known.true))
        case hA => exact Known.of_old hl.o (lm_mono _)
        rintro _ F' ⟨m', rfl, hm, hF'⟩
        refine ⟨fun y hy => List.mem_append_left F' (by rcases List.mem_cons.1 hy with h_ | h_; (rw [h_]; exact List.mem_cons_self ..); (rw [List.mem_singleton.1 h_]; exact List.mem_cons_of_mem _ (List.mem_append_left _ (List.mem_cons_of_mem _ (List.mem_cons_self ..))))), ?_⟩
        (repeat (first | (with_reducible apply XL.op) | ((with_reducible apply XOp.p1); (case hg | hv => exact rfl)) | ((with_reducible apply XOp.storeN (i := 2)); (case hg | ht | hx | hv' | hk | h1 | hi | hs | ha => exact rfl)) | (with_reducible apply XL.nilT) | (with_reducible apply XC.region (Γ := Γ)) | (with_reducible apply XQ.nt) | (with_reducible apply XQ.nb) | ((with_reducible apply XP.p1); (case ho | hg | hv => exact rfl)) | (with_reducible apply XP.done) | ((with_reducible apply XP.e); (first | ((with_reducible apply XE.d); (case ho => exact rfl); (case hd => exact rfl)) | ((with_reducible apply XE.e); (case ho => exact rfl))))))
        exact ⟨k_ - 1, by omega, _, .of (List.sublist_cons_self _ _), 4, [d0, d1, d2, m'], J ++ F', by omega, rfl, (by rw [show [d0, d1, d2, m'] = [d0, d1, d2] ++ [m'] from rfl, List.map_append, hD, List.map_singleton, hm]; rfl), (by rw [show [d0, d1, d2, m'] = [d0, d1, d2] ++ [m'] from rfl, List.map_append]; exact hJ.app hF'.all), congrArg (fun z : HL => _ :: (_ :: (_ :: (_ :: (_ :: z))))) (List.append_assoc (((((((F1 ++ F2) ++ F3) ++ F4) ++ G) ++ Fv) ++ Fa) ++ Fb) J F'), rfl, rfl, rfl, rfl, rfl, rfl, rfl, rfl, rfl, intS2 (i := 3) (m := 7) (by omega) (by omega), trivial⟩
      · obtain ⟨d0, d1, d2, d3, rfl⟩ := len4 hDl
        (repeat (first | (with_reducible apply XL.op) | ((with_reducible apply XOp.p1); (case hg | hv => exact rfl)) | ((with_reducible apply XOp.loadO (i := 0)); (case hg | ht | hk | hx | hi | hc => exact rfl)) | (with_reducible apply XC.seq) | (with_reducible apply XC.region (Γ := Γ)) | (with_reducible apply XQ.skip) | (with_reducible apply XQ.nt) | (with_reducible apply XC.block)))
        ((with_reducible apply XOp.alloc); (case hg | ht | hx' => exact rfl); intro zb)
        (repeat (first | (with_reducible apply XL.op) | ((with_reducible apply XOp.storeN (i := 0)); (case hg | ht | hx | hv' | hk | h1 | hi | hs | ha => exact rfl)) | (with_reducible apply XL.nilT)))
        ((with_reducible apply XC.regionL (Γ := Γ) mixed (.q 0 (.q 1 (.q 3 (.q 4 (.e 2 (.e 5 (.q 6 (.q 7 (.e 8 (.q 9 (.e 10 (.done)))))))))))) [10] ([(zb, Obj.cells ⟨[.func (.func 75) #[] #[], zf 7 4 (measS x.C 2), zf 7 4 (measS x.C 0)]⟩ 80 (0, 0)), (lb, Obj.cells ⟨(mkT l n1' n2' [d0, d1, d2, d3]).cells⟩ 67 (0, 0))])); (case hc => kernel_rfl); (case hs => first | exact List.nil_sublist _ | exact List.Sublist.refl _ | exact List.sublist_append_right _ _ | (refine List.Sublist.cons_cons _ (List.nil_sublist _)) | (refine List.Sublist.cons_cons _ (List.Sublist.cons_cons _ (List.nil_sublist _))) | (refine List.Sublist.cons_cons _ (List.Sublist.cons_cons _ (List.Sublist.cons_cons _ (List.nil_sublist _)))) | (refine List.Sublist.cons_cons _ (List.Sublist.cons_cons _ (List.Sublist.cons_cons _ (List.Sublist.cons_cons _ (List.nil_sublist _))))) | ((try simp only [List.append_eq, List.cons_append, List.nil_append, List.append_assoc]); (repeat (first | exact List.Sublist.refl _ | exact List.nil_sublist _ | (with_reducible apply List.Sublist.cons_cons) | (with_reducible apply List.Sublist.cons))); done)))
        (repeat (first | ((with_reducible apply XP.p1); (case ho | hg | hv => exact rfl)) | ((with_reducible apply XP.load); (case ho | hg | ht | hk | hx => exact rfl); (case hc => exact own_cell (i := 0) rfl rfl)) | ((with_reducible apply XP.loadO (j := 1)); (case ho | hg | ht | hk | hx | hi | hc => exact rfl)) | ((with_reducible apply XP.e); (first | ((with_reducible apply XE.d); (case ho => exact rfl); (case hd => exact rfl)) | ((with_reducible apply XE.e); (case ho => exact rfl)))) | (((with_reducible apply XOp.callQ (hF := shape5_fn lb 0)); (case hg => exact rfl); (case hc => exact rfl); (case ha => exact rfl); try (case hA => exact Known.true)); rintro _ rfl) | ((with_reducible apply XP.keep); (case hk => (intro y hy; rcases List.mem_cons.1 hy with h_ | h_; (rw [h_]; exact List.mem_cons_self ..); (rw [List.mem_singleton.1 h_]; exact List.mem_cons_of_mem _ (List.mem_append_left _ (List.mem_cons_of_mem _ (List.mem_cons_self ..)))))))))
        ((with_reducible apply XOp.callN (hF := mtx_fn l.g)); (case hg => exact rfl); (case hc => exact rfl); (case ha => exact rfl); try (case hA => exact Known.true))
        case hA => exact Known.of_old hl.g (lm_mono _)
        rintro _ F' ⟨m', rfl, hm, hF'⟩
        refine ⟨fun y hy => List.mem_append_left F' (by rcases List.mem_cons.1 hy with h_ | h_; (rw [h_]; exact List.mem_cons_self ..); (rw [List.mem_singleton.1 h_]; exact List.mem_cons_of_mem _ (List.mem_append_left _ (List.mem_cons_of_mem _ (List.mem_cons_self ..))))), ?_⟩
        (repeat (first | (with_reducible apply XL.op) | ((with_reducible apply XOp.p1); (case hg | hv => exact rfl)) | ((with_reducible apply XOp.storeN (i := 2)); (case hg | ht | hx | hv' | hk | h1 | hi | hs | ha => exact rfl)) | (with_reducible apply XL.nilT) | (with_reducible apply XC.region (Γ := Γ)) | (with_reducible apply XQ.nt) | (with_reducible apply XQ.nb) | ((with_reducible apply XP.p1); (case ho | hg | hv => exact rfl)) | (with_reducible apply XP.done) | ((with_reducible apply XP.e); (first | ((with_reducible apply XE.d); (case ho => exact rfl); (case hd => exact rfl)) | ((with_reducible apply XE.e); (case ho => exact rfl))))))
        exact ⟨k_ - 1, by omega, _, .of (List.sublist_cons_self _ _), 5, [d0, d1, d2, d3, m'], J ++ F', by omega, rfl, (by rw [show [d0, d1, d2, d3, m'] = [d0, d1, d2, d3] ++ [m'] from rfl, List.map_append, hD, List.map_singleton, hm]; rfl), (by rw [show [d0, d1, d2, d3, m'] = [d0, d1, d2, d3] ++ [m'] from rfl, List.map_append]; exact hJ.app hF'.all), congrArg (fun z : HL => _ :: (_ :: (_ :: (_ :: (_ :: z))))) (List.append_assoc (((((((F1 ++ F2) ++ F3) ++ F4) ++ G) ++ Fv) ++ Fa) ++ Fb) J F'), rfl, rfl, rfl, rfl, rfl, rfl, rfl, rfl, rfl, intS2 (i := 4) (m := 7) (by omega) (by omega), trivial⟩
      · obtain ⟨d0, d1, d2, d3, d4, rfl⟩ := len5 hDl
        (repeat (first | (with_reducible apply XL.op) | ((with_reducible apply XOp.p1); (case hg | hv => exact rfl)) | ((with_reducible apply XOp.loadO (i := 0)); (case hg | ht | hk | hx | hi | hc => exact rfl)) | (with_reducible apply XC.seq) | (with_reducible apply XC.region (Γ := Γ)) | (with_reducible apply XQ.skip) | (with_reducible apply XQ.nt) | (with_reducible apply XC.block)))
        ((with_reducible apply XOp.alloc); (case hg | ht | hx' => exact rfl); intro zb)
        (repeat (first | (with_reducible apply XL.op) | ((with_reducible apply XOp.storeN (i := 0)); (case hg | ht | hx | hv' | hk | h1 | hi | hs | ha => exact rfl)) | (with_reducible apply XL.nilT)))
        ((with_reducible apply XC.regionL (Γ := Γ) mixed (.q 0 (.q 1 (.q 3 (.q 4 (.e 2 (.e 5 (.q 6 (.q 7 (.e 8 (.q 9 (.e 10 (.done)))))))))))) [10] ([(zb, Obj.cells ⟨[.func (.func 76) #[] #[], zf 7 5 (measS x.C 2), zf 7 5 (measS x.C 0)]⟩ 80 (0, 0)), (lb, Obj.cells ⟨(mkT l n1' n2' [d0, d1, d2, d3, d4]).cells⟩ 67 (0, 0))])); (case hc => kernel_rfl); (case hs => first | exact List.nil_sublist _ | exact List.Sublist.refl _ | exact List.sublist_append_right _ _ | (refine List.Sublist.cons_cons _ (List.nil_sublist _)) | (refine List.Sublist.cons_cons _ (List.Sublist.cons_cons _ (List.nil_sublist _))) | (refine List.Sublist.cons_cons _ (List.Sublist.cons_cons _ (List.Sublist.cons_cons _ (List.nil_sublist _)))) | (refine List.Sublist.cons_cons _ (List.Sublist.cons_cons _ (List.Sublist.cons_cons _ (List.Sublist.cons_cons _ (List.nil_sublist _))))) | ((try simp only [List.append_eq, List.cons_append, List.nil_append, List.append_assoc]); (repeat (first | exact List.Sublist.refl _ | exact List.nil_sublist _ | (with_reducible apply List.Sublist.cons_cons) | (with_reducible apply List.Sublist.cons))); done)))
        (repeat (first | ((with_reducible apply XP.p1); (case ho | hg | hv => exact rfl)) | ((with_reducible apply XP.load); (case ho | hg | ht | hk | hx => exact rfl); (case hc => exact own_cell (i := 0) rfl rfl)) | ((with_reducible apply XP.loadO (j := 1)); (case ho | hg | ht | hk | hx | hi | hc => exact rfl)) | ((with_reducible apply XP.e); (first | ((with_reducible apply XE.d); (case ho => exact rfl); (case hd => exact rfl)) | ((with_reducible apply XE.e); (case ho => exact rfl)))) | (((with_reducible apply XOp.callQ (hF := shape6_fn lb 0)); (case hg => exact rfl); (case hc => exact rfl); (case ha => exact rfl); try (case hA => exact Known.true)); rintro _ rfl) | ((with_reducible apply XP.keep); (case hk => (intro y hy; rcases List.mem_cons.1 hy with h_ | h_; (rw [h_]; exact List.mem_cons_self ..); (rw [List.mem_singleton.1 h_]; exact List.mem_cons_of_mem _ (List.mem_append_left _ (List.mem_cons_of_mem _ (List.mem_cons_self ..)))))))))
        ((with_reducible apply XOp.callN (hF := mtx_fn l.u)); (case hg => exact rfl); (case hc => exact rfl); (case ha => exact rfl); try (case hA => exact Known.true))
        case hA => exact Known.of_old hl.u (lm_mono _)
        rintro _ F' ⟨m', rfl, hm, hF'⟩
        refine ⟨fun y hy => List.mem_append_left F' (by rcases List.mem_cons.1 hy with h_ | h_; (rw [h_]; exact List.mem_cons_self ..); (rw [List.mem_singleton.1 h_]; exact List.mem_cons_of_mem _ (List.mem_append_left _ (List.mem_cons_of_mem _ (List.mem_cons_self ..))))), ?_⟩
        (repeat (first | (with_reducible apply XL.op) | ((with_reducible apply XOp.p1); (case hg | hv => exact rfl)) | ((with_reducible apply XOp.storeN (i := 2)); (case hg | ht | hx | hv' | hk | h1 | hi | hs | ha => exact rfl)) | (with_reducible apply XL.nilT) | (with_reducible apply XC.region (Γ := Γ)) | (with_reducible apply XQ.nt) | (with_reducible apply XQ.nb) | ((with_reducible apply XP.p1); (case ho | hg | hv => exact rfl)) | (with_reducible apply XP.done) | ((with_reducible apply XP.e); (first | ((with_reducible apply XE.d); (case ho => exact rfl); (case hd => exact rfl)) | ((with_reducible apply XE.e); (case ho => exact rfl))))))
        exact ⟨k_ - 1, by omega, _, .of (List.sublist_cons_self _ _), 6, [d0, d1, d2, d3, d4, m'], J ++ F', by omega, rfl, (by rw [show [d0, d1, d2, d3, d4, m'] = [d0, d1, d2, d3, d4] ++ [m'] from rfl, List.map_append, hD, List.map_singleton, hm]; rfl), (by rw [show [d0, d1, d2, d3, d4, m'] = [d0, d1, d2, d3, d4] ++ [m'] from rfl, List.map_append]; exact hJ.app hF'.all), congrArg (fun z : HL => _ :: (_ :: (_ :: (_ :: (_ :: z))))) (List.append_assoc (((((((F1 ++ F2) ++ F3) ++ F4) ++ G) ++ Fv) ++ Fa) ++ Fb) J F'), rfl, rfl, rfl, rfl, rfl, rfl, rfl, rfl, rfl, intS2 (i := 5) (m := 7) (by omega) (by omega), trivial⟩
      · obtain ⟨d0, d1, d2, d3, d4, d5, rfl⟩ := len6 hDl
        (repeat (first | (with_reducible apply XL.op) | ((with_reducible apply XOp.p1); (case hg | hv => exact rfl)) | ((with_reducible apply XOp.loadO (i := 0)); (case hg | ht | hk | hx | hi | hc => exact rfl)) | (with_reducible apply XC.seq) | (with_reducible apply XC.region (Γ := Γ)) | (with_reducible apply XQ.skip) | (with_reducible apply XQ.nt) | (with_reducible apply XC.block)))
        ((with_reducible apply XOp.alloc); (case hg | ht | hx' => exact rfl); intro zb)
        (repeat (first | (with_reducible apply XL.op) | ((with_reducible apply XOp.storeN (i := 0)); (case hg | ht | hx | hv' | hk | h1 | hi | hs | ha => exact rfl)) | (with_reducible apply XL.nilT)))
        ((with_reducible apply XC.regionL (Γ := Γ) mixed (.q 0 (.q 1 (.q 3 (.q 4 (.e 2 (.e 5 (.q 6 (.q 7 (.e 8 (.q 9 (.e 10 (.done)))))))))))) [10] ([(zb, Obj.cells ⟨[.func (.func 77) #[] #[], zf 7 6 (measS x.C 0), zf 7 6 (measS x.C 2)]⟩ 80 (0, 0)), (lb, Obj.cells ⟨(mkT l n1' n2' [d0, d1, d2, d3, d4, d5]).cells⟩ 67 (0, 0))])); (case hc => kernel_rfl); (case hs => first | exact List.nil_sublist _ | exact List.Sublist.refl _ | exact List.sublist_append_right _ _ | (refine List.Sublist.cons_cons _ (List.nil_sublist _)) | (refine List.Sublist.cons_cons _ (List.Sublist.cons_cons _ (List.nil_sublist _))) | (refine List.Sublist.cons_cons _ (List.Sublist.cons_cons _ (List.Sublist.cons_cons _ (List.nil_sublist _)))) | (refine List.Sublist.cons_cons _ (List.Sublist.cons_cons _ (List.Sublist.cons_cons _ (List.Sublist.cons_cons _ (List.nil_sublist _))))) | ((try simp only [List.append_eq, List.cons_append, List.nil_append, List.append_assoc]); (repeat (first | exact List.Sublist.refl _ | exact List.nil_sublist _ | (with_reducible apply List.Sublist.cons_cons) | (with_reducible apply List.Sublist.cons))); done)))
        (repeat (first | ((with_reducible apply XP.p1); (case ho | hg | hv => exact rfl)) | ((with_reducible apply XP.load); (case ho | hg | ht | hk | hx => exact rfl); (case hc => exact own_cell (i := 0) rfl rfl)) | ((with_reducible apply XP.loadO (j := 1)); (case ho | hg | ht | hk | hx | hi | hc => exact rfl)) | ((with_reducible apply XP.e); (first | ((with_reducible apply XE.d); (case ho => exact rfl); (case hd => exact rfl)) | ((with_reducible apply XE.e); (case ho => exact rfl)))) | (((with_reducible apply XOp.callQ (hF := shape7_fn lb 0)); (case hg => exact rfl); (case hc => exact rfl); (case ha => exact rfl); try (case hA => exact Known.true)); rintro _ rfl) | ((with_reducible apply XP.keep); (case hk => (intro y hy; rcases List.mem_cons.1 hy with h_ | h_; (rw [h_]; exact List.mem_cons_self ..); (rw [List.mem_singleton.1 h_]; exact List.mem_cons_of_mem _ (List.mem_append_left _ (List.mem_cons_of_mem _ (List.mem_cons_self ..)))))))))
        ((with_reducible apply XOp.callN (hF := mtx_fn l.d)); (case hg => exact rfl); (case hc => exact rfl); (case ha => exact rfl); try (case hA => exact Known.true))
        case hA => exact Known.of_old hl.d (lm_mono _)
        rintro _ F' ⟨m', rfl, hm, hF'⟩
        refine ⟨fun y hy => List.mem_append_left F' (by rcases List.mem_cons.1 hy with h_ | h_; (rw [h_]; exact List.mem_cons_self ..); (rw [List.mem_singleton.1 h_]; exact List.mem_cons_of_mem _ (List.mem_append_left _ (List.mem_cons_of_mem _ (List.mem_cons_self ..))))), ?_⟩
        (repeat (first | (with_reducible apply XL.op) | ((with_reducible apply XOp.p1); (case hg | hv => exact rfl)) | ((with_reducible apply XOp.storeN (i := 2)); (case hg | ht | hx | hv' | hk | h1 | hi | hs | ha => exact rfl)) | (with_reducible apply XL.nilT) | (with_reducible apply XC.region (Γ := Γ)) | (with_reducible apply XQ.nt) | (with_reducible apply XQ.nb) | ((with_reducible apply XP.p1); (case ho | hg | hv => exact rfl)) | (with_reducible apply XP.done) | ((with_reducible apply XP.e); (first | ((with_reducible apply XE.d); (case ho => exact rfl); (case hd => exact rfl)) | ((with_reducible apply XE.e); (case ho => exact rfl))))))
        exact ⟨k_ - 1, by omega, _, .of (List.sublist_cons_self _ _), 7, [d0, d1, d2, d3, d4, d5, m'], J ++ F', by omega, rfl, (by rw [show [d0, d1, d2, d3, d4, d5, m'] = [d0, d1, d2, d3, d4, d5] ++ [m'] from rfl, List.map_append, hD, List.map_singleton, hm]; rfl), (by rw [show [d0, d1, d2, d3, d4, d5, m'] = [d0, d1, d2, d3, d4, d5] ++ [m'] from rfl, List.map_append]; exact hJ.app hF'.all), congrArg (fun z : HL => _ :: (_ :: (_ :: (_ :: (_ :: z))))) (List.append_assoc (((((((F1 ++ F2) ++ F3) ++ F4) ++ G) ++ Fv) ++ Fa) ++ Fb) J F'), rfl, rfl, rfl, rfl, rfl, rfl, rfl, rfl, rfl, intS2 (i := 6) (m := 7) (by omega) (by omega), trivial⟩
    obtain rfl : j = 7 := by omega
    have hlay : (mkT l n1' n2' D).lay = l.lay := by
      obtain ⟨d0, d1, d2, d3, d4, d5, d6, rfl⟩ := len7 hDl
      simp only [LL.ms, List.map_cons, List.map_nil, List.take_succ_cons, List.take_zero, List.cons.injEq, and_true] at hD
      obtain ⟨e0, e1, e2, e3, e4, e5, e6⟩ := hD
      simp [LL.lay, mkT, hn1, hn2, e0, e1, e2, e3, e4, e5, e6]
      rfl
    have hnl : (mkT l n1' n2' D).nl = [n1'] ++ ([n2'] ++ D.map (·.d)) := by
      obtain ⟨d0, d1, d2, d3, d4, d5, d6, rfl⟩ := len7 hDl
      rfl
    have hGn : OwnAll ((A ++ [mkT l n1' n2' D]).flatMap LL.nl) (G ++ (Fa ++ (Fb ++ J))) := by
      rw [List.flatMap_append, List.flatMap_singleton, hnl]
      exact hG.app (hFa.all.app (hFb.all.app hJ))
    clear hs hjk
    (repeat (first | (with_reducible apply XL.op) | ((with_reducible apply XOp.p1); (case hg | hv => exact rfl)) | ((with_reducible apply XOp.load); (case hg | ht | hk | hx => exact rfl); (case hc => exact own_cell (i := 2) rfl rfl)) | ((with_reducible apply XOp.loadO (i := 1)); (case hg | ht | hk | hx | hi | hc => exact rfl)) | (with_reducible apply XC.region (Γ := Γ)) | (with_reducible apply XQ.exit) | (with_reducible apply XQ.nt) | (with_reducible apply XQ.et) | ((with_reducible apply XQ.eb); (case hb => exact rfl))))
    ((with_reducible apply XOp.buildSlice); (case hg | ht | hk | he | hz | hzl | hf => exact rfl); intro bb)
    (repeat ((with_reducible apply XL.op)))
    (refine (show XOp _ _ _ _ _ _ _ _ ((bb, Obj.cells ⟨(mkT l n1' n2' D).cells⟩ 67 (0, 0)) :: ([(sb, Obj.cells ⟨shC x.C 7⟩ 80 (0, 0)), (lb, Obj.cells ⟨(mkT l n1' n2' D).cells⟩ 67 (0, 0)), (xb, Obj.cells ⟨cpC x e' t' (.slice a' i c') f' h' (.slice none 0 0)⟩ 31 (0, 0)), (rb, Obj.cells ⟨zeroW⟩ 31 (0, 0)), (wb, Obj.cells ⟨x.cells⟩ 31 (0, 0))] ++ ((((((((F1 ++ F2) ++ F3) ++ F4) ++ G) ++ Fv) ++ Fa) ++ Fb) ++ J))) from XOp.perm (L' :=  (bb, Obj.cells ⟨(mkT l n1' n2' D).cells⟩ 67 (0, 0)) :: (([(sb, Obj.cells ⟨shC x.C 7⟩ 80 (0, 0)), (lb, Obj.cells ⟨(mkT l n1' n2' D).cells⟩ 67 (0, 0)), (xb, Obj.cells ⟨cpC x e' t' (.slice a' i c') f' h' (.slice none 0 0)⟩ 31 (0, 0)), (rb, Obj.cells ⟨zeroW⟩ 31 (0, 0)), (wb, Obj.cells ⟨x.cells⟩ 31 (0, 0))] ++ ((((F1 ++ F2) ++ F3) ++ F4) ++ (G ++ (Fa ++ (Fb ++ J))))) ++ Fv)) rfl ?_ (by (first | (with_reducible exact List.Perm.refl _) | refine perm_of_cnt fun p_ => ?_; simp only [List.countP_append, List.countP_cons, List.countP_nil]; omega))))
    ((with_reducible apply XOp.append1R (R := [(sb, Obj.cells ⟨shC x.C 7⟩ 80 (0, 0)), (lb, Obj.cells ⟨(mkT l n1' n2' D).cells⟩ 67 (0, 0)), (xb, Obj.cells ⟨cpC x e' t' (.slice a' i c') f' h' (.slice none 0 0)⟩ 31 (0, 0)), (rb, Obj.cells ⟨zeroW⟩ 31 (0, 0)), (wb, Obj.cells ⟨x.cells⟩ 31 (0, 0))] ++ ((((F1 ++ F2) ++ F3) ++ F4) ++ (G ++ (Fa ++ (Fb ++ J)))))); (case hg => exact rfl); (case ht => exact rfl); (case hk => exact rfl); (case he => exact rfl); (case hown => exact hown); (case hs => exact rfl); (case hx => exact rfl); (case hL => exact rfl); (case hl => exact rfl); (case h1 => exact rfl); (case hz => exact rfl); (case hsz => exact Nat.zero_lt_succ _); (case hk0 => exact Nat.zero_lt_succ _); (case h63 => simp only [maxLen]; omega); (case hb => simp only []; omega); intro v_ F_ hown_; obtain ⟨a_, c_, rfl⟩ := hown_.val)
    (repeat (first | (with_reducible apply XL.op) | ((with_reducible apply XOp.p1); (case hg | hv => exact rfl)) | ((with_reducible apply XOp.store (i := 2)); (case hg | ht | hk | hx | hv | h1 | hi | hs | ha => exact rfl)) | (with_reducible apply XL.nilT) | (with_reducible apply XC.region (Γ := Γ)) | (with_reducible apply XL.nilQ) | (with_reducible apply XQ.nt) | (with_reducible apply XQ.nb)))
    refine ⟨k - 1, by omega, _, .of ((List.sublist_cons_self _ _).trans (List.sublist_cons_self _ _)), i + 1, _, A ++ [mkT l n1' n2' D], _, F_, by omega, hown_.conv rfl (by simp), ?_, hGn, rfl, rfl, rfl, rfl, rfl, rfl, intS2 (m := 140737488355328) (by omega) (by omega), trivial⟩
    rw [List.map_append, hAl, take_snocD hi, List.map_append, List.map_singleton, List.map_singleton, hlay]
  obtain rfl : i = x.Ls.1.length := by omega
  rw [List.take_length] at hAl
  have hAn : A.length = x.Ls.1.length := by have := congrArg List.length hAl; simpa using this
  clear hs hik
  (repeat (first | (with_reducible apply XL.op) | ((with_reducible apply XOp.p1); (case hg | hv => exact rfl)) | ((with_reducible apply XOp.load); (case hg | ht | hk | hx => exact rfl); (case hc => exact own_cell (i := 2) rfl rfl)) | (with_reducible apply XL.nilT) | (with_reducible apply XC.seq) | (with_reducible apply XC.region (Γ := Γ)) | (with_reducible apply XQ.exit) | (with_reducible apply XQ.nt) | (with_reducible apply XQ.et) | (with_reducible apply XC.block) | ((with_reducible apply XQ.eb); (case hb => exact rfl))))
  refine XC.loopP (fun k ρ L => ∃ (i : Nat) (v : Value) (D : List LM) (J Fm : HL), i + k = x.M.1.length ∧ OwnS 26 3 v i (D.flatMap LM.cells) Fm ∧ D.map LM.mat = (x.M.1.take i).map LM.mat ∧ OwnAll (D.map (·.d)) J ∧ L = ([(xb, Obj.cells ⟨cpC x e' t' (.slice a' x.Ls.1.length c') f' h' v⟩ 31 (0, 0)), (rb, Obj.cells ⟨zeroW⟩ 31 (0, 0)), (wb, Obj.cells ⟨x.cells⟩ 31 (0, 0))] ++ (((((F1 ++ F2) ++ F3) ++ F4) ++ (G ++ Fv)) ++ J)) ++ Fm ∧ Slots ρ [(1, .pointer (some ⟨wb, 0, none⟩)), (2, .pointer (some ⟨rb, 0, none⟩)), (3, .pointer (some ⟨xb, 0, none⟩)), (67, sla x.M), (68, .int .i64 x.M.1.length), (69, .int .i64 i)])
    x.M.1.length ⟨0, _, [], [], [], by simp, OwnS.nil _ _, by simp, rfl, by simp only [List.append_nil, List.append_assoc], rfl, rfl, rfl, rfl, rfl, rfl, trivial⟩ ?_
  rintro k ρ L ⟨i, v, D, J, Fm, hik, hownM, hDl, hJ, rfl, hs⟩
  obtain ⟨am, cm, rfl⟩ := hownM.val
  refine XC.slots _ hs ?_
  (repeat (first | (with_reducible apply XL.op) | ((with_reducible apply XOp.p1); (case hg | hv => exact rfl)) | (with_reducible apply XL.nilT) | (with_reducible apply XC.seq) | (with_reducible apply XC.region (Γ := Γ))))
  ((with_reducible apply XC.cond); (case hc => exact rfl); all_goals (intro hb_; try simp only [pd_true, pd_false, Bool.not_eq_true', Bool.not_eq_false', Bool.and_eq_true, Bool.and_eq_false_iff, Bool.or_eq_true, Bool.or_eq_false_iff, not_true_eq_false, not_false_eq_true, Int.not_lt, Int.not_le] at hb_))
  · obtain ⟨l, hi⟩ : ∃ l, x.M.1[i]? = some l := ⟨_, List.getElem?_eq_getElem (by omega)⟩
    have hl := hA.m.locAt (List.mem_of_getElem? hi)
    (repeat (first | (with_reducible apply XL.op) | ((with_reducible apply XOp.pr); (case hg => exact rfl); (case hr => ((with_reducible apply PR.idxA); (case ht | hk | he | hx | hi => exact rfl); (case hr => first | assumption | omega); (case ha => first | assumption | exact SlA.at_ (by assumption))))) | (with_reducible apply XC.seq) | (with_reducible apply XC.region (Γ := Γ)) | (with_reducible apply XQ.skip) | (with_reducible apply XQ.nt) | (with_reducible apply XC.block) | (first | ((with_reducible apply XOp.loadN); (case hg | ht | hk | hx => exact rfl); (case hc => exact Known.of_old (hM.rawAt hi) (Mono.row _ _ _)); (case hl => exact rfl)) | ((with_reducible apply XP.loadN); (case ho | hg | ht | hk | hx => exact rfl); (case hc => exact Known.of_old (hM.rawAt hi) (Mono.row _ _ _)); (case hl => exact rfl)))))
    ((with_reducible apply XOp.alloc); (case hg | ht | hx' => exact rfl); intro mb)
    (repeat (first | (with_reducible apply XL.op) | ((with_reducible apply XOp.storeN (i := 0)); (case hg | ht | hx | hv' | hk | h1 | hi | hs | ha => exact rfl)) | (with_reducible apply XL.nilT)))
    ((with_reducible apply XC.regionL (Γ := Γ) mixed (.q 0 (.q 1 (.q 2 (.e 3 (.e 4 (.e 5 (.e 6 (.e 7 (.done))))))))) [5, 6, 7] ([(mb, Obj.cells ⟨l.cells⟩ 26 (0, 0)), (xb, Obj.cells ⟨cpC x e' t' (.slice a' x.Ls.1.length c') f' h' (.slice am i cm)⟩ 31 (0, 0))])); (case hc => kernel_rfl); (case hs => first | exact List.nil_sublist _ | exact List.Sublist.refl _ | exact List.sublist_append_right _ _ | (refine List.Sublist.cons_cons _ (List.nil_sublist _)) | (refine List.Sublist.cons_cons _ (List.Sublist.cons_cons _ (List.nil_sublist _))) | (refine List.Sublist.cons_cons _ (List.Sublist.cons_cons _ (List.Sublist.cons_cons _ (List.nil_sublist _)))) | (refine List.Sublist.cons_cons _ (List.Sublist.cons_cons _ (List.Sublist.cons_cons _ (List.Sublist.cons_cons _ (List.nil_sublist _))))) | ((try simp only [List.append_eq, List.cons_append, List.nil_append, List.append_assoc]); (repeat (first | exact List.Sublist.refl _ | exact List.nil_sublist _ | (with_reducible apply List.Sublist.cons_cons) | (with_reducible apply List.Sublist.cons))); done)))
    (repeat (first | ((with_reducible apply XP.p1); (case ho | hg | hv => exact rfl)) | ((with_reducible apply XP.load); (case ho | hg | ht | hk | hx => exact rfl); (case hc => exact own_cell (i := 1) rfl rfl)) | ((with_reducible apply XP.loadO (j := 0)); (case ho | hg | ht | hk | hx | hi | hc => exact rfl)) | ((with_reducible apply XP.e); (first | ((with_reducible apply XE.d); (case ho => exact rfl); (case hd => exact rfl)) | ((with_reducible apply XE.e); (case ho => exact rfl))))))
    ((with_reducible apply XOp.callN (hF := mtx_fn l)); (case hg => exact rfl); (case hc => exact rfl); (case ha => exact rfl); try (case hA => exact Known.true))
    case hA => exact Known.of_old hl (lm_mono _)
    rintro _ J' ⟨m', rfl, hmat, hJ'⟩
    refine ⟨fun y hy => List.mem_append_left J' (by rcases List.mem_cons.1 hy with h_ | h_; (rw [h_]; exact List.mem_cons_self ..); (rw [List.mem_singleton.1 h_]; exact List.mem_cons_of_mem _ (List.mem_cons_self ..))), ?_⟩
    (repeat (((with_reducible apply XP.e); (first | ((with_reducible apply XE.d); (case ho => exact rfl); (case hd => exact rfl)) | ((with_reducible apply XE.e); (case ho => exact rfl))))))
    ((with_reducible apply XOp.buildSlice); (case hg | ht | hk | he | hz | hzl | hf => exact rfl); intro bb)
    refine ⟨fun y hy => List.mem_cons_of_mem _ (List.mem_append_left J' (by rcases List.mem_cons.1 hy with h_ | h_; (rw [h_]; exact List.mem_cons_self ..); (rw [List.mem_singleton.1 h_]; exact List.mem_cons_of_mem _ (List.mem_cons_self ..)))), ?_⟩
    (repeat (((with_reducible apply XP.e); (first | ((with_reducible apply XE.d); (case ho => exact rfl); (case hd => exact rfl)) | ((with_reducible apply XE.e); (case ho => exact rfl))))))
    (refine (show XOp _ _ _ _ _ _ _ _ ((bb, Obj.cells ⟨m'.cells⟩ 26 (0, 0)) :: ((([(mb, Obj.cells ⟨l.cells⟩ 26 (0, 0)), (xb, Obj.cells ⟨cpC x e' t' (.slice a' x.Ls.1.length c') f' h' (.slice am i cm)⟩ 31 (0, 0)), (rb, Obj.cells ⟨zeroW⟩ 31 (0, 0)), (wb, Obj.cells ⟨x.cells⟩ 31 (0, 0))] ++ (((((F1 ++ F2) ++ F3) ++ F4) ++ (G ++ Fv)) ++ J)) ++ Fm) ++ J')) from XOp.perm (L' :=  (bb, Obj.cells ⟨m'.cells⟩ 26 (0, 0)) :: (([(mb, Obj.cells ⟨l.cells⟩ 26 (0, 0)), (xb, Obj.cells ⟨cpC x e' t' (.slice a' x.Ls.1.length c') f' h' (.slice am i cm)⟩ 31 (0, 0)), (rb, Obj.cells ⟨zeroW⟩ 31 (0, 0)), (wb, Obj.cells ⟨x.cells⟩ 31 (0, 0))] ++ (((((F1 ++ F2) ++ F3) ++ F4) ++ (G ++ Fv)) ++ (J ++ J'))) ++ Fm)) rfl ?_ (by (first | (with_reducible exact List.Perm.refl _) | refine perm_of_cnt fun p_ => ?_; simp only [List.countP_append, List.countP_cons, List.countP_nil]; omega))))
    ((with_reducible apply XOp.append1R (R := [(mb, Obj.cells ⟨l.cells⟩ 26 (0, 0)), (xb, Obj.cells ⟨cpC x e' t' (.slice a' x.Ls.1.length c') f' h' (.slice am i cm)⟩ 31 (0, 0)), (rb, Obj.cells ⟨zeroW⟩ 31 (0, 0)), (wb, Obj.cells ⟨x.cells⟩ 31 (0, 0))] ++ (((((F1 ++ F2) ++ F3) ++ F4) ++ (G ++ Fv)) ++ (J ++ J')))); (case hg => exact rfl); (case ht => exact rfl); (case hk => exact rfl); (case he => exact rfl); (case hown => exact hownM); (case hs => exact rfl); (case hx => exact rfl); (case hL => exact rfl); (case hl => exact rfl); (case h1 => exact rfl); (case hz => exact rfl); (case hsz => exact Nat.zero_lt_succ _); (case hk0 => exact Nat.zero_lt_succ _); (case h63 => simp only [maxLen]; omega); (case hb => simp only []; omega); intro v_ F_ hown_; obtain ⟨a_, c_, rfl⟩ := hown_.val)
    (repeat (first | (with_reducible apply XL.op) | ((with_reducible apply XOp.p1); (case hg | hv => exact rfl)) | ((with_reducible apply XOp.store (i := 1)); (case hg | ht | hk | hx | hv | h1 | hi | hs | ha => exact rfl)) | (with_reducible apply XL.nilT) | (with_reducible apply XC.region (Γ := Γ)) | (with_reducible apply XQ.nt) | (with_reducible apply XQ.nb) | (with_reducible apply XP.done) | ((with_reducible apply XP.e); (first | ((with_reducible apply XE.d); (case ho => exact rfl); (case hd => exact rfl)) | ((with_reducible apply XE.e); (case ho => exact rfl))))))
    refine ⟨k - 1, by omega, _, .of (List.sublist_cons_self _ _), i + 1, _, D ++ [m'], J ++ J', F_, by omega, hown_.conv rfl (by simp), ?_, ?_, rfl, rfl, rfl, rfl, rfl, rfl, intS2 (m := 140737488355328) (by omega) (by omega), trivial⟩
    · rw [List.map_append, hDl, take_snocD hi, List.map_append, List.map_singleton, List.map_singleton, hmat]
    · rw [List.map_append, List.map_singleton]
      exact hJ.app hJ'.all
  obtain rfl : i = x.M.1.length := by omega
  rw [List.take_length] at hDl
  have hDn : D.length = x.M.1.length := by have := congrArg List.length hDl; simpa using this
  clear hs hik
  (repeat (first | (with_reducible apply XL.op) | ((with_reducible apply XOp.loadO (i := 0)); (case hg | ht | hk | hx | hi | hc => exact rfl)) | ((with_reducible apply XOp.storeN (i := 1)); (case hg | ht | hx | hv' | hk | h1 | hi | hs | ha => exact rfl)) | (with_reducible apply XL.nilT) | (with_reducible apply XC.seq) | (with_reducible apply XC.region (Γ := Γ)) | (with_reducible apply XQ.ret) | (with_reducible apply XQ.exit) | (with_reducible apply XQ.nt) | (with_reducible apply XQ.et) | ((with_reducible apply XQ.eb); (case hb => exact rfl))))
  ((with_reducible apply XQ.retE); (case hr => exact .row rfl (by kernel_rfl) (by kernel_rfl) (own_row (i := 1) (m := 18) rfl rfl) .nil))
  refine ⟨((((((F1 ++ F2) ++ F3) ++ F4) ++ (G ++ Fv)) ++ J)) ++ Fm, .of (by ((try simp only [List.append_eq, List.cons_append, List.nil_append, List.append_assoc]); repeat (first | exact List.Sublist.refl _ | exact List.nil_sublist _ | (with_reducible apply List.Sublist.cons_cons) | (with_reducible apply List.Sublist.cons) | exact List.sublist_append_right _ _))), ⟨x.C, e', t', (A, a', c'), f', h', (D, am, cm)⟩, ?_, ?_, ?_⟩
  · simp only [LW.cells, sla, hAn, hDn]; rfl
  · exact (w_eq _ _).2 ⟨rfl, he, ht, hAl, hf, hh', hDl⟩
  · refine ⟨by show t'.1.length * 16 ≤ _; rw [ht]; exact hTb, by show A.length * 384 ≤ _; rw [hAn]; exact hLb, by show D.length * 40 ≤ _; rw [hDn]; exact hMb, (F1 ++ (F3 ++ F4)) ++ (G ++ J), F2, Fv, Fm, ?_, by rw [← ht] at hF2; exact hF2, by show OwnS _ _ (.slice a' A.length c') A.length _ _; rw [hAn]; exact hown, by show OwnS _ _ (.slice am D.length cm) D.length _ _; rw [hDn]; exact hownM, by (first | (with_reducible exact List.Perm.refl _) | refine perm_of_cnt fun p_ => ?_; simp only [List.countP_append, List.countP_cons, List.countP_nil]; omega)⟩
    exact (hF1.all.app (hF3.all.app hF4.all)).app (hG.app hJ)
end Go.Proofs.YtppggaiahkecoaaDoorX
/- New, Load, a model's Weights and Config. -/
namespace Go.Proofs.YtppggaiahkecoaaDoorX
open Go Go.SX

def MdB (mb : Nat) (x : LW) : Nat × Obj := (mb, Obj.cells ⟨x.cells⟩ 95 (0, 0))
def NewR (x : LW) (v : Value) (L : HL) : Prop :=
  (errW x.w ≠ 0 ∧ v = .tuple #[.pointer none, .int .i64 (errW x.w)] ∧ L = []) ∨
  (okW x.w ∧ ∃ (mb : Nat) (x' : LW) (F : HL), v = .tuple #[.pointer (some ⟨mb, 0, none⟩), .int .i64 0] ∧ x'.w = x.w ∧ L = MdB mb x' :: F ∧ OwnW x' F)
set_option maxHeartbeats 8000000 in
theorem new_fn (x : LW) : FC Tryd.prog 17 [.agg ⟨x.cells⟩] [] (fun h => sidesK h ∧ lwAt h x) (fun v L => NewR x v L) := by
  refine FC.sub2 ?_
  refine FC.intro Tryd.func17 rfl (by kernel_rfl) 14 [.tmp 2, .tmp 3] rfl rfl rfl ?_
  rintro w0 ⟨hS, hA⟩
  (repeat (first | (with_reducible apply XL.op) | (with_reducible apply XC.seq) | (with_reducible apply XC.region (Γ := Γ))))
  ((with_reducible apply XOp.box); (case hg | hx' => exact rfl); intro wb)
  (repeat (first | (with_reducible apply XL.op) | ((with_reducible apply XOp.p1); (case hg | hv => exact rfl)) | ((with_reducible apply XOp.loadO (i := 0)); (case hg | ht | hk | hx | hi | hc => exact rfl)) | (with_reducible apply XL.nilT) | (with_reducible apply XC.seq) | (with_reducible apply XC.region (Γ := Γ)) | (((with_reducible apply XOp.callQ (hF := checkW_fn x)); (case hg => exact rfl); (case hc => exact rfl); (case ha => exact rfl); try (case hA => exact Known.true)); (case hA => exact Known.and (Known.of_old hS sides_mono) (Known.of_old hA (lw_mono _))); rintro _ rfl)))
  ((with_reducible apply XC.cond); (case hc => exact rfl); all_goals (intro hb_; try simp only [pd_true, pd_false, Bool.not_eq_true', Bool.not_eq_false', Bool.and_eq_true, Bool.and_eq_false_iff, Bool.or_eq_true, Bool.or_eq_false_iff, not_true_eq_false, not_false_eq_true, Int.not_lt, Int.not_le] at hb_))
  · (repeat (first | (with_reducible apply XL.op) | ((with_reducible apply XOp.p1); (case hg | hv => exact rfl)) | (with_reducible apply XL.nilT) | (with_reducible apply XC.seq) | (with_reducible apply XC.region (Γ := Γ)) | (with_reducible apply XQ.ret) | (with_reducible apply XQ.rt)))
    ((with_reducible apply XQ.retE); (case hr => exact .t rfl (.t rfl .nil)))
    exact ⟨[], .of (List.nil_sublist _), .inl ⟨hb_, rfl, rfl⟩⟩
  have hok : okW x.w := errW_zero (by first | assumption | exact Classical.not_not.1 hb_)
  clear hb_
  (repeat (first | (with_reducible apply XL.op) | ((with_reducible apply XOp.loadO (i := 0)); (case hg | ht | hk | hx | hi | hc => exact rfl)) | (with_reducible apply XC.seq) | (with_reducible apply XC.region (Γ := Γ)) | (with_reducible apply XQ.skip) | (with_reducible apply XQ.nt)))
  have hcm : x.C.may := hok.c
  ((with_reducible apply XOp.callN (hF := twin_fn x hcm)); (case hg => exact rfl); (case hc => exact rfl); (case ha => exact rfl); try (case hA => exact Known.true))
  case hA => exact Known.and (Known.of_old hS sides_mono) (Known.of_old hA (lw_mono _))
  rintro _ F ⟨x', rfl, hx, hF⟩
  (repeat (first | (with_reducible apply XL.op) | ((with_reducible apply XOp.pr); (case hg => exact rfl); (case hr => ((with_reducible apply PR.build); (case ht | hk | hok | hz | hf => exact rfl))))))
  ((with_reducible apply XOp.box); (case hg | hx' => exact rfl); intro mb)
  (repeat (first | (with_reducible apply XL.op) | ((with_reducible apply XOp.p1); (case hg | hv => exact rfl)) | (with_reducible apply XL.nilT) | (with_reducible apply XQ.ret)))
  ((with_reducible apply XQ.retE); (case hr => exact .t rfl (.t rfl .nil)))
  exact ⟨MdB mb x' :: F, .of (List.Sublist.cons_cons _ (by ((try simp only [List.append_eq, List.cons_append, List.nil_append, List.append_assoc]); repeat (first | exact List.Sublist.refl _ | exact List.nil_sublist _ | (with_reducible apply List.Sublist.cons_cons) | (with_reducible apply List.Sublist.cons) | exact List.sublist_append_right _ _)))), .inr ⟨hok, mb, x', F, rfl, hx, rfl, hF⟩⟩
theorem wNil_fn : FC Tryd.prog 21 [.pointer none] [] (fun _ => True) (fun v L => v = .agg ⟨zeroLW.cells⟩ ∧ L = []) := by
  refine FC.nil ?_
  refine FC.intro Tryd.func21 rfl (by kernel_rfl) 11 [.cell 2 31] rfl rfl rfl ?_
  intro w0 _
  (repeat (first | (with_reducible apply XL.op) | (with_reducible apply XC.seq) | (with_reducible apply XC.region (Γ := Γ))))
  ((with_reducible apply XOp.alloc); (case hg | ht | hx' => exact rfl); intro rb)
  (repeat (first | (with_reducible apply XL.op) | ((with_reducible apply XOp.p1); (case hg | hv => exact rfl)) | ((with_reducible apply XOp.storeN (i := 0)); (case hg | ht | hx | hv' | hk | h1 | hi | hs | ha => exact rfl)) | ((with_reducible apply XOp.pr); (case hg => exact rfl); (case hr => ((with_reducible apply PR.build); (case ht | hk | hok | hz | hf => exact rfl)))) | (with_reducible apply XL.nilT) | (with_reducible apply XC.seq) | (with_reducible apply XC.region (Γ := Γ)) | (with_reducible apply XQ.ret) | (with_reducible apply XQ.rt) | ((with_reducible apply XC.condT); (case hc => exact rfl)) | (first | (first | ((with_reducible apply XOp.pr); (case hg => exact rfl); (case hr => (with_reducible apply PR.eqNilP); (case ht => exact rfl); (case hk => exact rfl); (case hx => exact rfl); (case hy => exact rfl))) | ((with_reducible apply XP.pr); (case ho => exact rfl); (case hg => exact rfl); (case hr => (with_reducible apply PR.eqNilP); (case ht => exact rfl); (case hk => exact rfl); (case hx => exact rfl); (case hy => exact rfl)))) | (first | ((with_reducible apply XOp.pr); (case hg => exact rfl); (case hr => (with_reducible apply PR.neNilP); (case ht => exact rfl); (case hk => exact rfl); (case hx => exact rfl); (case hy => exact rfl))) | ((with_reducible apply XP.pr); (case ho => exact rfl); (case hg => exact rfl); (case hr => (with_reducible apply PR.neNilP); (case ht => exact rfl); (case hk => exact rfl); (case hx => exact rfl); (case hy => exact rfl)))))))
  ((with_reducible apply XQ.retE); (case hr => exact .row rfl (by kernel_rfl) (by kernel_rfl) (own_row (i := 0) (m := 18) rfl rfl) .nil))
  rfl
theorem cNil_fn : FC Tryd.prog 28 [.pointer none] [] (fun _ => True) (fun v L => v = .agg ⟨zeroLW.C.cells⟩ ∧ L = []) := by
  refine FC.nil ?_
  refine FC.intro Tryd.func28 rfl (by kernel_rfl) 11 [.cell 2 23] rfl rfl rfl ?_
  intro w0 _
  (repeat (first | (with_reducible apply XL.op) | (with_reducible apply XC.seq) | (with_reducible apply XC.region (Γ := Γ))))
  ((with_reducible apply XOp.alloc); (case hg | ht | hx' => exact rfl); intro rb)
  (repeat (first | (with_reducible apply XL.op) | ((with_reducible apply XOp.p1); (case hg | hv => exact rfl)) | ((with_reducible apply XOp.storeN (i := 0)); (case hg | ht | hx | hv' | hk | h1 | hi | hs | ha => exact rfl)) | ((with_reducible apply XOp.pr); (case hg => exact rfl); (case hr => ((with_reducible apply PR.build); (case ht | hk | hok | hz | hf => exact rfl)))) | (with_reducible apply XL.nilT) | (with_reducible apply XC.seq) | (with_reducible apply XC.region (Γ := Γ)) | (with_reducible apply XQ.ret) | (with_reducible apply XQ.rt) | ((with_reducible apply XC.condT); (case hc => exact rfl)) | (first | (first | ((with_reducible apply XOp.pr); (case hg => exact rfl); (case hr => (with_reducible apply PR.eqNilP); (case ht => exact rfl); (case hk => exact rfl); (case hx => exact rfl); (case hy => exact rfl))) | ((with_reducible apply XP.pr); (case ho => exact rfl); (case hg => exact rfl); (case hr => (with_reducible apply PR.eqNilP); (case ht => exact rfl); (case hk => exact rfl); (case hx => exact rfl); (case hy => exact rfl)))) | (first | ((with_reducible apply XOp.pr); (case hg => exact rfl); (case hr => (with_reducible apply PR.neNilP); (case ht => exact rfl); (case hk => exact rfl); (case hx => exact rfl); (case hy => exact rfl))) | ((with_reducible apply XP.pr); (case ho => exact rfl); (case hg => exact rfl); (case hr => (with_reducible apply PR.neNilP); (case ht => exact rfl); (case hk => exact rfl); (case hx => exact rfl); (case hy => exact rfl)))))))
  ((with_reducible apply XQ.retE); (case hr => exact .row rfl (by kernel_rfl) (by kernel_rfl) (own_row (i := 0) (m := 8) rfl rfl) .nil))
  rfl
theorem wOf_fn (mb : Nat) (x : LW) (hc : x.C.may) : FC Tryd.prog 21 [.pointer (some ⟨mb, 0, none⟩)] [] (fun h => sidesK h ∧ rowv h mb 0 x.cells ∧ lwAt h x)
    (fun v L => ∃ x' : LW, v = .agg ⟨x'.cells⟩ ∧ x'.w = x.w ∧ OwnW x' L) := by
  refine FC.sub2 ?_
  refine FC.intro Tryd.func21 rfl (by kernel_rfl) 11 [.cell 2 31] rfl rfl rfl ?_
  rintro w0 ⟨hS, hR, hA⟩
  (repeat (first | (with_reducible apply XL.op) | (with_reducible apply XC.seq) | (with_reducible apply XC.region (Γ := Γ))))
  ((with_reducible apply XOp.alloc); (case hg | ht | hx' => exact rfl); intro rb)
  (repeat (first | (with_reducible apply XL.op) | ((with_reducible apply XOp.p1); (case hg | hv => exact rfl)) | (with_reducible apply XL.nilT) | (with_reducible apply XC.seq) | (with_reducible apply XC.region (Γ := Γ)) | (with_reducible apply XQ.skip) | (with_reducible apply XQ.nt) | ((with_reducible apply XC.condF); (case hc => exact rfl)) | (first | (first | ((with_reducible apply XOp.pr); (case hg => exact rfl); (case hr => (with_reducible apply PR.eqNilP); (case ht => exact rfl); (case hk => exact rfl); (case hx => exact rfl); (case hy => exact rfl))) | ((with_reducible apply XP.pr); (case ho => exact rfl); (case hg => exact rfl); (case hr => (with_reducible apply PR.eqNilP); (case ht => exact rfl); (case hk => exact rfl); (case hx => exact rfl); (case hy => exact rfl)))) | (first | ((with_reducible apply XOp.pr); (case hg => exact rfl); (case hr => (with_reducible apply PR.neNilP); (case ht => exact rfl); (case hk => exact rfl); (case hx => exact rfl); (case hy => exact rfl))) | ((with_reducible apply XP.pr); (case ho => exact rfl); (case hg => exact rfl); (case hr => (with_reducible apply PR.neNilP); (case ht => exact rfl); (case hk => exact rfl); (case hx => exact rfl); (case hy => exact rfl))))) | (first | ((with_reducible apply XOp.loadN); (case hg | ht | hk | hx => exact rfl); (case hc => exact Known.of_old hR (Mono.row _ _ _)); (case hl => exact rfl)) | ((with_reducible apply XP.loadN); (case ho | hg | ht | hk | hx => exact rfl); (case hc => exact Known.of_old hR (Mono.row _ _ _)); (case hl => exact rfl)))))
  ((with_reducible apply XOp.callN (hF := twin_fn x hc)); (case hg => exact rfl); (case hc => exact rfl); (case ha => exact rfl); try (case hA => exact Known.true))
  case hA => exact Known.and (Known.of_old hS sides_mono) (Known.of_old hA (lw_mono _))
  rintro _ F ⟨x', rfl, hx, hF⟩
  (repeat (first | (with_reducible apply XL.op) | ((with_reducible apply XOp.storeN (i := 0)); (case hg | ht | hx | hv' | hk | h1 | hi | hs | ha => exact rfl)) | (with_reducible apply XL.nilT) | (with_reducible apply XQ.ret)))
  ((with_reducible apply XQ.retE); (case hr => exact .row rfl (by kernel_rfl) (by kernel_rfl) (own_row (i := 0) (m := 18) rfl rfl) .nil))
  exact ⟨F, .of (by ((try simp only [List.append_eq, List.cons_append, List.nil_append, List.append_assoc]); repeat (first | exact List.Sublist.refl _ | exact List.nil_sublist _ | (with_reducible apply List.Sublist.cons_cons) | (with_reducible apply List.Sublist.cons) | exact List.sublist_append_right _ _))), x', rfl, hx, hF⟩
theorem cOf_fn (mb : Nat) (x : LW) : FC Tryd.prog 28 [.pointer (some ⟨mb, 0, none⟩)] [] (fun h => rowv h mb 0 x.cells)
    (fun v L => v = .agg ⟨x.C.cells⟩ ∧ L = []) := by
  refine FC.nil ?_
  refine FC.intro Tryd.func28 rfl (by kernel_rfl) 11 [.cell 2 23] rfl rfl rfl ?_
  intro w0 hR
  have hR8 := rowv_sub hR 0 8
  (repeat (first | (with_reducible apply XL.op) | (with_reducible apply XC.seq) | (with_reducible apply XC.region (Γ := Γ))))
  ((with_reducible apply XOp.alloc); (case hg | ht | hx' => exact rfl); intro rb)
  (repeat (first | (with_reducible apply XL.op) | ((with_reducible apply XOp.p1); (case hg | hv => exact rfl)) | ((with_reducible apply XOp.storeN (i := 0)); (case hg | ht | hx | hv' | hk | h1 | hi | hs | ha => exact rfl)) | (with_reducible apply XL.nilT) | (with_reducible apply XC.seq) | (with_reducible apply XC.region (Γ := Γ)) | (with_reducible apply XQ.skip) | (with_reducible apply XQ.ret) | (with_reducible apply XQ.nt) | ((with_reducible apply XC.condF); (case hc => exact rfl)) | (first | (first | ((with_reducible apply XOp.pr); (case hg => exact rfl); (case hr => (with_reducible apply PR.eqNilP); (case ht => exact rfl); (case hk => exact rfl); (case hx => exact rfl); (case hy => exact rfl))) | ((with_reducible apply XP.pr); (case ho => exact rfl); (case hg => exact rfl); (case hr => (with_reducible apply PR.eqNilP); (case ht => exact rfl); (case hk => exact rfl); (case hx => exact rfl); (case hy => exact rfl)))) | (first | ((with_reducible apply XOp.pr); (case hg => exact rfl); (case hr => (with_reducible apply PR.neNilP); (case ht => exact rfl); (case hk => exact rfl); (case hx => exact rfl); (case hy => exact rfl))) | ((with_reducible apply XP.pr); (case ho => exact rfl); (case hg => exact rfl); (case hr => (with_reducible apply PR.neNilP); (case ht => exact rfl); (case hk => exact rfl); (case hx => exact rfl); (case hy => exact rfl))))) | (first | ((with_reducible apply XOp.loadN); (case hg | ht | hk | hx => exact rfl); (case hc => exact Known.of_old hR8 (Mono.row _ _ _)); (case hl => exact rfl)) | ((with_reducible apply XP.loadN); (case ho | hg | ht | hk | hx => exact rfl); (case hc => exact Known.of_old hR8 (Mono.row _ _ _)); (case hl => exact rfl)))))
  ((with_reducible apply XQ.retE); (case hr => exact .row rfl (by kernel_rfl) (by kernel_rfl) (own_row (i := 0) (m := 8) rfl rfl) .nil))
  rfl
def LoadR (b : List Int) (v : Value) (L : HL) : Prop :=
  (decS digS b = none ∧ v = .tuple #[.pointer none, .int .i64 42] ∧ L = []) ∨
  (∃ (mb : Nat) (x : LW) (F : HL), decS digS b = some x.w ∧ v = .tuple #[.pointer (some ⟨mb, 0, none⟩), .int .i64 0] ∧ L = MdB mb x :: F ∧ Held F (fun h => lwAt h x))
theorem errD_no {b : List Int} (h : decS digS b = none) : errD b = 42 := by unfold errD; rw [h]
theorem errD_ok {b : List Int} {w : Wts} (h : decS digS b = some w) : errD b = 0 := by unfold errD; rw [h]
theorem decW_ok {b : List Int} {w : Wts} (h : decS digS b = some w) : decW b = w := by unfold decW; rw [h]
theorem decW_no {b : List Int} (h : decS digS b = none) : decW b = zeroLW.w := by unfold decW; rw [h]
theorem load_fn (b : List Int) (a : Option Addr) (c : Nat) : FC Tryd.prog 26 [.slice a b.length c] [] (fun h => sidesK h ∧ byAt h b a c) (fun v L => LoadR b v L) := by
  refine FC.sub2 ?_
  refine FC.intro Tryd.func26 rfl (by kernel_rfl) 17 [.tmp 2, .tmp 3] rfl rfl rfl ?_
  rintro w0 ⟨hS, hB⟩
  (repeat (first | (with_reducible apply XL.op) | ((with_reducible apply XOp.p1); (case hg | hv => exact rfl)) | (with_reducible apply XL.nilT) | (with_reducible apply XC.seq) | (with_reducible apply XC.region (Γ := Γ))))
  ((with_reducible apply XOp.call (hF := decode_fn b a c)); (case hg => exact rfl); (case hc => exact rfl); (case ha => exact rfl); (case hL => exact (List.nil_append _).symm); try (case hA => exact Known.true))
  case hA => exact Known.and (Known.of_old hS sides_mono) (Known.of_old hB (Mono.sl _ _ _ _ _))
  rintro _ F ⟨x, rfl, hx, hF⟩
  (repeat (first | (with_reducible apply XL.op) | ((with_reducible apply XOp.p1); (case hg | hv => exact rfl))))
  ((with_reducible apply XOp.alloc); (case hg | ht | hx' => exact rfl); intro wb)
  (repeat (first | (with_reducible apply XL.op) | ((with_reducible apply XOp.p1); (case hg | hv => exact rfl)) | ((with_reducible apply XOp.storeN (i := 0)); (case hg | ht | hx | hv' | hk | h1 | hi | hs | ha => exact rfl)) | (with_reducible apply XL.nilT) | (with_reducible apply XC.seq) | (with_reducible apply XC.region (Γ := Γ))))
  cases hd : decS digS b with
  | none =>
    rw [errD_no hd]
    skip
    ((with_reducible apply XC.cond); (case hc => exact rfl); all_goals (intro hb_; try simp only [pd_true, pd_false, Bool.not_eq_true', Bool.not_eq_false', Bool.and_eq_true, Bool.and_eq_false_iff, Bool.or_eq_true, Bool.or_eq_false_iff, not_true_eq_false, not_false_eq_true, Int.not_lt, Int.not_le] at hb_))
    rotate_left
    · exact absurd hb_ (by decide)
    (repeat (first | (with_reducible apply XL.op) | ((with_reducible apply XOp.p1); (case hg | hv => exact rfl)) | (with_reducible apply XL.nilT) | (with_reducible apply XC.seq) | (with_reducible apply XC.region (Γ := Γ)) | (with_reducible apply XQ.ret) | (with_reducible apply XQ.rt)))
    ((with_reducible apply XQ.retE); (case hr => exact .t rfl (.t rfl .nil)))
    exact ⟨[], .of (List.nil_sublist _), .inl ⟨hd, rfl, rfl⟩⟩
  | some w =>
    rw [errD_ok hd]
    have hnz : (0 : Int) = 0 := rfl
    rw [decW_ok hd] at hx
    subst hx
    skip
    ((with_reducible apply XC.cond); (case hc => exact rfl); all_goals (intro hb_; try simp only [pd_true, pd_false, Bool.not_eq_true', Bool.not_eq_false', Bool.and_eq_true, Bool.and_eq_false_iff, Bool.or_eq_true, Bool.or_eq_false_iff, not_true_eq_false, not_false_eq_true, Int.not_lt, Int.not_le] at hb_))
    (repeat (first | (with_reducible apply XL.op) | ((with_reducible apply XOp.loadO (i := 0)); (case hg | ht | hk | hx | hi | hc => exact rfl)) | ((with_reducible apply XOp.pr); (case hg => exact rfl); (case hr => ((with_reducible apply PR.build); (case ht | hk | hok | hz | hf => exact rfl)))) | (with_reducible apply XC.seq) | (with_reducible apply XC.region (Γ := Γ)) | (with_reducible apply XQ.skip) | (with_reducible apply XQ.nt)))
    ((with_reducible apply XOp.box); (case hg | hx' => exact rfl); intro mb)
    (repeat (first | (with_reducible apply XL.op) | ((with_reducible apply XOp.p1); (case hg | hv => exact rfl)) | (with_reducible apply XL.nilT) | (with_reducible apply XQ.ret)))
    ((with_reducible apply XQ.retE); (case hr => exact .t rfl (.t rfl .nil)))
    exact ⟨MdB mb x :: F, .of (List.Sublist.cons_cons _ (by ((try simp only [List.append_eq, List.cons_append, List.nil_append, List.append_assoc]); repeat (first | exact List.Sublist.refl _ | exact List.nil_sublist _ | (with_reducible apply List.Sublist.cons_cons) | (with_reducible apply List.Sublist.cons) | exact List.sublist_append_right _ _)); rw [List.append_nil]; exact List.Sublist.refl _)), .inr ⟨mb, x, F, hd, rfl, rfl, hF⟩⟩
end Go.Proofs.YtppggaiahkecoaaDoorX
/- The least weights; works. -/
namespace Go.Proofs.YtppggaiahkecoaaDoorX
open Go Go.SX

def leastM : Mat := ⟨2, 2, [1, 2, 3, 4]⟩
def leastY : Lay := ⟨[1, 1], [2, 2], leastM, leastM, leastM, leastM, ⟨1, 2, [5, -6]⟩, ⟨1, 2, [5, -6]⟩, ⟨2, 1, [7, -8]⟩, [0, 0, 0, 24, 0, 0, 0]⟩
def leastW : Wts := ⟨⟨2, 2, 1, 1, 1, 1, 1, 0⟩, leastM, [(9, -9)], [leastY], [127, -127], leastM, []⟩
theorem leastW_ok : okW leastW := by
  have hm : ∀ m ∈ [leastM], isM m 2 2 := by
    intro m hm
    rw [List.mem_singleton.1 hm]
    refine ⟨rfl, rfl, by decide, by decide, by decide, by decide⟩
  have hM := hm _ (List.mem_singleton.2 rfl)
  refine ⟨by unfold Cfg.may; decide, hM, by decide, ⟨by decide, ?_⟩, ⟨by decide, by decide⟩, hM, ⟨by decide, by simp [leastW]⟩⟩
  intro l hl
  obtain rfl : l = leastY := List.mem_singleton.1 hl
  exact ⟨⟨by decide, by decide⟩, ⟨by decide, by decide⟩, hM, hM, hM, hM, ⟨rfl, rfl, by decide, by decide, by decide, by decide⟩, ⟨rfl, rfl, by decide, by decide, by decide, by decide⟩, ⟨rfl, rfl, by decide, by decide, by decide, by decide⟩, ⟨by decide, by decide⟩⟩
theorem lv_row {h : HV} {b : Nat} {l : List Int} (hr : rowv h b 0 (l.map (.int .i8))) (hb : l.length ≤ 1000) (hi : ∀ y ∈ l, -128 ≤ y ∧ y ≤ 127) : lvAt h (l, some ⟨b, 0, none⟩, l.length) :=
  ⟨Nat.le_refl _, by show l.length * 1 ≤ _; omega, (fun h => by cases h), fun _ => rfl, fun i x hx => ⟨[.int .i8 x], ⟨rfl, inK_i8.2 (hi x (List.mem_of_getElem? hx))⟩, fun j v hj => by
    match j, hj with
    | 0, hj =>
      obtain rfl : Value.int .i8 x = v := by simpa using hj
      have := hr i (.int .i8 x) (by rw [List.getElem?_map, hx]; rfl)
      have e : aoff (some (⟨b, 0, none⟩ : Addr)) + i * (Kd.int .i8).sz + 0 = 0 + i := by show 0 + i * 1 + 0 = 0 + i; omega
      show cellv h ⟨b, aoff (some (⟨b, 0, none⟩ : Addr)) + i * (Kd.int .i8).sz + 0, none⟩ = _
      rw [e]; exact this
    | j + 1, hj => simp at hj⟩⟩
def lsV (b : Nat) (l : List Int) : LV := (l, some ⟨b, 0, none⟩, l.length)
def lsM (b : Nat) (r c : Int) (l : List Int) : LM := ⟨r, c, lsV b l⟩
def lsL (b1 b2 b3 b4 b5 : Nat) : LL := ⟨lsV b4 [1, 1], lsV b5 [2, 2], lsM b1 2 2 [1, 2, 3, 4], lsM b1 2 2 [1, 2, 3, 4], lsM b1 2 2 [1, 2, 3, 4], lsM b1 2 2 [1, 2, 3, 4], lsM b2 1 2 [5, -6], lsM b2 1 2 [5, -6], lsM b3 2 1 [7, -8], 0, 0, 0, 24, 0, 0, 0⟩
def lsW (b1 b2 b3 b4 b5 bt bl bf : Nat) : LW := ⟨⟨2, 2, 1, 1, 1, 1, 1, 0⟩, lsM b1 2 2 [1, 2, 3, 4], ([(9, -9)], some ⟨bt, 0, none⟩, 1), ([lsL b1 b2 b3 b4 b5], some ⟨bl, 0, none⟩, 1), lsV bf [127, -127], lsM b1 2 2 [1, 2, 3, 4], ([], none, 0)⟩
theorem lsW_w (b1 b2 b3 b4 b5 bt bl bf : Nat) : (lsW b1 b2 b3 b4 b5 bt bl bf).w = leastW := rfl
theorem lsW_at {h : HV} {b1 b2 b3 b4 b5 bt bl bf : Nat} (r1 : rowv h b1 0 ([1, 2, 3, 4].map (.int .i8))) (r2 : rowv h b2 0 ([5, -6].map (.int .i8))) (r3 : rowv h b3 0 ([7, -8].map (.int .i8))) (r4 : rowv h b4 0 ([1, 1].map (.int .i8))) (r5 : rowv h b5 0 ([2, 2].map (.int .i8)))
    (rt : rowv h bt 0 (turnV (9, -9))) (rl : rowv h bl 0 (lsL b1 b2 b3 b4 b5).cells) (rf : rowv h bf 0 ([127, -127].map (.int .i8))) : lwAt h (lsW b1 b2 b3 b4 b5 bt bl bf) := by
  have v1 : lvAt h (lsV b1 [1, 2, 3, 4]) := lv_row r1 (by decide) (by decide)
  have v2 : lvAt h (lsV b2 [5, -6]) := lv_row r2 (by decide) (by decide)
  have v3 : lvAt h (lsV b3 [7, -8]) := lv_row r3 (by decide) (by decide)
  have v4 : lvAt h (lsV b4 [1, 1]) := lv_row r4 (by decide) (by decide)
  have v5 : lvAt h (lsV b5 [2, 2]) := lv_row r5 (by decide) (by decide)
  have vf : lvAt h (lsV bf [127, -127]) := lv_row rf (by decide) (by decide)
  refine ⟨v1, ?_, ?_, vf, v1, slA_nil⟩
  · exact (sla_of_row (f := turnV) (hk := fun _ => rfl) (l := [(9, -9)]) (tl := []) (c := 1) rt (by decide) (Nat.le_refl _) : SlA turnK 16 h [(9, -9)] (some ⟨bt, 0, none⟩) 1)
  · refine SlA.ofRaw (sla_of_row (f := LL.cells) (k := 30) (hk := fun _ => rfl) (l := [lsL b1 b2 b3 b4 b5]) (tl := []) (c := 1) rl (by show 1 * 384 ≤ _; decide) (Nat.le_refl _)) fun l hl => ?_
    obtain rfl : l = lsL b1 b2 b3 b4 b5 := List.mem_singleton.1 hl
    exact ⟨v4, v5, v1, v1, v1, v1, v2, v2, v3⟩
set_option maxHeartbeats 8000000 in
set_option maxRecDepth 10000 in
theorem least_fn : FC Tryd.prog 43 [] [] (fun _ => True)
    (fun v L => ∃ x : LW, v = .agg ⟨x.cells⟩ ∧ x.w = leastW ∧ Held L (fun h => lwAt h x)) := by
  refine FC.sub2 ?_
  refine FC.intro Tryd.func43 rfl (by kernel_rfl) 35 [.cell 0 31] rfl rfl rfl ?_
  intro w0 _
  (repeat (first | (with_reducible apply XL.op) | (with_reducible apply XC.seq) | (with_reducible apply XC.region (Γ := Γ))))
  ((with_reducible apply XOp.alloc); (case hg | ht | hx' => exact rfl); intro rb)
  (repeat (first | (with_reducible apply XL.op) | (with_reducible apply XL.nilT) | (with_reducible apply XC.seq) | (with_reducible apply XC.region (Γ := Γ))))
  ((with_reducible apply XOp.buildSlice); (case hg | ht | hk | he | hz | hzl | hf => exact rfl); intro b1)
  (repeat (first | (with_reducible apply XL.op) | ((with_reducible apply XOp.pr); (case hg => exact rfl); (case hr => ((with_reducible apply PR.build); (case ht | hk | hok | hz | hf => exact rfl))))))
  ((with_reducible apply XOp.alloc); (case hg | ht | hx' => exact rfl); intro e1)
  (repeat (first | (with_reducible apply XL.op) | ((with_reducible apply XOp.storeN (i := 0)); (case hg | ht | hx | hv' | hk | h1 | hi | hs | ha => exact rfl)) | (with_reducible apply XL.nilT) | (with_reducible apply XC.seq) | (with_reducible apply XC.region (Γ := Γ))))
  ((with_reducible apply XOp.buildSlice); (case hg | ht | hk | he | hz | hzl | hf => exact rfl); intro b2)
  (repeat (first | (with_reducible apply XL.op) | ((with_reducible apply XOp.pr); (case hg => exact rfl); (case hr => ((with_reducible apply PR.build); (case ht | hk | hok | hz | hf => exact rfl))))))
  ((with_reducible apply XOp.alloc); (case hg | ht | hx' => exact rfl); intro e2)
  (repeat (first | (with_reducible apply XL.op) | ((with_reducible apply XOp.storeN (i := 0)); (case hg | ht | hx | hv' | hk | h1 | hi | hs | ha => exact rfl)) | (with_reducible apply XL.nilT) | (with_reducible apply XC.seq) | (with_reducible apply XC.region (Γ := Γ))))
  ((with_reducible apply XOp.buildSlice); (case hg | ht | hk | he | hz | hzl | hf => exact rfl); intro b3)
  (repeat (first | (with_reducible apply XL.op) | ((with_reducible apply XOp.pr); (case hg => exact rfl); (case hr => ((with_reducible apply PR.build); (case ht | hk | hok | hz | hf => exact rfl))))))
  ((with_reducible apply XOp.alloc); (case hg | ht | hx' => exact rfl); intro e3)
  (repeat (first | (with_reducible apply XL.op) | ((with_reducible apply XOp.storeN (i := 0)); (case hg | ht | hx | hv' | hk | h1 | hi | hs | ha => exact rfl)) | (with_reducible apply XL.nilT) | (with_reducible apply XC.seq) | (with_reducible apply XC.region (Γ := Γ))))
  ((with_reducible apply XOp.buildSlice); (case hg | ht | hk | he | hz | hzl | hf => exact rfl); intro b4)
  (repeat ((with_reducible apply XL.op)))
  ((with_reducible apply XOp.buildSlice); (case hg | ht | hk | he | hz | hzl | hf => exact rfl); intro b5)
  (repeat (first | (with_reducible apply XL.op) | ((with_reducible apply XOp.loadO (i := 2)); (case hg | ht | hk | hx | hi | hc => exact rfl)) | ((with_reducible apply XOp.loadO (i := 4)); (case hg | ht | hk | hx | hi | hc => exact rfl)) | ((with_reducible apply XOp.loadO (i := 6)); (case hg | ht | hk | hx | hi | hc => exact rfl)) | ((with_reducible apply XOp.pr); (case hg => exact rfl); (case hr => ((with_reducible apply PR.build); (case ht | hk | hok | hz | hf => exact rfl))))))
  ((with_reducible apply XOp.alloc); (case hg | ht | hx' => exact rfl); intro lb)
  (repeat (first | (with_reducible apply XL.op) | ((with_reducible apply XOp.p1); (case hg | hv => exact rfl)) | ((with_reducible apply XOp.store (i := 0)); (case hg | ht | hk | hx | hv | h1 | hi | hs | ha => exact rfl)) | ((with_reducible apply XOp.storeN (i := 0)); (case hg | ht | hx | hv' | hk | h1 | hi | hs | ha => exact rfl)) | ((with_reducible apply XOp.pr); (case hg => exact rfl); (case hr => ((with_reducible apply PR.build); (case ht | hk | hok | hz | hf => exact rfl)))) | (with_reducible apply XL.nilT) | (with_reducible apply XC.seq) | (with_reducible apply XC.region (Γ := Γ))))
  ((with_reducible apply XOp.alloc); (case hg | ht | hx' => exact rfl); intro cb)
  (repeat (first | (with_reducible apply XL.op) | ((with_reducible apply XOp.loadO (i := 0)); (case hg | ht | hk | hx | hi | hc => exact rfl)) | ((with_reducible apply XOp.loadO (i := 8)); (case hg | ht | hk | hx | hi | hc => exact rfl)) | ((with_reducible apply XOp.storeN (i := 0)); (case hg | ht | hx | hv' | hk | h1 | hi | hs | ha => exact rfl)) | ((with_reducible apply XOp.pr); (case hg => exact rfl); (case hr => ((with_reducible apply PR.build); (case ht | hk | hok | hz | hf => exact rfl)))) | (with_reducible apply XL.nilT) | (with_reducible apply XC.seq) | (with_reducible apply XC.region (Γ := Γ))))
  ((with_reducible apply XOp.buildSlice); (case hg | ht | hk | he | hz | hzl | hf => exact rfl); intro bt)
  (repeat (first | (with_reducible apply XL.op) | ((with_reducible apply XOp.loadO (i := 2)); (case hg | ht | hk | hx | hi | hc => exact rfl))))
  ((with_reducible apply XOp.buildSlice); (case hg | ht | hk | he | hz | hzl | hf => exact rfl); intro bl)
  (repeat ((with_reducible apply XL.op)))
  ((with_reducible apply XOp.buildSlice); (case hg | ht | hk | he | hz | hzl | hf => exact rfl); intro bf)
  (repeat (first | (with_reducible apply XL.op) | ((with_reducible apply XOp.loadO (i := 11)); (case hg | ht | hk | hx | hi | hc => exact rfl)) | ((with_reducible apply XOp.pr); (case hg => exact rfl); (case hr => ((with_reducible apply PR.build); (case ht | hk | hok | hz | hf => exact rfl))))))
  ((with_reducible apply XOp.callN (hF := copyWeights_fn (lsW b1 b2 b3 b4 b5 bt bl bf))); (case hg => exact rfl); (case hc => exact rfl); (case ha => exact rfl); try (case hA => exact Known.true))
  case hA => exact Held.known (F := _) (fun h hh => lsW_at (Held.row (by repeat (first | exact List.mem_cons_self .. | (with_reducible apply List.mem_cons_of_mem))) h hh) (Held.row (by repeat (first | exact List.mem_cons_self .. | (with_reducible apply List.mem_cons_of_mem))) h hh) (Held.row (by repeat (first | exact List.mem_cons_self .. | (with_reducible apply List.mem_cons_of_mem))) h hh) (Held.row (by repeat (first | exact List.mem_cons_self .. | (with_reducible apply List.mem_cons_of_mem))) h hh) (Held.row (by repeat (first | exact List.mem_cons_self .. | (with_reducible apply List.mem_cons_of_mem))) h hh) (Held.row (by repeat (first | exact List.mem_cons_self .. | (with_reducible apply List.mem_cons_of_mem))) h hh) (Held.row (by repeat (first | exact List.mem_cons_self .. | (with_reducible apply List.mem_cons_of_mem))) h hh) (Held.row (by repeat (first | exact List.mem_cons_self .. | (with_reducible apply List.mem_cons_of_mem))) h hh)) (fun _ hy => hy)
  rintro _ F ⟨x', rfl, hx, hF⟩
  (repeat (first | (with_reducible apply XL.op) | ((with_reducible apply XOp.storeN (i := 13)); (case hg | ht | hx | hv' | hk | h1 | hi | hs | ha => exact rfl)) | (with_reducible apply XL.nilT) | (with_reducible apply XQ.ret)))
  ((with_reducible apply XQ.retE); (case hr => exact .row rfl (by kernel_rfl) (by kernel_rfl) (own_row (i := 13) (m := 18) rfl rfl) .nil))
  exact ⟨F, .of (by ((try simp only [List.append_eq, List.cons_append, List.nil_append, List.append_assoc]); repeat (first | exact List.Sublist.refl _ | exact List.nil_sublist _ | (with_reducible apply List.Sublist.cons_cons) | (with_reducible apply List.Sublist.cons) | exact List.sublist_append_right _ _))), x', rfl, hx.trans (lsW_w b1 b2 b3 b4 b5 bt bl bf), hF⟩
theorem encS_isB (w : Wts) : isB (encS w) := isB_enc w
theorem digS_rng (l : List Int) : 0 ≤ digS l ∧ digS l < 18446744073709551616 := by
  have := inK_u64.1 (digS_u64 l); omega
theorem dec_enc {w : Wts} (h : okW w) : decS digS (encS w) = some w := by
  rw [encS_ok h]; exact (dec_iff digS digS_rng (isB_file _ _)).2 ⟨h, rfl⟩
set_option maxHeartbeats 8000000 in
set_option maxRecDepth 10000 in
theorem works_fn : FC Tryd.prog 15 [] [] (fun h => sidesK h) (fun v L => v = .bool true ∧ L = []) := by
  refine FC.nil ?_
  refine FC.intro Tryd.func15 rfl (by kernel_rfl) 45 [.tmp 0] rfl rfl rfl ?_
  intro w0 hS
  (repeat (first | (with_reducible apply XL.op) | ((with_reducible apply XOp.p1); (case hg | hv => exact rfl)) | (with_reducible apply XL.nilT) | (with_reducible apply XC.seq) | (with_reducible apply XC.region (Γ := Γ))))
  ((with_reducible apply XOp.callN (hF := least_fn)); (case hg => exact rfl); (case hc => exact rfl); (case ha => exact rfl); try (case hA => exact Known.true))
  rintro _ F1 ⟨x, rfl, hx, hF1⟩
  have hxe : errW x.w = 0 := errW_ok (hx ▸ leastW_ok)
  have hxd : decS digS (encS x.w) = some x.w := dec_enc (hx ▸ leastW_ok)
  (repeat ((with_reducible apply XL.op)))
  ((with_reducible apply XOp.alloc); (case hg | ht | hx' => exact rfl); intro wb)
  (repeat (first | (with_reducible apply XL.op) | ((with_reducible apply XOp.loadO (i := 0)); (case hg | ht | hk | hx | hi | hc => exact rfl)) | ((with_reducible apply XOp.storeN (i := 0)); (case hg | ht | hx | hv' | hk | h1 | hi | hs | ha => exact rfl)) | (with_reducible apply XL.nilT) | (with_reducible apply XC.seq) | (with_reducible apply XC.region (Γ := Γ))))
  ((with_reducible apply XOp.callN (hF := new_fn x)); (case hg => exact rfl); (case hc => exact rfl); (case ha => exact rfl); try (case hA => exact Known.true))
  case hA => exact Known.and (Known.of_old hS sides_mono) (hF1.known fun y hy => by simp [hy])
  rintro _ L2 hN
  rcases hN with ⟨hne, _⟩ | ⟨_, mb, x2, F2, rfl, hx2, rfl, hF2⟩
  · exact absurd hxe hne
  (repeat (first | (with_reducible apply XL.op) | ((with_reducible apply XOp.p1); (case hg | hv => exact rfl)) | ((with_reducible apply XOp.loadO (i := 0)); (case hg | ht | hk | hx | hi | hc => exact rfl)) | (with_reducible apply XL.nilT) | (with_reducible apply XC.seq) | (with_reducible apply XC.region (Γ := Γ))))
  ((with_reducible apply XOp.callN (hF := encode_fn x)); (case hg => exact rfl); (case hc => exact rfl); (case ha => exact rfl); try (case hA => exact Known.true))
  case hA => exact Known.and (Known.of_old hS sides_mono) (hF1.known fun y hy => by simp [hy])
  rintro _ F3 hE
  obtain ⟨a3, c3, rfl, s3⟩ := hE.get
  rw [hxe]
  (repeat (first | (with_reducible apply XL.op) | ((with_reducible apply XOp.p1); (case hg | hv => exact rfl)) | (with_reducible apply XL.nilT) | (with_reducible apply XC.seq) | (with_reducible apply XC.region (Γ := Γ))))
  ((with_reducible apply XOp.callN (hF := decode_fn (encS x.w) a3 c3)); (case hg => exact rfl); (case hc => exact rfl); (case ha => exact rfl); try (case hA => exact Known.true))
  case hA => exact Known.and (Known.of_old hS sides_mono) (s3.known fun y hy => by simp [hy])
  rintro _ F4 ⟨x4, rfl, hx4, hF4⟩
  rw [errD_ok hxd]
  rw [decW_ok hxd] at hx4
  (repeat (first | (with_reducible apply XL.op) | ((with_reducible apply XOp.p1); (case hg | hv => exact rfl))))
  ((with_reducible apply XOp.alloc); (case hg | ht | hx' => exact rfl); intro w4)
  (repeat (first | (with_reducible apply XL.op) | ((with_reducible apply XOp.p1); (case hg | hv => exact rfl)) | ((with_reducible apply XOp.storeN (i := 0)); (case hg | ht | hx | hv' | hk | h1 | hi | hs | ha => exact rfl)) | (with_reducible apply XL.nilT) | (with_reducible apply XC.seq)))
  ((with_reducible apply XC.regionL (Γ := Γ) mixed (.q 0 (.e 1 (.e 2 (.q 3 (.done))))) [] ([(w4, Obj.cells ⟨x4.cells⟩ 31 (0, 0))])); (case hc => kernel_rfl); (case hs => first | exact List.nil_sublist _ | exact List.Sublist.refl _ | exact List.sublist_append_right _ _ | (refine List.Sublist.cons_cons _ (List.nil_sublist _)) | (refine List.Sublist.cons_cons _ (List.Sublist.cons_cons _ (List.nil_sublist _))) | (refine List.Sublist.cons_cons _ (List.Sublist.cons_cons _ (List.Sublist.cons_cons _ (List.nil_sublist _)))) | (refine List.Sublist.cons_cons _ (List.Sublist.cons_cons _ (List.Sublist.cons_cons _ (List.Sublist.cons_cons _ (List.nil_sublist _))))) | ((try simp only [List.append_eq, List.cons_append, List.nil_append, List.append_assoc]); (repeat (first | exact List.Sublist.refl _ | exact List.nil_sublist _ | (with_reducible apply List.Sublist.cons_cons) | (with_reducible apply List.Sublist.cons))); done)))
  (repeat (first | ((with_reducible apply XP.loadO (j := 0)); (case ho | hg | ht | hk | hx | hi | hc => exact rfl)) | ((with_reducible apply XP.e); (first | ((with_reducible apply XE.d); (case ho => exact rfl); (case hd => exact rfl)) | ((with_reducible apply XE.e); (case ho => exact rfl))))))
  ((with_reducible apply XOp.callN (hF := least_fn)); (case hg => exact rfl); (case hc => exact rfl); (case ha => exact rfl); try (case hA => exact Known.true))
  rintro _ F5 ⟨x5, rfl, hx5, hF5⟩
  refine ⟨fun y hy => by rw [List.mem_singleton.1 hy]; exact List.mem_append_left _ (List.mem_cons_self ..), ?_⟩
  (repeat (((with_reducible apply XP.e); (first | ((with_reducible apply XE.d); (case ho => exact rfl); (case hd => exact rfl)) | ((with_reducible apply XE.e); (case ho => exact rfl))))))
  ((with_reducible apply XOp.callQ (hF := eqWeightsT_fn x4 x5 (by rw [hx4, hx, hx5]))); (case hg => exact rfl); (case hc => exact rfl); (case ha => exact rfl); try (case hA => exact Known.true))
  case hA => exact Known.and (hF4.known fun y hy => by simp [hy]) (hF5.known fun y hy => by simp [hy])
  rintro _ rfl
  (repeat (first | (with_reducible apply XL.op) | ((with_reducible apply XOp.p1); (case hg | hv => exact rfl)) | (with_reducible apply XL.nilT) | (with_reducible apply XC.seq) | (with_reducible apply XC.region (Γ := Γ)) | (with_reducible apply XQ.ret) | (with_reducible apply XQ.nt) | ((with_reducible apply XP.p1); (case ho | hg | hv => exact rfl)) | (with_reducible apply XP.done) | ((with_reducible apply XP.keep); (case hk => first | ((repeat' (first | exact List.forall_mem_nil _ | (with_reducible refine List.forall_mem_cons.2 ⟨?_, ?_⟩) | exact List.mem_cons_self .. | (with_reducible apply List.mem_cons_of_mem) | (with_reducible apply List.mem_append_right))); done) | (intro x hx; first | exact sel_in hx | exact List.mem_cons_of_mem _ (sel_in hx) | exact List.mem_append_right _ (sel_in hx) | exact hx | exact List.mem_cons_of_mem _ hx | exact List.mem_append_right _ hx | ((repeat (first | exact sel_in hx | exact hx | (with_reducible apply List.mem_cons_of_mem) | (with_reducible apply List.mem_append_right))); done) | (rw [List.mem_singleton.1 hx]; (simp; done)) | (rcases List.mem_cons.1 hx with rfl | hx; (simp; done); (rw [List.mem_singleton.1 hx]; (simp; done))) | cases hx))) | (first | ((with_reducible apply XOp.split); (case hg | hj | hd | hb => exact rfl); (fail_if_success (case hf => exact fun h => Bool.noConfusion h)); (fail_if_success (case ht => exact fun h => Bool.noConfusion h)); (first | (case ht => intro hb_; try simp only [pd_true, pd_false, Bool.not_eq_true', Bool.not_eq_false', Bool.and_eq_true, Bool.and_eq_false_iff, Bool.or_eq_true, Bool.or_eq_false_iff, not_true_eq_false, not_false_eq_true, Int.not_lt, Int.not_le] at hb_; first | done | (exfalso; first | omega | contradiction)) | (case hf => intro hb_; try simp only [pd_true, pd_false, Bool.not_eq_true', Bool.not_eq_false', Bool.and_eq_true, Bool.and_eq_false_iff, Bool.or_eq_true, Bool.or_eq_false_iff, not_true_eq_false, not_false_eq_true, Int.not_lt, Int.not_le] at hb_; first | done | (exfalso; first | omega | contradiction))); intro hb_; try simp only [pd_true, pd_false, Bool.not_eq_true', Bool.not_eq_false', Bool.and_eq_true, Bool.and_eq_false_iff, Bool.or_eq_true, Bool.or_eq_false_iff, not_true_eq_false, not_false_eq_true, Int.not_lt, Int.not_le] at hb_) | ((with_reducible apply XP.split); (case ho | hg | hj | hd | hb => exact rfl); (fail_if_success (case hf => exact fun h => Bool.noConfusion h)); (fail_if_success (case ht => exact fun h => Bool.noConfusion h)); (first | (case ht => intro hb_; try simp only [pd_true, pd_false, Bool.not_eq_true', Bool.not_eq_false', Bool.and_eq_true, Bool.and_eq_false_iff, Bool.or_eq_true, Bool.or_eq_false_iff, not_true_eq_false, not_false_eq_true, Int.not_lt, Int.not_le] at hb_; first | done | (exfalso; first | omega | contradiction)) | (case hf => intro hb_; try simp only [pd_true, pd_false, Bool.not_eq_true', Bool.not_eq_false', Bool.and_eq_true, Bool.and_eq_false_iff, Bool.or_eq_true, Bool.or_eq_false_iff, not_true_eq_false, not_false_eq_true, Int.not_lt, Int.not_le] at hb_; first | done | (exfalso; first | omega | contradiction))); intro hb_; try simp only [pd_true, pd_false, Bool.not_eq_true', Bool.not_eq_false', Bool.and_eq_true, Bool.and_eq_false_iff, Bool.or_eq_true, Bool.or_eq_false_iff, not_true_eq_false, not_false_eq_true, Int.not_lt, Int.not_le] at hb_) | ((with_reducible apply XC.cond); (case hc => exact rfl); (first | (case ht => intro hb_; try simp only [pd_true, pd_false, Bool.not_eq_true', Bool.not_eq_false', Bool.and_eq_true, Bool.and_eq_false_iff, Bool.or_eq_true, Bool.or_eq_false_iff, not_true_eq_false, not_false_eq_true, Int.not_lt, Int.not_le] at hb_; first | done | (exfalso; first | omega | contradiction)) | (case hf => intro hb_; try simp only [pd_true, pd_false, Bool.not_eq_true', Bool.not_eq_false', Bool.and_eq_true, Bool.and_eq_false_iff, Bool.or_eq_true, Bool.or_eq_false_iff, not_true_eq_false, not_false_eq_true, Int.not_lt, Int.not_le] at hb_; first | done | (exfalso; first | omega | contradiction))); intro hb_; try simp only [pd_true, pd_false, Bool.not_eq_true', Bool.not_eq_false', Bool.and_eq_true, Bool.and_eq_false_iff, Bool.or_eq_true, Bool.or_eq_false_iff, not_true_eq_false, not_false_eq_true, Int.not_lt, Int.not_le] at hb_)) | (first | (first | ((with_reducible apply XOp.pr); (case hg => exact rfl); (case hr => (with_reducible apply PR.eqNilP); (case ht => exact rfl); (case hk => exact rfl); (case hx => exact rfl); (case hy => exact rfl))) | ((with_reducible apply XP.pr); (case ho => exact rfl); (case hg => exact rfl); (case hr => (with_reducible apply PR.eqNilP); (case ht => exact rfl); (case hk => exact rfl); (case hx => exact rfl); (case hy => exact rfl)))) | (first | ((with_reducible apply XOp.pr); (case hg => exact rfl); (case hr => (with_reducible apply PR.neNilP); (case ht => exact rfl); (case hk => exact rfl); (case hx => exact rfl); (case hy => exact rfl))) | ((with_reducible apply XP.pr); (case ho => exact rfl); (case hg => exact rfl); (case hr => (with_reducible apply PR.neNilP); (case ht => exact rfl); (case hk => exact rfl); (case hx => exact rfl); (case hy => exact rfl)))))))
  ((with_reducible apply XQ.retE); (case hr => exact .t rfl .nil))
  rfl
end Go.Proofs.YtppggaiahkecoaaDoorX
