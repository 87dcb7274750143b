/- Are the shifts those that stand in the bytes? Of a file: yes. -/
import Derived.Test.YtppggaiahkecoaaDoorXPML4
import Derived.Test.YtppggaiahkecoaaDoorXPML3
import Derived.Test.YtppggaiahkecoaaDoorXPML1
set_option linter.unusedSimpArgs false
set_option linter.unusedVariables false
namespace Go.Proofs.YtppggaiahkecoaaDoorX
open Go Go.SX

/-- Where the i-th layer's section begins. -/
def posL (x : LW) : Nat → Nat
  | 0 => 29 + x.E.d.1.length + 4 * x.T.1.length
  | i + 1 => posL x i + (match x.Ls.1[i]? with | some l => 5 + (layBody l.lay).length | none => 0)
def preL (x : LW) (i : Nat) : List Int := beginB ++ secB 67 (x.C.list.map toB) ++ secB 69 (x.E.d.1.map toB) ++ secB 84 (x.T.1.flatMap turnB) ++ (x.Ls.1.take i).flatMap (fun l => secB 76 (layBody l.lay))
theorem preL_len (x : LW) : ∀ i, i ≤ x.Ls.1.length → (preL x i).length = posL x i
  | 0, _ => by
    have h8 : x.C.list.length = 8 := rfl
    simp only [preL, posL, List.length_append, secB_len, beginB_len, List.length_map, turnsLen, List.take_zero, List.flatMap_nil, List.length_nil]; omega
  | i + 1, h => by
    obtain ⟨l, hl⟩ : ∃ l, x.Ls.1[i]? = some l := ⟨_, List.getElem?_eq_getElem (by omega)⟩
    have ih := preL_len x i (by omega)
    have e : preL x (i + 1) = preL x i ++ secB 76 (layBody l.lay) := inv_snoc hl _ _
    have e2 : posL x (i + 1) = posL x i + (5 + (layBody l.lay).length) := by conv => lhs; unfold posL; rw [hl]
    rw [e, List.length_append, ih, secB_len, e2]; omega
/-- The bytes are the file of these weights, up to what is behind the weights' sections. -/
def isFileOf (b : List Int) (x : LW) : Prop := ∃ tl, b = beginB ++ (secB 67 (x.C.list.map toB) ++ (wtsB x.w ++ tl))
theorem file_by {b : List Int} {x : LW} (hb : isFileOf b x) {i : Nat} {l : LL} (hi : x.Ls.1[i]? = some l) {k : Nat} (hk : k < 7) : b[posL x i + 5 + ((layBody l.lay).length - 7) + k]? = some (toB (l.by_.getD k 0)) := by
  obtain ⟨tl, rfl⟩ := hb
  have hsplit : x.Ls.1 = x.Ls.1.take i ++ l :: x.Ls.1.drop (i + 1) := by
    obtain ⟨hlt, rfl⟩ := List.getElem?_eq_some_iff.1 hi
    rw [← List.drop_eq_getElem_cons hlt, List.take_append_drop]
  have e : beginB ++ (secB 67 (x.C.list.map toB) ++ (wtsB x.w ++ tl)) = preL x i ++ (76 :: (numB (layBody l.lay).length 4 ++ (layBody l.lay ++ ((x.Ls.1.drop (i + 1)).flatMap (fun l => secB 76 (layBody l.lay)) ++ (secB 70 (x.F.1.map toB) ++ (secB 72 (x.H.d.1.map toB) ++ x.M.1.flatMap (fun m => secB 77 (m.d.1.map toB)))) ++ tl)))) := by
    have e2 : x.w.Layers.flatMap (fun l => secB 76 (layBody l)) = (x.Ls.1.take i).flatMap (fun l => secB 76 (layBody l.lay)) ++ (secB 76 (layBody l.lay) ++ (x.Ls.1.drop (i + 1)).flatMap (fun l => secB 76 (layBody l.lay))) := by
      show (x.Ls.1.map LL.lay).flatMap _ = _
      rw [List.flatMap_map]
      conv => lhs; rw [hsplit]
      rw [List.flatMap_append, List.flatMap_cons]
    unfold wtsB
    rw [e2]
    simp only [preL, secB, LW.w, LM.mat, Mat.bytes, List.flatMap_map, List.append_assoc, List.cons_append]
  have hil : i ≤ x.Ls.1.length := Nat.le_of_lt (List.getElem?_eq_some_iff.1 hi).1
  have hbl := layBody_sum l
  rw [e, List.getElem?_append_right (by rw [preL_len x i hil]; omega), preL_len x i hil]
  rw [show posL x i + 5 + ((layBody l.lay).length - 7) + k - posL x i = (4 + ((layBody l.lay).length - 7 + k)) + 1 by omega, List.getElem?_cons_succ]
  rw [List.getElem?_append_right (by rw [numB_len]; omega), numB_len, Nat.add_sub_cancel_left]
  rw [List.getElem?_append_left (by omega)]
  have e3 : layBody l.lay = (l.n1.1.map toB ++ l.n2.1.map toB ++ (mlist l).flatMap lvB) ++ l.by_.map toB := by simp [layBody, mlist, lvB, Mat.bytes, LL.lay, LM.mat]
  rw [e3, tail7 _ _ (by simp [LL.by_]), List.getElem?_map, List.getElem?_eq_getElem (show k < l.by_.length from hk), List.getD_eq_getElem?_getD, List.getElem?_eq_getElem (show k < l.by_.length from hk)]
  rfl
theorem posL_bnd {x : LW} (hok : okW x.w) : ∀ i, i ≤ x.Ls.1.length → posL x i ≤ 10000 + 40000 * i
  | 0, _ => by
    have sz := okW_sz hok
    have se : x.E.d.1.length ≤ 2048 := sz.e
    have st : x.T.1.length ≤ 16 := sz.t
    unfold posL; omega
  | i + 1, h => by
    have ih := posL_bnd hok i (by omega)
    obtain ⟨l, hl⟩ : ∃ l, x.Ls.1[i]? = some l := ⟨_, List.getElem?_eq_getElem (by omega)⟩
    have := (okW_sz hok).lb l.lay (List.mem_map.2 ⟨l, List.mem_of_getElem? hl, rfl⟩)
    unfold posL; rw [hl]; simp only; omega
def byL (l : LL) (i : Nat) : List Value := [zf i 0 l.b0, zf i 1 l.b1, zf i 2 l.b2, zf i 3 l.b3, zf i 4 l.b4, zf i 5 l.b5, zf i 6 l.b6]
set_option maxHeartbeats 16000000 in
set_option maxRecDepth 10000 in
theorem same_fn (b : List Int) (a : Option Addr) (c : Nat) (x : LW) (hok : okW x.w) (hf : isFileOf b x) : FC Tryd.prog 56 [.slice a b.length c, .agg ⟨x.cells⟩] [] (fun h => sidesK h ∧ byAt h b a c ∧ lwAt h x)
    (fun v L => v = .bool true ∧ L = []) := by
  refine FC.nil ?_
  refine FC.intro Tryd.func56 rfl (by kernel_rfl) 88 [.tmp 4] rfl rfl rfl ?_
  rintro w0 ⟨hS, hB, hA⟩
  have hcm : x.C.may := hok.c
  have sz := okW_sz hok
  have se : x.E.d.1.length ≤ 2048 := sz.e
  have st : x.T.1.length ≤ 16 := sz.t
  have sl : x.Ls.1.length ≤ 4 := by have := sz.l; change (x.Ls.1.map LL.lay).length ≤ 4 at this; rwa [List.length_map] at this
  have hL := hA.l.locRaw
  have hLa := hL.at_
  have hBa := hB.at_
  have hsm := hB.bytes
  have e0 : IntKind.i64.wrap (IntKind.i64.wrap (IntKind.i64.wrap (24 + (x.E.d.1.length : Int)) + 5) + IntKind.i64.wrap (4 * (x.T.1.length : Int))) = ((posL x 0 : Nat) : Int) := by
    rw [show IntKind.i64.wrap (24 + (x.E.d.1.length : Int)) = 24 + (x.E.d.1.length : Int) from wrap64_of (by omega) (by omega), show IntKind.i64.wrap (24 + (x.E.d.1.length : Int) + 5) = 24 + (x.E.d.1.length : Int) + 5 from wrap64_of (by omega) (by omega), show IntKind.i64.wrap (4 * (x.T.1.length : Int)) = 4 * (x.T.1.length : Int) from wrap64_of (by omega) (by omega), wrap64_of (by omega) (by omega)]
    unfold posL; omega
  (repeat (first | (with_reducible apply XL.op) | (with_reducible apply XC.seq) | (with_reducible apply XC.region (Γ := Γ))))
  ((with_reducible apply XOp.box); (case hg | hx' => exact rfl); intro xb)
  (repeat (first | (with_reducible apply XL.op) | ((with_reducible apply XOp.p1); (case hg | hv => exact rfl)) | ((with_reducible apply XOp.load); (case hg | ht | hk | hx => exact rfl); (case hc => exact own_cell (i := 0) rfl rfl)) | (with_reducible apply XL.nilT) | (with_reducible apply XC.seq) | (with_reducible apply XC.region (Γ := Γ)) | (with_reducible apply XC.block)))
  rw [e0]
  refine XC.loopP (fun k ρ L => ∃ i : Nat, i + k = x.Ls.1.length ∧ L = [(xb, Obj.cells ⟨x.cells⟩ 31 (0, 0))] ∧ Slots ρ [(0, .slice a b.length c), (3, .pointer (some ⟨xb, 0, none⟩)), (5, .int .i64 ((posL x i : Nat) : Int)), (25, .int .i64 x.Ls.1.length), (26, .int .i64 i)])
    x.Ls.1.length ⟨0, by simp, rfl, rfl, rfl, rfl, rfl, rfl, trivial⟩ ?_
  rintro k ρ L ⟨i, hik, rfl, hs⟩
  refine XC.slots _ hs ?_
  (repeat (first | (with_reducible apply XL.op) | ((with_reducible apply XOp.p1); (case hg | hv => exact rfl)) | (with_reducible apply XL.nilT) | (with_reducible apply XC.seq) | (with_reducible apply XC.region (Γ := Γ))))
  ((with_reducible apply XC.cond); (case hc => exact rfl); all_goals (intro hb_; try simp only [pd_true, pd_false, Bool.not_eq_true', Bool.not_eq_false', Bool.and_eq_true, Bool.and_eq_false_iff, Bool.or_eq_true, Bool.or_eq_false_iff, not_true_eq_false, not_false_eq_true, Int.not_lt, Int.not_le] at hb_))
  · obtain ⟨l, hi⟩ : ∃ l, x.Ls.1[i]? = some l := ⟨_, List.getElem?_eq_getElem (by omega)⟩
    have hl := hA.l.locAt (List.mem_of_getElem? hi)
    have hll := sz.lb l.lay (List.mem_map.2 ⟨l, List.mem_of_getElem? hi, rfl⟩)
    have hpb := posL_bnd hok i (by omega)
    have hpn : posL x (i + 1) = posL x i + (5 + (layBody l.lay).length) := by conv => lhs; unfold posL; rw [hi]
    have hby : ∀ k < 7, b[posL x i + 5 + ((layBody l.lay).length - 7) + k]? = some (toB (l.by_.getD k 0)) := fun k hk => file_by hf hi hk
    have hbr := (hok.l.2 l.lay (List.mem_map.2 ⟨l, List.mem_of_getElem? hi, rfl⟩)).by_.2
    have hsum := layBody_sum l
    have hR : rowv (oldv w0 (keys [])) (ablk x.Ls.2.1) (aoff x.Ls.2.1 + i * 30) l.cells := hL.rawAt hi
    (repeat (first | (with_reducible apply XL.op) | ((with_reducible apply XOp.p1); (case hg | hv => exact rfl)) | ((with_reducible apply XOp.load); (case hg | ht | hk | hx => exact rfl); (case hc => exact own_cell (i := 0) rfl rfl)) | ((with_reducible apply XOp.pr); (case hg => exact rfl); (case hr => ((with_reducible apply PR.idxA); (case ht | hk | he | hx | hi => exact rfl); (case hr => first | assumption | omega); (case ha => first | assumption | exact SlA.at_ (by assumption))))) | (with_reducible apply XL.nilT) | (with_reducible apply XC.seq) | (with_reducible apply XC.region (Γ := Γ)) | (with_reducible apply XQ.skip) | (with_reducible apply XQ.nt) | (with_reducible apply XC.block)))
    have hlo : aoff x.Ls.2.1 + ((i : Nat) : Int).toNat * 30 = aoff x.Ls.2.1 + i * 30 := rfl
    generalize hlp : ablk x.Ls.2.1 = lp at hR ⊢
    generalize aoff x.Ls.2.1 + i * 30 = lo at hR hlo
    generalize posL x i = p at *
    have hN0 : cellv (oldv w0 (keys [])) ⟨lp, lo + 0, none⟩ = some (slv l.n1) := hR 0 _ rfl
    have hN1 : cellv (oldv w0 (keys [])) ⟨lp, lo + 1, none⟩ = some (slv l.n2) := hR 1 _ rfl
    have q0 : cellv (oldv w0 (keys [])) ⟨lp, lo + 2 + 2, none⟩ = some (slv l.q.d) := hR 4 _ rfl
    have q1 : cellv (oldv w0 (keys [])) ⟨lp, lo + 5 + 2, none⟩ = some (slv l.k.d) := hR 7 _ rfl
    have q2 : cellv (oldv w0 (keys [])) ⟨lp, lo + 8 + 2, none⟩ = some (slv l.v.d) := hR 10 _ rfl
    have q3 : cellv (oldv w0 (keys [])) ⟨lp, lo + 11 + 2, none⟩ = some (slv l.o.d) := hR 13 _ rfl
    have q4 : cellv (oldv w0 (keys [])) ⟨lp, lo + 14 + 2, none⟩ = some (slv l.g.d) := hR 16 _ rfl
    have q5 : cellv (oldv w0 (keys [])) ⟨lp, lo + 17 + 2, none⟩ = some (slv l.u.d) := hR 19 _ rfl
    have q6 : cellv (oldv w0 (keys [])) ⟨lp, lo + 20 + 2, none⟩ = some (slv l.d.d) := hR 22 _ rfl
    have hBy : rowv (oldv w0 (keys [])) lp (lo + 23) (l.by_.map (Value.int .i64)) := rowv_sub hR 23 7
    have e1 : IntKind.i64.wrap ((p : Int) + IntKind.i64.wrap (IntKind.i64.wrap (5 + (l.n1.1.length : Int)) + (l.n2.1.length : Int))) = ((p + 5 + l.n1.1.length + l.n2.1.length : Nat) : Int) := by
      rw [show IntKind.i64.wrap (5 + (l.n1.1.length : Int)) = 5 + (l.n1.1.length : Int) from wrap64_of (by omega) (by omega), show IntKind.i64.wrap (5 + (l.n1.1.length : Int) + (l.n2.1.length : Int)) = 5 + (l.n1.1.length : Int) + (l.n2.1.length : Int) from wrap64_of (by omega) (by omega), wrap64_of (by omega) (by omega)]
      omega
    ((with_reducible apply XC.regionL (Γ := Γ) mixed (.q 0 (.q 1 (.q 2 (.q 3 (.q 4 (.q 5 (.q 6 (.q 7 (.q 8 (.q 9 (.q 10 (.q 11 (.q 12 (.q 13 (.q 14 (.done)))))))))))))))) [] ([])); (case hc => kernel_rfl); (case hs => first | exact List.nil_sublist _ | exact List.Sublist.refl _ | exact List.sublist_append_right _ _ | (refine List.Sublist.cons_cons _ (List.nil_sublist _)) | (refine List.Sublist.cons_cons _ (List.Sublist.cons_cons _ (List.nil_sublist _))) | (refine List.Sublist.cons_cons _ (List.Sublist.cons_cons _ (List.Sublist.cons_cons _ (List.nil_sublist _)))) | (refine List.Sublist.cons_cons _ (List.Sublist.cons_cons _ (List.Sublist.cons_cons _ (List.Sublist.cons_cons _ (List.nil_sublist _))))) | ((try simp only [List.append_eq, List.cons_append, List.nil_append, List.append_assoc]); (repeat (first | exact List.Sublist.refl _ | exact List.nil_sublist _ | (with_reducible apply List.Sublist.cons_cons) | (with_reducible apply List.Sublist.cons))); done)))
    (repeat (first | (with_reducible apply XL.op) | ((with_reducible apply XOp.p1); (case hg | hv => exact rfl)) | ((with_reducible apply XOp.loadO (i := 0)); (case hg | ht | hk | hx | hi | hc => exact rfl)) | (with_reducible apply XC.seq) | (with_reducible apply XC.region (Γ := Γ)) | (with_reducible apply XQ.nt) | ((with_reducible apply XP.p1); (case ho | hg | hv => exact rfl)) | (with_reducible apply XP.done) | (first | ((with_reducible apply XOp.load); (case hg | ht | hk | hx => exact rfl); (case hc => rw [hlo]; exact Known.of_old hN0 (Mono.cell _ _))) | ((with_reducible apply XP.load); (case ho | hg | ht | hk | hx => exact rfl); (case hc => rw [hlo]; exact Known.of_old hN0 (Mono.cell _ _)))) | (first | ((with_reducible apply XOp.load); (case hg | ht | hk | hx => exact rfl); (case hc => rw [hlo]; exact Known.of_old hN1 (Mono.cell _ _))) | ((with_reducible apply XP.load); (case ho | hg | ht | hk | hx => exact rfl); (case hc => rw [hlo]; exact Known.of_old hN1 (Mono.cell _ _))))))
    rw [e1]
    ((with_reducible apply XOp.call (hF := shapes_fn x.C hcm)); (case hg => exact rfl); (case hc => exact rfl); (case ha => exact rfl); (case hL => exact (List.nil_append _).symm); try (case hA => exact Known.true))
    case hA => exact Known.of_old hS sides_mono
    rintro _ _ ⟨sb, rfl, rfl⟩
    (repeat (first | (with_reducible apply XL.op) | ((with_reducible apply XOp.p1); (case hg | hv => exact rfl)) | (with_reducible apply XL.nilT) | (with_reducible apply XC.block)))
    have hms : ∀ j, sumL ((mlist l).take j) ≤ sumL (mlist l) := fun j => sumL_le _ _
    have hmt : sumL (mlist l) = l.q.d.1.length + l.k.d.1.length + l.v.d.1.length + l.o.d.1.length + l.g.d.1.length + l.u.d.1.length + l.d.d.1.length := by simp [sumL, mlist, lvB]; omega
    refine XC.loopP (fun k2 ρ L => ∃ j : Nat, j + k2 = 7 ∧ L = [(sb, Obj.cells ⟨shC x.C 7⟩ 80 (0, 0)), (xb, Obj.cells ⟨x.cells⟩ 31 (0, 0))] ∧ Slots ρ [(0, .slice a b.length c), (3, .pointer (some ⟨xb, 0, none⟩)), (7, .pointer (some ⟨lp, lo, none⟩)), (25, .int .i64 x.Ls.1.length), (26, .int .i64 i), (5, .int .i64 ((p + 5 + l.n1.1.length + l.n2.1.length + sumL ((mlist l).take j) : Nat) : Int)), (49, .slice (some ⟨sb, 0, none⟩) 7 7), (50, .int .i64 7), (51, .int .i64 j)])
      7 ⟨0, by simp, rfl, rfl, rfl, (by show Value.pointer _ = _; rw [hlo]), rfl, rfl, rfl, rfl, rfl, rfl, trivial⟩ ?_
    rintro k2 ρ L ⟨j, hjk, rfl, hs2⟩
    refine XC.slots _ hs2 ?_
    (repeat (first | (with_reducible apply XL.op) | ((with_reducible apply XOp.p1); (case hg | hv => exact rfl)) | (with_reducible apply XL.nilT) | (with_reducible apply XC.seq) | (with_reducible apply XC.region (Γ := Γ))))
    ((with_reducible apply XC.cond); (case hc => exact rfl); all_goals (intro hb_; try simp only [pd_true, pd_false, Bool.not_eq_true', Bool.not_eq_false', Bool.and_eq_true, Bool.and_eq_false_iff, Bool.or_eq_true, Bool.or_eq_false_iff, not_true_eq_false, not_false_eq_true, Int.not_lt, Int.not_le] at hb_))
    · have e2 : ∀ j y, (mlist l)[j]? = some y → IntKind.i64.wrap (((p + 5 + l.n1.1.length + l.n2.1.length + sumL ((mlist l).take j) : Nat) : Int) + (y.1.length : Int)) = ((p + 5 + l.n1.1.length + l.n2.1.length + sumL ((mlist l).take (j + 1)) : Nat) : Int) := fun j y hy => by
        have h1 := sumL_take hy
        have h2 := hms (j + 1)
        rw [h1] at h2
        rw [wrap64_of (by omega) (by omega), h1]; omega
      rcases (by omega : j = 0 ∨ j = 1 ∨ j = 2 ∨ j = 3 ∨ j = 4 ∨ j = 5 ∨ j = 6) with rfl | rfl | rfl | rfl | rfl | rfl | rfl
      all_goals (repeat (first | (with_reducible apply XL.op) | ((with_reducible apply XOp.p1); (case hg | hv => exact rfl)) | ((with_reducible apply XOp.loadO (i := 0)); (case hg | ht | hk | hx | hi | hc => exact rfl)) | (with_reducible apply XC.seq) | (with_reducible apply XC.region (Γ := Γ)) | (with_reducible apply XQ.skip) | (with_reducible apply XQ.nt) | (with_reducible apply XC.block)))
      all_goals ((with_reducible apply XOp.alloc); (case hg | ht | hx' => exact rfl); intro zb)
      all_goals (repeat (first | (with_reducible apply XL.op) | ((with_reducible apply XOp.p1); (case hg | hv => exact rfl)) | ((with_reducible apply XOp.load); (case hg | ht | hk | hx => exact rfl); (case hc => exact own_cell (i := 0) rfl rfl)) | ((with_reducible apply XOp.storeN (i := 0)); (case hg | ht | hx | hv' | hk | h1 | hi | hs | ha => exact rfl)) | (with_reducible apply XL.nilT) | (with_reducible apply XC.region (Γ := Γ)) | (with_reducible apply XL.nilQ) | (with_reducible apply XQ.nt) | (with_reducible apply XQ.nb) | (((with_reducible apply XOp.callQ (hF := shape1_fn lp lo)); (case hg => exact rfl); (case hc => exact rfl); (case ha => exact rfl); try (case hA => exact Known.true)); rintro _ rfl) | (((with_reducible apply XOp.callQ (hF := shape2_fn lp lo)); (case hg => exact rfl); (case hc => exact rfl); (case ha => exact rfl); try (case hA => exact Known.true)); rintro _ rfl) | (((with_reducible apply XOp.callQ (hF := shape3_fn lp lo)); (case hg => exact rfl); (case hc => exact rfl); (case ha => exact rfl); try (case hA => exact Known.true)); rintro _ rfl) | (((with_reducible apply XOp.callQ (hF := shape4_fn lp lo)); (case hg => exact rfl); (case hc => exact rfl); (case ha => exact rfl); try (case hA => exact Known.true)); rintro _ rfl) | (((with_reducible apply XOp.callQ (hF := shape5_fn lp lo)); (case hg => exact rfl); (case hc => exact rfl); (case ha => exact rfl); try (case hA => exact Known.true)); rintro _ rfl) | (((with_reducible apply XOp.callQ (hF := shape6_fn lp lo)); (case hg => exact rfl); (case hc => exact rfl); (case ha => exact rfl); try (case hA => exact Known.true)); rintro _ rfl) | (((with_reducible apply XOp.callQ (hF := shape7_fn lp lo)); (case hg => exact rfl); (case hc => exact rfl); (case ha => exact rfl); try (case hA => exact Known.true)); rintro _ rfl) | (first | ((with_reducible apply XOp.load); (case hg | ht | hk | hx => exact rfl); (case hc => exact Known.of_old q0 (Mono.cell _ _))) | ((with_reducible apply XP.load); (case ho | hg | ht | hk | hx => exact rfl); (case hc => exact Known.of_old q0 (Mono.cell _ _)))) | (first | ((with_reducible apply XOp.load); (case hg | ht | hk | hx => exact rfl); (case hc => exact Known.of_old q1 (Mono.cell _ _))) | ((with_reducible apply XP.load); (case ho | hg | ht | hk | hx => exact rfl); (case hc => exact Known.of_old q1 (Mono.cell _ _)))) | (first | ((with_reducible apply XOp.load); (case hg | ht | hk | hx => exact rfl); (case hc => exact Known.of_old q2 (Mono.cell _ _))) | ((with_reducible apply XP.load); (case ho | hg | ht | hk | hx => exact rfl); (case hc => exact Known.of_old q2 (Mono.cell _ _)))) | (first | ((with_reducible apply XOp.load); (case hg | ht | hk | hx => exact rfl); (case hc => exact Known.of_old q3 (Mono.cell _ _))) | ((with_reducible apply XP.load); (case ho | hg | ht | hk | hx => exact rfl); (case hc => exact Known.of_old q3 (Mono.cell _ _)))) | (first | ((with_reducible apply XOp.load); (case hg | ht | hk | hx => exact rfl); (case hc => exact Known.of_old q4 (Mono.cell _ _))) | ((with_reducible apply XP.load); (case ho | hg | ht | hk | hx => exact rfl); (case hc => exact Known.of_old q4 (Mono.cell _ _)))) | (first | ((with_reducible apply XOp.load); (case hg | ht | hk | hx => exact rfl); (case hc => exact Known.of_old q5 (Mono.cell _ _))) | ((with_reducible apply XP.load); (case ho | hg | ht | hk | hx => exact rfl); (case hc => exact Known.of_old q5 (Mono.cell _ _)))) | (first | ((with_reducible apply XOp.load); (case hg | ht | hk | hx => exact rfl); (case hc => exact Known.of_old q6 (Mono.cell _ _))) | ((with_reducible apply XP.load); (case ho | hg | ht | hk | hx => exact rfl); (case hc => exact Known.of_old q6 (Mono.cell _ _))))))
      all_goals first | exact ⟨k2 - 1, by omega, _, .of (List.sublist_cons_self _ _), 1, by omega, rfl, rfl, rfl, rfl, rfl, rfl, congrArg (Value.int .i64) (e2 0 l.q.d rfl), rfl, rfl, intS2 (i := 0) (m := 7) (by omega) (by omega), trivial⟩ | exact ⟨k2 - 1, by omega, _, .of (List.sublist_cons_self _ _), 2, by omega, rfl, rfl, rfl, rfl, rfl, rfl, congrArg (Value.int .i64) (e2 1 l.k.d rfl), rfl, rfl, intS2 (i := 1) (m := 7) (by omega) (by omega), trivial⟩ | exact ⟨k2 - 1, by omega, _, .of (List.sublist_cons_self _ _), 3, by omega, rfl, rfl, rfl, rfl, rfl, rfl, congrArg (Value.int .i64) (e2 2 l.v.d rfl), rfl, rfl, intS2 (i := 2) (m := 7) (by omega) (by omega), trivial⟩ | exact ⟨k2 - 1, by omega, _, .of (List.sublist_cons_self _ _), 4, by omega, rfl, rfl, rfl, rfl, rfl, rfl, congrArg (Value.int .i64) (e2 3 l.o.d rfl), rfl, rfl, intS2 (i := 3) (m := 7) (by omega) (by omega), trivial⟩ | exact ⟨k2 - 1, by omega, _, .of (List.sublist_cons_self _ _), 5, by omega, rfl, rfl, rfl, rfl, rfl, rfl, congrArg (Value.int .i64) (e2 4 l.g.d rfl), rfl, rfl, intS2 (i := 4) (m := 7) (by omega) (by omega), trivial⟩ | exact ⟨k2 - 1, by omega, _, .of (List.sublist_cons_self _ _), 6, by omega, rfl, rfl, rfl, rfl, rfl, rfl, congrArg (Value.int .i64) (e2 5 l.u.d rfl), rfl, rfl, intS2 (i := 5) (m := 7) (by omega) (by omega), trivial⟩ | exact ⟨k2 - 1, by omega, _, .of (List.sublist_cons_self _ _), 7, by omega, rfl, rfl, rfl, rfl, rfl, rfl, congrArg (Value.int .i64) (e2 6 l.d.d rfl), rfl, rfl, intS2 (i := 6) (m := 7) (by omega) (by omega), trivial⟩
    obtain rfl : j = 7 := by omega
    clear hs2 hjk
    have hm7 : (mlist l).take 7 = mlist l := rfl
    rw [hm7]
    refine XC.subl (L' := [(xb, Obj.cells ⟨x.cells⟩ 31 (0, 0))]) (List.sublist_cons_self _ _) ?_
    (repeat (first | (with_reducible apply XL.op) | (with_reducible apply XC.seq) | (with_reducible apply XC.region (Γ := Γ)) | (with_reducible apply XQ.exit) | (with_reducible apply XQ.nt) | (with_reducible apply XQ.et) | ((with_reducible apply XQ.eb); (case hb => exact rfl))))
    ((with_reducible apply XOp.alloc); (case hg | ht | hx' => exact rfl); intro yb)
    (repeat (first | (with_reducible apply XL.op) | ((with_reducible apply XOp.p1); (case hg | hv => exact rfl)) | (with_reducible apply XL.nilT) | (with_reducible apply XC.seq) | (with_reducible apply XC.region (Γ := Γ)) | (with_reducible apply XC.block)))
    have hq : p + 5 + l.n1.1.length + l.n2.1.length + sumL (mlist l) = p + 5 + ((layBody l.lay).length - 7) := by omega
    rw [hq]
    refine XC.loopP (fun k2 ρ L => ∃ kk : Nat, kk + k2 = 7 ∧ L = [(yb, Obj.cells ⟨byL l kk⟩ 65 (0, 0)), (xb, Obj.cells ⟨x.cells⟩ 31 (0, 0))] ∧ Slots ρ [(0, .slice a b.length c), (3, .pointer (some ⟨xb, 0, none⟩)), (7, .pointer (some ⟨lp, lo, none⟩)), (25, .int .i64 x.Ls.1.length), (26, .int .i64 i), (5, .int .i64 ((p + 5 + ((layBody l.lay).length - 7) : Nat) : Int)), (10, .pointer (some ⟨yb, 0, none⟩)), (66, .int .i64 kk)])
      7 ⟨0, by simp, rfl, rfl, rfl, rfl, rfl, rfl, rfl, rfl, rfl, trivial⟩ ?_
    rintro k2 ρ L ⟨kk, hkk, rfl, hs3⟩
    refine XC.slots _ hs3 ?_
    (repeat (first | (with_reducible apply XL.op) | ((with_reducible apply XOp.p1); (case hg | hv => exact rfl)) | (with_reducible apply XL.nilT) | (with_reducible apply XC.seq) | (with_reducible apply XC.region (Γ := Γ))))
    ((with_reducible apply XC.cond); (case hc => exact rfl); all_goals (intro hb_; try simp only [pd_true, pd_false, Bool.not_eq_true', Bool.not_eq_false', Bool.and_eq_true, Bool.and_eq_false_iff, Bool.or_eq_true, Bool.or_eq_false_iff, not_true_eq_false, not_false_eq_true, Int.not_lt, Int.not_le] at hb_))
    · have hk := hby kk (by omega)
      have hlt := (List.getElem?_eq_some_iff.1 hk).1
      have e3 : IntKind.i64.wrap (((p + 5 + ((layBody l.lay).length - 7) : Nat) : Int) + (kk : Int)) = ((p + 5 + ((layBody l.lay).length - 7) + kk : Nat) : Int) := by rw [wrap64_of (by omega) (by omega)]; omega
      have hcell := (hB.int (p + 5 + ((layBody l.lay).length - 7) + kk) hlt).1
      rw [hk] at hcell
      have hv : IntKind.i64.wrap (toB (l.by_.getD kk 0)) = l.by_.getD kk 0 := by
        have := hbr _ (by_mem l (j := kk) (by omega))
        have e : toB (l.by_.getD kk 0) = l.by_.getD kk 0 := by unfold toB; omega
        rw [e]; exact wrap64_of (by omega) (by omega)
      (repeat (first | (with_reducible apply XL.op) | ((with_reducible apply XOp.p1); (case hg | hv => exact rfl)) | ((with_reducible apply XOp.pr); (case hg => exact rfl); (case hr => ((with_reducible apply PR.idxA); (case ht | hk | he | hx | hi => exact rfl); (case hr => first | assumption | omega); (case ha => first | assumption | exact SlA.at_ (by assumption))))) | (with_reducible apply XL.nilT) | (with_reducible apply XC.seq) | (with_reducible apply XC.region (Γ := Γ)) | (with_reducible apply XQ.skip) | (with_reducible apply XQ.nt) | (with_reducible apply XC.block)))
      rw [e3]
      have hlen2 : (0 : Int) ≤ ((p + 5 + ((layBody l.lay).length - 7) + kk : Nat) : Int) ∧ ((p + 5 + ((layBody l.lay).length - 7) + kk : Nat) : Int) < ((b.length : Nat) : Int) := by omega
      rcases (by omega : kk = 0 ∨ kk = 1 ∨ kk = 2 ∨ kk = 3 ∨ kk = 4 ∨ kk = 5 ∨ kk = 6) with rfl | rfl | rfl | rfl | rfl | rfl | rfl
      all_goals (repeat (first | (with_reducible apply XL.op) | ((with_reducible apply XOp.p1); (case hg | hv => exact rfl)) | ((with_reducible apply XOp.store (i := 0)); (case hg | ht | hk | hx | hv | h1 | hi | hs | ha => exact rfl)) | (with_reducible apply XL.nilT) | (with_reducible apply XC.region (Γ := Γ)) | (with_reducible apply XL.nilQ) | (with_reducible apply XQ.nt) | (with_reducible apply XQ.nb) | (first | ((with_reducible apply XOp.load); (case hg | ht | hk | hx => exact rfl); (case hc => exact Known.of_old hcell (Mono.cell _ _))) | ((with_reducible apply XP.load); (case ho | hg | ht | hk | hx => exact rfl); (case hc => exact Known.of_old hcell (Mono.cell _ _))))))
      all_goals simp only [Option.getD_some, hv]
      all_goals first | exact ⟨k2 - 1, by omega, _, .of (List.Sublist.refl _), 1, by omega, rfl, rfl, rfl, rfl, rfl, rfl, rfl, rfl, intS2 (i := 0) (m := 7) (by omega) (by omega), trivial⟩ | exact ⟨k2 - 1, by omega, _, .of (List.Sublist.refl _), 2, by omega, rfl, rfl, rfl, rfl, rfl, rfl, rfl, rfl, intS2 (i := 1) (m := 7) (by omega) (by omega), trivial⟩ | exact ⟨k2 - 1, by omega, _, .of (List.Sublist.refl _), 3, by omega, rfl, rfl, rfl, rfl, rfl, rfl, rfl, rfl, intS2 (i := 2) (m := 7) (by omega) (by omega), trivial⟩ | exact ⟨k2 - 1, by omega, _, .of (List.Sublist.refl _), 4, by omega, rfl, rfl, rfl, rfl, rfl, rfl, rfl, rfl, intS2 (i := 3) (m := 7) (by omega) (by omega), trivial⟩ | exact ⟨k2 - 1, by omega, _, .of (List.Sublist.refl _), 5, by omega, rfl, rfl, rfl, rfl, rfl, rfl, rfl, rfl, intS2 (i := 4) (m := 7) (by omega) (by omega), trivial⟩ | exact ⟨k2 - 1, by omega, _, .of (List.Sublist.refl _), 6, by omega, rfl, rfl, rfl, rfl, rfl, rfl, rfl, rfl, intS2 (i := 5) (m := 7) (by omega) (by omega), trivial⟩ | exact ⟨k2 - 1, by omega, _, .of (List.Sublist.refl _), 7, by omega, rfl, rfl, rfl, rfl, rfl, rfl, rfl, rfl, intS2 (i := 6) (m := 7) (by omega) (by omega), trivial⟩
    obtain rfl : kk = 7 := by omega
    clear hs3 hkk
    have e4 : IntKind.i64.wrap (((p + 5 + ((layBody l.lay).length - 7) : Nat) : Int) + 7) = ((posL x (i + 1) : Nat) : Int) := by
      rw [wrap64_of (by omega) (by omega), hpn]; omega
    (repeat (first | (with_reducible apply XC.seq) | (with_reducible apply XQ.exit) | (with_reducible apply XQ.nt) | (with_reducible apply XQ.et) | ((with_reducible apply XQ.eb); (case hb => exact rfl))))
    ((with_reducible apply XC.regionD (Γ := Γ) mixed (.q 0 (.q 1 (.q 2 (.q 3 (.q 4 (.q 5 (.done))))))) [] []); (case hc => kernel_rfl))
    (repeat (first | (with_reducible apply XL.op) | ((with_reducible apply XOp.p1); (case hg | hv => exact rfl)) | (with_reducible apply XL.nilT) | (with_reducible apply XC.region (Γ := Γ)) | (with_reducible apply XL.nilQ) | (with_reducible apply XQ.skip) | (with_reducible apply XQ.nt) | (with_reducible apply XQ.nb) | ((with_reducible apply XP.p1); (case ho | hg | hv => exact rfl)) | ((with_reducible apply XP.loadO (j := 0)); (case ho | hg | ht | hk | hx | hi | hc => exact rfl)) | (with_reducible apply XP.done) | (first | ((with_reducible apply XOp.loadN); (case hg | ht | hk | hx => exact rfl); (case hc => exact Known.of_old hBy (Mono.row _ _ _)); (case hl => exact rfl)) | ((with_reducible apply XP.loadN); (case ho | hg | ht | hk | hx => exact rfl); (case hc => exact Known.of_old hBy (Mono.row _ _ _)); (case hl => exact rfl))) | ((with_reducible apply XP.pr); (case ho => exact rfl); (case hg => exact rfl); (case hr => exact PR.neqArr (xs := l.by_) (ys := l.by_) (by kernel_rfl) rfl rfl rfl rfl rfl ⟨rfl, rfl⟩ rfl rfl)) | (first | ((with_reducible apply XOp.split); (case hg | hj | hd | hb => exact rfl); (fail_if_success (case hf => exact fun h => Bool.noConfusion h)); (fail_if_success (case ht => exact fun h => Bool.noConfusion h)); (first | (case ht => intro hb_; try simp only [pd_true, pd_false, Bool.not_eq_true', Bool.not_eq_false', Bool.and_eq_true, Bool.and_eq_false_iff, Bool.or_eq_true, Bool.or_eq_false_iff, not_true_eq_false, not_false_eq_true, Int.not_lt, Int.not_le] at hb_; first | done | (exfalso; first | omega | contradiction)) | (case hf => intro hb_; try simp only [pd_true, pd_false, Bool.not_eq_true', Bool.not_eq_false', Bool.and_eq_true, Bool.and_eq_false_iff, Bool.or_eq_true, Bool.or_eq_false_iff, not_true_eq_false, not_false_eq_true, Int.not_lt, Int.not_le] at hb_; first | done | (exfalso; first | omega | contradiction))); intro hb_; try simp only [pd_true, pd_false, Bool.not_eq_true', Bool.not_eq_false', Bool.and_eq_true, Bool.and_eq_false_iff, Bool.or_eq_true, Bool.or_eq_false_iff, not_true_eq_false, not_false_eq_true, Int.not_lt, Int.not_le] at hb_) | ((with_reducible apply XP.split); (case ho | hg | hj | hd | hb => exact rfl); (fail_if_success (case hf => exact fun h => Bool.noConfusion h)); (fail_if_success (case ht => exact fun h => Bool.noConfusion h)); (first | (case ht => intro hb_; try simp only [pd_true, pd_false, Bool.not_eq_true', Bool.not_eq_false', Bool.and_eq_true, Bool.and_eq_false_iff, Bool.or_eq_true, Bool.or_eq_false_iff, not_true_eq_false, not_false_eq_true, Int.not_lt, Int.not_le] at hb_; first | done | (exfalso; first | omega | contradiction)) | (case hf => intro hb_; try simp only [pd_true, pd_false, Bool.not_eq_true', Bool.not_eq_false', Bool.and_eq_true, Bool.and_eq_false_iff, Bool.or_eq_true, Bool.or_eq_false_iff, not_true_eq_false, not_false_eq_true, Int.not_lt, Int.not_le] at hb_; first | done | (exfalso; first | omega | contradiction))); intro hb_; try simp only [pd_true, pd_false, Bool.not_eq_true', Bool.not_eq_false', Bool.and_eq_true, Bool.and_eq_false_iff, Bool.or_eq_true, Bool.or_eq_false_iff, not_true_eq_false, not_false_eq_true, Int.not_lt, Int.not_le] at hb_) | ((with_reducible apply XC.cond); (case hc => exact rfl); (first | (case ht => intro hb_; try simp only [pd_true, pd_false, Bool.not_eq_true', Bool.not_eq_false', Bool.and_eq_true, Bool.and_eq_false_iff, Bool.or_eq_true, Bool.or_eq_false_iff, not_true_eq_false, not_false_eq_true, Int.not_lt, Int.not_le] at hb_; first | done | (exfalso; first | omega | contradiction)) | (case hf => intro hb_; try simp only [pd_true, pd_false, Bool.not_eq_true', Bool.not_eq_false', Bool.and_eq_true, Bool.and_eq_false_iff, Bool.or_eq_true, Bool.or_eq_false_iff, not_true_eq_false, not_false_eq_true, Int.not_lt, Int.not_le] at hb_; first | done | (exfalso; first | omega | contradiction))); intro hb_; try simp only [pd_true, pd_false, Bool.not_eq_true', Bool.not_eq_false', Bool.and_eq_true, Bool.and_eq_false_iff, Bool.or_eq_true, Bool.or_eq_false_iff, not_true_eq_false, not_false_eq_true, Int.not_lt, Int.not_le] at hb_))))
    exact ⟨k - 1, by omega, _, .of (List.sublist_cons_self _ _), i + 1, by omega, rfl, rfl, rfl, congrArg (Value.int .i64) e4, rfl, intS2 (m := x.Ls.1.length) (by omega) (by omega), trivial⟩
  (repeat (first | (with_reducible apply XL.op) | ((with_reducible apply XOp.p1); (case hg | hv => exact rfl)) | (with_reducible apply XL.nilT) | (with_reducible apply XC.seq) | (with_reducible apply XC.region (Γ := Γ)) | (with_reducible apply XQ.ret) | (with_reducible apply XQ.exit) | (with_reducible apply XQ.nt) | (with_reducible apply XQ.et) | ((with_reducible apply XQ.eb); (case hb => exact rfl))))
  ((with_reducible apply XQ.retE); (case hr => exact .t rfl .nil))
  rfl
end Go.Proofs.YtppggaiahkecoaaDoorX
/- The program's Decode. -/
namespace Go.Proofs.YtppggaiahkecoaaDoorX
open Go Go.SX

def zeroLW : LW := ⟨⟨0, 0, 0, 0, 0, 0, 0, 0⟩, zmat, ([], none, 0), ([], none, 0), zlv, zmat, ([], none, 0)⟩
theorem slA_nil {α : Type} {d : Kd α} {by_ : Nat} {h : HV} : SlA d by_ h [] none 0 := ⟨by simp, by simp, fun _ => rfl, fun h => absurd h (by simp), fun i x h => by simp at h⟩
theorem zeroLW_at (h : HV) : lwAt h zeroLW := ⟨slA_nil, slA_nil, slA_nil, slA_nil, slA_nil, slA_nil⟩
noncomputable def errD (b : List Int) : Int := match decS digS b with | some _ => 0 | none => 42
noncomputable def decW (b : List Int) : Wts := match decS digS b with | some w => w | none => zeroLW.w
/-- The same, each list in memory of its own. -/
def DecO (b : List Int) (v : Value) (L : HL) : Prop := ∃ x : LW, v = .tuple #[.agg ⟨x.cells⟩, .int .i64 (errD b)] ∧ x.w = decW b ∧ OwnW x L
theorem zlv_own : OwnV zlv [] := ⟨OwnS.nil _ _, by decide, fun y hy => by cases hy⟩
theorem zeroLW_own : OwnW zeroLW [] := ⟨by decide, by decide, by decide, [], [], [], [], OwnAll.cons (F := []) (G := []) zlv_own (OwnAll.cons (F := []) (G := []) zlv_own (OwnAll.cons (F := []) (G := []) zlv_own rfl)), OwnS.nil _ _, OwnS.nil _ _, OwnS.nil _ _, List.Perm.refl _⟩
def DecR (b : List Int) (v : Value) (L : HL) : Prop := ∃ x : LW, v = .tuple #[.agg ⟨x.cells⟩, .int .i64 (errD b)] ∧ x.w = decW b ∧ Held L (fun h => lwAt h x)
theorem decO_none {b : List Int} (h : decS digS b = none) : DecO b (.tuple #[.agg ⟨zeroW⟩, .int .i64 42]) [] :=
  ⟨zeroLW, by unfold errD; rw [h]; rfl, by unfold decW; rw [h], zeroLW_own⟩
theorem decO_some {b : List Int} {x : LW} {L : HL} (h : decS digS b = some x.w) (hx : OwnW x L) : DecO b (.tuple #[.agg ⟨x.cells⟩, .int .i64 0]) L :=
  ⟨x, by unfold errD; rw [h], by unfold decW; rw [h], hx⟩
theorem decR_none {b : List Int} (h : decS digS b = none) : DecR b (.tuple #[.agg ⟨zeroW⟩, .int .i64 42]) [] :=
  ⟨zeroLW, by unfold errD; rw [h]; rfl, by unfold decW; rw [h], fun h _ => zeroLW_at h⟩
theorem decR_some {b : List Int} {x : LW} {L : HL} (h : decS digS b = some x.w) (hx : Held L (fun h => lwAt h x)) : DecR b (.tuple #[.agg ⟨x.cells⟩, .int .i64 0]) L :=
  ⟨x, by unfold errD; rw [h], by unfold decW; rw [h], hx⟩
/-! ### A step of the reader leaves no more than there was -/
def Shr {α : Type} (f : RS → α × RS) : Prop := ∀ r, (f r).2.rest.length ≤ r.rest.length
theorem shr_take (n : Nat) : Shr (fun r => takeS r n) := fun r => by
  show (takeS r n).2.rest.length ≤ _
  unfold takeS; split
  · exact Nat.le_refl _
  · show (r.rest.drop n).length ≤ _; rw [List.length_drop]; omega
theorem shr_open (r : RS) (letter n : Int) : (openS r letter n).rest.length ≤ r.rest.length := by
  unfold openS; split <;> exact shr_take 5 r
theorem shr_narrow (n : Nat) : Shr (fun r => narrowS r n) := fun r => shr_take n r
theorem shr_mat (rows cols : Int) : Shr (fun r => matS r rows cols) := fun r => shr_take _ r
theorem shr_iter {α : Type} {f : RS → α × RS} (h : Shr f) : ∀ n, Shr (iterS f n)
  | 0 => fun _ => Nat.le_refl _
  | n + 1 => fun r => Nat.le_trans (shr_iter h n (f r).2) (h r)
theorem shr_sec {α : Type} {f : RS → α × RS} (h : Shr f) (letter n : Int) : Shr (secS f letter n) := fun r => Nat.le_trans (h _) (shr_open r letter n)
theorem shr_turn : Shr turnS := fun r => shr_take 4 r
theorem shr_lay (c : Cfg) : Shr (layF c) := fun r =>
  Nat.le_trans (shr_take 7 _) (Nat.le_trans (shr_mat _ _ _) (Nat.le_trans (shr_mat _ _ _) (Nat.le_trans (shr_mat _ _ _) (Nat.le_trans (shr_mat _ _ _) (Nat.le_trans (shr_mat _ _ _) (Nat.le_trans (shr_mat _ _ _) (Nat.le_trans (shr_mat _ _ _) (Nat.le_trans (shr_narrow _ _) (shr_narrow _ r)))))))))
theorem shr_weights (c : Cfg) : Shr (weightsS c) := fun r =>
  Nat.le_trans (shr_iter (shr_sec (shr_mat _ _) _ _) _ _) (Nat.le_trans (shr_sec (shr_mat _ _) _ _ _) (Nat.le_trans (shr_sec (shr_narrow _) _ _ _) (Nat.le_trans (shr_iter (shr_sec (shr_lay _) _ _) _ _) (Nat.le_trans (shr_sec (shr_iter shr_turn _) _ _ _) (shr_sec (shr_mat _ _) _ _ r)))))
theorem strOf_begin {xs : List Int} (hl : xs.length = 6) (hb : isB xs) : strOf xs = ⟨#[97, 117, 103, 117, 114, 1]⟩ ↔ xs = beginB := by
  obtain ⟨x0, x1, x2, x3, x4, x5, rfl⟩ := len6 hl
  have b0 := hb x0 (by simp); have b1 := hb x1 (by simp); have b2 := hb x2 (by simp); have b3 := hb x3 (by simp); have b4 := hb x4 (by simp); have b5 := hb x5 (by simp)
  have key : ∀ (x : Int) (n : Nat), 0 ≤ x ∧ x ≤ 255 → n < 256 → (UInt8.ofNat x.toNat = UInt8.ofNat n ↔ x = n) := fun x n hx hn => by
    constructor
    · intro h
      have h2 := congrArg UInt8.toNat h
      simp only [UInt8.toNat_ofNat'] at h2
      omega
    · rintro rfl; rw [Int.toNat_natCast]
  constructor
  · intro h
    have h2 := congrArg (fun b : ByteArray => b.data.toList) h
    simp only [strOf, List.map_cons, List.map_nil, List.cons.injEq, and_true] at h2
    obtain ⟨c0, c1, c2, c3, c4, c5⟩ := h2
    rw [beginB, (key x0 97 b0 (by omega)).1 c0, (key x1 117 b1 (by omega)).1 c1, (key x2 103 b2 (by omega)).1 c2, (key x3 117 b3 (by omega)).1 c3, (key x4 114 b4 (by omega)).1 c4, (key x5 1 b5 (by omega)).1 c5]
    rfl
  · intro h
    simp only [beginB, List.cons.injEq, and_true] at h
    obtain ⟨rfl, rfl, rfl, rfl, rfl, rfl⟩ := h
    rfl
theorem decS_1 {D : List Int → Int} {b : List Int} {t : List Int × RS} (ht : takeS ⟨b, false⟩ 6 = t) (h : t.1 ≠ beginB) : decS D b = none := by
  subst ht; unfold decS; simp only []; rw [if_pos h]
theorem decS_2 {D : List Int → Int} {b : List Int} {t m : List Int × RS} (ht : takeS ⟨b, false⟩ 6 = t) (h : t.1 = beginB) (hm : takeS (openS t.2 67 8) 8 = m) (h2 : m.2.bad = true ∨ ¬ (cfgOf m.1).may) : decS D b = none := by
  subst ht; subst hm; unfold decS; simp only []; rw [if_neg (fun hn => hn h), if_pos h2]
/-- What makes the end bad. -/
def badEnd (D : List Int → Int) (b : List Int) (w : Wts × RS) (z : List Int × RS) : Prop := valB z.1 ≠ D (b.take (b.length - w.2.rest.length)) ∨ z.2.bad = true ∨ z.2.rest ≠ [] ∨ ¬ okW w.1
theorem decS_3 {D : List Int → Int} {b : List Int} {t m : List Int × RS} {w : Wts × RS} {z : List Int × RS} (ht : takeS ⟨b, false⟩ 6 = t) (h : t.1 = beginB) (hm : takeS (openS t.2 67 8) 8 = m) (h2 : m.2.bad = false) (h3 : (cfgOf m.1).may) (hw : weightsS (cfgOf m.1) m.2 = w) (hz : takeS (openS w.2 90 8) 8 = z) :
    (badEnd D b w z → decS D b = none) ∧ (¬ badEnd D b w z → decS D b = some w.1) := by
  subst ht; subst hm; subst hw; subst hz
  unfold decS; simp only []; rw [if_neg (fun hn => hn h), if_neg (by rintro (hh | hh); rw [h2] at hh; cases hh; exact hh h3)]
  exact ⟨fun hb => if_pos hb, fun hb => if_neg hb⟩
theorem digestN_fn (l : List Int) (a : Option Addr) (cap : Nat) {n : Nat} (hn : l.length = n) : FC Tryd.prog 35 [.slice a n cap] [] (fun h => SlA (Kd.int .u8) 1 h l a cap)
    (fun v L => v = .int .u64 (digS l) ∧ L = []) := hn ▸ digest_fn l a cap
theorem valueN_fn (l : List Int) (a : Option Addr) (cap : Nat) {n : Nat} (hn : l.length = n) (h8 : n ≤ 8) : FC Tryd.prog 55 [.slice a n cap] [] (fun h => byAt h l a cap)
    (fun v L => v = .int .u64 (valB l) ∧ L = []) := by subst hn; exact value_fn l a cap h8
set_option maxHeartbeats 16000000 in
set_option maxRecDepth 10000 in
theorem decode_own (b : List Int) (a : Option Addr) (c : Nat) : FC Tryd.prog 22 [.slice a b.length c] [] (fun h => sidesK h ∧ byAt h b a c)
    (fun v L => DecO b v L) := by
  refine FC.sub2 ?_
  refine FC.intro Tryd.func22 rfl (by kernel_rfl) 112 [.cell 2 31, .tmp 3] rfl rfl rfl ?_
  rintro w0 ⟨hS, hB⟩
  have hsm := hB.bytes
  have hbB : isB b := fun y hy => inK_u8.1 (hB.okAll y hy)
  (repeat (first | (with_reducible apply XL.op) | (with_reducible apply XC.seq) | (with_reducible apply XC.region (Γ := Γ))))
  ((with_reducible apply XOp.alloc); (case hg | ht | hx' => exact rfl); intro ws)
  (repeat (first | (with_reducible apply XL.op) | ((with_reducible apply XOp.p1); (case hg | hv => exact rfl)) | ((with_reducible apply XOp.pr); (case hg => exact rfl); (case hr => ((with_reducible apply PR.build); (case ht | hk | hok | hz | hf => exact rfl)))) | (with_reducible apply XL.nilT) | (with_reducible apply XC.seq) | (with_reducible apply XC.region (Γ := Γ))))
  ((with_reducible apply XOp.box); (case hg | hx' => exact rfl); intro rb)
  (repeat (first | (with_reducible apply XL.op) | ((with_reducible apply XOp.p1); (case hg | hv => exact rfl)) | (with_reducible apply XL.nilT) | (with_reducible apply XC.seq) | (with_reducible apply XC.region (Γ := Γ))))
  (refine (show XOp _ _ _ _ _ _ _ _ (RdB rb a c ⟨b, false⟩ :: [(ws, Obj.cells ⟨zeroW⟩ 31 (0, 0))]) from XOp.perm (L' :=  [(ws, Obj.cells ⟨zeroW⟩ 31 (0, 0))] ++ (RdB rb a c ⟨b, false⟩ :: [])) rfl ?_ (by (first | (with_reducible exact List.Perm.refl _) | refine perm_of_cnt fun p_ => ?_; simp only [List.countP_append, List.countP_cons, List.countP_nil]; omega))))
  ((with_reducible apply XOp.callM (R := [_]) (hF := take_fn rb a c ⟨b, false⟩ 6 (by omega))); (case hg => exact rfl); (case hc => exact rfl); (case ha => exact rfl); (case hL => exact rfl); try (case hA => exact Known.true))
  case hA => exact Known.of_old hB (Mono.sl _ _ _ _ _)
  rintro _ _ ⟨a1, c1, ao1, F1, rfl, rfl, hout1, hw1, hat1⟩
  have hl1 := takeS_len ⟨b, false⟩ 6
  have hB1 := takeS_isB (r := ⟨b, false⟩) hbB 6
  have hR1 := takeS_rest (r := ⟨b, false⟩) hbB 6
  have hs1 := shr_take 6 ⟨b, false⟩
  have hd1 : (takeS ⟨b, false⟩ 6).1 ≠ beginB → decS digS b = none := fun h => decS_1 rfl h
  have hd2 : ∀ m, takeS (openS (takeS ⟨b, false⟩ 6).2 67 8) 8 = m → (takeS ⟨b, false⟩ 6).1 = beginB → m.2.bad = true ∨ ¬ (cfgOf m.1).may → decS digS b = none := fun m hm h h2 => decS_2 rfl h hm h2
  have hd3 : ∀ m w z, takeS (openS (takeS ⟨b, false⟩ 6).2 67 8) 8 = m → weightsS (cfgOf m.1) m.2 = w → takeS (openS w.2 90 8) 8 = z → (takeS ⟨b, false⟩ 6).1 = beginB → m.2.bad = false → (cfgOf m.1).may → (badEnd digS b w z → decS digS b = none) ∧ (¬ badEnd digS b w z → decS digS b = some w.1) := fun m w z hm hw hz h h2 h3 => decS_3 rfl h hm h2 h3 hw hz
  have hs1' : (takeS ⟨b, false⟩ 6).2.rest.length ≤ b.length := hs1
  have hK1 : ∀ {L : HL}, (∀ x ∈ F1, x ∈ L) → Known w0 (keys []) L (fun h => byAt h (takeS ⟨b, false⟩ 6).1 ao1 6) := fun s => known_out (Known.of_old hB (Mono.sl _ _ _ _ _)) hout1 s
  generalize (takeS ⟨b, false⟩ 6).1 = out1 at *
  generalize (takeS ⟨b, false⟩ 6).2 = r1 at *
  (repeat ((with_reducible apply XL.op)))
  ((with_reducible apply XOp.pr); (case hg => exact rfl); (case hr => (with_reducible apply PR.toStr); (case hs => exact rfl); (case hk => exact rfl); (case he => exact rfl); (case hek => exact rfl); (case hd => exact rfl); (case hdk => exact rfl); (case hx => exact rfl); (case hl => exact hl1); (case hA => exact  hK1 (fun y hy => by simp [hy]))))
  (repeat (first | (with_reducible apply XL.op) | ((with_reducible apply XOp.p1); (case hg | hv => exact rfl)) | (with_reducible apply XL.nilT)))
  ((with_reducible apply XC.cond); (case hc => exact rfl); all_goals (intro hb_; try simp only [pd_true, pd_false, Bool.not_eq_true', Bool.not_eq_false', Bool.and_eq_true, Bool.and_eq_false_iff, Bool.or_eq_true, Bool.or_eq_false_iff, not_true_eq_false, not_false_eq_true, Int.not_lt, Int.not_le] at hb_))
  · (repeat (first | (with_reducible apply XL.op) | ((with_reducible apply XOp.p1); (case hg | hv => exact rfl)) | ((with_reducible apply XOp.storeN (i := 0)); (case hg | ht | hx | hv' | hk | h1 | hi | hs | ha => exact rfl)) | ((with_reducible apply XOp.pr); (case hg => exact rfl); (case hr => ((with_reducible apply PR.build); (case ht | hk | hok | hz | hf => exact rfl)))) | (with_reducible apply XL.nilT) | (with_reducible apply XC.seq) | (with_reducible apply XC.region (Γ := Γ)) | (with_reducible apply XQ.ret) | (with_reducible apply XQ.rt)))
    ((with_reducible apply XQ.retE); (case hr => exact .row rfl (by kernel_rfl) (by kernel_rfl) (own_row (i := 0) (m := 18) rfl rfl) (.t rfl .nil)))
    exact ⟨[], .of (List.nil_sublist _), decO_none (hd1 fun h => hb_ ((strOf_begin hl1 hB1).2 h))⟩
  have hbeg : out1 = beginB := (strOf_begin hl1 hB1).1 (by assumption)
  have hFB : F1 ++ [] = F1 := List.append_nil _
  (repeat (first | (with_reducible apply XL.op) | ((with_reducible apply XOp.p1); (case hg | hv => exact rfl)) | (with_reducible apply XC.seq) | (with_reducible apply XC.region (Γ := Γ)) | (with_reducible apply XQ.skip) | (with_reducible apply XQ.nt)))
  ((with_reducible apply XOp.callM (R := [_]) (hF := open_fn rb a1 c1 r1 67 8 (by omega))); (case hg => exact rfl); (case hc => exact rfl); (case ha => exact rfl); (case hL => exact rfl); try (case hA => exact Known.true))
  case hA => exact Known.of_old (hw1.at_ _ hB) (Mono.sl _ _ _ _ _)
  rintro _ _ ⟨a2, c2, rfl, hw2⟩
  have hw12 := hw1.trans hw2
  have hR2 := openS_rest hR1 67 8
  have hs2 := shr_open r1 67 8
  generalize openS r1 67 8 = r2 at *
  (repeat (first | (with_reducible apply XL.op) | ((with_reducible apply XOp.p1); (case hg | hv => exact rfl)) | (with_reducible apply XL.nilT) | (with_reducible apply XC.seq) | (with_reducible apply XC.region (Γ := Γ))))
  ((with_reducible apply XOp.callM (R := [_]) (hF := take_fn rb a2 c2 r2 8 (by omega))); (case hg => exact rfl); (case hc => exact rfl); (case ha => exact rfl); (case hL => exact rfl); try (case hA => exact Known.true))
  case hA => exact Known.of_old (hw12.at_ _ hB) (Mono.sl _ _ _ _ _)
  rintro _ _ ⟨a3, c3, ao3, F3, rfl, rfl, hout3, hw3, hat3⟩
  have hw13 := hw12.trans hw3
  have hl3 := takeS_len r2 8
  have hB3 := takeS_isB hR2 8
  have hR3 := takeS_rest hR2 8
  have hs3 : (takeS r2 8).2.rest.length ≤ r2.rest.length := shr_take 8 r2
  have hK3 : ∀ {L : HL}, (∀ x ∈ F3, x ∈ L) → Known w0 (keys []) L (fun h => byAt h (takeS r2 8).1 ao3 8) := fun s => known_out (Known.of_old (hw12.at_ _ hB) (Mono.sl _ _ _ _ _)) hout3 s
  generalize hm3 : takeS r2 8 = m3 at *
  obtain ⟨out3, r3⟩ := m3
  simp only [] at hl3 hB3 hR3 hs3 hK3 hw13 hw3
  obtain ⟨o0, o1, o2, o3, o4, o5, o6, o7, rfl⟩ := len8 hl3
  have hwr : ∀ o ∈ [o0, o1, o2, o3, o4, o5, o6, o7], IntKind.i64.wrap o = o := fun o h => by have := hB3 o h; exact wrap64_of (by omega) (by omega)
  have v0 := hwr o0 (by simp); have v1 := hwr o1 (by simp); have v2 := hwr o2 (by simp); have v3 := hwr o3 (by simp); have v4 := hwr o4 (by simp); have v5 := hwr o5 (by simp); have v6 := hwr o6 (by simp); have v7 := hwr o7 (by simp)
  have hd2' := hd2 _ rfl hbeg
  have hd3' := fun hb hm => hd3 _ _ _ rfl rfl rfl hbeg hb hm
  (repeat (first | (with_reducible apply XL.op) | ((with_reducible apply XOp.p1); (case hg | hv => exact rfl)) | (with_reducible apply XL.nilT) | (with_reducible apply XC.seq)))
  ((with_reducible apply XC.regionD (Γ := Γ) mixed (.q 0 (.q 1 (.q 2 (.q 3 (.q 4 (.q 5 (.q 6 (.q 7 (.q 8 (.q 9 (.q 10 (.q 11 (.q 12 (.q 13 (.q 14 (.q 15 (.q 16 (.q 17 (.q 18 (.q 19 (.q 20 (.q 21 (.q 22 (.q 23 (.q 24 (.q 25 (.q 26 (.q 27 (.q 28 (.q 29 (.q 30 (.q 31 (.q 32 (.e 33 (.e 34 (.done)))))))))))))))))))))))))))))))))))) [] []); (case hc => kernel_rfl))
  (repeat (first | ((with_reducible apply XP.p1); (case ho | hg | hv => exact rfl)) | ((with_reducible apply XP.pr); (case ho => exact rfl); (case hg => exact rfl); (case hr => ((with_reducible apply PR.idxA); (case ht | hk | he | hx | hi => exact rfl); (case hr => first | assumption | omega); (case ha => first | assumption | exact SlA.at_ (by assumption))))) | ((with_reducible apply XP.pr); (case ho => exact rfl); (case hg => exact rfl); (case hr => ((with_reducible apply PR.build); (case ht | hk | hok | hz | hf => exact rfl)))) | ((with_reducible apply XP.e); (first | ((with_reducible apply XE.d); (case ho => exact rfl); (case hd => exact rfl)) | ((with_reducible apply XE.e); (case ho => exact rfl)))) | (first | ((with_reducible apply XOp.load); (case hg | ht | hk | hx => exact rfl); (case hc => exact (hK3 (fun y hy => by simp [sel, hy])).imp fun h s => (s.int 0 (by simp)).1)) | ((with_reducible apply XP.load); (case ho | hg | ht | hk | hx => exact rfl); (case hc => exact (hK3 (fun y hy => by simp [sel, hy])).imp fun h s => (s.int 0 (by simp)).1))) | (first | ((with_reducible apply XOp.load); (case hg | ht | hk | hx => exact rfl); (case hc => exact (hK3 (fun y hy => by simp [sel, hy])).imp fun h s => (s.int 1 (by simp)).1)) | ((with_reducible apply XP.load); (case ho | hg | ht | hk | hx => exact rfl); (case hc => exact (hK3 (fun y hy => by simp [sel, hy])).imp fun h s => (s.int 1 (by simp)).1))) | (first | ((with_reducible apply XOp.load); (case hg | ht | hk | hx => exact rfl); (case hc => exact (hK3 (fun y hy => by simp [sel, hy])).imp fun h s => (s.int 2 (by simp)).1)) | ((with_reducible apply XP.load); (case ho | hg | ht | hk | hx => exact rfl); (case hc => exact (hK3 (fun y hy => by simp [sel, hy])).imp fun h s => (s.int 2 (by simp)).1))) | (first | ((with_reducible apply XOp.load); (case hg | ht | hk | hx => exact rfl); (case hc => exact (hK3 (fun y hy => by simp [sel, hy])).imp fun h s => (s.int 3 (by simp)).1)) | ((with_reducible apply XP.load); (case ho | hg | ht | hk | hx => exact rfl); (case hc => exact (hK3 (fun y hy => by simp [sel, hy])).imp fun h s => (s.int 3 (by simp)).1))) | (first | ((with_reducible apply XOp.load); (case hg | ht | hk | hx => exact rfl); (case hc => exact (hK3 (fun y hy => by simp [sel, hy])).imp fun h s => (s.int 4 (by simp)).1)) | ((with_reducible apply XP.load); (case ho | hg | ht | hk | hx => exact rfl); (case hc => exact (hK3 (fun y hy => by simp [sel, hy])).imp fun h s => (s.int 4 (by simp)).1))) | (first | ((with_reducible apply XOp.load); (case hg | ht | hk | hx => exact rfl); (case hc => exact (hK3 (fun y hy => by simp [sel, hy])).imp fun h s => (s.int 5 (by simp)).1)) | ((with_reducible apply XP.load); (case ho | hg | ht | hk | hx => exact rfl); (case hc => exact (hK3 (fun y hy => by simp [sel, hy])).imp fun h s => (s.int 5 (by simp)).1))) | (first | ((with_reducible apply XOp.load); (case hg | ht | hk | hx => exact rfl); (case hc => exact (hK3 (fun y hy => by simp [sel, hy])).imp fun h s => (s.int 6 (by simp)).1)) | ((with_reducible apply XP.load); (case ho | hg | ht | hk | hx => exact rfl); (case hc => exact (hK3 (fun y hy => by simp [sel, hy])).imp fun h s => (s.int 6 (by simp)).1))) | (first | ((with_reducible apply XOp.load); (case hg | ht | hk | hx => exact rfl); (case hc => exact (hK3 (fun y hy => by simp [sel, hy])).imp fun h s => (s.int 7 (by simp)).1)) | ((with_reducible apply XP.load); (case ho | hg | ht | hk | hx => exact rfl); (case hc => exact (hK3 (fun y hy => by simp [sel, hy])).imp fun h s => (s.int 7 (by simp)).1)))))
  rw [show IntKind.i64.wrap ([o0, o1, o2, o3, o4, o5, o6, o7][0]?.getD 0) = o0 from v0, show IntKind.i64.wrap ([o0, o1, o2, o3, o4, o5, o6, o7][1]?.getD 0) = o1 from v1, show IntKind.i64.wrap ([o0, o1, o2, o3, o4, o5, o6, o7][2]?.getD 0) = o2 from v2, show IntKind.i64.wrap ([o0, o1, o2, o3, o4, o5, o6, o7][3]?.getD 0) = o3 from v3, show IntKind.i64.wrap ([o0, o1, o2, o3, o4, o5, o6, o7][4]?.getD 0) = o4 from v4, show IntKind.i64.wrap ([o0, o1, o2, o3, o4, o5, o6, o7][5]?.getD 0) = o5 from v5, show IntKind.i64.wrap ([o0, o1, o2, o3, o4, o5, o6, o7][6]?.getD 0) = o6 from v6, show IntKind.i64.wrap ([o0, o1, o2, o3, o4, o5, o6, o7][7]?.getD 0) = o7 from v7]
  have hcf : cfgOf [o0, o1, o2, o3, o4, o5, o6, o7] = ⟨o0, o1, o2, o3, o4, o5, o6, o7⟩ := rfl
  simp only [hcf] at hd2' hd3'
  generalize hcfd : (⟨o0, o1, o2, o3, o4, o5, o6, o7⟩ : Cfg) = cf at *
  have hcc : [Value.int .i64 o0, .int .i64 o1, .int .i64 o2, .int .i64 o3, .int .i64 o4, .int .i64 o5, .int .i64 o6, .int .i64 o7] = cf.cells := by rw [← hcfd]; rfl
  rw [hcc]
  skip
  ((with_reducible apply XOp.alloc); (case hg | ht | hx' => exact rfl); intro cb)
  (repeat (first | (with_reducible apply XL.op) | ((with_reducible apply XOp.p1); (case hg | hv => exact rfl)) | ((with_reducible apply XOp.load); (case hg | ht | hk | hx => exact rfl); (case hc => exact own_cell (i := 2) rfl rfl)) | ((with_reducible apply XOp.storeN (i := 0)); (case hg | ht | hx | hv' | hk | h1 | hi | hs | ha => exact rfl)) | (with_reducible apply XC.seq) | (with_reducible apply XC.region (Γ := Γ)) | (with_reducible apply XQ.nt) | (with_reducible apply XP.done) | ((with_reducible apply XP.e); (first | ((with_reducible apply XE.d); (case ho => exact rfl); (case hd => exact rfl)) | ((with_reducible apply XE.e); (case ho => exact rfl)))) | ((with_reducible apply XP.keep); (case hk => first | ((repeat' (first | exact List.forall_mem_nil _ | (with_reducible refine List.forall_mem_cons.2 ⟨?_, ?_⟩) | exact List.mem_cons_self .. | (with_reducible apply List.mem_cons_of_mem) | (with_reducible apply List.mem_append_right))); done) | (intro x hx; first | exact sel_in hx | exact List.mem_cons_of_mem _ (sel_in hx) | exact List.mem_append_right _ (sel_in hx) | exact hx | exact List.mem_cons_of_mem _ hx | exact List.mem_append_right _ hx | ((repeat (first | exact sel_in hx | exact hx | (with_reducible apply List.mem_cons_of_mem) | (with_reducible apply List.mem_append_right))); done) | (rw [List.mem_singleton.1 hx]; (simp; done)) | (rcases List.mem_cons.1 hx with rfl | hx; (simp; done); (rw [List.mem_singleton.1 hx]; (simp; done))) | cases hx)))))
  ((with_reducible apply XOp.split); (case hg | hj | hd | hb => exact rfl); (fail_if_success (case hf => exact fun h => Bool.noConfusion h)); (fail_if_success (case ht => exact fun h => Bool.noConfusion h)); all_goals (intro hb_; try simp only [pd_true, pd_false, Bool.not_eq_true', Bool.not_eq_false', Bool.and_eq_true, Bool.and_eq_false_iff, Bool.or_eq_true, Bool.or_eq_false_iff, not_true_eq_false, not_false_eq_true, Int.not_lt, Int.not_le] at hb_))
  · (repeat (first | (with_reducible apply XL.op) | ((with_reducible apply XOp.p1); (case hg | hv => exact rfl)) | ((with_reducible apply XOp.p0); (case hg => exact rfl)) | ((with_reducible apply XOp.storeN (i := 1)); (case hg | ht | hx | hv' | hk | h1 | hi | hs | ha => exact rfl)) | ((with_reducible apply XOp.pr); (case hg => exact rfl); (case hr => ((with_reducible apply PR.build); (case ht | hk | hok | hz | hf => exact rfl)))) | (with_reducible apply XL.nilT) | (with_reducible apply XC.seq) | (with_reducible apply XC.region (Γ := Γ)) | (with_reducible apply XQ.ret) | (with_reducible apply XQ.rt) | ((with_reducible apply XC.condT); (case hc => exact rfl))))
    ((with_reducible apply XQ.retE); (case hr => exact .row rfl (by kernel_rfl) (by kernel_rfl) (own_row (i := 1) (m := 18) rfl rfl) (.t rfl .nil)))
    exact ⟨[], .of (List.nil_sublist _), decO_none (hd2' (Or.inl hb_))⟩
  have hbad : r3.bad = false := hb_
  clear hb_
  (repeat (first | (with_reducible apply XL.op) | ((with_reducible apply XOp.p1); (case hg | hv => exact rfl)) | ((with_reducible apply XOp.loadO (i := 0)); (case hg | ht | hk | hx | hi | hc => exact rfl)) | (with_reducible apply XL.nilT) | (((with_reducible apply XOp.callQ (hF := FC.nil (check_fn cf))); (case hg => exact rfl); (case hc => exact rfl); (case ha => exact rfl); try (case hA => exact Known.true)); rintro _ rfl)))
  ((with_reducible apply XC.cond); (case hc => exact rfl); all_goals (intro hb_; try simp only [pd_true, pd_false, Bool.not_eq_true', Bool.not_eq_false', Bool.and_eq_true, Bool.and_eq_false_iff, Bool.or_eq_true, Bool.or_eq_false_iff, not_true_eq_false, not_false_eq_true, Int.not_lt, Int.not_le] at hb_))
  · (repeat (first | (with_reducible apply XL.op) | ((with_reducible apply XOp.p1); (case hg | hv => exact rfl)) | ((with_reducible apply XOp.storeN (i := 1)); (case hg | ht | hx | hv' | hk | h1 | hi | hs | ha => exact rfl)) | ((with_reducible apply XOp.pr); (case hg => exact rfl); (case hr => ((with_reducible apply PR.build); (case ht | hk | hok | hz | hf => exact rfl)))) | (with_reducible apply XL.nilT) | (with_reducible apply XC.seq) | (with_reducible apply XC.region (Γ := Γ)) | (with_reducible apply XQ.ret) | (with_reducible apply XQ.rt)))
    ((with_reducible apply XQ.retE); (case hr => exact .row rfl (by kernel_rfl) (by kernel_rfl) (own_row (i := 1) (m := 18) rfl rfl) (.t rfl .nil)))
    exact ⟨[], .of (List.nil_sublist _), decO_none (hd2' (Or.inr fun h => hb_ ((cerr_iff _).2 h)))⟩
  have hc : cf.may := (cerr_iff _).1 (by first | assumption | exact Classical.not_not.1 hb_)
  clear hb_
  have hd4 := hd3' hbad hc
  clear hd1 hd2 hd3 hd2' hd3' v0 v1 v2 v3 v4 v5 v6 v7 hwr hcf hcc hK1 hK3
  (repeat (first | (with_reducible apply XL.op) | ((with_reducible apply XOp.p1); (case hg | hv => exact rfl)) | ((with_reducible apply XOp.loadO (i := 0)); (case hg | ht | hk | hx | hi | hc => exact rfl)) | (with_reducible apply XC.seq) | (with_reducible apply XC.region (Γ := Γ)) | (with_reducible apply XQ.skip) | (with_reducible apply XQ.nt)))
  ((with_reducible apply XOp.callM (R := [_, _]) (hF := rweights_fn rb a3 c3 r3 cf hc)); (case hg => exact rfl); (case hc => exact rfl); (case ha => exact rfl); (case hL => exact rfl); try (case hA => exact Known.true))
  case hA => exact Known.and (Known.of_old hS sides_mono) (Known.of_old (hw13.at_ _ hB) (Mono.sl _ _ _ _ _))
  rintro _ _ ⟨a4, c4, x, F4, rfl, hx, rfl, hF4, hw4⟩
  have hw14 := hw13.trans hw4
  have hs4 : (weightsS cf r3).2.rest.length ≤ r3.rest.length := shr_weights cf r3
  generalize weightsS cf r3 = W at *
  obtain ⟨ww, r4⟩ := W
  simp only [] at hx hs4 hw4 hw14
  subst hx
  (repeat ((with_reducible apply XL.op)))
  ((with_reducible apply XOp.alloc); (case hg | ht | hx' => exact rfl); intro xb)
  have hle := hB.le
  (repeat (first | (with_reducible apply XL.op) | ((with_reducible apply XOp.p1); (case hg | hv => exact rfl)) | ((with_reducible apply XOp.load); (case hg | ht | hk | hx => exact rfl); (case hc => exact own_cell (i := 3) rfl rfl)) | ((with_reducible apply XOp.storeN (i := 0)); (case hg | ht | hx | hv' | hk | h1 | hi | hs | ha => exact rfl)) | (with_reducible apply XL.nilT) | (with_reducible apply XC.seq) | (with_reducible apply XC.region (Γ := Γ))))
  rw [show IntKind.i64.wrap ((b.length : Int) - (r4.rest.length : Int)) = ((b.length - r4.rest.length : Nat) : Int) from by rw [wrap64_of (by omega) (by omega)]; omega]
  (repeat (first | (with_reducible apply XL.op) | (first | ((with_reducible apply XOp.pr); (case hg => exact rfl); (case hr => (with_reducible apply PR.sliceTo); (case ht => exact rfl); (case hk => exact rfl); (case he => exact rfl); (case hx => exact rfl); (case hh => exact rfl); (case hb => omega))) | ((with_reducible apply XP.pr); (case ho => exact rfl); (case hg => exact rfl); (case hr => (with_reducible apply PR.sliceTo); (case ht => exact rfl); (case hk => exact rfl); (case he => exact rfl); (case hx => exact rfl); (case hh => exact rfl); (case hb => omega))))))
  ((with_reducible apply XOp.callQ (hF := digestN_fn (n := b.length - r4.rest.length) (b.take (b.length - r4.rest.length)) a c (by rw [List.length_take]; omega))); (case hg => exact rfl); (case hc => exact rfl); (case ha => exact rfl); try (case hA => exact Known.true))
  case hA => exact (Known.of_old hB (Mono.sl _ _ _ _ _)).imp fun h s => SlA.takeC s _
  rintro _ rfl
  generalize hdg : digS (b.take (b.length - r4.rest.length)) = dg at *
  (repeat (first | (with_reducible apply XL.op) | ((with_reducible apply XOp.p1); (case hg | hv => exact rfl)) | (with_reducible apply XL.nilT) | (with_reducible apply XC.seq) | (with_reducible apply XC.region (Γ := Γ))))
  ((with_reducible apply XOp.callM (R := [_, _, _]) (hF := open_fn rb a4 c4 r4 90 8 (by omega))); (case hg => exact rfl); (case hc => exact rfl); (case ha => exact rfl); (case hL => exact rfl); try (case hA => exact Known.true))
  case hA => exact Known.of_old (hw14.at_ _ hB) (Mono.sl _ _ _ _ _)
  rintro _ _ ⟨a5, c5, rfl, hw5⟩
  have hw15 := hw14.trans hw5
  generalize openS r4 90 8 = r5 at *
  (repeat (first | (with_reducible apply XL.op) | ((with_reducible apply XOp.p1); (case hg | hv => exact rfl)) | (with_reducible apply XL.nilT) | (with_reducible apply XC.seq) | (with_reducible apply XC.region (Γ := Γ))))
  ((with_reducible apply XOp.callM (R := [_, _, _]) (hF := take_fn rb a5 c5 r5 8 (by omega))); (case hg => exact rfl); (case hc => exact rfl); (case ha => exact rfl); (case hL => exact rfl); try (case hA => exact Known.true))
  case hA => exact Known.of_old (hw15.at_ _ hB) (Mono.sl _ _ _ _ _)
  rintro _ _ ⟨a6, c6, ao6, F6, rfl, rfl, hout6, hw6, hat6⟩
  have hw16 := hw15.trans hw6
  have hl6 := takeS_len r5 8
  have hK6 : ∀ {L : HL}, (∀ x ∈ F6, x ∈ L) → Known w0 (keys []) L (fun h => byAt h (takeS r5 8).1 ao6 8) := fun s => known_out (Known.of_old (hw15.at_ _ hB) (Mono.sl _ _ _ _ _)) hout6 s
  generalize hm6 : takeS r5 8 = m6 at *
  obtain ⟨out6, r6⟩ := m6
  simp only [] at hl6 hK6 hw16 hw6
  (repeat ((with_reducible apply XL.op)))
  ((with_reducible apply XOp.callQ (hF := valueN_fn (n := 8) out6 ao6 8 hl6 (by omega))); (case hg => exact rfl); (case hc => exact rfl); (case ha => exact rfl); try (case hA => exact Known.true))
  case hA => exact hK6 (fun y hy => by simp [hy])
  rintro _ rfl
  (repeat (first | (with_reducible apply XL.op) | ((with_reducible apply XOp.p1); (case hg | hv => exact rfl))))
  have hfail : ∀ {p : Prop}, p → (p → badEnd digS b (x.w, r4) (out6, r6)) → decS digS b = none := fun hp h => hd4.1 (h hp)
  ((with_reducible apply XOp.split); (case hg | hj | hd | hb => exact rfl); (fail_if_success (case hf => exact fun h => Bool.noConfusion h)); (fail_if_success (case ht => exact fun h => Bool.noConfusion h)); all_goals (intro hb_; try simp only [pd_true, pd_false, Bool.not_eq_true', Bool.not_eq_false', Bool.and_eq_true, Bool.and_eq_false_iff, Bool.or_eq_true, Bool.or_eq_false_iff, not_true_eq_false, not_false_eq_true, Int.not_lt, Int.not_le] at hb_))
  · (repeat (first | (with_reducible apply XL.op) | ((with_reducible apply XOp.p1); (case hg | hv => exact rfl)) | ((with_reducible apply XOp.p0); (case hg => exact rfl)) | ((with_reducible apply XOp.storeN (i := 2)); (case hg | ht | hx | hv' | hk | h1 | hi | hs | ha => exact rfl)) | ((with_reducible apply XOp.pr); (case hg => exact rfl); (case hr => ((with_reducible apply PR.build); (case ht | hk | hok | hz | hf => exact rfl)))) | (with_reducible apply XL.nilT) | (with_reducible apply XC.seq) | (with_reducible apply XC.region (Γ := Γ)) | (with_reducible apply XQ.ret) | (with_reducible apply XQ.rt) | ((with_reducible apply XC.condT); (case hc => exact rfl))))
    ((with_reducible apply XQ.retE); (case hr => exact .row rfl (by kernel_rfl) (by kernel_rfl) (own_row (i := 2) (m := 18) rfl rfl) (.t rfl .nil)))
    exact ⟨[], .of (List.nil_sublist _), decO_none (hfail hb_ fun h => .inl (by rw [← hdg] at h; exact h))⟩
  have hv1 := hb_
  clear hb_
  (repeat (first | (with_reducible apply XL.op) | ((with_reducible apply XOp.p1); (case hg | hv => exact rfl)) | ((with_reducible apply XOp.load); (case hg | ht | hk | hx => exact rfl); (case hc => exact own_cell (i := 3) rfl rfl))))
  ((with_reducible apply XOp.split); (case hg | hj | hd | hb => exact rfl); (fail_if_success (case hf => exact fun h => Bool.noConfusion h)); (fail_if_success (case ht => exact fun h => Bool.noConfusion h)); all_goals (intro hb_; try simp only [pd_true, pd_false, Bool.not_eq_true', Bool.not_eq_false', Bool.and_eq_true, Bool.and_eq_false_iff, Bool.or_eq_true, Bool.or_eq_false_iff, not_true_eq_false, not_false_eq_true, Int.not_lt, Int.not_le] at hb_))
  · (repeat (first | (with_reducible apply XL.op) | ((with_reducible apply XOp.p1); (case hg | hv => exact rfl)) | ((with_reducible apply XOp.p0); (case hg => exact rfl)) | ((with_reducible apply XOp.storeN (i := 2)); (case hg | ht | hx | hv' | hk | h1 | hi | hs | ha => exact rfl)) | ((with_reducible apply XOp.pr); (case hg => exact rfl); (case hr => ((with_reducible apply PR.build); (case ht | hk | hok | hz | hf => exact rfl)))) | (with_reducible apply XL.nilT) | (with_reducible apply XC.seq) | (with_reducible apply XC.region (Γ := Γ)) | (with_reducible apply XQ.ret) | (with_reducible apply XQ.rt) | ((with_reducible apply XC.condT); (case hc => exact rfl))))
    ((with_reducible apply XQ.retE); (case hr => exact .row rfl (by kernel_rfl) (by kernel_rfl) (own_row (i := 2) (m := 18) rfl rfl) (.t rfl .nil)))
    exact ⟨[], .of (List.nil_sublist _), decO_none (hfail hb_ fun h => .inr (.inl h))⟩
  have hv2 : r6.bad = false := hb_
  clear hb_
  (repeat (first | (with_reducible apply XL.op) | ((with_reducible apply XOp.p1); (case hg | hv => exact rfl)) | ((with_reducible apply XOp.load); (case hg | ht | hk | hx => exact rfl); (case hc => exact own_cell (i := 3) rfl rfl))))
  ((with_reducible apply XOp.split); (case hg | hj | hd | hb => exact rfl); (fail_if_success (case hf => exact fun h => Bool.noConfusion h)); (fail_if_success (case ht => exact fun h => Bool.noConfusion h)); all_goals (intro hb_; try simp only [pd_true, pd_false, Bool.not_eq_true', Bool.not_eq_false', Bool.and_eq_true, Bool.and_eq_false_iff, Bool.or_eq_true, Bool.or_eq_false_iff, not_true_eq_false, not_false_eq_true, Int.not_lt, Int.not_le] at hb_))
  · (repeat (first | (with_reducible apply XL.op) | ((with_reducible apply XOp.p1); (case hg | hv => exact rfl)) | ((with_reducible apply XOp.p0); (case hg => exact rfl)) | ((with_reducible apply XOp.storeN (i := 2)); (case hg | ht | hx | hv' | hk | h1 | hi | hs | ha => exact rfl)) | ((with_reducible apply XOp.pr); (case hg => exact rfl); (case hr => ((with_reducible apply PR.build); (case ht | hk | hok | hz | hf => exact rfl)))) | (with_reducible apply XL.nilT) | (with_reducible apply XC.seq) | (with_reducible apply XC.region (Γ := Γ)) | (with_reducible apply XQ.ret) | (with_reducible apply XQ.rt) | ((with_reducible apply XC.condT); (case hc => exact rfl))))
    ((with_reducible apply XQ.retE); (case hr => exact .row rfl (by kernel_rfl) (by kernel_rfl) (own_row (i := 2) (m := 18) rfl rfl) (.t rfl .nil)))
    exact ⟨[], .of (List.nil_sublist _), decO_none (hfail hb_ fun h => .inr (.inr (.inl fun hh => by rw [hh] at h; simp at h)))⟩
  have hv3 : ¬ (0 : Int) < r6.rest.length := by omega
  clear hb_
  (repeat (first | (with_reducible apply XL.op) | ((with_reducible apply XOp.p1); (case hg | hv => exact rfl)) | ((with_reducible apply XOp.loadO (i := 0)); (case hg | ht | hk | hx | hi | hc => exact rfl)) | (((with_reducible apply XOp.callQ (hF := checkW_fn x)); (case hg => exact rfl); (case hc => exact rfl); (case ha => exact rfl); try (case hA => exact Known.true)); (case hA => exact Known.and (Known.of_old hS sides_mono) (hF4.held.known (fun y hy => by simp [hy]))); rintro _ rfl)))
  ((with_reducible apply XOp.split); (case hg | hj | hd | hb => exact rfl); (fail_if_success (case hf => exact fun h => Bool.noConfusion h)); (fail_if_success (case ht => exact fun h => Bool.noConfusion h)); all_goals (intro hb_; try simp only [pd_true, pd_false, Bool.not_eq_true', Bool.not_eq_false', Bool.and_eq_true, Bool.and_eq_false_iff, Bool.or_eq_true, Bool.or_eq_false_iff, not_true_eq_false, not_false_eq_true, Int.not_lt, Int.not_le] at hb_))
  · (repeat (first | (with_reducible apply XL.op) | ((with_reducible apply XOp.p1); (case hg | hv => exact rfl)) | ((with_reducible apply XOp.p0); (case hg => exact rfl)) | ((with_reducible apply XOp.storeN (i := 2)); (case hg | ht | hx | hv' | hk | h1 | hi | hs | ha => exact rfl)) | ((with_reducible apply XOp.pr); (case hg => exact rfl); (case hr => ((with_reducible apply PR.build); (case ht | hk | hok | hz | hf => exact rfl)))) | (with_reducible apply XL.nilT) | (with_reducible apply XC.seq) | (with_reducible apply XC.region (Γ := Γ)) | (with_reducible apply XQ.ret) | (with_reducible apply XQ.rt) | ((with_reducible apply XC.condT); (case hc => exact rfl))))
    ((with_reducible apply XQ.retE); (case hr => exact .row rfl (by kernel_rfl) (by kernel_rfl) (own_row (i := 2) (m := 18) rfl rfl) (.t rfl .nil)))
    exact ⟨[], .of (List.nil_sublist _), decO_none (hfail hb_ fun h => .inr (.inr (.inr fun hok => h (errW_ok hok))))⟩
  have hok : okW x.w := errW_zero (by first | assumption | exact Classical.not_not.1 hb_)
  clear hb_
  have hsome : decS digS b = some x.w := hd4.2 (by
    rintro (h | h | h | h)
    · rw [hdg] at h; exact h hv1
    · rw [hv2] at h; cases h
    · refine h (List.length_eq_zero_iff.1 ?_)
      show r6.rest.length = 0
      omega
    · exact h hok)
  have hfile : isFileOf b x := by
    have h := (dec_sound digS hbB hsome).2
    exact ⟨secB 90 (numB (digS (fileB x.w)) 8), by rw [← h]; simp only [fileOf, fileB, List.append_assoc]; rfl⟩
  (repeat (first | (with_reducible apply XL.op) | ((with_reducible apply XOp.p1); (case hg | hv => exact rfl)) | ((with_reducible apply XOp.loadO (i := 0)); (case hg | ht | hk | hx | hi | hc => exact rfl)) | ((with_reducible apply XOp.storeN (i := 2)); (case hg | ht | hx | hv' | hk | h1 | hi | hs | ha => exact rfl)) | (with_reducible apply XL.nilT) | (with_reducible apply XC.seq) | (with_reducible apply XC.region (Γ := Γ)) | (with_reducible apply XQ.skip) | (with_reducible apply XQ.ret) | (with_reducible apply XQ.nt) | ((with_reducible apply XC.condF); (case hc => exact rfl)) | (((with_reducible apply XOp.callQ (hF := same_fn b a c x hok hfile)); (case hg => exact rfl); (case hc => exact rfl); (case ha => exact rfl); try (case hA => exact Known.true)); (case hA => exact Known.and (Known.of_old hS sides_mono) (Known.and (Known.of_old hB (Mono.sl _ _ _ _ _)) (hF4.held.known (fun y hy => by simp [hy])))); rintro _ ⟨rfl⟩)))
  ((with_reducible apply XQ.retE); (case hr => exact .row rfl (by kernel_rfl) (by kernel_rfl) (own_row (i := 2) (m := 18) rfl rfl) (.t rfl .nil)))
  exact ⟨F4, .of (by ((try simp only [List.append_eq, List.cons_append, List.nil_append, List.append_assoc]); repeat (first | exact List.Sublist.refl _ | exact List.nil_sublist _ | (with_reducible apply List.Sublist.cons_cons) | (with_reducible apply List.Sublist.cons) | exact List.sublist_append_right _ _)); exact (List.sublist_append_left _ _).trans (List.sublist_append_right _ _)), decO_some hsome hF4⟩
theorem decode_fn (b : List Int) (a : Option Addr) (c : Nat) : FC Tryd.prog 22 [.slice a b.length c] [] (fun h => sidesK h ∧ byAt h b a c) (fun v L => DecR b v L) :=
  (decode_own b a c).mono fun _ _ ⟨x, h1, h2, h3⟩ => ⟨x, h1, h2, h3.held⟩
end Go.Proofs.YtppggaiahkecoaaDoorX
/- The program's own copy of weights: each list in memory of its own. -/
namespace Go.Proofs.YtppggaiahkecoaaDoorX
open Go Go.SX

theorem nar_fn (x : LV) : FC Tryd.prog 88 [slv x] [] (fun h => lvAt h x)
    (fun v L => ∃ x' : LV, v = slv x' ∧ x'.1 = x.1 ∧ OwnV x' L) := by
  obtain ⟨xs, a, cap⟩ := x
  refine FC.intro Tryd.func88 rfl (by kernel_rfl) 5 [.tmp 2] rfl rfl rfl ?_
  intro w0 hA
  change SlA (Kd.int .i8) 1 _ xs a cap at hA
  have hsm := hA.bytes
  have hok := hA.okAll
  (repeat (first | (with_reducible apply XL.op) | ((with_reducible apply XOp.p1); (case hg | hv => exact rfl)) | (with_reducible apply XL.nilT) | (with_reducible apply XC.seq) | (with_reducible apply XC.region (Γ := Γ))))
  ((with_reducible apply XOp.appendG); (case hg => exact rfl); (case ht => exact rfl); (case hk => exact rfl); (case he => exact rfl); (case hs => exact rfl); (case hx => exact rfl); (case hown => exact OwnS.nil _ _); (case hL => rfl); (case ha => exact hA.at_); (case hc => exact fun _ => Known.of_old (rowInts hA) (Mono.row _ _ _)); (case hl => exact by simp); (case h1 => exact List.all_eq_true.2 fun v hv => by obtain ⟨x, _, rfl⟩ := List.mem_map.1 hv; rfl); (case hz => exact rfl); (case hsz => exact Nat.zero_lt_succ _); (case h63 => simp only [maxLen]; omega); (case hb => simp only []; omega))
  intro v' F' hown
  obtain ⟨a', c', rfl⟩ := hown.val
  (repeat (first | (with_reducible apply XL.op) | ((with_reducible apply XOp.p1); (case hg | hv => exact rfl)) | (with_reducible apply XL.nilT) | (with_reducible apply XQ.ret)))
  ((with_reducible apply XQ.retE); (case hr => exact .t rfl .nil))
  rw [List.append_nil]
  have ho := hown.conv (Nat.zero_add _) (List.nil_append _)
  exact ⟨(xs, a', c'), by rw [Nat.zero_add]; rfl, rfl, by rw [Nat.zero_add] at ho; exact ho, hsm, hok⟩
theorem mtx_fn (m : LM) : FC Tryd.prog 87 [.agg ⟨m.cells⟩] [] (fun h => lmAt h m)
    (fun v L => ∃ m' : LM, v = .agg ⟨m'.cells⟩ ∧ m'.mat = m.mat ∧ OwnV m'.d L) := by
  refine FC.sub2 ?_
  refine FC.intro Tryd.func87 rfl (by kernel_rfl) 8 [.cell 2 26] rfl rfl rfl ?_
  intro w0 hA
  (repeat (first | (with_reducible apply XL.op) | (with_reducible apply XC.seq) | (with_reducible apply XC.region (Γ := Γ))))
  ((with_reducible apply XOp.box); (case hg | hx' => exact rfl); intro mb)
  (repeat ((with_reducible apply XL.op)))
  ((with_reducible apply XOp.alloc); (case hg | ht | hx' => exact rfl); intro rb)
  (repeat (first | (with_reducible apply XL.op) | ((with_reducible apply XOp.p1); (case hg | hv => exact rfl)) | ((with_reducible apply XOp.load); (case hg | ht | hk | hx => exact rfl); (case hc => exact own_cell (i := 1) rfl rfl)) | (with_reducible apply XL.nilT) | (with_reducible apply XC.seq) | (with_reducible apply XC.region (Γ := Γ))))
  ((with_reducible apply XOp.callN (hF := nar_fn m.d)); (case hg => exact rfl); (case hc => exact rfl); (case ha => exact rfl); try (case hA => exact Known.true))
  case hA => exact Known.of_old hA (lm_mono _)
  rintro _ F ⟨d', rfl, hd, hF⟩
  (repeat (first | (with_reducible apply XL.op) | ((with_reducible apply XOp.p1); (case hg | hv => exact rfl)) | ((with_reducible apply XOp.loadO (i := 1)); (case hg | ht | hk | hx | hi | hc => exact rfl)) | ((with_reducible apply XOp.store (i := 1)); (case hg | ht | hk | hx | hv | h1 | hi | hs | ha => exact rfl)) | ((with_reducible apply XOp.storeN (i := 0)); (case hg | ht | hx | hv' | hk | h1 | hi | hs | ha => exact rfl)) | (with_reducible apply XL.nilT) | (with_reducible apply XC.seq) | (with_reducible apply XC.region (Γ := Γ)) | (with_reducible apply XQ.ret)))
  ((with_reducible apply XQ.retE); (case hr => exact .row rfl (by kernel_rfl) (by kernel_rfl) (own_row (i := 0) (m := 3) rfl rfl) .nil))
  exact ⟨F, .of (by ((try simp only [List.append_eq, List.cons_append, List.nil_append, List.append_assoc]); repeat (first | exact List.Sublist.refl _ | exact List.nil_sublist _ | (with_reducible apply List.Sublist.cons_cons) | (with_reducible apply List.Sublist.cons) | exact List.sublist_append_right _ _))), ⟨m.r, m.c, d'⟩, rfl, by simp [LM.mat, hd], hF⟩
theorem turn_one (y : Int × Int) (v : Value) (h : v ∈ turnV y) : v.oneCell' = true := by
  simp only [turnV, List.mem_cons, List.not_mem_nil, or_false] at h
  rcases h with rfl | rfl <;> rfl
/-- A layer with new norms and the first new matrices. -/
def mkT (l : LL) (n1 n2 : LV) (D : List LM) : LL := ⟨n1, n2, D.getD 0 l.q, D.getD 1 l.k, D.getD 2 l.v, D.getD 3 l.o, D.getD 4 l.g, D.getD 5 l.u, D.getD 6 l.d, l.b0, l.b1, l.b2, l.b3, l.b4, l.b5, l.b6⟩
def LL.ms (l : LL) : List LM := [l.q, l.k, l.v, l.o, l.g, l.u, l.d]
set_option maxHeartbeats 16000000 in
set_option maxRecDepth 10000 in
theorem twin_fn (x : LW) (hc : x.C.may) : FC Tryd.prog 50 [.agg ⟨x.cells⟩] [] (fun h => sidesK h ∧ lwAt h x)
    (fun v L => ∃ x' : LW, v = .agg ⟨x'.cells⟩ ∧ x'.w = x.w ∧ OwnW x' L) := by
  refine FC.sub2 ?_
  refine FC.intro Tryd.func50 rfl (by kernel_rfl) 82 [.cell 2 31] rfl rfl rfl ?_
  rintro w0 ⟨hS, hA⟩
  have hL := hA.l.locRaw
  have hLa := hL.at_
  have hLb := hL.bytes
  have hM := hA.m.locRaw
  have hMa := hM.at_
  have hMb := hM.bytes
  have hT := hA.t
  have hTa := hT.at_
  have hTb := hT.bytes
  (repeat (first | (with_reducible apply XL.op) | (with_reducible apply XC.seq) | (with_reducible apply XC.region (Γ := Γ))))
  ((with_reducible apply XOp.box); (case hg | hx' => exact rfl); intro wb)
  (repeat ((with_reducible apply XL.op)))
  ((with_reducible apply XOp.alloc); (case hg | ht | hx' => exact rfl); intro rb)
  (repeat (first | (with_reducible apply XL.nilT) | (with_reducible apply XC.seq)))
  refine XC.cut (fun ρ L => ∃ (xb : Nat) (e' : LM) (t' : LA (Int × Int)) (f' : LV) (h' : LM) (F1 F2 F3 F4 : HL), e'.mat = x.E.mat ∧ t'.1 = x.T.1 ∧ f'.1 = x.F.1 ∧ h'.mat = x.H.mat ∧ OwnV e'.d F1 ∧ OwnS 70 2 (.slice t'.2.1 x.T.1.length t'.2.2) x.T.1.length (x.T.1.flatMap turnV) F2 ∧ OwnV f' F3 ∧ OwnV h'.d F4 ∧
    L = [(xb, Obj.cells ⟨cpC x e' t' (.slice none 0 0) f' h' (.slice none 0 0)⟩ 31 (0, 0)), (rb, Obj.cells ⟨zeroW⟩ 31 (0, 0)), (wb, Obj.cells ⟨x.cells⟩ 31 (0, 0))] ++ (((F1 ++ F2) ++ F3) ++ F4) ∧ Slots ρ [(1, .pointer (some ⟨wb, 0, none⟩)), (2, .pointer (some ⟨rb, 0, none⟩)), (3, .pointer (some ⟨xb, 0, none⟩))]) _ ?_ ?_
  · ((with_reducible apply XC.regionL (Γ := Γ) mixed (.q 0 (.q 1 (.q 2 (.q 3 (.q 5 (.q 6 (.q 8 (.q 9 (.q 11 (.q 12 (.b [(4, .b [(7, .b [(10, .b [(13, .q 14 (.e 15 (.e 16 (.done)))), (15, .e 13 (.q 14 (.e 16 (.done))))]), (15, .e 10 (.e 13 (.q 14 (.e 16 (.done)))))]), (15, .e 7 (.e 10 (.e 13 (.q 14 (.e 16 (.done))))))]), (15, .e 4 (.e 7 (.e 10 (.e 13 (.q 14 (.e 16 (.done)))))))]))))))))))) [] ([(wb, Obj.cells ⟨x.cells⟩ 31 (0, 0))])); (case hc => kernel_rfl); (case hs => first | exact List.nil_sublist _ | exact List.Sublist.refl _ | exact List.sublist_append_right _ _ | (refine List.Sublist.cons_cons _ (List.nil_sublist _)) | (refine List.Sublist.cons_cons _ (List.Sublist.cons_cons _ (List.nil_sublist _))) | (refine List.Sublist.cons_cons _ (List.Sublist.cons_cons _ (List.Sublist.cons_cons _ (List.nil_sublist _)))) | (refine List.Sublist.cons_cons _ (List.Sublist.cons_cons _ (List.Sublist.cons_cons _ (List.Sublist.cons_cons _ (List.nil_sublist _))))) | ((try simp only [List.append_eq, List.cons_append, List.nil_append, List.append_assoc]); (repeat (first | exact List.Sublist.refl _ | exact List.nil_sublist _ | (with_reducible apply List.Sublist.cons_cons) | (with_reducible apply List.Sublist.cons))); done)))
    (repeat (first | ((with_reducible apply XP.p1); (case ho | hg | hv => exact rfl)) | ((with_reducible apply XP.load); (case ho | hg | ht | hk | hx => exact rfl); (case hc => exact own_cell (i := 0) rfl rfl)) | ((with_reducible apply XP.loadO (j := 0)); (case ho | hg | ht | hk | hx | hi | hc => exact rfl)) | (with_reducible apply XP.b) | (with_reducible apply XB.cons) | ((with_reducible apply XE.e); (case ho => exact rfl))))
    · ((with_reducible apply XOp.callN (hF := mtx_fn x.E)); (case hg => exact rfl); (case hc => exact rfl); (case ha => exact rfl); try (case hA => exact Known.true))
      case hA => exact Known.of_old hA.e (lm_mono _)
      rintro _ F1 ⟨e', rfl, he, hF1⟩
      (repeat (first | ((with_reducible apply XP.keep); (case hk => first | ((repeat' (first | exact List.forall_mem_nil _ | (with_reducible refine List.forall_mem_cons.2 ⟨?_, ?_⟩) | exact List.mem_cons_self .. | (with_reducible apply List.mem_cons_of_mem) | (with_reducible apply List.mem_append_right))); done) | (intro x hx; first | exact sel_in hx | exact List.mem_cons_of_mem _ (sel_in hx) | exact List.mem_append_right _ (sel_in hx) | exact hx | exact List.mem_cons_of_mem _ hx | exact List.mem_append_right _ hx | ((repeat (first | exact sel_in hx | exact hx | (with_reducible apply List.mem_cons_of_mem) | (with_reducible apply List.mem_append_right))); done) | (rw [List.mem_singleton.1 hx]; (simp; done)) | (rcases List.mem_cons.1 hx with rfl | hx; (simp; done); (rw [List.mem_singleton.1 hx]; (simp; done))) | cases hx))) | (with_reducible apply XP.b) | (with_reducible apply XB.cons) | ((with_reducible apply XE.e); (case ho => exact rfl))))
      skip
      · ((with_reducible apply XOp.appendG); (case hg => exact rfl); (case ht => exact rfl); (case hk => exact rfl); (case he => exact rfl); (case hs => exact rfl); (case hx => exact rfl); (case hown => exact OwnS.nil _ _); (case hL => rfl); (case ha => exact hTa); (case hc => exact fun _ => Known.of_old (rows_flat turnV 2 (fun _ => rfl) x.T.1 (aoff x.T.2.1) fun i y hi => hT.rawAt hi) (Mono.row _ _ _)); (case hl => exact flat_len turnV 2 (fun _ => rfl) x.T.1); (case h1 => exact List.all_eq_true.2 fun v hv => by obtain ⟨y, _, hy⟩ := List.mem_flatMap.1 hv; exact turn_one y v hy); (case hz => exact rfl); (case hsz => exact Nat.zero_lt_succ _); (case h63 => simp only [maxLen]; omega); (case hb => simp only []; omega))
        intro tv F2 ht
        have ht0 := ht.conv (Nat.zero_add _) (List.nil_append _)
        obtain ⟨ta, tc, rfl⟩ := ht0.val
        (repeat (first | ((with_reducible apply XP.keep); (case hk => first | ((repeat' (first | exact List.forall_mem_nil _ | (with_reducible refine List.forall_mem_cons.2 ⟨?_, ?_⟩) | exact List.mem_cons_self .. | (with_reducible apply List.mem_cons_of_mem) | (with_reducible apply List.mem_append_right))); done) | (intro x hx; first | exact sel_in hx | exact List.mem_cons_of_mem _ (sel_in hx) | exact List.mem_append_right _ (sel_in hx) | exact hx | exact List.mem_cons_of_mem _ hx | exact List.mem_append_right _ hx | ((repeat (first | exact sel_in hx | exact hx | (with_reducible apply List.mem_cons_of_mem) | (with_reducible apply List.mem_append_right))); done) | (rw [List.mem_singleton.1 hx]; (simp; done)) | (rcases List.mem_cons.1 hx with rfl | hx; (simp; done); (rw [List.mem_singleton.1 hx]; (simp; done))) | cases hx))) | (with_reducible apply XP.b) | (with_reducible apply XB.cons) | ((with_reducible apply XE.e); (case ho => exact rfl))))
        skip
        · (refine (show XOp _ _ _ _ _ _ _ _ (F2 ++ ([(rb, Obj.cells ⟨zeroW⟩ 31 (0, 0)), (wb, Obj.cells ⟨x.cells⟩ 31 (0, 0))] ++ F1)) from XOp.perm (L' :=  [(rb, Obj.cells ⟨zeroW⟩ 31 (0, 0)), (wb, Obj.cells ⟨x.cells⟩ 31 (0, 0))] ++ (F1 ++ F2)) rfl ?_ (by (first | (with_reducible exact List.Perm.refl _) | refine perm_of_cnt fun p_ => ?_; simp only [List.countP_append, List.countP_cons, List.countP_nil]; omega))))
          ((with_reducible apply XOp.callN (hF := nar_fn x.F)); (case hg => exact rfl); (case hc => exact rfl); (case ha => exact rfl); try (case hA => exact Known.true))
          case hA => exact Known.of_old hA.f (lv_mono _)
          rintro _ F3 ⟨f', rfl, hf, hF3⟩
          (repeat (first | ((with_reducible apply XP.keep); (case hk => first | ((repeat' (first | exact List.forall_mem_nil _ | (with_reducible refine List.forall_mem_cons.2 ⟨?_, ?_⟩) | exact List.mem_cons_self .. | (with_reducible apply List.mem_cons_of_mem) | (with_reducible apply List.mem_append_right))); done) | (intro x hx; first | exact sel_in hx | exact List.mem_cons_of_mem _ (sel_in hx) | exact List.mem_append_right _ (sel_in hx) | exact hx | exact List.mem_cons_of_mem _ hx | exact List.mem_append_right _ hx | ((repeat (first | exact sel_in hx | exact hx | (with_reducible apply List.mem_cons_of_mem) | (with_reducible apply List.mem_append_right))); done) | (rw [List.mem_singleton.1 hx]; (simp; done)) | (rcases List.mem_cons.1 hx with rfl | hx; (simp; done); (rw [List.mem_singleton.1 hx]; (simp; done))) | cases hx))) | (with_reducible apply XP.b) | (with_reducible apply XB.cons) | ((with_reducible apply XE.e); (case ho => exact rfl))))
          skip
          · ((with_reducible apply XOp.callN (hF := mtx_fn x.H)); (case hg => exact rfl); (case hc => exact rfl); (case ha => exact rfl); try (case hA => exact Known.true))
            case hA => exact Known.of_old hA.hd (lm_mono _)
            rintro _ F4 ⟨h', rfl, hh', hF4⟩
            (repeat (first | ((with_reducible apply XP.pr); (case ho => exact rfl); (case hg => exact rfl); (case hr => ((with_reducible apply PR.build); (case ht | hk | hok | hz | hf => exact rfl)))) | ((with_reducible apply XP.e); (first | ((with_reducible apply XE.d); (case ho => exact rfl); (case hd => exact rfl)) | ((with_reducible apply XE.e); (case ho => exact rfl)))) | ((with_reducible apply XP.keep); (case hk => first | ((repeat' (first | exact List.forall_mem_nil _ | (with_reducible refine List.forall_mem_cons.2 ⟨?_, ?_⟩) | exact List.mem_cons_self .. | (with_reducible apply List.mem_cons_of_mem) | (with_reducible apply List.mem_append_right))); done) | (intro x hx; first | exact sel_in hx | exact List.mem_cons_of_mem _ (sel_in hx) | exact List.mem_append_right _ (sel_in hx) | exact hx | exact List.mem_cons_of_mem _ hx | exact List.mem_append_right _ hx | ((repeat (first | exact sel_in hx | exact hx | (with_reducible apply List.mem_cons_of_mem) | (with_reducible apply List.mem_append_right))); done) | (rw [List.mem_singleton.1 hx]; (simp; done)) | (rcases List.mem_cons.1 hx with rfl | hx; (simp; done); (rw [List.mem_singleton.1 hx]; (simp; done))) | cases hx)))))
            skip
            ((with_reducible apply XOp.alloc); (case hg | ht | hx' => exact rfl); intro xb)
            (repeat (first | ((with_reducible apply XOp.storeN (i := 0)); (case hg | ht | hx | hv' | hk | h1 | hi | hs | ha => exact rfl)) | (with_reducible apply XQ.nt) | (with_reducible apply XP.done) | ((with_reducible apply XP.e); (first | ((with_reducible apply XE.d); (case ho => exact rfl); (case hd => exact rfl)) | ((with_reducible apply XE.e); (case ho => exact rfl)))) | ((with_reducible apply XP.keep); (case hk => first | ((repeat' (first | exact List.forall_mem_nil _ | (with_reducible refine List.forall_mem_cons.2 ⟨?_, ?_⟩) | exact List.mem_cons_self .. | (with_reducible apply List.mem_cons_of_mem) | (with_reducible apply List.mem_append_right))); done) | (intro x hx; first | exact sel_in hx | exact List.mem_cons_of_mem _ (sel_in hx) | exact List.mem_append_right _ (sel_in hx) | exact hx | exact List.mem_cons_of_mem _ hx | exact List.mem_append_right _ hx | ((repeat (first | exact sel_in hx | exact hx | (with_reducible apply List.mem_cons_of_mem) | (with_reducible apply List.mem_append_right))); done) | (rw [List.mem_singleton.1 hx]; (simp; done)) | (rcases List.mem_cons.1 hx with rfl | hx; (simp; done); (rw [List.mem_singleton.1 hx]; (simp; done))) | cases hx)))))
            skip
            exact ⟨xb, e', (x.T.1, ta, tc), f', h', F1, F2, F3, F4, he, rfl, hf, hh', hF1, ht0, hF3, hF4, rfl, rfl, rfl, rfl, trivial⟩
          · (repeat (first | (with_reducible apply XB.cons) | ((with_reducible apply XE.e); (case ho => exact rfl))))
            ((with_reducible apply XOp.alloc); (case hg | ht | hx' => exact rfl); intro xb)
            (repeat (first | ((with_reducible apply XP.e); (first | ((with_reducible apply XE.d); (case ho => exact rfl); (case hd => exact rfl)) | ((with_reducible apply XE.e); (case ho => exact rfl)))) | ((with_reducible apply XP.keep); (case hk => first | ((repeat' (first | exact List.forall_mem_nil _ | (with_reducible refine List.forall_mem_cons.2 ⟨?_, ?_⟩) | exact List.mem_cons_self .. | (with_reducible apply List.mem_cons_of_mem) | (with_reducible apply List.mem_append_right))); done) | (intro x hx; first | exact sel_in hx | exact List.mem_cons_of_mem _ (sel_in hx) | exact List.mem_append_right _ (sel_in hx) | exact hx | exact List.mem_cons_of_mem _ hx | exact List.mem_append_right _ hx | ((repeat (first | exact sel_in hx | exact hx | (with_reducible apply List.mem_cons_of_mem) | (with_reducible apply List.mem_append_right))); done) | (rw [List.mem_singleton.1 hx]; (simp; done)) | (rcases List.mem_cons.1 hx with rfl | hx; (simp; done); (rw [List.mem_singleton.1 hx]; (simp; done))) | cases hx)))))
            skip
            ((with_reducible apply XOp.callN (hF := mtx_fn x.H)); (case hg => exact rfl); (case hc => exact rfl); (case ha => exact rfl); try (case hA => exact Known.true))
            case hA => exact Known.of_old hA.hd (lm_mono _)
            rintro _ F4 ⟨h', rfl, hh', hF4⟩
            (repeat (first | ((with_reducible apply XOp.storeN (i := 0)); (case hg | ht | hx | hv' | hk | h1 | hi | hs | ha => exact rfl)) | (with_reducible apply XQ.nt) | ((with_reducible apply XP.pr); (case ho => exact rfl); (case hg => exact rfl); (case hr => ((with_reducible apply PR.build); (case ht | hk | hok | hz | hf => exact rfl)))) | (with_reducible apply XP.done) | ((with_reducible apply XP.e); (first | ((with_reducible apply XE.d); (case ho => exact rfl); (case hd => exact rfl)) | ((with_reducible apply XE.e); (case ho => exact rfl)))) | ((with_reducible apply XP.keep); (case hk => first | ((repeat' (first | exact List.forall_mem_nil _ | (with_reducible refine List.forall_mem_cons.2 ⟨?_, ?_⟩) | exact List.mem_cons_self .. | (with_reducible apply List.mem_cons_of_mem) | (with_reducible apply List.mem_append_right))); done) | (intro x hx; first | exact sel_in hx | exact List.mem_cons_of_mem _ (sel_in hx) | exact List.mem_append_right _ (sel_in hx) | exact hx | exact List.mem_cons_of_mem _ hx | exact List.mem_append_right _ hx | ((repeat (first | exact sel_in hx | exact hx | (with_reducible apply List.mem_cons_of_mem) | (with_reducible apply List.mem_append_right))); done) | (rw [List.mem_singleton.1 hx]; (simp; done)) | (rcases List.mem_cons.1 hx with rfl | hx; (simp; done); (rw [List.mem_singleton.1 hx]; (simp; done))) | cases hx)))))
            skip
            exact ⟨xb, e', (x.T.1, ta, tc), f', h', F1, F2, F3, F4, he, rfl, hf, hh', hF1, ht0, hF3, hF4, rfl, rfl, rfl, rfl, trivial⟩
            exact XB.nil
        · (repeat (first | (with_reducible apply XB.cons) | ((with_reducible apply XE.e); (case ho => exact rfl))))
          ((with_reducible apply XOp.alloc); (case hg | ht | hx' => exact rfl); intro xb)
          (repeat (first | ((with_reducible apply XP.e); (first | ((with_reducible apply XE.d); (case ho => exact rfl); (case hd => exact rfl)) | ((with_reducible apply XE.e); (case ho => exact rfl)))) | ((with_reducible apply XP.keep); (case hk => first | ((repeat' (first | exact List.forall_mem_nil _ | (with_reducible refine List.forall_mem_cons.2 ⟨?_, ?_⟩) | exact List.mem_cons_self .. | (with_reducible apply List.mem_cons_of_mem) | (with_reducible apply List.mem_append_right))); done) | (intro x hx; first | exact sel_in hx | exact List.mem_cons_of_mem _ (sel_in hx) | exact List.mem_append_right _ (sel_in hx) | exact hx | exact List.mem_cons_of_mem _ hx | exact List.mem_append_right _ hx | ((repeat (first | exact sel_in hx | exact hx | (with_reducible apply List.mem_cons_of_mem) | (with_reducible apply List.mem_append_right))); done) | (rw [List.mem_singleton.1 hx]; (simp; done)) | (rcases List.mem_cons.1 hx with rfl | hx; (simp; done); (rw [List.mem_singleton.1 hx]; (simp; done))) | cases hx)))))
          skip
          (refine (show XOp _ _ _ _ _ _ _ _ ((xb, Obj.cells ⟨zeroW⟩ 31 (0, 0)) :: (F2 ++ ([(rb, Obj.cells ⟨zeroW⟩ 31 (0, 0)), (wb, Obj.cells ⟨x.cells⟩ 31 (0, 0))] ++ F1))) from XOp.perm (L' :=  [(xb, Obj.cells ⟨zeroW⟩ 31 (0, 0)), (rb, Obj.cells ⟨zeroW⟩ 31 (0, 0)), (wb, Obj.cells ⟨x.cells⟩ 31 (0, 0))] ++ (F1 ++ F2)) rfl ?_ (by (first | (with_reducible exact List.Perm.refl _) | refine perm_of_cnt fun p_ => ?_; simp only [List.countP_append, List.countP_cons, List.countP_nil]; omega))))
          ((with_reducible apply XOp.callN (hF := nar_fn x.F)); (case hg => exact rfl); (case hc => exact rfl); (case ha => exact rfl); try (case hA => exact Known.true))
          case hA => exact Known.of_old hA.f (lv_mono _)
          rintro _ F3 ⟨f', rfl, hf, hF3⟩
          (repeat (first | ((with_reducible apply XP.e); (first | ((with_reducible apply XE.d); (case ho => exact rfl); (case hd => exact rfl)) | ((with_reducible apply XE.e); (case ho => exact rfl)))) | ((with_reducible apply XP.keep); (case hk => first | ((repeat' (first | exact List.forall_mem_nil _ | (with_reducible refine List.forall_mem_cons.2 ⟨?_, ?_⟩) | exact List.mem_cons_self .. | (with_reducible apply List.mem_cons_of_mem) | (with_reducible apply List.mem_append_right))); done) | (intro x hx; first | exact sel_in hx | exact List.mem_cons_of_mem _ (sel_in hx) | exact List.mem_append_right _ (sel_in hx) | exact hx | exact List.mem_cons_of_mem _ hx | exact List.mem_append_right _ hx | ((repeat (first | exact sel_in hx | exact hx | (with_reducible apply List.mem_cons_of_mem) | (with_reducible apply List.mem_append_right))); done) | (rw [List.mem_singleton.1 hx]; (simp; done)) | (rcases List.mem_cons.1 hx with rfl | hx; (simp; done); (rw [List.mem_singleton.1 hx]; (simp; done))) | cases hx)))))
          skip
          ((with_reducible apply XOp.callN (hF := mtx_fn x.H)); (case hg => exact rfl); (case hc => exact rfl); (case ha => exact rfl); try (case hA => exact Known.true))
          case hA => exact Known.of_old hA.hd (lm_mono _)
          rintro _ F4 ⟨h', rfl, hh', hF4⟩
          (repeat (first | ((with_reducible apply XOp.storeN (i := 0)); (case hg | ht | hx | hv' | hk | h1 | hi | hs | ha => exact rfl)) | (with_reducible apply XQ.nt) | ((with_reducible apply XP.pr); (case ho => exact rfl); (case hg => exact rfl); (case hr => ((with_reducible apply PR.build); (case ht | hk | hok | hz | hf => exact rfl)))) | (with_reducible apply XP.done) | ((with_reducible apply XP.e); (first | ((with_reducible apply XE.d); (case ho => exact rfl); (case hd => exact rfl)) | ((with_reducible apply XE.e); (case ho => exact rfl)))) | ((with_reducible apply XP.keep); (case hk => first | ((repeat' (first | exact List.forall_mem_nil _ | (with_reducible refine List.forall_mem_cons.2 ⟨?_, ?_⟩) | exact List.mem_cons_self .. | (with_reducible apply List.mem_cons_of_mem) | (with_reducible apply List.mem_append_right))); done) | (intro x hx; first | exact sel_in hx | exact List.mem_cons_of_mem _ (sel_in hx) | exact List.mem_append_right _ (sel_in hx) | exact hx | exact List.mem_cons_of_mem _ hx | exact List.mem_append_right _ hx | ((repeat (first | exact sel_in hx | exact hx | (with_reducible apply List.mem_cons_of_mem) | (with_reducible apply List.mem_append_right))); done) | (rw [List.mem_singleton.1 hx]; (simp; done)) | (rcases List.mem_cons.1 hx with rfl | hx; (simp; done); (rw [List.mem_singleton.1 hx]; (simp; done))) | cases hx)))))
          skip
          exact ⟨xb, e', (x.T.1, ta, tc), f', h', F1, F2, F3, F4, he, rfl, hf, hh', hF1, ht0, hF3, hF4, rfl, rfl, rfl, rfl, trivial⟩
          exact XB.nil
      · (repeat (first | (with_reducible apply XB.cons) | ((with_reducible apply XE.e); (case ho => exact rfl))))
        ((with_reducible apply XOp.alloc); (case hg | ht | hx' => exact rfl); intro xb)
        (repeat (first | ((with_reducible apply XP.e); (first | ((with_reducible apply XE.d); (case ho => exact rfl); (case hd => exact rfl)) | ((with_reducible apply XE.e); (case ho => exact rfl)))) | ((with_reducible apply XP.keep); (case hk => first | ((repeat' (first | exact List.forall_mem_nil _ | (with_reducible refine List.forall_mem_cons.2 ⟨?_, ?_⟩) | exact List.mem_cons_self .. | (with_reducible apply List.mem_cons_of_mem) | (with_reducible apply List.mem_append_right))); done) | (intro x hx; first | exact sel_in hx | exact List.mem_cons_of_mem _ (sel_in hx) | exact List.mem_append_right _ (sel_in hx) | exact hx | exact List.mem_cons_of_mem _ hx | exact List.mem_append_right _ hx | ((repeat (first | exact sel_in hx | exact hx | (with_reducible apply List.mem_cons_of_mem) | (with_reducible apply List.mem_append_right))); done) | (rw [List.mem_singleton.1 hx]; (simp; done)) | (rcases List.mem_cons.1 hx with rfl | hx; (simp; done); (rw [List.mem_singleton.1 hx]; (simp; done))) | cases hx)))))
        skip
        ((with_reducible apply XOp.appendG); (case hg => exact rfl); (case ht => exact rfl); (case hk => exact rfl); (case he => exact rfl); (case hs => exact rfl); (case hx => exact rfl); (case hown => exact OwnS.nil _ _); (case hL => rfl); (case ha => exact hTa); (case hc => exact fun _ => Known.of_old (rows_flat turnV 2 (fun _ => rfl) x.T.1 (aoff x.T.2.1) fun i y hi => hT.rawAt hi) (Mono.row _ _ _)); (case hl => exact flat_len turnV 2 (fun _ => rfl) x.T.1); (case h1 => exact List.all_eq_true.2 fun v hv => by obtain ⟨y, _, hy⟩ := List.mem_flatMap.1 hv; exact turn_one y v hy); (case hz => exact rfl); (case hsz => exact Nat.zero_lt_succ _); (case h63 => simp only [maxLen]; omega); (case hb => simp only []; omega))
        intro tv F2 ht
        have ht0 := ht.conv (Nat.zero_add _) (List.nil_append _)
        obtain ⟨ta, tc, rfl⟩ := ht0.val
        (repeat (first | ((with_reducible apply XP.e); (first | ((with_reducible apply XE.d); (case ho => exact rfl); (case hd => exact rfl)) | ((with_reducible apply XE.e); (case ho => exact rfl)))) | ((with_reducible apply XP.keep); (case hk => first | ((repeat' (first | exact List.forall_mem_nil _ | (with_reducible refine List.forall_mem_cons.2 ⟨?_, ?_⟩) | exact List.mem_cons_self .. | (with_reducible apply List.mem_cons_of_mem) | (with_reducible apply List.mem_append_right))); done) | (intro x hx; first | exact sel_in hx | exact List.mem_cons_of_mem _ (sel_in hx) | exact List.mem_append_right _ (sel_in hx) | exact hx | exact List.mem_cons_of_mem _ hx | exact List.mem_append_right _ hx | ((repeat (first | exact sel_in hx | exact hx | (with_reducible apply List.mem_cons_of_mem) | (with_reducible apply List.mem_append_right))); done) | (rw [List.mem_singleton.1 hx]; (simp; done)) | (rcases List.mem_cons.1 hx with rfl | hx; (simp; done); (rw [List.mem_singleton.1 hx]; (simp; done))) | cases hx)))))
        skip
        (refine (show XOp _ _ _ _ _ _ _ _ (F2 ++ ([(xb, Obj.cells ⟨zeroW⟩ 31 (0, 0)), (rb, Obj.cells ⟨zeroW⟩ 31 (0, 0)), (wb, Obj.cells ⟨x.cells⟩ 31 (0, 0))] ++ F1)) from XOp.perm (L' :=  [(xb, Obj.cells ⟨zeroW⟩ 31 (0, 0)), (rb, Obj.cells ⟨zeroW⟩ 31 (0, 0)), (wb, Obj.cells ⟨x.cells⟩ 31 (0, 0))] ++ (F1 ++ F2)) rfl ?_ (by (first | (with_reducible exact List.Perm.refl _) | refine perm_of_cnt fun p_ => ?_; simp only [List.countP_append, List.countP_cons, List.countP_nil]; omega))))
        ((with_reducible apply XOp.callN (hF := nar_fn x.F)); (case hg => exact rfl); (case hc => exact rfl); (case ha => exact rfl); try (case hA => exact Known.true))
        case hA => exact Known.of_old hA.f (lv_mono _)
        rintro _ F3 ⟨f', rfl, hf, hF3⟩
        (repeat (first | ((with_reducible apply XP.e); (first | ((with_reducible apply XE.d); (case ho => exact rfl); (case hd => exact rfl)) | ((with_reducible apply XE.e); (case ho => exact rfl)))) | ((with_reducible apply XP.keep); (case hk => first | ((repeat' (first | exact List.forall_mem_nil _ | (with_reducible refine List.forall_mem_cons.2 ⟨?_, ?_⟩) | exact List.mem_cons_self .. | (with_reducible apply List.mem_cons_of_mem) | (with_reducible apply List.mem_append_right))); done) | (intro x hx; first | exact sel_in hx | exact List.mem_cons_of_mem _ (sel_in hx) | exact List.mem_append_right _ (sel_in hx) | exact hx | exact List.mem_cons_of_mem _ hx | exact List.mem_append_right _ hx | ((repeat (first | exact sel_in hx | exact hx | (with_reducible apply List.mem_cons_of_mem) | (with_reducible apply List.mem_append_right))); done) | (rw [List.mem_singleton.1 hx]; (simp; done)) | (rcases List.mem_cons.1 hx with rfl | hx; (simp; done); (rw [List.mem_singleton.1 hx]; (simp; done))) | cases hx)))))
        skip
        ((with_reducible apply XOp.callN (hF := mtx_fn x.H)); (case hg => exact rfl); (case hc => exact rfl); (case ha => exact rfl); try (case hA => exact Known.true))
        case hA => exact Known.of_old hA.hd (lm_mono _)
        rintro _ F4 ⟨h', rfl, hh', hF4⟩
        (repeat (first | ((with_reducible apply XOp.storeN (i := 0)); (case hg | ht | hx | hv' | hk | h1 | hi | hs | ha => exact rfl)) | (with_reducible apply XQ.nt) | ((with_reducible apply XP.pr); (case ho => exact rfl); (case hg => exact rfl); (case hr => ((with_reducible apply PR.build); (case ht | hk | hok | hz | hf => exact rfl)))) | (with_reducible apply XP.done) | ((with_reducible apply XP.e); (first | ((with_reducible apply XE.d); (case ho => exact rfl); (case hd => exact rfl)) | ((with_reducible apply XE.e); (case ho => exact rfl)))) | ((with_reducible apply XP.keep); (case hk => first | ((repeat' (first | exact List.forall_mem_nil _ | (with_reducible refine List.forall_mem_cons.2 ⟨?_, ?_⟩) | exact List.mem_cons_self .. | (with_reducible apply List.mem_cons_of_mem) | (with_reducible apply List.mem_append_right))); done) | (intro x hx; first | exact sel_in hx | exact List.mem_cons_of_mem _ (sel_in hx) | exact List.mem_append_right _ (sel_in hx) | exact hx | exact List.mem_cons_of_mem _ hx | exact List.mem_append_right _ hx | ((repeat (first | exact sel_in hx | exact hx | (with_reducible apply List.mem_cons_of_mem) | (with_reducible apply List.mem_append_right))); done) | (rw [List.mem_singleton.1 hx]; (simp; done)) | (rcases List.mem_cons.1 hx with rfl | hx; (simp; done); (rw [List.mem_singleton.1 hx]; (simp; done))) | cases hx)))))
        skip
        exact ⟨xb, e', (x.T.1, ta, tc), f', h', F1, F2, F3, F4, he, rfl, hf, hh', hF1, ht0, hF3, hF4, rfl, rfl, rfl, rfl, trivial⟩
        exact XB.nil
    · (repeat (first | (with_reducible apply XB.cons) | ((with_reducible apply XE.e); (case ho => exact rfl))))
      ((with_reducible apply XOp.alloc); (case hg | ht | hx' => exact rfl); intro xb)
      (repeat (first | ((with_reducible apply XP.e); (first | ((with_reducible apply XE.d); (case ho => exact rfl); (case hd => exact rfl)) | ((with_reducible apply XE.e); (case ho => exact rfl)))) | ((with_reducible apply XP.keep); (case hk => first | ((repeat' (first | exact List.forall_mem_nil _ | (with_reducible refine List.forall_mem_cons.2 ⟨?_, ?_⟩) | exact List.mem_cons_self .. | (with_reducible apply List.mem_cons_of_mem) | (with_reducible apply List.mem_append_right))); done) | (intro x hx; first | exact sel_in hx | exact List.mem_cons_of_mem _ (sel_in hx) | exact List.mem_append_right _ (sel_in hx) | exact hx | exact List.mem_cons_of_mem _ hx | exact List.mem_append_right _ hx | ((repeat (first | exact sel_in hx | exact hx | (with_reducible apply List.mem_cons_of_mem) | (with_reducible apply List.mem_append_right))); done) | (rw [List.mem_singleton.1 hx]; (simp; done)) | (rcases List.mem_cons.1 hx with rfl | hx; (simp; done); (rw [List.mem_singleton.1 hx]; (simp; done))) | cases hx)))))
      skip
      ((with_reducible apply XOp.callN (hF := mtx_fn x.E)); (case hg => exact rfl); (case hc => exact rfl); (case ha => exact rfl); try (case hA => exact Known.true))
      case hA => exact Known.of_old hA.e (lm_mono _)
      rintro _ F1 ⟨e', rfl, he, hF1⟩
      (repeat (first | ((with_reducible apply XP.e); (first | ((with_reducible apply XE.d); (case ho => exact rfl); (case hd => exact rfl)) | ((with_reducible apply XE.e); (case ho => exact rfl)))) | ((with_reducible apply XP.keep); (case hk => first | ((repeat' (first | exact List.forall_mem_nil _ | (with_reducible refine List.forall_mem_cons.2 ⟨?_, ?_⟩) | exact List.mem_cons_self .. | (with_reducible apply List.mem_cons_of_mem) | (with_reducible apply List.mem_append_right))); done) | (intro x hx; first | exact sel_in hx | exact List.mem_cons_of_mem _ (sel_in hx) | exact List.mem_append_right _ (sel_in hx) | exact hx | exact List.mem_cons_of_mem _ hx | exact List.mem_append_right _ hx | ((repeat (first | exact sel_in hx | exact hx | (with_reducible apply List.mem_cons_of_mem) | (with_reducible apply List.mem_append_right))); done) | (rw [List.mem_singleton.1 hx]; (simp; done)) | (rcases List.mem_cons.1 hx with rfl | hx; (simp; done); (rw [List.mem_singleton.1 hx]; (simp; done))) | cases hx)))))
      skip
      ((with_reducible apply XOp.appendG); (case hg => exact rfl); (case ht => exact rfl); (case hk => exact rfl); (case he => exact rfl); (case hs => exact rfl); (case hx => exact rfl); (case hown => exact OwnS.nil _ _); (case hL => rfl); (case ha => exact hTa); (case hc => exact fun _ => Known.of_old (rows_flat turnV 2 (fun _ => rfl) x.T.1 (aoff x.T.2.1) fun i y hi => hT.rawAt hi) (Mono.row _ _ _)); (case hl => exact flat_len turnV 2 (fun _ => rfl) x.T.1); (case h1 => exact List.all_eq_true.2 fun v hv => by obtain ⟨y, _, hy⟩ := List.mem_flatMap.1 hv; exact turn_one y v hy); (case hz => exact rfl); (case hsz => exact Nat.zero_lt_succ _); (case h63 => simp only [maxLen]; omega); (case hb => simp only []; omega))
      intro tv F2 ht
      have ht0 := ht.conv (Nat.zero_add _) (List.nil_append _)
      obtain ⟨ta, tc, rfl⟩ := ht0.val
      (repeat (first | ((with_reducible apply XP.e); (first | ((with_reducible apply XE.d); (case ho => exact rfl); (case hd => exact rfl)) | ((with_reducible apply XE.e); (case ho => exact rfl)))) | ((with_reducible apply XP.keep); (case hk => first | ((repeat' (first | exact List.forall_mem_nil _ | (with_reducible refine List.forall_mem_cons.2 ⟨?_, ?_⟩) | exact List.mem_cons_self .. | (with_reducible apply List.mem_cons_of_mem) | (with_reducible apply List.mem_append_right))); done) | (intro x hx; first | exact sel_in hx | exact List.mem_cons_of_mem _ (sel_in hx) | exact List.mem_append_right _ (sel_in hx) | exact hx | exact List.mem_cons_of_mem _ hx | exact List.mem_append_right _ hx | ((repeat (first | exact sel_in hx | exact hx | (with_reducible apply List.mem_cons_of_mem) | (with_reducible apply List.mem_append_right))); done) | (rw [List.mem_singleton.1 hx]; (simp; done)) | (rcases List.mem_cons.1 hx with rfl | hx; (simp; done); (rw [List.mem_singleton.1 hx]; (simp; done))) | cases hx)))))
      skip
      (refine (show XOp _ _ _ _ _ _ _ _ (F2 ++ ([(xb, Obj.cells ⟨zeroW⟩ 31 (0, 0)), (rb, Obj.cells ⟨zeroW⟩ 31 (0, 0)), (wb, Obj.cells ⟨x.cells⟩ 31 (0, 0))] ++ F1)) from XOp.perm (L' :=  [(xb, Obj.cells ⟨zeroW⟩ 31 (0, 0)), (rb, Obj.cells ⟨zeroW⟩ 31 (0, 0)), (wb, Obj.cells ⟨x.cells⟩ 31 (0, 0))] ++ (F1 ++ F2)) rfl ?_ (by (first | (with_reducible exact List.Perm.refl _) | refine perm_of_cnt fun p_ => ?_; simp only [List.countP_append, List.countP_cons, List.countP_nil]; omega))))
      ((with_reducible apply XOp.callN (hF := nar_fn x.F)); (case hg => exact rfl); (case hc => exact rfl); (case ha => exact rfl); try (case hA => exact Known.true))
      case hA => exact Known.of_old hA.f (lv_mono _)
      rintro _ F3 ⟨f', rfl, hf, hF3⟩
      (repeat (first | ((with_reducible apply XP.e); (first | ((with_reducible apply XE.d); (case ho => exact rfl); (case hd => exact rfl)) | ((with_reducible apply XE.e); (case ho => exact rfl)))) | ((with_reducible apply XP.keep); (case hk => first | ((repeat' (first | exact List.forall_mem_nil _ | (with_reducible refine List.forall_mem_cons.2 ⟨?_, ?_⟩) | exact List.mem_cons_self .. | (with_reducible apply List.mem_cons_of_mem) | (with_reducible apply List.mem_append_right))); done) | (intro x hx; first | exact sel_in hx | exact List.mem_cons_of_mem _ (sel_in hx) | exact List.mem_append_right _ (sel_in hx) | exact hx | exact List.mem_cons_of_mem _ hx | exact List.mem_append_right _ hx | ((repeat (first | exact sel_in hx | exact hx | (with_reducible apply List.mem_cons_of_mem) | (with_reducible apply List.mem_append_right))); done) | (rw [List.mem_singleton.1 hx]; (simp; done)) | (rcases List.mem_cons.1 hx with rfl | hx; (simp; done); (rw [List.mem_singleton.1 hx]; (simp; done))) | cases hx)))))
      skip
      ((with_reducible apply XOp.callN (hF := mtx_fn x.H)); (case hg => exact rfl); (case hc => exact rfl); (case ha => exact rfl); try (case hA => exact Known.true))
      case hA => exact Known.of_old hA.hd (lm_mono _)
      rintro _ F4 ⟨h', rfl, hh', hF4⟩
      (repeat (first | ((with_reducible apply XOp.storeN (i := 0)); (case hg | ht | hx | hv' | hk | h1 | hi | hs | ha => exact rfl)) | (with_reducible apply XQ.nt) | ((with_reducible apply XP.pr); (case ho => exact rfl); (case hg => exact rfl); (case hr => ((with_reducible apply PR.build); (case ht | hk | hok | hz | hf => exact rfl)))) | (with_reducible apply XP.done) | ((with_reducible apply XP.e); (first | ((with_reducible apply XE.d); (case ho => exact rfl); (case hd => exact rfl)) | ((with_reducible apply XE.e); (case ho => exact rfl)))) | ((with_reducible apply XP.keep); (case hk => first | ((repeat' (first | exact List.forall_mem_nil _ | (with_reducible refine List.forall_mem_cons.2 ⟨?_, ?_⟩) | exact List.mem_cons_self .. | (with_reducible apply List.mem_cons_of_mem) | (with_reducible apply List.mem_append_right))); done) | (intro x hx; first | exact sel_in hx | exact List.mem_cons_of_mem _ (sel_in hx) | exact List.mem_append_right _ (sel_in hx) | exact hx | exact List.mem_cons_of_mem _ hx | exact List.mem_append_right _ hx | ((repeat (first | exact sel_in hx | exact hx | (with_reducible apply List.mem_cons_of_mem) | (with_reducible apply List.mem_append_right))); done) | (rw [List.mem_singleton.1 hx]; (simp; done)) | (rcases List.mem_cons.1 hx with rfl | hx; (simp; done); (rw [List.mem_singleton.1 hx]; (simp; done))) | cases hx)))))
      skip
      exact ⟨xb, e', (x.T.1, ta, tc), f', h', F1, F2, F3, F4, he, rfl, hf, hh', hF1, ht0, hF3, hF4, rfl, rfl, rfl, rfl, trivial⟩
      exact XB.nil
  rintro ρ L ⟨xb, e', t', f', h', F1, F2, F3, F4, he, ht, hf, hh', hF1, hF2, hF3, hF4, rfl, hs⟩
  refine XC.slots _ hs ?_
  clear hs
  (repeat (first | (with_reducible apply XL.op) | ((with_reducible apply XOp.p1); (case hg | hv => exact rfl)) | ((with_reducible apply XOp.load); (case hg | ht | hk | hx => exact rfl); (case hc => exact own_cell (i := 2) rfl rfl)) | (with_reducible apply XL.nilT) | (with_reducible apply XC.seq) | (with_reducible apply XC.region (Γ := Γ)) | (with_reducible apply XC.block)))
  refine XC.loopP (fun k ρ L => ∃ (i : Nat) (v : Value) (A : List LL) (G Fv : HL), i + k = x.Ls.1.length ∧ OwnS 67 30 v i (A.flatMap LL.cells) Fv ∧ A.map LL.lay = (x.Ls.1.take i).map LL.lay ∧ OwnAll (A.flatMap LL.nl) G ∧ L = ([(xb, Obj.cells ⟨cpC x e' t' v f' h' (.slice none 0 0)⟩ 31 (0, 0)), (rb, Obj.cells ⟨zeroW⟩ 31 (0, 0)), (wb, Obj.cells ⟨x.cells⟩ 31 (0, 0))] ++ ((((F1 ++ F2) ++ F3) ++ F4) ++ G)) ++ Fv ∧ Slots ρ [(1, .pointer (some ⟨wb, 0, none⟩)), (2, .pointer (some ⟨rb, 0, none⟩)), (3, .pointer (some ⟨xb, 0, none⟩)), (26, sla x.Ls), (27, .int .i64 x.Ls.1.length), (28, .int .i64 i)])
    x.Ls.1.length ⟨0, _, [], [], [], by simp, OwnS.nil _ _, by simp, rfl, by simp only [List.append_nil], rfl, rfl, rfl, rfl, rfl, rfl, trivial⟩ ?_
  rintro k ρ L ⟨i, v, A, G, Fv, hik, hown, hAl, hG, rfl, hs⟩
  obtain ⟨a', c', rfl⟩ := hown.val
  refine XC.slots _ hs ?_
  (repeat (first | (with_reducible apply XL.op) | ((with_reducible apply XOp.p1); (case hg | hv => exact rfl)) | (with_reducible apply XL.nilT) | (with_reducible apply XC.seq) | (with_reducible apply XC.region (Γ := Γ))))
  ((with_reducible apply XC.cond); (case hc => exact rfl); all_goals (intro hb_; try simp only [pd_true, pd_false, Bool.not_eq_true', Bool.not_eq_false', Bool.and_eq_true, Bool.and_eq_false_iff, Bool.or_eq_true, Bool.or_eq_false_iff, not_true_eq_false, not_false_eq_true, Int.not_lt, Int.not_le] at hb_))
  · obtain ⟨l, hi⟩ : ∃ l, x.Ls.1[i]? = some l := ⟨_, List.getElem?_eq_getElem (by omega)⟩
    have hl := hA.l.locAt (List.mem_of_getElem? hi)
    (repeat (first | (with_reducible apply XL.op) | ((with_reducible apply XOp.pr); (case hg => exact rfl); (case hr => ((with_reducible apply PR.idxA); (case ht | hk | he | hx | hi => exact rfl); (case hr => first | assumption | omega); (case ha => first | assumption | exact SlA.at_ (by assumption))))) | (with_reducible apply XC.seq) | (with_reducible apply XC.region (Γ := Γ)) | (with_reducible apply XQ.skip) | (with_reducible apply XQ.nt) | (with_reducible apply XC.block) | (first | ((with_reducible apply XOp.loadN); (case hg | ht | hk | hx => exact rfl); (case hc => exact Known.of_old (hL.rawAt hi) (Mono.row _ _ _)); (case hl => exact rfl)) | ((with_reducible apply XP.loadN); (case ho | hg | ht | hk | hx => exact rfl); (case hc => exact Known.of_old (hL.rawAt hi) (Mono.row _ _ _)); (case hl => exact rfl)))))
    ((with_reducible apply XOp.alloc); (case hg | ht | hx' => exact rfl); intro lb)
    (repeat (first | (with_reducible apply XL.op) | ((with_reducible apply XOp.storeN (i := 0)); (case hg | ht | hx | hv' | hk | h1 | hi | hs | ha => exact rfl)) | (with_reducible apply XL.nilT) | (with_reducible apply XC.seq)))
    ((with_reducible apply XC.regionL (Γ := Γ) mixed (.q 0 (.q 1 (.q 3 (.q 4 (.e 2 (.e 5 (.q 6 (.e 7 (.e 8 (.e 9 (.done))))))))))) [7, 8, 9] ([(lb, Obj.cells ⟨l.cells⟩ 67 (0, 0))])); (case hc => kernel_rfl); (case hs => first | exact List.nil_sublist _ | exact List.Sublist.refl _ | exact List.sublist_append_right _ _ | (refine List.Sublist.cons_cons _ (List.nil_sublist _)) | (refine List.Sublist.cons_cons _ (List.Sublist.cons_cons _ (List.nil_sublist _))) | (refine List.Sublist.cons_cons _ (List.Sublist.cons_cons _ (List.Sublist.cons_cons _ (List.nil_sublist _)))) | (refine List.Sublist.cons_cons _ (List.Sublist.cons_cons _ (List.Sublist.cons_cons _ (List.Sublist.cons_cons _ (List.nil_sublist _))))) | ((try simp only [List.append_eq, List.cons_append, List.nil_append, List.append_assoc]); (repeat (first | exact List.Sublist.refl _ | exact List.nil_sublist _ | (with_reducible apply List.Sublist.cons_cons) | (with_reducible apply List.Sublist.cons))); done)))
    (repeat (first | ((with_reducible apply XP.p1); (case ho | hg | hv => exact rfl)) | ((with_reducible apply XP.load); (case ho | hg | ht | hk | hx => exact rfl); (case hc => exact own_cell (i := 0) rfl rfl)) | ((with_reducible apply XP.e); (first | ((with_reducible apply XE.d); (case ho => exact rfl); (case hd => exact rfl)) | ((with_reducible apply XE.e); (case ho => exact rfl))))))
    ((with_reducible apply XOp.callN (hF := nar_fn l.n1)); (case hg => exact rfl); (case hc => exact rfl); (case ha => exact rfl); try (case hA => exact Known.true))
    case hA => exact Known.of_old hl.n1 (lv_mono _)
    rintro _ Fa ⟨n1', rfl, hn1, hFa⟩
    (repeat (first | ((with_reducible apply XP.e); (first | ((with_reducible apply XE.d); (case ho => exact rfl); (case hd => exact rfl)) | ((with_reducible apply XE.e); (case ho => exact rfl)))) | ((with_reducible apply XP.keep); (case hk => first | ((repeat' (first | exact List.forall_mem_nil _ | (with_reducible refine List.forall_mem_cons.2 ⟨?_, ?_⟩) | exact List.mem_cons_self .. | (with_reducible apply List.mem_cons_of_mem) | (with_reducible apply List.mem_append_right))); done) | (intro x hx; first | exact sel_in hx | exact List.mem_cons_of_mem _ (sel_in hx) | exact List.mem_append_right _ (sel_in hx) | exact hx | exact List.mem_cons_of_mem _ hx | exact List.mem_append_right _ hx | ((repeat (first | exact sel_in hx | exact hx | (with_reducible apply List.mem_cons_of_mem) | (with_reducible apply List.mem_append_right))); done) | (rw [List.mem_singleton.1 hx]; (simp; done)) | (rcases List.mem_cons.1 hx with rfl | hx; (simp; done); (rw [List.mem_singleton.1 hx]; (simp; done))) | cases hx)))))
    ((with_reducible apply XOp.callN (hF := nar_fn l.n2)); (case hg => exact rfl); (case hc => exact rfl); (case ha => exact rfl); try (case hA => exact Known.true))
    case hA => exact Known.of_old hl.n2 (lv_mono _)
    rintro _ Fb ⟨n2', rfl, hn2, hFb⟩
    (repeat (first | (with_reducible apply XL.op) | ((with_reducible apply XOp.p1); (case hg | hv => exact rfl)) | ((with_reducible apply XOp.loadO (i := 3)); (case hg | ht | hk | hx | hi | hc => exact rfl)) | ((with_reducible apply XOp.store (i := 0)); (case hg | ht | hk | hx | hv | h1 | hi | hs | ha => exact rfl)) | (with_reducible apply XC.seq) | (with_reducible apply XC.region (Γ := Γ)) | (with_reducible apply XQ.nt) | ((with_reducible apply XP.p1); (case ho | hg | hv => exact rfl)) | (with_reducible apply XP.done) | ((with_reducible apply XP.e); (first | ((with_reducible apply XE.d); (case ho => exact rfl); (case hd => exact rfl)) | ((with_reducible apply XE.e); (case ho => exact rfl)))) | ((with_reducible apply XP.keep); (case hk => first | ((repeat' (first | exact List.forall_mem_nil _ | (with_reducible refine List.forall_mem_cons.2 ⟨?_, ?_⟩) | exact List.mem_cons_self .. | (with_reducible apply List.mem_cons_of_mem) | (with_reducible apply List.mem_append_right))); done) | (intro x hx; first | exact sel_in hx | exact List.mem_cons_of_mem _ (sel_in hx) | exact List.mem_append_right _ (sel_in hx) | exact hx | exact List.mem_cons_of_mem _ hx | exact List.mem_append_right _ hx | ((repeat (first | exact sel_in hx | exact hx | (with_reducible apply List.mem_cons_of_mem) | (with_reducible apply List.mem_append_right))); done) | (rw [List.mem_singleton.1 hx]; (simp; done)) | (rcases List.mem_cons.1 hx with rfl | hx; (simp; done); (rw [List.mem_singleton.1 hx]; (simp; done))) | cases hx)))))
    ((with_reducible apply XOp.call (hF := shapes_fn x.C hc)); (case hg => exact rfl); (case hc => exact rfl); (case ha => exact rfl); (case hL => exact (List.nil_append _).symm); try (case hA => exact Known.true))
    case hA => exact Known.of_old hS sides_mono
    rintro _ _ ⟨sb, rfl, rfl⟩
    (repeat (first | (with_reducible apply XL.op) | ((with_reducible apply XOp.p1); (case hg | hv => exact rfl)) | (with_reducible apply XL.nilT) | (with_reducible apply XC.block)))
    refine XC.loopP (fun k ρ L => ∃ (j : Nat) (D : List LM) (J : HL), j + k = 7 ∧ D.length = j ∧ D.map LM.mat = (l.ms.take j).map LM.mat ∧ OwnAll (D.map (·.d)) J ∧ L = [(sb, Obj.cells ⟨shC x.C 7⟩ 80 (0, 0)), (lb, Obj.cells ⟨(mkT l n1' n2' D).cells⟩ 67 (0, 0)), (xb, Obj.cells ⟨cpC x e' t' (.slice a' i c') f' h' (.slice none 0 0)⟩ 31 (0, 0)), (rb, Obj.cells ⟨zeroW⟩ 31 (0, 0)), (wb, Obj.cells ⟨x.cells⟩ 31 (0, 0))] ++ ((((((((F1 ++ F2) ++ F3) ++ F4) ++ G) ++ Fv) ++ Fa) ++ Fb) ++ J) ∧ Slots ρ [(1, .pointer (some ⟨wb, 0, none⟩)), (2, .pointer (some ⟨rb, 0, none⟩)), (3, .pointer (some ⟨xb, 0, none⟩)), (5, .pointer (some ⟨lb, 0, none⟩)), (26, sla x.Ls), (27, .int .i64 x.Ls.1.length), (28, .int .i64 i), (42, .slice (some ⟨sb, 0, none⟩) 7 7), (43, .int .i64 7), (44, .int .i64 j)])
      7 ⟨0, [], [], by simp, rfl, rfl, rfl, by rw [List.append_nil]; rfl, rfl, rfl, rfl, rfl, rfl, rfl, rfl, rfl, rfl, rfl, trivial⟩ ?_
    rintro k_ ρ L ⟨j, D, J, hjk, hDl, hD, hJ, rfl, hs⟩
    refine XC.slots _ hs ?_
    (repeat (first | (with_reducible apply XL.op) | ((with_reducible apply XOp.p1); (case hg | hv => exact rfl)) | (with_reducible apply XL.nilT) | (with_reducible apply XC.seq) | (with_reducible apply XC.region (Γ := Γ))))
    ((with_reducible apply XC.cond); (case hc => exact rfl); all_goals (intro hb_; try simp only [pd_true, pd_false, Bool.not_eq_true', Bool.not_eq_false', Bool.and_eq_true, Bool.and_eq_false_iff, Bool.or_eq_true, Bool.or_eq_false_iff, not_true_eq_false, not_false_eq_true, Int.not_lt, Int.not_le] at hb_))
    · rcases (by omega : j = 0 ∨ j = 1 ∨ j = 2 ∨ j = 3 ∨ j = 4 ∨ j = 5 ∨ j = 6) with rfl | rfl | rfl | rfl | rfl | rfl | rfl
      · obtain rfl := List.eq_nil_of_length_eq_zero hDl
        (repeat (first | (with_reducible apply XL.op) | ((with_reducible apply XOp.p1); (case hg | hv => exact rfl)) | ((with_reducible apply XOp.loadO (i := 0)); (case hg | ht | hk | hx | hi | hc => exact rfl)) | (with_reducible apply XC.seq) | (with_reducible apply XC.region (Γ := Γ)) | (with_reducible apply XQ.skip) | (with_reducible apply XQ.nt) | (with_reducible apply XC.block)))
        ((with_reducible apply XOp.alloc); (case hg | ht | hx' => exact rfl); intro zb)
        (repeat (first | (with_reducible apply XL.op) | ((with_reducible apply XOp.storeN (i := 0)); (case hg | ht | hx | hv' | hk | h1 | hi | hs | ha => exact rfl)) | (with_reducible apply XL.nilT)))
        ((with_reducible apply XC.regionL (Γ := Γ) mixed (.q 0 (.q 1 (.q 3 (.q 4 (.e 2 (.e 5 (.q 6 (.q 7 (.e 8 (.q 9 (.e 10 (.done)))))))))))) [10] ([(zb, Obj.cells ⟨[.func (.func 71) #[] #[], zf 7 0 (measS x.C 0), zf 7 0 (measS x.C 0)]⟩ 80 (0, 0)), (lb, Obj.cells ⟨(mkT l n1' n2' []).cells⟩ 67 (0, 0))])); (case hc => kernel_rfl); (case hs => first | exact List.nil_sublist _ | exact List.Sublist.refl _ | exact List.sublist_append_right _ _ | (refine List.Sublist.cons_cons _ (List.nil_sublist _)) | (refine List.Sublist.cons_cons _ (List.Sublist.cons_cons _ (List.nil_sublist _))) | (refine List.Sublist.cons_cons _ (List.Sublist.cons_cons _ (List.Sublist.cons_cons _ (List.nil_sublist _)))) | (refine List.Sublist.cons_cons _ (List.Sublist.cons_cons _ (List.Sublist.cons_cons _ (List.Sublist.cons_cons _ (List.nil_sublist _))))) | ((try simp only [List.append_eq, List.cons_append, List.nil_append, List.append_assoc]); (repeat (first | exact List.Sublist.refl _ | exact List.nil_sublist _ | (with_reducible apply List.Sublist.cons_cons) | (with_reducible apply List.Sublist.cons))); done)))
        (repeat (first | ((with_reducible apply XP.p1); (case ho | hg | hv => exact rfl)) | ((with_reducible apply XP.load); (case ho | hg | ht | hk | hx => exact rfl); (case hc => exact own_cell (i := 0) rfl rfl)) | ((with_reducible apply XP.loadO (j := 1)); (case ho | hg | ht | hk | hx | hi | hc => exact rfl)) | ((with_reducible apply XP.e); (first | ((with_reducible apply XE.d); (case ho => exact rfl); (case hd => exact rfl)) | ((with_reducible apply XE.e); (case ho => exact rfl)))) | (((with_reducible apply XOp.callQ (hF := shape1_fn lb 0)); (case hg => exact rfl); (case hc => exact rfl); (case ha => exact rfl); try (case hA => exact Known.true)); rintro _ rfl) | ((with_reducible apply XP.keep); (case hk => (intro y hy; rcases List.mem_cons.1 hy with h_ | h_; (rw [h_]; exact List.mem_cons_self ..); (rw [List.mem_singleton.1 h_]; exact List.mem_cons_of_mem _ (List.mem_append_left _ (List.mem_cons_of_mem _ (List.mem_cons_self ..)))))))))
        ((with_reducible apply XOp.callN (hF := mtx_fn l.q)); (case hg => exact rfl); (case hc => exact rfl); (case ha => exact rfl); try (case hA => exact Known.true))
        case hA => exact Known.of_old hl.q (lm_mono _)
        rintro _ F' ⟨m', rfl, hm, hF'⟩
        refine ⟨fun y hy => List.mem_append_left F' (by rcases List.mem_cons.1 hy with h_ | h_; (rw [h_]; exact List.mem_cons_self ..); (rw [List.mem_singleton.1 h_]; exact List.mem_cons_of_mem _ (List.mem_append_left _ (List.mem_cons_of_mem _ (List.mem_cons_self ..))))), ?_⟩
        (repeat (first | (with_reducible apply XL.op) | ((with_reducible apply XOp.p1); (case hg | hv => exact rfl)) | ((with_reducible apply XOp.storeN (i := 2)); (case hg | ht | hx | hv' | hk | h1 | hi | hs | ha => exact rfl)) | (with_reducible apply XL.nilT) | (with_reducible apply XC.region (Γ := Γ)) | (with_reducible apply XQ.nt) | (with_reducible apply XQ.nb) | ((with_reducible apply XP.p1); (case ho | hg | hv => exact rfl)) | (with_reducible apply XP.done) | ((with_reducible apply XP.e); (first | ((with_reducible apply XE.d); (case ho => exact rfl); (case hd => exact rfl)) | ((with_reducible apply XE.e); (case ho => exact rfl))))))
        exact ⟨k_ - 1, by omega, _, .of (List.sublist_cons_self _ _), 1, [m'], J ++ F', by omega, rfl, (by rw [show [m'] = [] ++ [m'] from rfl, List.map_append, hD, List.map_singleton, hm]; rfl), (by rw [show [m'] = [] ++ [m'] from rfl, List.map_append]; exact hJ.app hF'.all), congrArg (fun z : HL => _ :: (_ :: (_ :: (_ :: (_ :: z))))) (List.append_assoc (((((((F1 ++ F2) ++ F3) ++ F4) ++ G) ++ Fv) ++ Fa) ++ Fb) J F'), rfl, rfl, rfl, rfl, rfl, rfl, rfl, rfl, rfl, intS2 (i := 0) (m := 7) (by omega) (by omega), trivial⟩
      · obtain ⟨d0, rfl⟩ := len1 hDl
        (repeat (first | (with_reducible apply XL.op) | ((with_reducible apply XOp.p1); (case hg | hv => exact rfl)) | ((with_reducible apply XOp.loadO (i := 0)); (case hg | ht | hk | hx | hi | hc => exact rfl)) | (with_reducible apply XC.seq) | (with_reducible apply XC.region (Γ := Γ)) | (with_reducible apply XQ.skip) | (with_reducible apply XQ.nt) | (with_reducible apply XC.block)))
        ((with_reducible apply XOp.alloc); (case hg | ht | hx' => exact rfl); intro zb)
        (repeat (first | (with_reducible apply XL.op) | ((with_reducible apply XOp.storeN (i := 0)); (case hg | ht | hx | hv' | hk | h1 | hi | hs | ha => exact rfl)) | (with_reducible apply XL.nilT)))
        ((with_reducible apply XC.regionL (Γ := Γ) mixed (.q 0 (.q 1 (.q 3 (.q 4 (.e 2 (.e 5 (.q 6 (.q 7 (.e 8 (.q 9 (.e 10 (.done)))))))))))) [10] ([(zb, Obj.cells ⟨[.func (.func 72) #[] #[], zf 7 1 (measS x.C 1), zf 7 1 (measS x.C 0)]⟩ 80 (0, 0)), (lb, Obj.cells ⟨(mkT l n1' n2' [d0]).cells⟩ 67 (0, 0))])); (case hc => kernel_rfl); (case hs => first | exact List.nil_sublist _ | exact List.Sublist.refl _ | exact List.sublist_append_right _ _ | (refine List.Sublist.cons_cons _ (List.nil_sublist _)) | (refine List.Sublist.cons_cons _ (List.Sublist.cons_cons _ (List.nil_sublist _))) | (refine List.Sublist.cons_cons _ (List.Sublist.cons_cons _ (List.Sublist.cons_cons _ (List.nil_sublist _)))) | (refine List.Sublist.cons_cons _ (List.Sublist.cons_cons _ (List.Sublist.cons_cons _ (List.Sublist.cons_cons _ (List.nil_sublist _))))) | ((try simp only [List.append_eq, List.cons_append, List.nil_append, List.append_assoc]); (repeat (first | exact List.Sublist.refl _ | exact List.nil_sublist _ | (with_reducible apply List.Sublist.cons_cons) | (with_reducible apply List.Sublist.cons))); done)))
        (repeat (first | ((with_reducible apply XP.p1); (case ho | hg | hv => exact rfl)) | ((with_reducible apply XP.load); (case ho | hg | ht | hk | hx => exact rfl); (case hc => exact own_cell (i := 0) rfl rfl)) | ((with_reducible apply XP.loadO (j := 1)); (case ho | hg | ht | hk | hx | hi | hc => exact rfl)) | ((with_reducible apply XP.e); (first | ((with_reducible apply XE.d); (case ho => exact rfl); (case hd => exact rfl)) | ((with_reducible apply XE.e); (case ho => exact rfl)))) | (((with_reducible apply XOp.callQ (hF := shape2_fn lb 0)); (case hg => exact rfl); (case hc => exact rfl); (case ha => exact rfl); try (case hA => exact Known.true)); rintro _ rfl) | ((with_reducible apply XP.keep); (case hk => (intro y hy; rcases List.mem_cons.1 hy with h_ | h_; (rw [h_]; exact List.mem_cons_self ..); (rw [List.mem_singleton.1 h_]; exact List.mem_cons_of_mem _ (List.mem_append_left _ (List.mem_cons_of_mem _ (List.mem_cons_self ..)))))))))
        ((with_reducible apply XOp.callN (hF := mtx_fn l.k)); (case hg => exact rfl); (case hc => exact rfl); (case ha => exact rfl); try (case hA => exact Known.true))
        case hA => exact Known.of_old hl.k (lm_mono _)
        rintro _ F' ⟨m', rfl, hm, hF'⟩
        refine ⟨fun y hy => List.mem_append_left F' (by rcases List.mem_cons.1 hy with h_ | h_; (rw [h_]; exact List.mem_cons_self ..); (rw [List.mem_singleton.1 h_]; exact List.mem_cons_of_mem _ (List.mem_append_left _ (List.mem_cons_of_mem _ (List.mem_cons_self ..))))), ?_⟩
        (repeat (first | (with_reducible apply XL.op) | ((with_reducible apply XOp.p1); (case hg | hv => exact rfl)) | ((with_reducible apply XOp.storeN (i := 2)); (case hg | ht | hx | hv' | hk | h1 | hi | hs | ha => exact rfl)) | (with_reducible apply XL.nilT) | (with_reducible apply XC.region (Γ := Γ)) | (with_reducible apply XQ.nt) | (with_reducible apply XQ.nb) | ((with_reducible apply XP.p1); (case ho | hg | hv => exact rfl)) | (with_reducible apply XP.done) | ((with_reducible apply XP.e); (first | ((with_reducible apply XE.d); (case ho => exact rfl); (case hd => exact rfl)) | ((with_reducible apply XE.e); (case ho => exact rfl))))))
        exact ⟨k_ - 1, by omega, _, .of (List.sublist_cons_self _ _), 2, [d0, m'], J ++ F', by omega, rfl, (by rw [show [d0, m'] = [d0] ++ [m'] from rfl, List.map_append, hD, List.map_singleton, hm]; rfl), (by rw [show [d0, m'] = [d0] ++ [m'] from rfl, List.map_append]; exact hJ.app hF'.all), congrArg (fun z : HL => _ :: (_ :: (_ :: (_ :: (_ :: z))))) (List.append_assoc (((((((F1 ++ F2) ++ F3) ++ F4) ++ G) ++ Fv) ++ Fa) ++ Fb) J F'), rfl, rfl, rfl, rfl, rfl, rfl, rfl, rfl, rfl, intS2 (i := 1) (m := 7) (by omega) (by omega), trivial⟩
      · obtain ⟨d0, d1, rfl⟩ := len2 hDl
        (repeat (first | (with_reducible apply XL.op) | ((with_reducible apply XOp.p1); (case hg | hv => exact rfl)) | ((with_reducible apply XOp.loadO (i := 0)); (case hg | ht | hk | hx | hi | hc => exact rfl)) | (with_reducible apply XC.seq) | (with_reducible apply XC.region (Γ := Γ)) | (with_reducible apply XQ.skip) | (with_reducible apply XQ.nt) | (with_reducible apply XC.block)))
        ((with_reducible apply XOp.alloc); (case hg | ht | hx' => exact rfl); intro zb)
        (repeat (first | (with_reducible apply XL.op) | ((with_reducible apply XOp.storeN (i := 0)); (case hg | ht | hx | hv' | hk | h1 | hi | hs | ha => exact rfl)) | (with_reducible apply XL.nilT)))
        ((with_reducible apply XC.regionL (Γ := Γ) mixed (.q 0 (.q 1 (.q 3 (.q 4 (.e 2 (.e 5 (.q 6 (.q 7 (.e 8 (.q 9 (.e 10 (.done)))))))))))) [10] ([(zb, Obj.cells ⟨[.func (.func 73) #[] #[], zf 7 2 (measS x.C 1), zf 7 2 (measS x.C 0)]⟩ 80 (0, 0)), (lb, Obj.cells ⟨(mkT l n1' n2' [d0, d1]).cells⟩ 67 (0, 0))])); (case hc => kernel_rfl); (case hs => first | exact List.nil_sublist _ | exact List.Sublist.refl _ | exact List.sublist_append_right _ _ | (refine List.Sublist.cons_cons _ (List.nil_sublist _)) | (refine List.Sublist.cons_cons _ (List.Sublist.cons_cons _ (List.nil_sublist _))) | (refine List.Sublist.cons_cons _ (List.Sublist.cons_cons _ (List.Sublist.cons_cons _ (List.nil_sublist _)))) | (refine List.Sublist.cons_cons _ (List.Sublist.cons_cons _ (List.Sublist.cons_cons _ (List.Sublist.cons_cons _ (List.nil_sublist _))))) | ((try simp only [List.append_eq, List.cons_append, List.nil_append, List.append_assoc]); (repeat (first | exact List.Sublist.refl _ | exact List.nil_sublist _ | (with_reducible apply List.Sublist.cons_cons) | (with_reducible apply List.Sublist.cons))); done)))
        (repeat (first | ((with_reducible apply XP.p1); (case ho | hg | hv => exact rfl)) | ((with_reducible apply XP.load); (case ho | hg | ht | hk | hx => exact rfl); (case hc => exact own_cell (i := 0) rfl rfl)) | ((with_reducible apply XP.loadO (j := 1)); (case ho | hg | ht | hk | hx | hi | hc => exact rfl)) | ((with_reducible apply XP.e); (first | ((with_reducible apply XE.d); (case ho => exact rfl); (case hd => exact rfl)) | ((with_reducible apply XE.e); (case ho => exact rfl)))) | (((with_reducible apply XOp.callQ (hF := shape3_fn lb 0)); (case hg => exact rfl); (case hc => exact rfl); (case ha => exact rfl); try (case hA => exact Known.true)); rintro _ rfl) | ((with_reducible apply XP.keep); (case hk => (intro y hy; rcases List.mem_cons.1 hy with h_ | h_; (rw [h_]; exact List.mem_cons_self ..); (rw [List.mem_singleton.1 h_]; exact List.mem_cons_of_mem _ (List.mem_append_left _ (List.mem_cons_of_mem _ (List.mem_cons_self ..)))))))))
        ((with_reducible apply XOp.callN (hF := mtx_fn l.v)); (case hg => exact rfl); (case hc => exact rfl); (case ha => exact rfl); try (case hA => exact Known.true))
        case hA => exact Known.of_old hl.v (lm_mono _)
        rintro _ F' ⟨m', rfl, hm, hF'⟩
        refine ⟨fun y hy => List.mem_append_left F' (by rcases List.mem_cons.1 hy with h_ | h_; (rw [h_]; exact List.mem_cons_self ..); (rw [List.mem_singleton.1 h_]; exact List.mem_cons_of_mem _ (List.mem_append_left _ (List.mem_cons_of_mem _ (List.mem_cons_self ..))))), ?_⟩
        (repeat (first | (with_reducible apply XL.op) | ((with_reducible apply XOp.p1); (case hg | hv => exact rfl)) | ((with_reducible apply XOp.storeN (i := 2)); (case hg | ht | hx | hv' | hk | h1 | hi | hs | ha => exact rfl)) | (with_reducible apply XL.nilT) | (with_reducible apply XC.region (Γ := Γ)) | (with_reducible apply XQ.nt) | (with_reducible apply XQ.nb) | ((with_reducible apply XP.p1); (case ho | hg | hv => exact rfl)) | (with_reducible apply XP.done) | ((with_reducible apply XP.e); (first | ((with_reducible apply XE.d); (case ho => exact rfl); (case hd => exact rfl)) | ((with_reducible apply XE.e); (case ho => exact rfl))))))
        exact ⟨k_ - 1, by omega, _, .of (List.sublist_cons_self _ _), 3, [d0, d1, m'], J ++ F', by omega, rfl, (by rw [show [d0, d1, m'] = [d0, d1] ++ [m'] from rfl, List.map_append, hD, List.map_singleton, hm]; rfl), (by rw [show [d0, d1, m'] = [d0, d1] ++ [m'] from rfl, List.map_append]; exact hJ.app hF'.all), congrArg (fun z : HL => _ :: (_ :: (_ :: (_ :: (_ :: z))))) (List.append_assoc (((((((F1 ++ F2) ++ F3) ++ F4) ++ G) ++ Fv) ++ Fa) ++ Fb) J F'), rfl, rfl, rfl, rfl, rfl, rfl, rfl, rfl, rfl, intS2 (i := 2) (m := 7) (by omega) (by omega), trivial⟩
      · obtain ⟨d0, d1, d2, rfl⟩ := len3 hDl
        (repeat (first | (with_reducible apply XL.op) | ((with_reducible apply XOp.p1); (case hg | hv => exact rfl)) | ((with_reducible apply XOp.loadO (i := 0)); (case hg | ht | hk | hx | hi | hc => exact rfl)) | (with_reducible apply XC.seq) | (with_reducible apply XC.region (Γ := Γ)) | (with_reducible apply XQ.skip) | (with_reducible apply XQ.nt) | (with_reducible apply XC.block)))
        ((with_reducible apply XOp.alloc); (case hg | ht | hx' => exact rfl); intro zb)
        (repeat (first | (with_reducible apply XL.op) | ((with_reducible apply XOp.storeN (i := 0)); (case hg | ht | hx | hv' | hk | h1 | hi | hs | ha => exact rfl)) | (with_reducible apply XL.nilT)))
        ((with_reducible apply XC.regionL (Γ := Γ) mixed (.q 0 (.q 1 (.q 3 (.q 4 (.e 2 (.e 5 (.q 6 (.q 7 (.e 8 (.q 9 (.e 10 (.done)))))))))))) [10] ([(zb, Obj.cells ⟨[.func (.func 74) #[] #[], zf 7 3 (measS x.C 0), zf 7 3 (measS x.C 0)]⟩ 80 (0, 0)), (lb, Obj.cells ⟨(mkT l n1' n2' [d0, d1, d2]).cells⟩ 67 (0, 0))])); (case hc => kernel_rfl); (case hs => first | exact List.nil_sublist _ | exact List.Sublist.refl _ | exact List.sublist_append_right _ _ | (refine List.Sublist.cons_cons _ (List.nil_sublist _)) | (refine List.Sublist.cons_cons _ (List.Sublist.cons_cons _ (List.nil_sublist _))) | (refine List.Sublist.cons_cons _ (List.Sublist.cons_cons _ (List.Sublist.cons_cons _ (List.nil_sublist _)))) | (refine List.Sublist.cons_cons _ (List.Sublist.cons_cons _ (List.Sublist.cons_cons _ (List.Sublist.cons_cons _ (List.nil_sublist _))))) | ((try simp only [List.append_eq, List.cons_append, List.nil_append, List.append_assoc]); (repeat (first | exact List.Sublist.refl _ | exact List.nil_sublist _ | (with_reducible apply List.Sublist.cons_cons) | (with_reducible apply List.Sublist.cons))); done)))
        (repeat (first | ((with_reducible apply XP.p1); (case ho | hg | hv => exact rfl)) | ((with_reducible apply XP.load); (case ho | hg | ht | hk | hx => exact rfl); (case hc => exact own_cell (i := 0) rfl rfl)) | ((with_reducible apply XP.loadO (j := 1)); (case ho | hg | ht | hk | hx | hi | hc => exact rfl)) | ((with_reducible apply XP.e); (first | ((with_reducible apply XE.d); (case ho => exact rfl); (case hd => exact rfl)) | ((with_reducible apply XE.e); (case ho => exact rfl)))) | (((with_reducible apply XOp.callQ (hF := shape4_fn lb 0)); (case hg => exact rfl); (case hc => exact rfl); (case ha => exact rfl); try (case hA => exact Known.true)); rintro _ rfl) | ((with_reducible apply XP.keep); (case hk => (intro y hy; rcases List.mem_cons.1 hy with h_ | h_; (rw [h_]; exact List.mem_cons_self ..); (rw [List.mem_singleton.1 h_]; exact List.mem_cons_of_mem _ (List.mem_append_left _ (List.mem_cons_of_mem _ (List.mem_cons_self ..)))))))))
        ((with_reducible apply XOp.callN (hF := mtx_fn l.o)); (case hg => exact rfl); (case hc => exact rfl); (case ha => exact rfl); try (case hA => exact Known.true))
        case hA => exact Known.of_old hl.o (lm_mono _)
        rintro _ F' ⟨m', rfl, hm, hF'⟩
        refine ⟨fun y hy => List.mem_append_left F' (by rcases List.mem_cons.1 hy with h_ | h_; (rw [h_]; exact List.mem_cons_self ..); (rw [List.mem_singleton.1 h_]; exact List.mem_cons_of_mem _ (List.mem_append_left _ (List.mem_cons_of_mem _ (List.mem_cons_self ..))))), ?_⟩
        (repeat (first | (with_reducible apply XL.op) | ((with_reducible apply XOp.p1); (case hg | hv => exact rfl)) | ((with_reducible apply XOp.storeN (i := 2)); (case hg | ht | hx | hv' | hk | h1 | hi | hs | ha => exact rfl)) | (with_reducible apply XL.nilT) | (with_reducible apply XC.region (Γ := Γ)) | (with_reducible apply XQ.nt) | (with_reducible apply XQ.nb) | ((with_reducible apply XP.p1); (case ho | hg | hv => exact rfl)) | (with_reducible apply XP.done) | ((with_reducible apply XP.e); (first | ((with_reducible apply XE.d); (case ho => exact rfl); (case hd => exact rfl)) | ((with_reducible apply XE.e); (case ho => exact rfl))))))
        exact ⟨k_ - 1, by omega, _, .of (List.sublist_cons_self _ _), 4, [d0, d1, d2, m'], J ++ F', by omega, rfl, (by rw [show [d0, d1, d2, m'] = [d0, d1, d2] ++ [m'] from rfl, List.map_append, hD, List.map_singleton, hm]; rfl), (by rw [show [d0, d1, d2, m'] = [d0, d1, d2] ++ [m'] from rfl, List.map_append]; exact hJ.app hF'.all), congrArg (fun z : HL => _ :: (_ :: (_ :: (_ :: (_ :: z))))) (List.append_assoc (((((((F1 ++ F2) ++ F3) ++ F4) ++ G) ++ Fv) ++ Fa) ++ Fb) J F'), rfl, rfl, rfl, rfl, rfl, rfl, rfl, rfl, rfl, intS2 (i := 3) (m := 7) (by omega) (by omega), trivial⟩
      · obtain ⟨d0, d1, d2, d3, rfl⟩ := len4 hDl
        (repeat (first | (with_reducible apply XL.op) | ((with_reducible apply XOp.p1); (case hg | hv => exact rfl)) | ((with_reducible apply XOp.loadO (i := 0)); (case hg | ht | hk | hx | hi | hc => exact rfl)) | (with_reducible apply XC.seq) | (with_reducible apply XC.region (Γ := Γ)) | (with_reducible apply XQ.skip) | (with_reducible apply XQ.nt) | (with_reducible apply XC.block)))
        ((with_reducible apply XOp.alloc); (case hg | ht | hx' => exact rfl); intro zb)
        (repeat (first | (with_reducible apply XL.op) | ((with_reducible apply XOp.storeN (i := 0)); (case hg | ht | hx | hv' | hk | h1 | hi | hs | ha => exact rfl)) | (with_reducible apply XL.nilT)))
        ((with_reducible apply XC.regionL (Γ := Γ) mixed (.q 0 (.q 1 (.q 3 (.q 4 (.e 2 (.e 5 (.q 6 (.q 7 (.e 8 (.q 9 (.e 10 (.done)))))))))))) [10] ([(zb, Obj.cells ⟨[.func (.func 75) #[] #[], zf 7 4 (measS x.C 2), zf 7 4 (measS x.C 0)]⟩ 80 (0, 0)), (lb, Obj.cells ⟨(mkT l n1' n2' [d0, d1, d2, d3]).cells⟩ 67 (0, 0))])); (case hc => kernel_rfl); (case hs => first | exact List.nil_sublist _ | exact List.Sublist.refl _ | exact List.sublist_append_right _ _ | (refine List.Sublist.cons_cons _ (List.nil_sublist _)) | (refine List.Sublist.cons_cons _ (List.Sublist.cons_cons _ (List.nil_sublist _))) | (refine List.Sublist.cons_cons _ (List.Sublist.cons_cons _ (List.Sublist.cons_cons _ (List.nil_sublist _)))) | (refine List.Sublist.cons_cons _ (List.Sublist.cons_cons _ (List.Sublist.cons_cons _ (List.Sublist.cons_cons _ (List.nil_sublist _))))) | ((try simp only [List.append_eq, List.cons_append, List.nil_append, List.append_assoc]); (repeat (first | exact List.Sublist.refl _ | exact List.nil_sublist _ | (with_reducible apply List.Sublist.cons_cons) | (with_reducible apply List.Sublist.cons))); done)))
        (repeat (first | ((with_reducible apply XP.p1); (case ho | hg | hv => exact rfl)) | ((with_reducible apply XP.load); (case ho | hg | ht | hk | hx => exact rfl); (case hc => exact own_cell (i := 0) rfl rfl)) | ((with_reducible apply XP.loadO (j := 1)); (case ho | hg | ht | hk | hx | hi | hc => exact rfl)) | ((with_reducible apply XP.e); (first | ((with_reducible apply XE.d); (case ho => exact rfl); (case hd => exact rfl)) | ((with_reducible apply XE.e); (case ho => exact rfl)))) | (((with_reducible apply XOp.callQ (hF := shape5_fn lb 0)); (case hg => exact rfl); (case hc => exact rfl); (case ha => exact rfl); try (case hA => exact Known.true)); rintro _ rfl) | ((with_reducible apply XP.keep); (case hk => (intro y hy; rcases List.mem_cons.1 hy with h_ | h_; (rw [h_]; exact List.mem_cons_self ..); (rw [List.mem_singleton.1 h_]; exact List.mem_cons_of_mem _ (List.mem_append_left _ (List.mem_cons_of_mem _ (List.mem_cons_self ..)))))))))
        ((with_reducible apply XOp.callN (hF := mtx_fn l.g)); (case hg => exact rfl); (case hc => exact rfl); (case ha => exact rfl); try (case hA => exact Known.true))
        case hA => exact Known.of_old hl.g (lm_mono _)
        rintro _ F' ⟨m', rfl, hm, hF'⟩
        refine ⟨fun y hy => List.mem_append_left F' (by rcases List.mem_cons.1 hy with h_ | h_; (rw [h_]; exact List.mem_cons_self ..); (rw [List.mem_singleton.1 h_]; exact List.mem_cons_of_mem _ (List.mem_append_left _ (List.mem_cons_of_mem _ (List.mem_cons_self ..))))), ?_⟩
        (repeat (first | (with_reducible apply XL.op) | ((with_reducible apply XOp.p1); (case hg | hv => exact rfl)) | ((with_reducible apply XOp.storeN (i := 2)); (case hg | ht | hx | hv' | hk | h1 | hi | hs | ha => exact rfl)) | (with_reducible apply XL.nilT) | (with_reducible apply XC.region (Γ := Γ)) | (with_reducible apply XQ.nt) | (with_reducible apply XQ.nb) | ((with_reducible apply XP.p1); (case ho | hg | hv => exact rfl)) | (with_reducible apply XP.done) | ((with_reducible apply XP.e); (first | ((with_reducible apply XE.d); (case ho => exact rfl); (case hd => exact rfl)) | ((with_reducible apply XE.e); (case ho => exact rfl))))))
        exact ⟨k_ - 1, by omega, _, .of (List.sublist_cons_self _ _), 5, [d0, d1, d2, d3, m'], J ++ F', by omega, rfl, (by rw [show [d0, d1, d2, d3, m'] = [d0, d1, d2, d3] ++ [m'] from rfl, List.map_append, hD, List.map_singleton, hm]; rfl), (by rw [show [d0, d1, d2, d3, m'] = [d0, d1, d2, d3] ++ [m'] from rfl, List.map_append]; exact hJ.app hF'.all), congrArg (fun z : HL => _ :: (_ :: (_ :: (_ :: (_ :: z))))) (List.append_assoc (((((((F1 ++ F2) ++ F3) ++ F4) ++ G) ++ Fv) ++ Fa) ++ Fb) J F'), rfl, rfl, rfl, rfl, rfl, rfl, rfl, rfl, rfl, intS2 (i := 4) (m := 7) (by omega) (by omega), trivial⟩
      · obtain ⟨d0, d1, d2, d3, d4, rfl⟩ := len5 hDl
        (repeat (first | (with_reducible apply XL.op) | ((with_reducible apply XOp.p1); (case hg | hv => exact rfl)) | ((with_reducible apply XOp.loadO (i := 0)); (case hg | ht | hk | hx | hi | hc => exact rfl)) | (with_reducible apply XC.seq) | (with_reducible apply XC.region (Γ := Γ)) | (with_reducible apply XQ.skip) | (with_reducible apply XQ.nt) | (with_reducible apply XC.block)))
        ((with_reducible apply XOp.alloc); (case hg | ht | hx' => exact rfl); intro zb)
        (repeat (first | (with_reducible apply XL.op) | ((with_reducible apply XOp.storeN (i := 0)); (case hg | ht | hx | hv' | hk | h1 | hi | hs | ha => exact rfl)) | (with_reducible apply XL.nilT)))
        ((with_reducible apply XC.regionL (Γ := Γ) mixed (.q 0 (.q 1 (.q 3 (.q 4 (.e 2 (.e 5 (.q 6 (.q 7 (.e 8 (.q 9 (.e 10 (.done)))))))))))) [10] ([(zb, Obj.cells ⟨[.func (.func 76) #[] #[], zf 7 5 (measS x.C 2), zf 7 5 (measS x.C 0)]⟩ 80 (0, 0)), (lb, Obj.cells ⟨(mkT l n1' n2' [d0, d1, d2, d3, d4]).cells⟩ 67 (0, 0))])); (case hc => kernel_rfl); (case hs => first | exact List.nil_sublist _ | exact List.Sublist.refl _ | exact List.sublist_append_right _ _ | (refine List.Sublist.cons_cons _ (List.nil_sublist _)) | (refine List.Sublist.cons_cons _ (List.Sublist.cons_cons _ (List.nil_sublist _))) | (refine List.Sublist.cons_cons _ (List.Sublist.cons_cons _ (List.Sublist.cons_cons _ (List.nil_sublist _)))) | (refine List.Sublist.cons_cons _ (List.Sublist.cons_cons _ (List.Sublist.cons_cons _ (List.Sublist.cons_cons _ (List.nil_sublist _))))) | ((try simp only [List.append_eq, List.cons_append, List.nil_append, List.append_assoc]); (repeat (first | exact List.Sublist.refl _ | exact List.nil_sublist _ | (with_reducible apply List.Sublist.cons_cons) | (with_reducible apply List.Sublist.cons))); done)))
        (repeat (first | ((with_reducible apply XP.p1); (case ho | hg | hv => exact rfl)) | ((with_reducible apply XP.load); (case ho | hg | ht | hk | hx => exact rfl); (case hc => exact own_cell (i := 0) rfl rfl)) | ((with_reducible apply XP.loadO (j := 1)); (case ho | hg | ht | hk | hx | hi | hc => exact rfl)) | ((with_reducible apply XP.e); (first | ((with_reducible apply XE.d); (case ho => exact rfl); (case hd => exact rfl)) | ((with_reducible apply XE.e); (case ho => exact rfl)))) | (((with_reducible apply XOp.callQ (hF := shape6_fn lb 0)); (case hg => exact rfl); (case hc => exact rfl); (case ha => exact rfl); try (case hA => exact Known.true)); rintro _ rfl) | ((with_reducible apply XP.keep); (case hk => (intro y hy; rcases List.mem_cons.1 hy with h_ | h_; (rw [h_]; exact List.mem_cons_self ..); (rw [List.mem_singleton.1 h_]; exact List.mem_cons_of_mem _ (List.mem_append_left _ (List.mem_cons_of_mem _ (List.mem_cons_self ..)))))))))
        ((with_reducible apply XOp.callN (hF := mtx_fn l.u)); (case hg => exact rfl); (case hc => exact rfl); (case ha => exact rfl); try (case hA => exact Known.true))
        case hA => exact Known.of_old hl.u (lm_mono _)
        rintro _ F' ⟨m', rfl, hm, hF'⟩
        refine ⟨fun y hy => List.mem_append_left F' (by rcases List.mem_cons.1 hy with h_ | h_; (rw [h_]; exact List.mem_cons_self ..); (rw [List.mem_singleton.1 h_]; exact List.mem_cons_of_mem _ (List.mem_append_left _ (List.mem_cons_of_mem _ (List.mem_cons_self ..))))), ?_⟩
        (repeat (first | (with_reducible apply XL.op) | ((with_reducible apply XOp.p1); (case hg | hv => exact rfl)) | ((with_reducible apply XOp.storeN (i := 2)); (case hg | ht | hx | hv' | hk | h1 | hi | hs | ha => exact rfl)) | (with_reducible apply XL.nilT) | (with_reducible apply XC.region (Γ := Γ)) | (with_reducible apply XQ.nt) | (with_reducible apply XQ.nb) | ((with_reducible apply XP.p1); (case ho | hg | hv => exact rfl)) | (with_reducible apply XP.done) | ((with_reducible apply XP.e); (first | ((with_reducible apply XE.d); (case ho => exact rfl); (case hd => exact rfl)) | ((with_reducible apply XE.e); (case ho => exact rfl))))))
        exact ⟨k_ - 1, by omega, _, .of (List.sublist_cons_self _ _), 6, [d0, d1, d2, d3, d4, m'], J ++ F', by omega, rfl, (by rw [show [d0, d1, d2, d3, d4, m'] = [d0, d1, d2, d3, d4] ++ [m'] from rfl, List.map_append, hD, List.map_singleton, hm]; rfl), (by rw [show [d0, d1, d2, d3, d4, m'] = [d0, d1, d2, d3, d4] ++ [m'] from rfl, List.map_append]; exact hJ.app hF'.all), congrArg (fun z : HL => _ :: (_ :: (_ :: (_ :: (_ :: z))))) (List.append_assoc (((((((F1 ++ F2) ++ F3) ++ F4) ++ G) ++ Fv) ++ Fa) ++ Fb) J F'), rfl, rfl, rfl, rfl, rfl, rfl, rfl, rfl, rfl, intS2 (i := 5) (m := 7) (by omega) (by omega), trivial⟩
      · obtain ⟨d0, d1, d2, d3, d4, d5, rfl⟩ := len6 hDl
        (repeat (first | (with_reducible apply XL.op) | ((with_reducible apply XOp.p1); (case hg | hv => exact rfl)) | ((with_reducible apply XOp.loadO (i := 0)); (case hg | ht | hk | hx | hi | hc => exact rfl)) | (with_reducible apply XC.seq) | (with_reducible apply XC.region (Γ := Γ)) | (with_reducible apply XQ.skip) | (with_reducible apply XQ.nt) | (with_reducible apply XC.block)))
        ((with_reducible apply XOp.alloc); (case hg | ht | hx' => exact rfl); intro zb)
        (repeat (first | (with_reducible apply XL.op) | ((with_reducible apply XOp.storeN (i := 0)); (case hg | ht | hx | hv' | hk | h1 | hi | hs | ha => exact rfl)) | (with_reducible apply XL.nilT)))
        ((with_reducible apply XC.regionL (Γ := Γ) mixed (.q 0 (.q 1 (.q 3 (.q 4 (.e 2 (.e 5 (.q 6 (.q 7 (.e 8 (.q 9 (.e 10 (.done)))))))))))) [10] ([(zb, Obj.cells ⟨[.func (.func 77) #[] #[], zf 7 6 (measS x.C 0), zf 7 6 (measS x.C 2)]⟩ 80 (0, 0)), (lb, Obj.cells ⟨(mkT l n1' n2' [d0, d1, d2, d3, d4, d5]).cells⟩ 67 (0, 0))])); (case hc => kernel_rfl); (case hs => first | exact List.nil_sublist _ | exact List.Sublist.refl _ | exact List.sublist_append_right _ _ | (refine List.Sublist.cons_cons _ (List.nil_sublist _)) | (refine List.Sublist.cons_cons _ (List.Sublist.cons_cons _ (List.nil_sublist _))) | (refine List.Sublist.cons_cons _ (List.Sublist.cons_cons _ (List.Sublist.cons_cons _ (List.nil_sublist _)))) | (refine List.Sublist.cons_cons _ (List.Sublist.cons_cons _ (List.Sublist.cons_cons _ (List.Sublist.cons_cons _ (List.nil_sublist _))))) | ((try simp only [List.append_eq, List.cons_append, List.nil_append, List.append_assoc]); (repeat (first | exact List.Sublist.refl _ | exact List.nil_sublist _ | (with_reducible apply List.Sublist.cons_cons) | (with_reducible apply List.Sublist.cons))); done)))
        (repeat (first | ((with_reducible apply XP.p1); (case ho | hg | hv => exact rfl)) | ((with_reducible apply XP.load); (case ho | hg | ht | hk | hx => exact rfl); (case hc => exact own_cell (i := 0) rfl rfl)) | ((with_reducible apply XP.loadO (j := 1)); (case ho | hg | ht | hk | hx | hi | hc => exact rfl)) | ((with_reducible apply XP.e); (first | ((with_reducible apply XE.d); (case ho => exact rfl); (case hd => exact rfl)) | ((with_reducible apply XE.e); (case ho => exact rfl)))) | (((with_reducible apply XOp.callQ (hF := shape7_fn lb 0)); (case hg => exact rfl); (case hc => exact rfl); (case ha => exact rfl); try (case hA => exact Known.true)); rintro _ rfl) | ((with_reducible apply XP.keep); (case hk => (intro y hy; rcases List.mem_cons.1 hy with h_ | h_; (rw [h_]; exact List.mem_cons_self ..); (rw [List.mem_singleton.1 h_]; exact List.mem_cons_of_mem _ (List.mem_append_left _ (List.mem_cons_of_mem _ (List.mem_cons_self ..)))))))))
        ((with_reducible apply XOp.callN (hF := mtx_fn l.d)); (case hg => exact rfl); (case hc => exact rfl); (case ha => exact rfl); try (case hA => exact Known.true))
        case hA => exact Known.of_old hl.d (lm_mono _)
        rintro _ F' ⟨m', rfl, hm, hF'⟩
        refine ⟨fun y hy => List.mem_append_left F' (by rcases List.mem_cons.1 hy with h_ | h_; (rw [h_]; exact List.mem_cons_self ..); (rw [List.mem_singleton.1 h_]; exact List.mem_cons_of_mem _ (List.mem_append_left _ (List.mem_cons_of_mem _ (List.mem_cons_self ..))))), ?_⟩
        (repeat (first | (with_reducible apply XL.op) | ((with_reducible apply XOp.p1); (case hg | hv => exact rfl)) | ((with_reducible apply XOp.storeN (i := 2)); (case hg | ht | hx | hv' | hk | h1 | hi | hs | ha => exact rfl)) | (with_reducible apply XL.nilT) | (with_reducible apply XC.region (Γ := Γ)) | (with_reducible apply XQ.nt) | (with_reducible apply XQ.nb) | ((with_reducible apply XP.p1); (case ho | hg | hv => exact rfl)) | (with_reducible apply XP.done) | ((with_reducible apply XP.e); (first | ((with_reducible apply XE.d); (case ho => exact rfl); (case hd => exact rfl)) | ((with_reducible apply XE.e); (case ho => exact rfl))))))
        exact ⟨k_ - 1, by omega, _, .of (List.sublist_cons_self _ _), 7, [d0, d1, d2, d3, d4, d5, m'], J ++ F', by omega, rfl, (by rw [show [d0, d1, d2, d3, d4, d5, m'] = [d0, d1, d2, d3, d4, d5] ++ [m'] from rfl, List.map_append, hD, List.map_singleton, hm]; rfl), (by rw [show [d0, d1, d2, d3, d4, d5, m'] = [d0, d1, d2, d3, d4, d5] ++ [m'] from rfl, List.map_append]; exact hJ.app hF'.all), congrArg (fun z : HL => _ :: (_ :: (_ :: (_ :: (_ :: z))))) (List.append_assoc (((((((F1 ++ F2) ++ F3) ++ F4) ++ G) ++ Fv) ++ Fa) ++ Fb) J F'), rfl, rfl, rfl, rfl, rfl, rfl, rfl, rfl, rfl, intS2 (i := 6) (m := 7) (by omega) (by omega), trivial⟩
    obtain rfl : j = 7 := by omega
    have hlay : (mkT l n1' n2' D).lay = l.lay := by
      obtain ⟨d0, d1, d2, d3, d4, d5, d6, rfl⟩ := len7 hDl
      simp only [LL.ms, List.map_cons, List.map_nil, List.take_succ_cons, List.take_zero, List.cons.injEq, and_true] at hD
      obtain ⟨e0, e1, e2, e3, e4, e5, e6⟩ := hD
      simp [LL.lay, mkT, hn1, hn2, e0, e1, e2, e3, e4, e5, e6]
      rfl
    have hnl : (mkT l n1' n2' D).nl = [n1'] ++ ([n2'] ++ D.map (·.d)) := by
      obtain ⟨d0, d1, d2, d3, d4, d5, d6, rfl⟩ := len7 hDl
      rfl
    have hGn : OwnAll ((A ++ [mkT l n1' n2' D]).flatMap LL.nl) (G ++ (Fa ++ (Fb ++ J))) := by
      rw [List.flatMap_append, List.flatMap_singleton, hnl]
      exact hG.app (hFa.all.app (hFb.all.app hJ))
    clear hs hjk
    (repeat (first | (with_reducible apply XL.op) | ((with_reducible apply XOp.p1); (case hg | hv => exact rfl)) | ((with_reducible apply XOp.load); (case hg | ht | hk | hx => exact rfl); (case hc => exact own_cell (i := 2) rfl rfl)) | ((with_reducible apply XOp.loadO (i := 1)); (case hg | ht | hk | hx | hi | hc => exact rfl)) | (with_reducible apply XC.region (Γ := Γ)) | (with_reducible apply XQ.exit) | (with_reducible apply XQ.nt) | (with_reducible apply XQ.et) | ((with_reducible apply XQ.eb); (case hb => exact rfl))))
    ((with_reducible apply XOp.buildSlice); (case hg | ht | hk | he | hz | hzl | hf => exact rfl); intro bb)
    (repeat ((with_reducible apply XL.op)))
    (refine (show XOp _ _ _ _ _ _ _ _ ((bb, Obj.cells ⟨(mkT l n1' n2' D).cells⟩ 67 (0, 0)) :: ([(sb, Obj.cells ⟨shC x.C 7⟩ 80 (0, 0)), (lb, Obj.cells ⟨(mkT l n1' n2' D).cells⟩ 67 (0, 0)), (xb, Obj.cells ⟨cpC x e' t' (.slice a' i c') f' h' (.slice none 0 0)⟩ 31 (0, 0)), (rb, Obj.cells ⟨zeroW⟩ 31 (0, 0)), (wb, Obj.cells ⟨x.cells⟩ 31 (0, 0))] ++ ((((((((F1 ++ F2) ++ F3) ++ F4) ++ G) ++ Fv) ++ Fa) ++ Fb) ++ J))) from XOp.perm (L' :=  (bb, Obj.cells ⟨(mkT l n1' n2' D).cells⟩ 67 (0, 0)) :: (([(sb, Obj.cells ⟨shC x.C 7⟩ 80 (0, 0)), (lb, Obj.cells ⟨(mkT l n1' n2' D).cells⟩ 67 (0, 0)), (xb, Obj.cells ⟨cpC x e' t' (.slice a' i c') f' h' (.slice none 0 0)⟩ 31 (0, 0)), (rb, Obj.cells ⟨zeroW⟩ 31 (0, 0)), (wb, Obj.cells ⟨x.cells⟩ 31 (0, 0))] ++ ((((F1 ++ F2) ++ F3) ++ F4) ++ (G ++ (Fa ++ (Fb ++ J))))) ++ Fv)) rfl ?_ (by (first | (with_reducible exact List.Perm.refl _) | refine perm_of_cnt fun p_ => ?_; simp only [List.countP_append, List.countP_cons, List.countP_nil]; omega))))
    ((with_reducible apply XOp.append1R (R := [(sb, Obj.cells ⟨shC x.C 7⟩ 80 (0, 0)), (lb, Obj.cells ⟨(mkT l n1' n2' D).cells⟩ 67 (0, 0)), (xb, Obj.cells ⟨cpC x e' t' (.slice a' i c') f' h' (.slice none 0 0)⟩ 31 (0, 0)), (rb, Obj.cells ⟨zeroW⟩ 31 (0, 0)), (wb, Obj.cells ⟨x.cells⟩ 31 (0, 0))] ++ ((((F1 ++ F2) ++ F3) ++ F4) ++ (G ++ (Fa ++ (Fb ++ J)))))); (case hg => exact rfl); (case ht => exact rfl); (case hk => exact rfl); (case he => exact rfl); (case hown => exact hown); (case hs => exact rfl); (case hx => exact rfl); (case hL => exact rfl); (case hl => exact rfl); (case h1 => exact rfl); (case hz => exact rfl); (case hsz => exact Nat.zero_lt_succ _); (case hk0 => exact Nat.zero_lt_succ _); (case h63 => simp only [maxLen]; omega); (case hb => simp only []; omega); intro v_ F_ hown_; obtain ⟨a_, c_, rfl⟩ := hown_.val)
    (repeat (first | (with_reducible apply XL.op) | ((with_reducible apply XOp.p1); (case hg | hv => exact rfl)) | ((with_reducible apply XOp.store (i := 2)); (case hg | ht | hk | hx | hv | h1 | hi | hs | ha => exact rfl)) | (with_reducible apply XL.nilT) | (with_reducible apply XC.region (Γ := Γ)) | (with_reducible apply XL.nilQ) | (with_reducible apply XQ.nt) | (with_reducible apply XQ.nb)))
    refine ⟨k - 1, by omega, _, .of ((List.sublist_cons_self _ _).trans (List.sublist_cons_self _ _)), i + 1, _, A ++ [mkT l n1' n2' D], _, F_, by omega, hown_.conv rfl (by simp), ?_, hGn, rfl, rfl, rfl, rfl, rfl, rfl, intS2 (m := 140737488355328) (by omega) (by omega), trivial⟩
    rw [List.map_append, hAl, take_snocD hi, List.map_append, List.map_singleton, List.map_singleton, hlay]
  obtain rfl : i = x.Ls.1.length := by omega
  rw [List.take_length] at hAl
  have hAn : A.length = x.Ls.1.length := by have := congrArg List.length hAl; simpa using this
  clear hs hik
  (repeat (first | (with_reducible apply XL.op) | ((with_reducible apply XOp.p1); (case hg | hv => exact rfl)) | ((with_reducible apply XOp.load); (case hg | ht | hk | hx => exact rfl); (case hc => exact own_cell (i := 2) rfl rfl)) | (with_reducible apply XL.nilT) | (with_reducible apply XC.seq) | (with_reducible apply XC.region (Γ := Γ)) | (with_reducible apply XQ.exit) | (with_reducible apply XQ.nt) | (with_reducible apply XQ.et) | (with_reducible apply XC.block) | ((with_reducible apply XQ.eb); (case hb => exact rfl))))
  refine XC.loopP (fun k ρ L => ∃ (i : Nat) (v : Value) (D : List LM) (J Fm : HL), i + k = x.M.1.length ∧ OwnS 26 3 v i (D.flatMap LM.cells) Fm ∧ D.map LM.mat = (x.M.1.take i).map LM.mat ∧ OwnAll (D.map (·.d)) J ∧ L = ([(xb, Obj.cells ⟨cpC x e' t' (.slice a' x.Ls.1.length c') f' h' v⟩ 31 (0, 0)), (rb, Obj.cells ⟨zeroW⟩ 31 (0, 0)), (wb, Obj.cells ⟨x.cells⟩ 31 (0, 0))] ++ (((((F1 ++ F2) ++ F3) ++ F4) ++ (G ++ Fv)) ++ J)) ++ Fm ∧ Slots ρ [(1, .pointer (some ⟨wb, 0, none⟩)), (2, .pointer (some ⟨rb, 0, none⟩)), (3, .pointer (some ⟨xb, 0, none⟩)), (67, sla x.M), (68, .int .i64 x.M.1.length), (69, .int .i64 i)])
    x.M.1.length ⟨0, _, [], [], [], by simp, OwnS.nil _ _, by simp, rfl, by simp only [List.append_nil, List.append_assoc], rfl, rfl, rfl, rfl, rfl, rfl, trivial⟩ ?_
  rintro k ρ L ⟨i, v, D, J, Fm, hik, hownM, hDl, hJ, rfl, hs⟩
  obtain ⟨am, cm, rfl⟩ := hownM.val
  refine XC.slots _ hs ?_
  (repeat (first | (with_reducible apply XL.op) | ((with_reducible apply XOp.p1); (case hg | hv => exact rfl)) | (with_reducible apply XL.nilT) | (with_reducible apply XC.seq) | (with_reducible apply XC.region (Γ := Γ))))
  ((with_reducible apply XC.cond); (case hc => exact rfl); all_goals (intro hb_; try simp only [pd_true, pd_false, Bool.not_eq_true', Bool.not_eq_false', Bool.and_eq_true, Bool.and_eq_false_iff, Bool.or_eq_true, Bool.or_eq_false_iff, not_true_eq_false, not_false_eq_true, Int.not_lt, Int.not_le] at hb_))
  · obtain ⟨l, hi⟩ : ∃ l, x.M.1[i]? = some l := ⟨_, List.getElem?_eq_getElem (by omega)⟩
    have hl := hA.m.locAt (List.mem_of_getElem? hi)
    (repeat (first | (with_reducible apply XL.op) | ((with_reducible apply XOp.pr); (case hg => exact rfl); (case hr => ((with_reducible apply PR.idxA); (case ht | hk | he | hx | hi => exact rfl); (case hr => first | assumption | omega); (case ha => first | assumption | exact SlA.at_ (by assumption))))) | (with_reducible apply XC.seq) | (with_reducible apply XC.region (Γ := Γ)) | (with_reducible apply XQ.skip) | (with_reducible apply XQ.nt) | (with_reducible apply XC.block) | (first | ((with_reducible apply XOp.loadN); (case hg | ht | hk | hx => exact rfl); (case hc => exact Known.of_old (hM.rawAt hi) (Mono.row _ _ _)); (case hl => exact rfl)) | ((with_reducible apply XP.loadN); (case ho | hg | ht | hk | hx => exact rfl); (case hc => exact Known.of_old (hM.rawAt hi) (Mono.row _ _ _)); (case hl => exact rfl)))))
    ((with_reducible apply XOp.alloc); (case hg | ht | hx' => exact rfl); intro mb)
    (repeat (first | (with_reducible apply XL.op) | ((with_reducible apply XOp.storeN (i := 0)); (case hg | ht | hx | hv' | hk | h1 | hi | hs | ha => exact rfl)) | (with_reducible apply XL.nilT)))
    ((with_reducible apply XC.regionL (Γ := Γ) mixed (.q 0 (.q 1 (.q 2 (.e 3 (.e 4 (.e 5 (.e 6 (.e 7 (.done))))))))) [5, 6, 7] ([(mb, Obj.cells ⟨l.cells⟩ 26 (0, 0)), (xb, Obj.cells ⟨cpC x e' t' (.slice a' x.Ls.1.length c') f' h' (.slice am i cm)⟩ 31 (0, 0))])); (case hc => kernel_rfl); (case hs => first | exact List.nil_sublist _ | exact List.Sublist.refl _ | exact List.sublist_append_right _ _ | (refine List.Sublist.cons_cons _ (List.nil_sublist _)) | (refine List.Sublist.cons_cons _ (List.Sublist.cons_cons _ (List.nil_sublist _))) | (refine List.Sublist.cons_cons _ (List.Sublist.cons_cons _ (List.Sublist.cons_cons _ (List.nil_sublist _)))) | (refine List.Sublist.cons_cons _ (List.Sublist.cons_cons _ (List.Sublist.cons_cons _ (List.Sublist.cons_cons _ (List.nil_sublist _))))) | ((try simp only [List.append_eq, List.cons_append, List.nil_append, List.append_assoc]); (repeat (first | exact List.Sublist.refl _ | exact List.nil_sublist _ | (with_reducible apply List.Sublist.cons_cons) | (with_reducible apply List.Sublist.cons))); done)))
    (repeat (first | ((with_reducible apply XP.p1); (case ho | hg | hv => exact rfl)) | ((with_reducible apply XP.load); (case ho | hg | ht | hk | hx => exact rfl); (case hc => exact own_cell (i := 1) rfl rfl)) | ((with_reducible apply XP.loadO (j := 0)); (case ho | hg | ht | hk | hx | hi | hc => exact rfl)) | ((with_reducible apply XP.e); (first | ((with_reducible apply XE.d); (case ho => exact rfl); (case hd => exact rfl)) | ((with_reducible apply XE.e); (case ho => exact rfl))))))
    ((with_reducible apply XOp.callN (hF := mtx_fn l)); (case hg => exact rfl); (case hc => exact rfl); (case ha => exact rfl); try (case hA => exact Known.true))
    case hA => exact Known.of_old hl (lm_mono _)
    rintro _ J' ⟨m', rfl, hmat, hJ'⟩
    refine ⟨fun y hy => List.mem_append_left J' (by rcases List.mem_cons.1 hy with h_ | h_; (rw [h_]; exact List.mem_cons_self ..); (rw [List.mem_singleton.1 h_]; exact List.mem_cons_of_mem _ (List.mem_cons_self ..))), ?_⟩
    (repeat (((with_reducible apply XP.e); (first | ((with_reducible apply XE.d); (case ho => exact rfl); (case hd => exact rfl)) | ((with_reducible apply XE.e); (case ho => exact rfl))))))
    ((with_reducible apply XOp.buildSlice); (case hg | ht | hk | he | hz | hzl | hf => exact rfl); intro bb)
    refine ⟨fun y hy => List.mem_cons_of_mem _ (List.mem_append_left J' (by rcases List.mem_cons.1 hy with h_ | h_; (rw [h_]; exact List.mem_cons_self ..); (rw [List.mem_singleton.1 h_]; exact List.mem_cons_of_mem _ (List.mem_cons_self ..)))), ?_⟩
    (repeat (((with_reducible apply XP.e); (first | ((with_reducible apply XE.d); (case ho => exact rfl); (case hd => exact rfl)) | ((with_reducible apply XE.e); (case ho => exact rfl))))))
    (refine (show XOp _ _ _ _ _ _ _ _ ((bb, Obj.cells ⟨m'.cells⟩ 26 (0, 0)) :: ((([(mb, Obj.cells ⟨l.cells⟩ 26 (0, 0)), (xb, Obj.cells ⟨cpC x e' t' (.slice a' x.Ls.1.length c') f' h' (.slice am i cm)⟩ 31 (0, 0)), (rb, Obj.cells ⟨zeroW⟩ 31 (0, 0)), (wb, Obj.cells ⟨x.cells⟩ 31 (0, 0))] ++ (((((F1 ++ F2) ++ F3) ++ F4) ++ (G ++ Fv)) ++ J)) ++ Fm) ++ J')) from XOp.perm (L' :=  (bb, Obj.cells ⟨m'.cells⟩ 26 (0, 0)) :: (([(mb, Obj.cells ⟨l.cells⟩ 26 (0, 0)), (xb, Obj.cells ⟨cpC x e' t' (.slice a' x.Ls.1.length c') f' h' (.slice am i cm)⟩ 31 (0, 0)), (rb, Obj.cells ⟨zeroW⟩ 31 (0, 0)), (wb, Obj.cells ⟨x.cells⟩ 31 (0, 0))] ++ (((((F1 ++ F2) ++ F3) ++ F4) ++ (G ++ Fv)) ++ (J ++ J'))) ++ Fm)) rfl ?_ (by (first | (with_reducible exact List.Perm.refl _) | refine perm_of_cnt fun p_ => ?_; simp only [List.countP_append, List.countP_cons, List.countP_nil]; omega))))
    ((with_reducible apply XOp.append1R (R := [(mb, Obj.cells ⟨l.cells⟩ 26 (0, 0)), (xb, Obj.cells ⟨cpC x e' t' (.slice a' x.Ls.1.length c') f' h' (.slice am i cm)⟩ 31 (0, 0)), (rb, Obj.cells ⟨zeroW⟩ 31 (0, 0)), (wb, Obj.cells ⟨x.cells⟩ 31 (0, 0))] ++ (((((F1 ++ F2) ++ F3) ++ F4) ++ (G ++ Fv)) ++ (J ++ J')))); (case hg => exact rfl); (case ht => exact rfl); (case hk => exact rfl); (case he => exact rfl); (case hown => exact hownM); (case hs => exact rfl); (case hx => exact rfl); (case hL => exact rfl); (case hl => exact rfl); (case h1 => exact rfl); (case hz => exact rfl); (case hsz => exact Nat.zero_lt_succ _); (case hk0 => exact Nat.zero_lt_succ _); (case h63 => simp only [maxLen]; omega); (case hb => simp only []; omega); intro v_ F_ hown_; obtain ⟨a_, c_, rfl⟩ := hown_.val)
    (repeat (first | (with_reducible apply XL.op) | ((with_reducible apply XOp.p1); (case hg | hv => exact rfl)) | ((with_reducible apply XOp.store (i := 1)); (case hg | ht | hk | hx | hv | h1 | hi | hs | ha => exact rfl)) | (with_reducible apply XL.nilT) | (with_reducible apply XC.region (Γ := Γ)) | (with_reducible apply XQ.nt) | (with_reducible apply XQ.nb) | (with_reducible apply XP.done) | ((with_reducible apply XP.e); (first | ((with_reducible apply XE.d); (case ho => exact rfl); (case hd => exact rfl)) | ((with_reducible apply XE.e); (case ho => exact rfl))))))
    refine ⟨k - 1, by omega, _, .of (List.sublist_cons_self _ _), i + 1, _, D ++ [m'], J ++ J', F_, by omega, hown_.conv rfl (by simp), ?_, ?_, rfl, rfl, rfl, rfl, rfl, rfl, intS2 (m := 140737488355328) (by omega) (by omega), trivial⟩
    · rw [List.map_append, hDl, take_snocD hi, List.map_append, List.map_singleton, List.map_singleton, hmat]
    · rw [List.map_append, List.map_singleton]
      exact hJ.app hJ'.all
  obtain rfl : i = x.M.1.length := by omega
  rw [List.take_length] at hDl
  have hDn : D.length = x.M.1.length := by have := congrArg List.length hDl; simpa using this
  clear hs hik
  (repeat (first | (with_reducible apply XL.op) | ((with_reducible apply XOp.loadO (i := 0)); (case hg | ht | hk | hx | hi | hc => exact rfl)) | ((with_reducible apply XOp.storeN (i := 1)); (case hg | ht | hx | hv' | hk | h1 | hi | hs | ha => exact rfl)) | (with_reducible apply XL.nilT) | (with_reducible apply XC.seq) | (with_reducible apply XC.region (Γ := Γ)) | (with_reducible apply XQ.ret) | (with_reducible apply XQ.exit) | (with_reducible apply XQ.nt) | (with_reducible apply XQ.et) | ((with_reducible apply XQ.eb); (case hb => exact rfl))))
  ((with_reducible apply XQ.retE); (case hr => exact .row rfl (by kernel_rfl) (by kernel_rfl) (own_row (i := 1) (m := 18) rfl rfl) .nil))
  refine ⟨((((((F1 ++ F2) ++ F3) ++ F4) ++ (G ++ Fv)) ++ J)) ++ Fm, .of (by ((try simp only [List.append_eq, List.cons_append, List.nil_append, List.append_assoc]); repeat (first | exact List.Sublist.refl _ | exact List.nil_sublist _ | (with_reducible apply List.Sublist.cons_cons) | (with_reducible apply List.Sublist.cons) | exact List.sublist_append_right _ _))), ⟨x.C, e', t', (A, a', c'), f', h', (D, am, cm)⟩, ?_, ?_, ?_⟩
  · simp only [LW.cells, sla, hAn, hDn]; rfl
  · exact (w_eq _ _).2 ⟨rfl, he, ht, hAl, hf, hh', hDl⟩
  · refine ⟨by show t'.1.length * 16 ≤ _; rw [ht]; exact hTb, by show A.length * 384 ≤ _; rw [hAn]; exact hLb, by show D.length * 40 ≤ _; rw [hDn]; exact hMb, (F1 ++ (F3 ++ F4)) ++ (G ++ J), F2, Fv, Fm, ?_, by rw [← ht] at hF2; exact hF2, by show OwnS _ _ (.slice a' A.length c') A.length _ _; rw [hAn]; exact hown, by show OwnS _ _ (.slice am D.length cm) D.length _ _; rw [hDn]; exact hownM, by (first | (with_reducible exact List.Perm.refl _) | refine perm_of_cnt fun p_ => ?_; simp only [List.countP_append, List.countP_cons, List.countP_nil]; omega)⟩
    exact (hF1.all.app (hF3.all.app hF4.all)).app (hG.app hJ)
end Go.Proofs.YtppggaiahkecoaaDoorX
/- New, Load, a model's Weights and Config. -/
namespace Go.Proofs.YtppggaiahkecoaaDoorX
open Go Go.SX

def MdB (mb : Nat) (x : LW) : Nat × Obj := (mb, Obj.cells ⟨x.cells⟩ 95 (0, 0))
def NewR (x : LW) (v : Value) (L : HL) : Prop :=
  (errW x.w ≠ 0 ∧ v = .tuple #[.pointer none, .int .i64 (errW x.w)] ∧ L = []) ∨
  (okW x.w ∧ ∃ (mb : Nat) (x' : LW) (F : HL), v = .tuple #[.pointer (some ⟨mb, 0, none⟩), .int .i64 0] ∧ x'.w = x.w ∧ L = MdB mb x' :: F ∧ OwnW x' F)
set_option maxHeartbeats 8000000 in
theorem new_fn (x : LW) : FC Tryd.prog 17 [.agg ⟨x.cells⟩] [] (fun h => sidesK h ∧ lwAt h x) (fun v L => NewR x v L) := by
  refine FC.sub2 ?_
  refine FC.intro Tryd.func17 rfl (by kernel_rfl) 14 [.tmp 2, .tmp 3] rfl rfl rfl ?_
  rintro w0 ⟨hS, hA⟩
  (repeat (first | (with_reducible apply XL.op) | (with_reducible apply XC.seq) | (with_reducible apply XC.region (Γ := Γ))))
  ((with_reducible apply XOp.box); (case hg | hx' => exact rfl); intro wb)
  (repeat (first | (with_reducible apply XL.op) | ((with_reducible apply XOp.p1); (case hg | hv => exact rfl)) | ((with_reducible apply XOp.loadO (i := 0)); (case hg | ht | hk | hx | hi | hc => exact rfl)) | (with_reducible apply XL.nilT) | (with_reducible apply XC.seq) | (with_reducible apply XC.region (Γ := Γ)) | (((with_reducible apply XOp.callQ (hF := checkW_fn x)); (case hg => exact rfl); (case hc => exact rfl); (case ha => exact rfl); try (case hA => exact Known.true)); (case hA => exact Known.and (Known.of_old hS sides_mono) (Known.of_old hA (lw_mono _))); rintro _ rfl)))
  ((with_reducible apply XC.cond); (case hc => exact rfl); all_goals (intro hb_; try simp only [pd_true, pd_false, Bool.not_eq_true', Bool.not_eq_false', Bool.and_eq_true, Bool.and_eq_false_iff, Bool.or_eq_true, Bool.or_eq_false_iff, not_true_eq_false, not_false_eq_true, Int.not_lt, Int.not_le] at hb_))
  · (repeat (first | (with_reducible apply XL.op) | ((with_reducible apply XOp.p1); (case hg | hv => exact rfl)) | (with_reducible apply XL.nilT) | (with_reducible apply XC.seq) | (with_reducible apply XC.region (Γ := Γ)) | (with_reducible apply XQ.ret) | (with_reducible apply XQ.rt)))
    ((with_reducible apply XQ.retE); (case hr => exact .t rfl (.t rfl .nil)))
    exact ⟨[], .of (List.nil_sublist _), .inl ⟨hb_, rfl, rfl⟩⟩
  have hok : okW x.w := errW_zero (by first | assumption | exact Classical.not_not.1 hb_)
  clear hb_
  (repeat (first | (with_reducible apply XL.op) | ((with_reducible apply XOp.loadO (i := 0)); (case hg | ht | hk | hx | hi | hc => exact rfl)) | (with_reducible apply XC.seq) | (with_reducible apply XC.region (Γ := Γ)) | (with_reducible apply XQ.skip) | (with_reducible apply XQ.nt)))
  have hcm : x.C.may := hok.c
  ((with_reducible apply XOp.callN (hF := twin_fn x hcm)); (case hg => exact rfl); (case hc => exact rfl); (case ha => exact rfl); try (case hA => exact Known.true))
  case hA => exact Known.and (Known.of_old hS sides_mono) (Known.of_old hA (lw_mono _))
  rintro _ F ⟨x', rfl, hx, hF⟩
  (repeat (first | (with_reducible apply XL.op) | ((with_reducible apply XOp.pr); (case hg => exact rfl); (case hr => ((with_reducible apply PR.build); (case ht | hk | hok | hz | hf => exact rfl))))))
  ((with_reducible apply XOp.box); (case hg | hx' => exact rfl); intro mb)
  (repeat (first | (with_reducible apply XL.op) | ((with_reducible apply XOp.p1); (case hg | hv => exact rfl)) | (with_reducible apply XL.nilT) | (with_reducible apply XQ.ret)))
  ((with_reducible apply XQ.retE); (case hr => exact .t rfl (.t rfl .nil)))
  exact ⟨MdB mb x' :: F, .of (List.Sublist.cons_cons _ (by ((try simp only [List.append_eq, List.cons_append, List.nil_append, List.append_assoc]); repeat (first | exact List.Sublist.refl _ | exact List.nil_sublist _ | (with_reducible apply List.Sublist.cons_cons) | (with_reducible apply List.Sublist.cons) | exact List.sublist_append_right _ _)))), .inr ⟨hok, mb, x', F, rfl, hx, rfl, hF⟩⟩
theorem wOf_fn (mb : Nat) (x : LW) (hc : x.C.may) : FC Tryd.prog 21 [.pointer (some ⟨mb, 0, none⟩)] [] (fun h => sidesK h ∧ rowv h mb 0 x.cells ∧ lwAt h x)
    (fun v L => ∃ x' : LW, v = .agg ⟨x'.cells⟩ ∧ x'.w = x.w ∧ OwnW x' L) := by
  refine FC.sub2 ?_
  refine FC.intro Tryd.func21 rfl (by kernel_rfl) 11 [.cell 2 31] rfl rfl rfl ?_
  rintro w0 ⟨hS, hR, hA⟩
  (repeat (first | (with_reducible apply XL.op) | (with_reducible apply XC.seq) | (with_reducible apply XC.region (Γ := Γ))))
  ((with_reducible apply XOp.alloc); (case hg | ht | hx' => exact rfl); intro rb)
  (repeat (first | (with_reducible apply XL.op) | ((with_reducible apply XOp.p1); (case hg | hv => exact rfl)) | (with_reducible apply XL.nilT) | (with_reducible apply XC.seq) | (with_reducible apply XC.region (Γ := Γ)) | (with_reducible apply XQ.skip) | (with_reducible apply XQ.nt) | ((with_reducible apply XC.condF); (case hc => exact rfl)) | (first | (first | ((with_reducible apply XOp.pr); (case hg => exact rfl); (case hr => (with_reducible apply PR.eqNilP); (case ht => exact rfl); (case hk => exact rfl); (case hx => exact rfl); (case hy => exact rfl))) | ((with_reducible apply XP.pr); (case ho => exact rfl); (case hg => exact rfl); (case hr => (with_reducible apply PR.eqNilP); (case ht => exact rfl); (case hk => exact rfl); (case hx => exact rfl); (case hy => exact rfl)))) | (first | ((with_reducible apply XOp.pr); (case hg => exact rfl); (case hr => (with_reducible apply PR.neNilP); (case ht => exact rfl); (case hk => exact rfl); (case hx => exact rfl); (case hy => exact rfl))) | ((with_reducible apply XP.pr); (case ho => exact rfl); (case hg => exact rfl); (case hr => (with_reducible apply PR.neNilP); (case ht => exact rfl); (case hk => exact rfl); (case hx => exact rfl); (case hy => exact rfl))))) | (first | ((with_reducible apply XOp.loadN); (case hg | ht | hk | hx => exact rfl); (case hc => exact Known.of_old hR (Mono.row _ _ _)); (case hl => exact rfl)) | ((with_reducible apply XP.loadN); (case ho | hg | ht | hk | hx => exact rfl); (case hc => exact Known.of_old hR (Mono.row _ _ _)); (case hl => exact rfl)))))
  ((with_reducible apply XOp.callN (hF := twin_fn x hc)); (case hg => exact rfl); (case hc => exact rfl); (case ha => exact rfl); try (case hA => exact Known.true))
  case hA => exact Known.and (Known.of_old hS sides_mono) (Known.of_old hA (lw_mono _))
  rintro _ F ⟨x', rfl, hx, hF⟩
  (repeat (first | (with_reducible apply XL.op) | ((with_reducible apply XOp.storeN (i := 0)); (case hg | ht | hx | hv' | hk | h1 | hi | hs | ha => exact rfl)) | (with_reducible apply XL.nilT) | (with_reducible apply XQ.ret)))
  ((with_reducible apply XQ.retE); (case hr => exact .row rfl (by kernel_rfl) (by kernel_rfl) (own_row (i := 0) (m := 18) rfl rfl) .nil))
  exact ⟨F, .of (by ((try simp only [List.append_eq, List.cons_append, List.nil_append, List.append_assoc]); repeat (first | exact List.Sublist.refl _ | exact List.nil_sublist _ | (with_reducible apply List.Sublist.cons_cons) | (with_reducible apply List.Sublist.cons) | exact List.sublist_append_right _ _))), x', rfl, hx, hF⟩
def LoadR (b : List Int) (v : Value) (L : HL) : Prop :=
  (decS digS b = none ∧ v = .tuple #[.pointer none, .int .i64 42] ∧ L = []) ∨
  (∃ (mb : Nat) (x : LW) (F : HL), decS digS b = some x.w ∧ v = .tuple #[.pointer (some ⟨mb, 0, none⟩), .int .i64 0] ∧ L = MdB mb x :: F ∧ Held F (fun h => lwAt h x))
theorem errD_ok {b : List Int} {w : Wts} (h : decS digS b = some w) : errD b = 0 := by unfold errD; rw [h]
theorem decW_ok {b : List Int} {w : Wts} (h : decS digS b = some w) : decW b = w := by unfold decW; rw [h]
end Go.Proofs.YtppggaiahkecoaaDoorX
/- The least weights; works. -/
namespace Go.Proofs.YtppggaiahkecoaaDoorX
open Go Go.SX

def leastM : Mat := ⟨2, 2, [1, 2, 3, 4]⟩
def leastY : Lay := ⟨[1, 1], [2, 2], leastM, leastM, leastM, leastM, ⟨1, 2, [5, -6]⟩, ⟨1, 2, [5, -6]⟩, ⟨2, 1, [7, -8]⟩, [0, 0, 0, 24, 0, 0, 0]⟩
def leastW : Wts := ⟨⟨2, 2, 1, 1, 1, 1, 1, 0⟩, leastM, [(9, -9)], [leastY], [127, -127], leastM, []⟩
theorem leastW_ok : okW leastW := by
  have hm : ∀ m ∈ [leastM], isM m 2 2 := by
    intro m hm
    rw [List.mem_singleton.1 hm]
    refine ⟨rfl, rfl, by decide, by decide, by decide, by decide⟩
  have hM := hm _ (List.mem_singleton.2 rfl)
  refine ⟨by unfold Cfg.may; decide, hM, by decide, ⟨by decide, ?_⟩, ⟨by decide, by decide⟩, hM, ⟨by decide, by simp [leastW]⟩⟩
  intro l hl
  obtain rfl : l = leastY := List.mem_singleton.1 hl
  exact ⟨⟨by decide, by decide⟩, ⟨by decide, by decide⟩, hM, hM, hM, hM, ⟨rfl, rfl, by decide, by decide, by decide, by decide⟩, ⟨rfl, rfl, by decide, by decide, by decide, by decide⟩, ⟨rfl, rfl, by decide, by decide, by decide, by decide⟩, ⟨by decide, by decide⟩⟩
theorem lv_row {h : HV} {b : Nat} {l : List Int} (hr : rowv h b 0 (l.map (.int .i8))) (hb : l.length ≤ 1000) (hi : ∀ y ∈ l, -128 ≤ y ∧ y ≤ 127) : lvAt h (l, some ⟨b, 0, none⟩, l.length) :=
  ⟨Nat.le_refl _, by show l.length * 1 ≤ _; omega, (fun h => by cases h), fun _ => rfl, fun i x hx => ⟨[.int .i8 x], ⟨rfl, inK_i8.2 (hi x (List.mem_of_getElem? hx))⟩, fun j v hj => by
    match j, hj with
    | 0, hj =>
      obtain rfl : Value.int .i8 x = v := by simpa using hj
      have := hr i (.int .i8 x) (by rw [List.getElem?_map, hx]; rfl)
      have e : aoff (some (⟨b, 0, none⟩ : Addr)) + i * (Kd.int .i8).sz + 0 = 0 + i := by show 0 + i * 1 + 0 = 0 + i; omega
      show cellv h ⟨b, aoff (some (⟨b, 0, none⟩ : Addr)) + i * (Kd.int .i8).sz + 0, none⟩ = _
      rw [e]; exact this
    | j + 1, hj => simp at hj⟩⟩
def lsV (b : Nat) (l : List Int) : LV := (l, some ⟨b, 0, none⟩, l.length)
def lsM (b : Nat) (r c : Int) (l : List Int) : LM := ⟨r, c, lsV b l⟩
def lsL (b1 b2 b3 b4 b5 : Nat) : LL := ⟨lsV b4 [1, 1], lsV b5 [2, 2], lsM b1 2 2 [1, 2, 3, 4], lsM b1 2 2 [1, 2, 3, 4], lsM b1 2 2 [1, 2, 3, 4], lsM b1 2 2 [1, 2, 3, 4], lsM b2 1 2 [5, -6], lsM b2 1 2 [5, -6], lsM b3 2 1 [7, -8], 0, 0, 0, 24, 0, 0, 0⟩
def lsW (b1 b2 b3 b4 b5 bt bl bf : Nat) : LW := ⟨⟨2, 2, 1, 1, 1, 1, 1, 0⟩, lsM b1 2 2 [1, 2, 3, 4], ([(9, -9)], some ⟨bt, 0, none⟩, 1), ([lsL b1 b2 b3 b4 b5], some ⟨bl, 0, none⟩, 1), lsV bf [127, -127], lsM b1 2 2 [1, 2, 3, 4], ([], none, 0)⟩
theorem lsW_w (b1 b2 b3 b4 b5 bt bl bf : Nat) : (lsW b1 b2 b3 b4 b5 bt bl bf).w = leastW := rfl
theorem lsW_at {h : HV} {b1 b2 b3 b4 b5 bt bl bf : Nat} (r1 : rowv h b1 0 ([1, 2, 3, 4].map (.int .i8))) (r2 : rowv h b2 0 ([5, -6].map (.int .i8))) (r3 : rowv h b3 0 ([7, -8].map (.int .i8))) (r4 : rowv h b4 0 ([1, 1].map (.int .i8))) (r5 : rowv h b5 0 ([2, 2].map (.int .i8)))
    (rt : rowv h bt 0 (turnV (9, -9))) (rl : rowv h bl 0 (lsL b1 b2 b3 b4 b5).cells) (rf : rowv h bf 0 ([127, -127].map (.int .i8))) : lwAt h (lsW b1 b2 b3 b4 b5 bt bl bf) := by
  have v1 : lvAt h (lsV b1 [1, 2, 3, 4]) := lv_row r1 (by decide) (by decide)
  have v2 : lvAt h (lsV b2 [5, -6]) := lv_row r2 (by decide) (by decide)
  have v3 : lvAt h (lsV b3 [7, -8]) := lv_row r3 (by decide) (by decide)
  have v4 : lvAt h (lsV b4 [1, 1]) := lv_row r4 (by decide) (by decide)
  have v5 : lvAt h (lsV b5 [2, 2]) := lv_row r5 (by decide) (by decide)
  have vf : lvAt h (lsV bf [127, -127]) := lv_row rf (by decide) (by decide)
  refine ⟨v1, ?_, ?_, vf, v1, slA_nil⟩
  · exact (sla_of_row (f := turnV) (hk := fun _ => rfl) (l := [(9, -9)]) (tl := []) (c := 1) rt (by decide) (Nat.le_refl _) : SlA turnK 16 h [(9, -9)] (some ⟨bt, 0, none⟩) 1)
  · refine SlA.ofRaw (sla_of_row (f := LL.cells) (k := 30) (hk := fun _ => rfl) (l := [lsL b1 b2 b3 b4 b5]) (tl := []) (c := 1) rl (by show 1 * 384 ≤ _; decide) (Nat.le_refl _)) fun l hl => ?_
    obtain rfl : l = lsL b1 b2 b3 b4 b5 := List.mem_singleton.1 hl
    exact ⟨v4, v5, v1, v1, v1, v1, v2, v2, v3⟩
set_option maxHeartbeats 8000000 in
set_option maxRecDepth 10000 in
theorem least_fn : FC Tryd.prog 43 [] [] (fun _ => True)
    (fun v L => ∃ x : LW, v = .agg ⟨x.cells⟩ ∧ x.w = leastW ∧ Held L (fun h => lwAt h x)) := by
  refine FC.sub2 ?_
  refine FC.intro Tryd.func43 rfl (by kernel_rfl) 35 [.cell 0 31] rfl rfl rfl ?_
  intro w0 _
  (repeat (first | (with_reducible apply XL.op) | (with_reducible apply XC.seq) | (with_reducible apply XC.region (Γ := Γ))))
  ((with_reducible apply XOp.alloc); (case hg | ht | hx' => exact rfl); intro rb)
  (repeat (first | (with_reducible apply XL.op) | (with_reducible apply XL.nilT) | (with_reducible apply XC.seq) | (with_reducible apply XC.region (Γ := Γ))))
  ((with_reducible apply XOp.buildSlice); (case hg | ht | hk | he | hz | hzl | hf => exact rfl); intro b1)
  (repeat (first | (with_reducible apply XL.op) | ((with_reducible apply XOp.pr); (case hg => exact rfl); (case hr => ((with_reducible apply PR.build); (case ht | hk | hok | hz | hf => exact rfl))))))
  ((with_reducible apply XOp.alloc); (case hg | ht | hx' => exact rfl); intro e1)
  (repeat (first | (with_reducible apply XL.op) | ((with_reducible apply XOp.storeN (i := 0)); (case hg | ht | hx | hv' | hk | h1 | hi | hs | ha => exact rfl)) | (with_reducible apply XL.nilT) | (with_reducible apply XC.seq) | (with_reducible apply XC.region (Γ := Γ))))
  ((with_reducible apply XOp.buildSlice); (case hg | ht | hk | he | hz | hzl | hf => exact rfl); intro b2)
  (repeat (first | (with_reducible apply XL.op) | ((with_reducible apply XOp.pr); (case hg => exact rfl); (case hr => ((with_reducible apply PR.build); (case ht | hk | hok | hz | hf => exact rfl))))))
  ((with_reducible apply XOp.alloc); (case hg | ht | hx' => exact rfl); intro e2)
  (repeat (first | (with_reducible apply XL.op) | ((with_reducible apply XOp.storeN (i := 0)); (case hg | ht | hx | hv' | hk | h1 | hi | hs | ha => exact rfl)) | (with_reducible apply XL.nilT) | (with_reducible apply XC.seq) | (with_reducible apply XC.region (Γ := Γ))))
  ((with_reducible apply XOp.buildSlice); (case hg | ht | hk | he | hz | hzl | hf => exact rfl); intro b3)
  (repeat (first | (with_reducible apply XL.op) | ((with_reducible apply XOp.pr); (case hg => exact rfl); (case hr => ((with_reducible apply PR.build); (case ht | hk | hok | hz | hf => exact rfl))))))
  ((with_reducible apply XOp.alloc); (case hg | ht | hx' => exact rfl); intro e3)
  (repeat (first | (with_reducible apply XL.op) | ((with_reducible apply XOp.storeN (i := 0)); (case hg | ht | hx | hv' | hk | h1 | hi | hs | ha => exact rfl)) | (with_reducible apply XL.nilT) | (with_reducible apply XC.seq) | (with_reducible apply XC.region (Γ := Γ))))
  ((with_reducible apply XOp.buildSlice); (case hg | ht | hk | he | hz | hzl | hf => exact rfl); intro b4)
  (repeat ((with_reducible apply XL.op)))
  ((with_reducible apply XOp.buildSlice); (case hg | ht | hk | he | hz | hzl | hf => exact rfl); intro b5)
  (repeat (first | (with_reducible apply XL.op) | ((with_reducible apply XOp.loadO (i := 2)); (case hg | ht | hk | hx | hi | hc => exact rfl)) | ((with_reducible apply XOp.loadO (i := 4)); (case hg | ht | hk | hx | hi | hc => exact rfl)) | ((with_reducible apply XOp.loadO (i := 6)); (case hg | ht | hk | hx | hi | hc => exact rfl)) | ((with_reducible apply XOp.pr); (case hg => exact rfl); (case hr => ((with_reducible apply PR.build); (case ht | hk | hok | hz | hf => exact rfl))))))
  ((with_reducible apply XOp.alloc); (case hg | ht | hx' => exact rfl); intro lb)
  (repeat (first | (with_reducible apply XL.op) | ((with_reducible apply XOp.p1); (case hg | hv => exact rfl)) | ((with_reducible apply XOp.store (i := 0)); (case hg | ht | hk | hx | hv | h1 | hi | hs | ha => exact rfl)) | ((with_reducible apply XOp.storeN (i := 0)); (case hg | ht | hx | hv' | hk | h1 | hi | hs | ha => exact rfl)) | ((with_reducible apply XOp.pr); (case hg => exact rfl); (case hr => ((with_reducible apply PR.build); (case ht | hk | hok | hz | hf => exact rfl)))) | (with_reducible apply XL.nilT) | (with_reducible apply XC.seq) | (with_reducible apply XC.region (Γ := Γ))))
  ((with_reducible apply XOp.alloc); (case hg | ht | hx' => exact rfl); intro cb)
  (repeat (first | (with_reducible apply XL.op) | ((with_reducible apply XOp.loadO (i := 0)); (case hg | ht | hk | hx | hi | hc => exact rfl)) | ((with_reducible apply XOp.loadO (i := 8)); (case hg | ht | hk | hx | hi | hc => exact rfl)) | ((with_reducible apply XOp.storeN (i := 0)); (case hg | ht | hx | hv' | hk | h1 | hi | hs | ha => exact rfl)) | ((with_reducible apply XOp.pr); (case hg => exact rfl); (case hr => ((with_reducible apply PR.build); (case ht | hk | hok | hz | hf => exact rfl)))) | (with_reducible apply XL.nilT) | (with_reducible apply XC.seq) | (with_reducible apply XC.region (Γ := Γ))))
  ((with_reducible apply XOp.buildSlice); (case hg | ht | hk | he | hz | hzl | hf => exact rfl); intro bt)
  (repeat (first | (with_reducible apply XL.op) | ((with_reducible apply XOp.loadO (i := 2)); (case hg | ht | hk | hx | hi | hc => exact rfl))))
  ((with_reducible apply XOp.buildSlice); (case hg | ht | hk | he | hz | hzl | hf => exact rfl); intro bl)
  (repeat ((with_reducible apply XL.op)))
  ((with_reducible apply XOp.buildSlice); (case hg | ht | hk | he | hz | hzl | hf => exact rfl); intro bf)
  (repeat (first | (with_reducible apply XL.op) | ((with_reducible apply XOp.loadO (i := 11)); (case hg | ht | hk | hx | hi | hc => exact rfl)) | ((with_reducible apply XOp.pr); (case hg => exact rfl); (case hr => ((with_reducible apply PR.build); (case ht | hk | hok | hz | hf => exact rfl))))))
  ((with_reducible apply XOp.callN (hF := copyWeights_fn (lsW b1 b2 b3 b4 b5 bt bl bf))); (case hg => exact rfl); (case hc => exact rfl); (case ha => exact rfl); try (case hA => exact Known.true))
  case hA => exact Held.known (F := _) (fun h hh => lsW_at (Held.row (by repeat (first | exact List.mem_cons_self .. | (with_reducible apply List.mem_cons_of_mem))) h hh) (Held.row (by repeat (first | exact List.mem_cons_self .. | (with_reducible apply List.mem_cons_of_mem))) h hh) (Held.row (by repeat (first | exact List.mem_cons_self .. | (with_reducible apply List.mem_cons_of_mem))) h hh) (Held.row (by repeat (first | exact List.mem_cons_self .. | (with_reducible apply List.mem_cons_of_mem))) h hh) (Held.row (by repeat (first | exact List.mem_cons_self .. | (with_reducible apply List.mem_cons_of_mem))) h hh) (Held.row (by repeat (first | exact List.mem_cons_self .. | (with_reducible apply List.mem_cons_of_mem))) h hh) (Held.row (by repeat (first | exact List.mem_cons_self .. | (with_reducible apply List.mem_cons_of_mem))) h hh) (Held.row (by repeat (first | exact List.mem_cons_self .. | (with_reducible apply List.mem_cons_of_mem))) h hh)) (fun _ hy => hy)
  rintro _ F ⟨x', rfl, hx, hF⟩
  (repeat (first | (with_reducible apply XL.op) | ((with_reducible apply XOp.storeN (i := 13)); (case hg | ht | hx | hv' | hk | h1 | hi | hs | ha => exact rfl)) | (with_reducible apply XL.nilT) | (with_reducible apply XQ.ret)))
  ((with_reducible apply XQ.retE); (case hr => exact .row rfl (by kernel_rfl) (by kernel_rfl) (own_row (i := 13) (m := 18) rfl rfl) .nil))
  exact ⟨F, .of (by ((try simp only [List.append_eq, List.cons_append, List.nil_append, List.append_assoc]); repeat (first | exact List.Sublist.refl _ | exact List.nil_sublist _ | (with_reducible apply List.Sublist.cons_cons) | (with_reducible apply List.Sublist.cons) | exact List.sublist_append_right _ _))), x', rfl, hx.trans (lsW_w b1 b2 b3 b4 b5 bt bl bf), hF⟩
theorem digS_rng (l : List Int) : 0 ≤ digS l ∧ digS l < 18446744073709551616 := by
  have := inK_u64.1 (digS_u64 l); omega
theorem dec_enc {w : Wts} (h : okW w) : decS digS (encS w) = some w := by
  rw [encS_ok h]; exact (dec_iff digS digS_rng (isB_file _ _)).2 ⟨h, rfl⟩
set_option maxHeartbeats 8000000 in
set_option maxRecDepth 10000 in
theorem works_fn : FC Tryd.prog 15 [] [] (fun h => sidesK h) (fun v L => v = .bool true ∧ L = []) := by
  refine FC.nil ?_
  refine FC.intro Tryd.func15 rfl (by kernel_rfl) 45 [.tmp 0] rfl rfl rfl ?_
  intro w0 hS
  (repeat (first | (with_reducible apply XL.op) | ((with_reducible apply XOp.p1); (case hg | hv => exact rfl)) | (with_reducible apply XL.nilT) | (with_reducible apply XC.seq) | (with_reducible apply XC.region (Γ := Γ))))
  ((with_reducible apply XOp.callN (hF := least_fn)); (case hg => exact rfl); (case hc => exact rfl); (case ha => exact rfl); try (case hA => exact Known.true))
  rintro _ F1 ⟨x, rfl, hx, hF1⟩
  have hxe : errW x.w = 0 := errW_ok (hx ▸ leastW_ok)
  have hxd : decS digS (encS x.w) = some x.w := dec_enc (hx ▸ leastW_ok)
  (repeat ((with_reducible apply XL.op)))
  ((with_reducible apply XOp.alloc); (case hg | ht | hx' => exact rfl); intro wb)
  (repeat (first | (with_reducible apply XL.op) | ((with_reducible apply XOp.loadO (i := 0)); (case hg | ht | hk | hx | hi | hc => exact rfl)) | ((with_reducible apply XOp.storeN (i := 0)); (case hg | ht | hx | hv' | hk | h1 | hi | hs | ha => exact rfl)) | (with_reducible apply XL.nilT) | (with_reducible apply XC.seq) | (with_reducible apply XC.region (Γ := Γ))))
  ((with_reducible apply XOp.callN (hF := new_fn x)); (case hg => exact rfl); (case hc => exact rfl); (case ha => exact rfl); try (case hA => exact Known.true))
  case hA => exact Known.and (Known.of_old hS sides_mono) (hF1.known fun y hy => by simp [hy])
  rintro _ L2 hN
  rcases hN with ⟨hne, _⟩ | ⟨_, mb, x2, F2, rfl, hx2, rfl, hF2⟩
  · exact absurd hxe hne
  (repeat (first | (with_reducible apply XL.op) | ((with_reducible apply XOp.p1); (case hg | hv => exact rfl)) | ((with_reducible apply XOp.loadO (i := 0)); (case hg | ht | hk | hx | hi | hc => exact rfl)) | (with_reducible apply XL.nilT) | (with_reducible apply XC.seq) | (with_reducible apply XC.region (Γ := Γ))))
  ((with_reducible apply XOp.callN (hF := encode_fn x)); (case hg => exact rfl); (case hc => exact rfl); (case ha => exact rfl); try (case hA => exact Known.true))
  case hA => exact Known.and (Known.of_old hS sides_mono) (hF1.known fun y hy => by simp [hy])
  rintro _ F3 hE
  obtain ⟨a3, c3, rfl, s3⟩ := hE.get
  rw [hxe]
  (repeat (first | (with_reducible apply XL.op) | ((with_reducible apply XOp.p1); (case hg | hv => exact rfl)) | (with_reducible apply XL.nilT) | (with_reducible apply XC.seq) | (with_reducible apply XC.region (Γ := Γ))))
  ((with_reducible apply XOp.callN (hF := decode_fn (encS x.w) a3 c3)); (case hg => exact rfl); (case hc => exact rfl); (case ha => exact rfl); try (case hA => exact Known.true))
  case hA => exact Known.and (Known.of_old hS sides_mono) (s3.known fun y hy => by simp [hy])
  rintro _ F4 ⟨x4, rfl, hx4, hF4⟩
  rw [errD_ok hxd]
  rw [decW_ok hxd] at hx4
  (repeat (first | (with_reducible apply XL.op) | ((with_reducible apply XOp.p1); (case hg | hv => exact rfl))))
  ((with_reducible apply XOp.alloc); (case hg | ht | hx' => exact rfl); intro w4)
  (repeat (first | (with_reducible apply XL.op) | ((with_reducible apply XOp.p1); (case hg | hv => exact rfl)) | ((with_reducible apply XOp.storeN (i := 0)); (case hg | ht | hx | hv' | hk | h1 | hi | hs | ha => exact rfl)) | (with_reducible apply XL.nilT) | (with_reducible apply XC.seq)))
  ((with_reducible apply XC.regionL (Γ := Γ) mixed (.q 0 (.e 1 (.e 2 (.q 3 (.done))))) [] ([(w4, Obj.cells ⟨x4.cells⟩ 31 (0, 0))])); (case hc => kernel_rfl); (case hs => first | exact List.nil_sublist _ | exact List.Sublist.refl _ | exact List.sublist_append_right _ _ | (refine List.Sublist.cons_cons _ (List.nil_sublist _)) | (refine List.Sublist.cons_cons _ (List.Sublist.cons_cons _ (List.nil_sublist _))) | (refine List.Sublist.cons_cons _ (List.Sublist.cons_cons _ (List.Sublist.cons_cons _ (List.nil_sublist _)))) | (refine List.Sublist.cons_cons _ (List.Sublist.cons_cons _ (List.Sublist.cons_cons _ (List.Sublist.cons_cons _ (List.nil_sublist _))))) | ((try simp only [List.append_eq, List.cons_append, List.nil_append, List.append_assoc]); (repeat (first | exact List.Sublist.refl _ | exact List.nil_sublist _ | (with_reducible apply List.Sublist.cons_cons) | (with_reducible apply List.Sublist.cons))); done)))
  (repeat (first | ((with_reducible apply XP.loadO (j := 0)); (case ho | hg | ht | hk | hx | hi | hc => exact rfl)) | ((with_reducible apply XP.e); (first | ((with_reducible apply XE.d); (case ho => exact rfl); (case hd => exact rfl)) | ((with_reducible apply XE.e); (case ho => exact rfl))))))
  ((with_reducible apply XOp.callN (hF := least_fn)); (case hg => exact rfl); (case hc => exact rfl); (case ha => exact rfl); try (case hA => exact Known.true))
  rintro _ F5 ⟨x5, rfl, hx5, hF5⟩
  refine ⟨fun y hy => by rw [List.mem_singleton.1 hy]; exact List.mem_append_left _ (List.mem_cons_self ..), ?_⟩
  (repeat (((with_reducible apply XP.e); (first | ((with_reducible apply XE.d); (case ho => exact rfl); (case hd => exact rfl)) | ((with_reducible apply XE.e); (case ho => exact rfl))))))
  ((with_reducible apply XOp.callQ (hF := eqWeightsT_fn x4 x5 (by rw [hx4, hx, hx5]))); (case hg => exact rfl); (case hc => exact rfl); (case ha => exact rfl); try (case hA => exact Known.true))
  case hA => exact Known.and (hF4.known fun y hy => by simp [hy]) (hF5.known fun y hy => by simp [hy])
  rintro _ rfl
  (repeat (first | (with_reducible apply XL.op) | ((with_reducible apply XOp.p1); (case hg | hv => exact rfl)) | (with_reducible apply XL.nilT) | (with_reducible apply XC.seq) | (with_reducible apply XC.region (Γ := Γ)) | (with_reducible apply XQ.ret) | (with_reducible apply XQ.nt) | ((with_reducible apply XP.p1); (case ho | hg | hv => exact rfl)) | (with_reducible apply XP.done) | ((with_reducible apply XP.keep); (case hk => first | ((repeat' (first | exact List.forall_mem_nil _ | (with_reducible refine List.forall_mem_cons.2 ⟨?_, ?_⟩) | exact List.mem_cons_self .. | (with_reducible apply List.mem_cons_of_mem) | (with_reducible apply List.mem_append_right))); done) | (intro x hx; first | exact sel_in hx | exact List.mem_cons_of_mem _ (sel_in hx) | exact List.mem_append_right _ (sel_in hx) | exact hx | exact List.mem_cons_of_mem _ hx | exact List.mem_append_right _ hx | ((repeat (first | exact sel_in hx | exact hx | (with_reducible apply List.mem_cons_of_mem) | (with_reducible apply List.mem_append_right))); done) | (rw [List.mem_singleton.1 hx]; (simp; done)) | (rcases List.mem_cons.1 hx with rfl | hx; (simp; done); (rw [List.mem_singleton.1 hx]; (simp; done))) | cases hx))) | (first | ((with_reducible apply XOp.split); (case hg | hj | hd | hb => exact rfl); (fail_if_success (case hf => exact fun h => Bool.noConfusion h)); (fail_if_success (case ht => exact fun h => Bool.noConfusion h)); (first | (case ht => intro hb_; try simp only [pd_true, pd_false, Bool.not_eq_true', Bool.not_eq_false', Bool.and_eq_true, Bool.and_eq_false_iff, Bool.or_eq_true, Bool.or_eq_false_iff, not_true_eq_false, not_false_eq_true, Int.not_lt, Int.not_le] at hb_; first | done | (exfalso; first | omega | contradiction)) | (case hf => intro hb_; try simp only [pd_true, pd_false, Bool.not_eq_true', Bool.not_eq_false', Bool.and_eq_true, Bool.and_eq_false_iff, Bool.or_eq_true, Bool.or_eq_false_iff, not_true_eq_false, not_false_eq_true, Int.not_lt, Int.not_le] at hb_; first | done | (exfalso; first | omega | contradiction))); intro hb_; try simp only [pd_true, pd_false, Bool.not_eq_true', Bool.not_eq_false', Bool.and_eq_true, Bool.and_eq_false_iff, Bool.or_eq_true, Bool.or_eq_false_iff, not_true_eq_false, not_false_eq_true, Int.not_lt, Int.not_le] at hb_) | ((with_reducible apply XP.split); (case ho | hg | hj | hd | hb => exact rfl); (fail_if_success (case hf => exact fun h => Bool.noConfusion h)); (fail_if_success (case ht => exact fun h => Bool.noConfusion h)); (first | (case ht => intro hb_; try simp only [pd_true, pd_false, Bool.not_eq_true', Bool.not_eq_false', Bool.and_eq_true, Bool.and_eq_false_iff, Bool.or_eq_true, Bool.or_eq_false_iff, not_true_eq_false, not_false_eq_true, Int.not_lt, Int.not_le] at hb_; first | done | (exfalso; first | omega | contradiction)) | (case hf => intro hb_; try simp only [pd_true, pd_false, Bool.not_eq_true', Bool.not_eq_false', Bool.and_eq_true, Bool.and_eq_false_iff, Bool.or_eq_true, Bool.or_eq_false_iff, not_true_eq_false, not_false_eq_true, Int.not_lt, Int.not_le] at hb_; first | done | (exfalso; first | omega | contradiction))); intro hb_; try simp only [pd_true, pd_false, Bool.not_eq_true', Bool.not_eq_false', Bool.and_eq_true, Bool.and_eq_false_iff, Bool.or_eq_true, Bool.or_eq_false_iff, not_true_eq_false, not_false_eq_true, Int.not_lt, Int.not_le] at hb_) | ((with_reducible apply XC.cond); (case hc => exact rfl); (first | (case ht => intro hb_; try simp only [pd_true, pd_false, Bool.not_eq_true', Bool.not_eq_false', Bool.and_eq_true, Bool.and_eq_false_iff, Bool.or_eq_true, Bool.or_eq_false_iff, not_true_eq_false, not_false_eq_true, Int.not_lt, Int.not_le] at hb_; first | done | (exfalso; first | omega | contradiction)) | (case hf => intro hb_; try simp only [pd_true, pd_false, Bool.not_eq_true', Bool.not_eq_false', Bool.and_eq_true, Bool.and_eq_false_iff, Bool.or_eq_true, Bool.or_eq_false_iff, not_true_eq_false, not_false_eq_true, Int.not_lt, Int.not_le] at hb_; first | done | (exfalso; first | omega | contradiction))); intro hb_; try simp only [pd_true, pd_false, Bool.not_eq_true', Bool.not_eq_false', Bool.and_eq_true, Bool.and_eq_false_iff, Bool.or_eq_true, Bool.or_eq_false_iff, not_true_eq_false, not_false_eq_true, Int.not_lt, Int.not_le] at hb_)) | (first | (first | ((with_reducible apply XOp.pr); (case hg => exact rfl); (case hr => (with_reducible apply PR.eqNilP); (case ht => exact rfl); (case hk => exact rfl); (case hx => exact rfl); (case hy => exact rfl))) | ((with_reducible apply XP.pr); (case ho => exact rfl); (case hg => exact rfl); (case hr => (with_reducible apply PR.eqNilP); (case ht => exact rfl); (case hk => exact rfl); (case hx => exact rfl); (case hy => exact rfl)))) | (first | ((with_reducible apply XOp.pr); (case hg => exact rfl); (case hr => (with_reducible apply PR.neNilP); (case ht => exact rfl); (case hk => exact rfl); (case hx => exact rfl); (case hy => exact rfl))) | ((with_reducible apply XP.pr); (case ho => exact rfl); (case hg => exact rfl); (case hr => (with_reducible apply PR.neNilP); (case ht => exact rfl); (case hk => exact rfl); (case hx => exact rfl); (case hy => exact rfl)))))))
  ((with_reducible apply XQ.retE); (case hr => exact .t rfl .nil))
  rfl
end Go.Proofs.YtppggaiahkecoaaDoorX
/- ModelRounds: there and back, both ways. -/
namespace Go.Proofs.YtppggaiahkecoaaDoorX
open Go Go.SX

theorem mul_low {a b x y : Int} (ha : x ≤ a) (hb : y ≤ b) (hx : 0 ≤ x) (hy : 0 ≤ y) : x * y ≤ a * b :=
  Int.mul_le_mul ha hb hy (Int.le_trans hx ha)
theorem isM_len {m : Mat} {r c x y : Int} (h : isM m r c) (hr : x ≤ r) (hc : y ≤ c) (hx : 0 ≤ x) (hy : 0 ≤ y) : x * y ≤ (m.Data.length : Int) := by
  rw [h.2.2.2.2.1]; exact mul_low hr hc hx hy
theorem head_low {c : Cfg} (h : c.may) : 2 ≤ c.head := by
  obtain ⟨_, ⟨h1, _⟩, ⟨h2, _⟩, _, _, _, _, h3, _⟩ := h
  obtain ⟨k, hk⟩ := Int.dvd_of_emod_eq_zero h3
  have hk1 : 1 ≤ k := by
    by_cases hk0 : k ≤ 0
    · exfalso
      have : 2 * c.Heads * k ≤ 0 := Int.mul_nonpos_of_nonneg_of_nonpos (by omega) hk0
      omega
    · omega
  have e : c.Width = c.Heads * (2 * k) := by rw [hk, Int.mul_comm 2 c.Heads, Int.mul_assoc]
  unfold Cfg.head
  rw [e, Int.mul_ediv_cancel_left _ (by omega)]
  omega
theorem turnsB_len : ∀ l : List (Int × Int), (l.flatMap turnB).length = 4 * l.length
  | [] => rfl
  | x :: l => by rw [List.flatMap_cons, List.length_append, turnsB_len l, List.length_cons]; unfold turnB; rw [List.length_append, numB_len, numB_len]; omega
theorem file_len (D : List Int → Int) {w : Wts} (h : okW w) : 104 ≤ (fileOf D w).length := by
  have hh := head_low h.c
  obtain ⟨⟨v1, _⟩, ⟨v2, _⟩, _, ⟨v4, _⟩, ⟨v5, _⟩, _, _, _, ⟨v9, _⟩, _⟩ := h.c
  have hk : 2 ≤ w.C.keys := by
    have := mul_low (x := 1) (y := 2) v9 hh (by omega) (by omega)
    unfold Cfg.keys; omega
  have he := isM_len h.e v1 v2 (by omega) (by omega)
  have hH := isM_len h.h v1 v2 (by omega) (by omega)
  have hf := h.f.1
  have ht := h.t.1
  obtain ⟨l, rest, hl⟩ : ∃ l rest, w.Layers = l :: rest := by
    cases hw : w.Layers with
    | nil => have := h.l.1; rw [hw] at this; simp at this; omega
    | cons l rest => exact ⟨l, rest, rfl⟩
  have ho := h.l.2 l (by rw [hl]; exact List.mem_cons_self ..)
  have l1 := ho.n1.1
  have l2 := ho.n2.1
  have lq := isM_len ho.q v2 v2 (by omega) (by omega)
  have lk := isM_len ho.k hk v2 (by omega) (by omega)
  have lv := isM_len ho.v hk v2 (by omega) (by omega)
  have lo := isM_len ho.o v2 v2 (by omega) (by omega)
  have lg := isM_len ho.g v5 v2 (by omega) (by omega)
  have lu := isM_len ho.u v5 v2 (by omega) (by omega)
  have ld := isM_len ho.d v2 v5 (by omega) (by omega)
  have lb := ho.by_.1
  have hcl : w.C.list.length = 8 := rfl
  unfold fileOf fileB wtsB
  rw [hl]
  simp only [List.length_append, secB_len, List.flatMap_cons, layBody, Mat.bytes, List.length_map, numB_len, hcl, beginB, List.length_cons, List.length_nil]
  have htl := turnsB_len w.Turns
  generalize (List.flatMap turnB w.Turns).length = nt at *
  generalize (List.flatMap _ rest).length = nr
  generalize (List.flatMap _ w.Medusa).length = nm
  omega
end Go.Proofs.YtppggaiahkecoaaDoorX
/- The document's reader: bytes, numbers, matrices. -/
namespace Go.Proofs.YtppggaiahkecoaaDoorX
open Go Go.SX

/-- The view's block. -/
abbrev VwB (vb : Nat) (a : Option Addr) (c : Nat) (b : List Int) (p : Nat) : Nat × Obj := (vb, .cells ⟨[.slice a b.length c, .int .i64 p]⟩ 108 (0, 0))
theorem sel_nil (l : HL) : sel [] l = l := by cases l <;> rfl
theorem bytV_snoc (b : List Int) (p i : Nat) : bytV (i + 1) b p = bytV i b p ++ [b.getD (p + i) 0] := by unfold bytV; rw [List.range_succ, List.map_append]; rfl
set_option maxHeartbeats 4000000 in
theorem vnarrow_fn (vb : Nat) (a : Option Addr) (c : Nat) (b : List Int) (p n : Nat) (hp : p + n ≤ 1000000000) : FC Tryd.prog 66 [.pointer (some ⟨vb, 0, none⟩), .int .i64 n] [VwB vb a c b p] (fun h => byAt h b a c)
    (fun v L => ∃ (x : LV) (F : HL), v = slv x ∧ x.1 = (narV n b p).1 ∧ L = VwB vb a c b (p + n) :: F ∧ Held F (fun h => lvAt h x) ∧ (0 < n → x.2.1 = some ⟨ablk x.2.1, aoff x.2.1, none⟩)) := by
  refine FC.sub2 ?_
  refine FC.intro Tryd.func66 rfl (by kernel_rfl) 46 [.tmp 4] rfl rfl rfl ?_
  intro w0 hA
  have hBb : isB b := fun y hy => inK_u8.1 (hA.okAll y hy)
  have hbl := hA.bytes
  have hat := hA.at_
  (repeat (first | (with_reducible apply XL.op) | ((with_reducible apply XOp.p1); (case hg | hv => exact rfl)) | (with_reducible apply XL.nilT) | (with_reducible apply XC.seq) | (with_reducible apply XC.region (Γ := Γ)) | (with_reducible apply XC.block)))
  refine XC.loopP (fun k ρ L => ∃ (i : Nat) (v : Value) (Fv : HL), i + k = n ∧ OwnS 39 1 v i (((bytV i b p).map toN).map (.int .i8)) Fv ∧ L = VwB vb a c b (p + i) :: Fv ∧ Slots ρ [(0, .pointer (some ⟨vb, 0, none⟩)), (1, .int .i64 n), (5, v), (6, .int .i64 i)])
    n ⟨0, _, [], by simp, OwnS.nil _ _, rfl, rfl, rfl, rfl, rfl, trivial⟩ ?_
  rintro k ρ L ⟨i, v, Fv, hik, hown, rfl, hs⟩
  obtain ⟨a2, c2, rfl⟩ := hown.val
  refine XC.slots _ hs ?_
  (repeat (first | (with_reducible apply XL.op) | ((with_reducible apply XOp.p1); (case hg | hv => exact rfl)) | (with_reducible apply XL.nilT) | (with_reducible apply XC.seq) | (with_reducible apply XC.region (Γ := Γ))))
  ((with_reducible apply XC.cond); (case hc => exact rfl); all_goals (intro hb_; try simp only [pd_true, pd_false, Bool.not_eq_true', Bool.not_eq_false', Bool.and_eq_true, Bool.and_eq_false_iff, Bool.or_eq_true, Bool.or_eq_false_iff, not_true_eq_false, not_false_eq_true, Int.not_lt, Int.not_le] at hb_))
  · have hx : 0 ≤ b.getD (p + i) 0 ∧ b.getD (p + i) 0 ≤ 255 := by have := bytV_isB hBb 1 (p + i) (b.getD (p + i) 0) (by simp [bytV]); exact this
    (repeat (first | (with_reducible apply XL.op) | ((with_reducible apply XOp.p1); (case hg | hv => exact rfl)) | (with_reducible apply XL.nilT) | (with_reducible apply XC.seq) | (with_reducible apply XC.region (Γ := Γ)) | (with_reducible apply XQ.skip) | (with_reducible apply XQ.nt) | (with_reducible apply XC.block)))
    ((with_reducible apply XC.regionD (Γ := Γ) mixed (.q 0 (.q 1 (.q 2 (.q 3 (.q 4 (.q 5 (.q 6 (.q 7 (.q 8 (.q 9 (.done))))))))))) [] []); (case hc => kernel_rfl))
    (repeat (first | (with_reducible apply XQ.nt) | ((with_reducible apply XP.p1); (case ho | hg | hv => exact rfl)) | ((with_reducible apply XP.load); (case ho | hg | ht | hk | hx => exact rfl); (case hc => exact own_cell (i := 0) rfl rfl)) | (with_reducible apply XP.done)))
    refine XC.cut (fun ρ L => L = VwB vb a c b (p + i) :: Fv ∧ Slots ρ [(0, .pointer (some ⟨vb, 0, none⟩)), (1, .int .i64 n), (5, .slice a2 i c2), (6, .int .i64 i), (7, .int .u8 (b.getD (p + i) 0))]) _ ?_ ?_
    · ((with_reducible apply XC.cond); (case hc => exact rfl); all_goals (intro hb_; try simp only [pd_true, pd_false, Bool.not_eq_true', Bool.not_eq_false', Bool.and_eq_true, Bool.and_eq_false_iff, Bool.or_eq_true, Bool.or_eq_false_iff, not_true_eq_false, not_false_eq_true, Int.not_lt, Int.not_le] at hb_))
      · have hlt : p + i < b.length := by omega
        have hc := (hA.int (p + i) hlt).1
        ((with_reducible apply XC.regionD (Γ := Γ) mixed (.q 0 (.q 1 (.q 2 (.q 3 (.q 4 (.q 5 (.q 6 (.q 7 (.q 8 (.q 9 (.q 10 (.done)))))))))))) [] []); (case hc => kernel_rfl))
        (repeat (first | (with_reducible apply XQ.nt) | ((with_reducible apply XP.p1); (case ho | hg | hv => exact rfl)) | ((with_reducible apply XP.load); (case ho | hg | ht | hk | hx => exact rfl); (case hc => exact own_cell (i := 0) rfl rfl)) | ((with_reducible apply XP.pr); (case ho => exact rfl); (case hg => exact rfl); (case hr => ((with_reducible apply PR.idxA); (case ht | hk | he | hx | hi => exact rfl); (case hr => first | assumption | omega); (case ha => first | assumption | exact SlA.at_ (by assumption))))) | (with_reducible apply XP.done) | (first | ((with_reducible apply XOp.load); (case hg | ht | hk | hx => exact rfl); (case hc => exact Known.of_old hc (Mono.cell _ _))) | ((with_reducible apply XP.load); (case ho | hg | ht | hk | hx => exact rfl); (case hc => exact Known.of_old hc (Mono.cell _ _))))))
        refine ⟨rfl, rfl, rfl, rfl, rfl, ?_, trivial⟩
        show Value.int _ _ = Value.int _ _
        rw [List.getD_eq_getElem?_getD]
      · (repeat (first | (with_reducible apply XQ.skip) | (with_reducible apply XQ.nt)))
        refine ⟨rfl, rfl, rfl, rfl, rfl, ?_, trivial⟩
        show Value.int _ _ = Value.int _ _
        rw [List.getD_eq_getElem?_getD, List.getElem?_eq_none (by omega)]; rfl
    rintro ρ L ⟨rfl, hs⟩
    refine XC.slots _ hs ?_
    (repeat (first | (with_reducible apply XL.op) | ((with_reducible apply XOp.p1); (case hg | hv => exact rfl)) | (with_reducible apply XC.seq) | (with_reducible apply XC.region (Γ := Γ))))
    ((with_reducible apply XOp.buildSlice); (case hg | ht | hk | he | hz | hzl | hf => exact rfl); intro bb)
    (repeat ((with_reducible apply XL.op)))
    ((with_reducible apply XOp.append1R (R := [VwB vb a c b (p + i)])); (case hg => exact rfl); (case ht => exact rfl); (case hk => exact rfl); (case he => exact rfl); (case hown => exact hown); (case hs => exact rfl); (case hx => exact rfl); (case hL => exact rfl); (case hl => exact rfl); (case h1 => exact rfl); (case hz => exact rfl); (case hsz => exact Nat.zero_lt_succ _); (case hk0 => exact Nat.zero_lt_succ _); (case h63 => simp only [maxLen]; omega); (case hb => simp only []; omega); intro v_ F_ hown_; obtain ⟨a_, c_, rfl⟩ := hown_.val)
    (repeat (first | (with_reducible apply XL.op) | ((with_reducible apply XOp.p1); (case hg | hv => exact rfl)) | ((with_reducible apply XOp.load); (case hg | ht | hk | hx => exact rfl); (case hc => exact own_cell (i := 0) rfl rfl)) | ((with_reducible apply XOp.store (i := 0)); (case hg | ht | hk | hx | hv | h1 | hi | hs | ha => exact rfl)) | (with_reducible apply XL.nilT) | (with_reducible apply XC.region (Γ := Γ)) | (with_reducible apply XL.nilQ) | (with_reducible apply XQ.nt) | (with_reducible apply XQ.nb)))
    refine ⟨k - 1, by omega, _, .of (List.Sublist.refl _), i + 1, _, F_, by omega, hown_.conv rfl ?_, ?_, rfl, rfl, rfl, intS2 (m := n) (by omega) (by omega), trivial⟩
    · rw [bytV_snoc, i8_toN hx]; simp [zerosL]
    · rw [intS2 (i := p + i) (m := 1000000000) (by omega) (by omega)]; rfl
  · obtain rfl : i = n := by omega
    (repeat (first | (with_reducible apply XL.op) | ((with_reducible apply XOp.p1); (case hg | hv => exact rfl)) | (with_reducible apply XL.nilT) | (with_reducible apply XC.seq) | (with_reducible apply XC.region (Γ := Γ)) | (with_reducible apply XQ.ret) | (with_reducible apply XQ.exit) | (with_reducible apply XQ.nt) | (with_reducible apply XQ.et) | ((with_reducible apply XQ.eb); (case hb => exact rfl))))
    ((with_reducible apply XQ.retE); (case hr => exact .t rfl .nil))
    have hNo : isN ((bytV i b p).map toN) := isN_map (bytV_isB hBb _ _)
    have hli := bytV_len i b p
    obtain ⟨a3, c3, e3, _, s3⟩ := hown.slA (by_ := 1) (fun y hy => inK_i8.2 (hNo y hy)) (by rw [List.length_map]; omega)
    rw [List.length_map, hli] at e3
    obtain ⟨rfl, _, rfl⟩ := Value.slice.inj e3
    exact ⟨VwB vb a c b (p + i) :: Fv, .of (List.Sublist.refl _), ((bytV i b p).map toN, a2, c2), Fv, by simp [resV, hli], rfl, rfl, Held.frag s3 (Mono.sl _ _ _ _ _), fun h0 => s3.at_ (by rw [List.length_map]; omega)⟩
theorem vnarrowI_fn (vb : Nat) (a : Option Addr) (c : Nat) (b : List Int) (p : Nat) (n : Int) (hn : 0 ≤ n) (hp : p + n ≤ 1000000000) : FC Tryd.prog 66 [.pointer (some ⟨vb, 0, none⟩), .int .i64 n] [VwB vb a c b p] (fun h => byAt h b a c)
    (fun v L => ∃ (x : LV) (F : HL), v = slv x ∧ x.1 = (narV n.toNat b p).1 ∧ L = VwB vb a c b (p + n.toNat) :: F ∧ Held F (fun h => lvAt h x)) := by
  have h := (vnarrow_fn vb a c b p n.toNat (by omega)).mono (Post' := fun v L => ∃ (x : LV) (F : HL), v = slv x ∧ x.1 = (narV n.toNat b p).1 ∧ L = VwB vb a c b (p + n.toNat) :: F ∧ Held F (fun h => lvAt h x)) fun v L ⟨x, F, h1, h2, h3, h4, _⟩ => ⟨x, F, h1, h2, h3, h4⟩
  rwa [show ((n.toNat : Nat) : Int) = n by omega] at h
theorem vmat_fn (vb : Nat) (a : Option Addr) (c : Nat) (b : List Int) (p : Nat) (rows cols : Int) (hn : 0 ≤ rows * cols ∧ rows * cols ≤ 100000000) (hp : p ≤ 100000000) : FC Tryd.prog 63 [.pointer (some ⟨vb, 0, none⟩), .int .i64 rows, .int .i64 cols] [VwB vb a c b p] (fun h => byAt h b a c)
    (fun v L => ∃ (x : LM) (F : HL), v = .agg ⟨x.cells⟩ ∧ x.mat = (matV rows cols b p).1 ∧ L = VwB vb a c b (p + (rows * cols).toNat) :: F ∧ Held F (fun h => lmAt h x)) := by
  refine FC.sub2 ?_
  refine FC.intro Tryd.func63 rfl (by kernel_rfl) 15 [.cell 6 26] rfl rfl rfl ?_
  intro w0 hA
  have en : IntKind.i64.wrap (rows * cols) = (((rows * cols).toNat : Nat) : Int) := by rw [wrap64_of (by omega) (by omega)]; omega
  (repeat (first | (with_reducible apply XL.op) | (with_reducible apply XC.seq) | (with_reducible apply XC.region (Γ := Γ))))
  ((with_reducible apply XOp.alloc); (case hg | ht | hx' => exact rfl); intro mb)
  (repeat (first | (with_reducible apply XL.op) | ((with_reducible apply XOp.p1); (case hg | hv => exact rfl)) | (with_reducible apply XL.nilT) | (with_reducible apply XC.seq) | (with_reducible apply XC.region (Γ := Γ))))
  rw [en]
  ((with_reducible apply XOp.callR (R := [_]) (F := [VwB vb a c b p]) (hF := vnarrow_fn vb a c b p (rows * cols).toNat (by omega))); (case hg => exact rfl); (case hc => exact rfl); (case ha => exact rfl); (case hL => exact rfl); try (case hA => exact Known.true))
  case hA => exact Known.of_old hA (Mono.sl _ _ _ _ _)
  rintro _ _ ⟨x, F, rfl, hx, rfl, hF, _⟩
  (repeat (first | (with_reducible apply XL.op) | ((with_reducible apply XOp.storeN (i := 0)); (case hg | ht | hx | hv' | hk | h1 | hi | hs | ha => exact rfl)) | ((with_reducible apply XOp.pr); (case hg => exact rfl); (case hr => ((with_reducible apply PR.build); (case ht | hk | hok | hz | hf => exact rfl)))) | (with_reducible apply XL.nilT) | (with_reducible apply XQ.ret)))
  ((with_reducible apply XQ.retE); (case hr => exact .row rfl (by kernel_rfl) (by kernel_rfl) (own_row (i := 0) (m := 3) rfl rfl) .nil))
  exact ⟨_, .of (List.sublist_cons_self _ _), ⟨rows, cols, x⟩, F, rfl, by simp only [LM.mat, hx]; rfl, rfl, hF⟩
set_option maxHeartbeats 4000000 in
theorem refNumber_fn (a : Option Addr) (c : Nat) (b : List Int) (p n : Nat) (hn : n ≤ 7) (hp : p ≤ 1000000000) : FC Tryd.prog 93 [.slice a b.length c, .int .i64 p, .int .i64 n] [] (fun h => byAt h b a c)
    (fun v L => v = .int .u64 (valB (bytV n b p)) ∧ L = []) := by
  refine FC.nil ?_
  refine FC.intro Tryd.func93 rfl (by kernel_rfl) 33 [.tmp 6] rfl rfl rfl ?_
  intro w0 hA
  have hBb : isB b := fun y hy => inK_u8.1 (hA.okAll y hy)
  have hbl := hA.bytes
  have hat := hA.at_
  have hl := bytV_len n b p
  have hBB := bytV_isB hBb n p
  have hgD : ∀ i, i < n → (bytV n b p).getD i 0 = b.getD (p + i) 0 := fun i hi => by
    unfold bytV; rw [List.getD_eq_getElem?_getD, List.getElem?_map, List.getElem?_range hi]; rfl
  (repeat (first | (with_reducible apply XL.op) | ((with_reducible apply XOp.p1); (case hg | hv => exact rfl)) | (with_reducible apply XL.nilT) | (with_reducible apply XC.seq) | (with_reducible apply XC.region (Γ := Γ)) | (with_reducible apply XC.block)))
  refine XC.loop (fun k ρ L => ∃ i : Nat, i = k ∧ i ≤ n ∧ L = [] ∧ Slots ρ [(0, .slice a b.length c), (1, .int .i64 p), (7, .int .u64 (valB ((bytV n b p).drop i))), (8, .int .i64 ((i : Int) - 1))])
    n ⟨n, rfl, Nat.le_refl _, rfl, rfl, rfl, by rw [List.drop_of_length_le (by omega)]; rfl, (by show Value.int _ _ = Value.int _ _; rw [wrap64_of (by omega) (by omega)]), trivial⟩ ?_
  rintro k ρ L ⟨i, rfl, hil, rfl, hs⟩
  refine XC.slots _ hs ?_
  (repeat (first | (with_reducible apply XL.op) | ((with_reducible apply XOp.p1); (case hg | hv => exact rfl)) | (with_reducible apply XL.nilT) | (with_reducible apply XC.seq) | (with_reducible apply XC.region (Γ := Γ))))
  ((with_reducible apply XC.cond); (case hc => exact rfl); all_goals (intro hb_; try simp only [pd_true, pd_false, Bool.not_eq_true', Bool.not_eq_false', Bool.and_eq_true, Bool.and_eq_false_iff, Bool.or_eq_true, Bool.or_eq_false_iff, not_true_eq_false, not_false_eq_true, Int.not_lt, Int.not_le] at hb_))
  · obtain ⟨i, rfl⟩ : ∃ q, i = q + 1 := ⟨i - 1, by omega⟩
    have ei : ((i + 1 : Nat) : Int) - 1 = (i : Int) := by omega
    rw [ei]
    have hbd := valB_bnd ((bytV n b p).drop (i + 1)) fun y hy => hBB y (List.drop_subset _ _ hy)
    have hlen : ((bytV n b p).drop (i + 1)).length ≤ 6 := by rw [List.length_drop]; omega
    have hpow : 256 ^ ((bytV n b p).drop (i + 1)).length ≤ 256 ^ 6 := Nat.pow_le_pow_right (by omega) hlen
    have h7 : 256 ^ 6 = 281474976710656 := by rfl
    have hd := valB_drop (bytV n b p) (i := i) (by omega)
    rw [hgD i (by omega)] at hd
    have hx : 0 ≤ b.getD (p + i) 0 ∧ b.getD (p + i) 0 ≤ 255 := by have := hBB ((bytV n b p).getD i 0) (by rw [List.getD_eq_getElem?_getD, List.getElem?_eq_getElem (by omega)]; exact List.getElem_mem _); rw [hgD i (by omega)] at this; exact this
    have epi : IntKind.i64.wrap ((p : Int) + (i : Int)) = ((p + i : Nat) : Int) := by rw [wrap64_of (by omega) (by omega)]; omega
    have e256 : IntKind.u64.wrap (valB ((bytV n b p).drop (i + 1)) * 256) = valB ((bytV n b p).drop (i + 1)) * 256 := wrap_of (inK_u64.2 (by omega))
    (repeat (first | (with_reducible apply XL.op) | ((with_reducible apply XOp.p1); (case hg | hv => exact rfl)) | (with_reducible apply XL.nilT) | (with_reducible apply XC.seq) | (with_reducible apply XC.region (Γ := Γ)) | (with_reducible apply XQ.skip) | (with_reducible apply XQ.nt) | (with_reducible apply XC.block)))
    rw [epi, e256]
    skip
    refine XC.cutB (fun ρ L => L = [] ∧ Slots ρ [(0, .slice a b.length c), (1, .int .i64 p), (7, .int .u64 (valB ((bytV n b p).drop i))), (8, .int .i64 i)]) ?_ ?_
    · ((with_reducible apply XC.cond); (case hc => exact rfl); all_goals (intro hb_; try simp only [pd_true, pd_false, Bool.not_eq_true', Bool.not_eq_false', Bool.and_eq_true, Bool.and_eq_false_iff, Bool.or_eq_true, Bool.or_eq_false_iff, not_true_eq_false, not_false_eq_true, Int.not_lt, Int.not_le] at hb_))
      · have hlt : p + i < b.length := by omega
        have hc := (hA.int (p + i) hlt).1
        (repeat (first | (with_reducible apply XL.op) | ((with_reducible apply XOp.p1); (case hg | hv => exact rfl)) | ((with_reducible apply XOp.pr); (case hg => exact rfl); (case hr => ((with_reducible apply PR.idxA); (case ht | hk | he | hx | hi => exact rfl); (case hr => first | assumption | omega); (case ha => first | assumption | exact SlA.at_ (by assumption))))) | (with_reducible apply XC.region (Γ := Γ))))
        rw [epi]
        (repeat (first | (with_reducible apply XL.op) | ((with_reducible apply XOp.p1); (case hg | hv => exact rfl)) | (with_reducible apply XL.nilQ) | (with_reducible apply XQ.nt) | (with_reducible apply XQ.nb) | (first | ((with_reducible apply XOp.load); (case hg | ht | hk | hx => exact rfl); (case hc => exact Known.of_old hc (Mono.cell _ _))) | ((with_reducible apply XP.load); (case ho | hg | ht | hk | hx => exact rfl); (case hc => exact Known.of_old hc (Mono.cell _ _))))))
        refine ⟨rfl, rfl, rfl, ?_, rfl, trivial⟩
        show Value.int _ _ = Value.int _ _
        rw [← List.getD_eq_getElem?_getD, hd, show IntKind.u64.wrap (b.getD (p + i) 0) = b.getD (p + i) 0 from wrap_of (inK_u64.2 (by omega)), wrap_of (inK_u64.2 (by omega))]
        congr 1; omega
      · (repeat (first | (with_reducible apply XQ.skip) | (with_reducible apply XQ.nt) | (with_reducible apply XQ.nb)))
        refine ⟨rfl, rfl, rfl, ?_, rfl, trivial⟩
        show Value.int _ _ = Value.int _ _
        rw [hd, List.getD_eq_getElem?_getD, List.getElem?_eq_none (by omega)]
        congr 1; simp only [Option.getD_none]; omega
    rintro ρ L ⟨rfl, hs⟩
    refine XQ.nt ?_
    refine XC.slots _ hs ?_
    (repeat (first | (with_reducible apply XL.op) | ((with_reducible apply XOp.p1); (case hg | hv => exact rfl)) | (with_reducible apply XL.nilT) | (with_reducible apply XC.region (Γ := Γ))))
    refine ⟨i, by omega, i, rfl, by omega, rfl, rfl, rfl, rfl, ?_, trivial⟩
    show Value.int _ _ = Value.int _ _
    rw [wrap64_of (by omega) (by omega)]
  · obtain rfl : i = 0 := by omega
    (repeat (first | (with_reducible apply XL.op) | ((with_reducible apply XOp.p1); (case hg | hv => exact rfl)) | (with_reducible apply XL.nilT) | (with_reducible apply XC.seq) | (with_reducible apply XC.region (Γ := Γ)) | (with_reducible apply XQ.ret) | (with_reducible apply XQ.exit) | (with_reducible apply XQ.nt) | (with_reducible apply XQ.et) | ((with_reducible apply XQ.eb); (case hb => exact rfl))))
    ((with_reducible apply XQ.retE); (case hr => exact .t rfl .nil))
    rfl
theorem vsmall_fn (vb : Nat) (a : Option Addr) (c : Nat) (b : List Int) (p : Nat) (hp : p ≤ 100000000) : FC Tryd.prog 64 [.pointer (some ⟨vb, 0, none⟩)] [VwB vb a c b p] (fun h => byAt h b a c)
    (fun v L => v = .int .i64 (s16 (valB (bytV 2 b p))) ∧ L = [VwB vb a c b (p + 2)]) := by
  refine FC.intro Tryd.func64 rfl (by kernel_rfl) 24 [.tmp 2] rfl rfl rfl ?_
  intro w0 hA
  have hBb : isB b := fun y hy => inK_u8.1 (hA.okAll y hy)
  have hB2 : 0 ≤ valB (bytV 2 b p) ∧ valB (bytV 2 b p) < 65536 := by
    have := valB_bnd (bytV 2 b p) (bytV_isB hBb _ _)
    rw [bytV_len] at this; exact this
  have e2 : IntKind.i64.wrap ((p : Int) + 2) = ((p + 2 : Nat) : Int) := by rw [wrap64_of (by omega) (by omega)]; omega
  (repeat (first | (with_reducible apply XL.op) | ((with_reducible apply XOp.p1); (case hg | hv => exact rfl)) | (with_reducible apply XL.nilT) | (with_reducible apply XC.seq) | (with_reducible apply XC.region (Γ := Γ))))
  ((with_reducible apply XC.regionD (Γ := Γ) mixed (.q 0 (.q 1 (.q 2 (.q 3 (.q 4 (.q 5 (.q 6 (.q 7 (.e 8 (.q 9 (.done))))))))))) [] []); (case hc => kernel_rfl))
  (repeat (first | (with_reducible apply XL.op) | ((with_reducible apply XOp.p1); (case hg | hv => exact rfl)) | ((with_reducible apply XOp.load); (case hg | ht | hk | hx => exact rfl); (case hc => exact own_cell (i := 0) rfl rfl)) | ((with_reducible apply XOp.store (i := 0)); (case hg | ht | hk | hx | hv | h1 | hi | hs | ha => exact rfl)) | (with_reducible apply XL.nilT) | (with_reducible apply XC.seq) | (with_reducible apply XC.region (Γ := Γ)) | (with_reducible apply XQ.ret) | (with_reducible apply XQ.nt) | ((with_reducible apply XP.p1); (case ho | hg | hv => exact rfl)) | ((with_reducible apply XP.load); (case ho | hg | ht | hk | hx => exact rfl); (case hc => exact own_cell (i := 0) rfl rfl)) | (with_reducible apply XP.done) | ((with_reducible apply XP.e); (first | ((with_reducible apply XE.d); (case ho => exact rfl); (case hd => exact rfl)) | ((with_reducible apply XE.e); (case ho => exact rfl)))) | ((with_reducible apply XP.keep); (case hk => first | ((repeat' (first | exact List.forall_mem_nil _ | (with_reducible refine List.forall_mem_cons.2 ⟨?_, ?_⟩) | exact List.mem_cons_self .. | (with_reducible apply List.mem_cons_of_mem) | (with_reducible apply List.mem_append_right))); done) | (intro x hx; first | exact sel_in hx | exact List.mem_cons_of_mem _ (sel_in hx) | exact List.mem_append_right _ (sel_in hx) | exact hx | exact List.mem_cons_of_mem _ hx | exact List.mem_append_right _ hx | ((repeat (first | exact sel_in hx | exact hx | (with_reducible apply List.mem_cons_of_mem) | (with_reducible apply List.mem_append_right))); done) | (rw [List.mem_singleton.1 hx]; (simp; done)) | (rcases List.mem_cons.1 hx with rfl | hx; (simp; done); (rw [List.mem_singleton.1 hx]; (simp; done))) | cases hx))) | (((with_reducible apply XOp.callQ (hF := refNumber_fn a c b p 2 (by omega) (by omega))); (case hg => exact rfl); (case hc => exact rfl); (case ha => exact rfl); try (case hA => exact Known.true)); (case hA => exact Known.of_old hA (Mono.sl _ _ _ _ _)); rintro _ rfl)))
  rw [e2]
  ((with_reducible apply XQ.retE); (case hr => exact .t rfl .nil))
  exact ⟨by rw [i16_s16 hB2]; rfl, rfl⟩
set_option maxHeartbeats 4000000 in
theorem vconfig_fn (vb : Nat) (a : Option Addr) (c : Nat) (b : List Int) (p : Nat) (hp : p ≤ 100000000) : FC Tryd.prog 62 [.pointer (some ⟨vb, 0, none⟩)] [VwB vb a c b p] (fun h => byAt h b a c)
    (fun v L => v = .agg ⟨(cfgOf (narV 8 b (p + 5)).1).cells⟩ ∧ L = [VwB vb a c b (p + 13)]) := by
  refine FC.sub2 ?_
  refine FC.intro Tryd.func62 rfl (by kernel_rfl) 47 [.cell 2 23] rfl rfl rfl ?_
  intro w0 hA
  have hBb : isB b := fun y hy => inK_u8.1 (hA.okAll y hy)
  have e5 : IntKind.i64.wrap ((p : Int) + 5) = ((p + 5 : Nat) : Int) := by rw [wrap64_of (by omega) (by omega)]; omega
  (repeat (first | (with_reducible apply XL.op) | (with_reducible apply XC.seq) | (with_reducible apply XC.region (Γ := Γ))))
  ((with_reducible apply XOp.alloc); (case hg | ht | hx' => exact rfl); intro rb)
  (repeat (first | (with_reducible apply XL.op) | ((with_reducible apply XOp.p1); (case hg | hv => exact rfl)) | ((with_reducible apply XOp.load); (case hg | ht | hk | hx => exact rfl); (case hc => exact own_cell (i := 1) rfl rfl)) | ((with_reducible apply XOp.store (i := 1)); (case hg | ht | hk | hx | hv | h1 | hi | hs | ha => exact rfl)) | (with_reducible apply XL.nilT) | (with_reducible apply XC.seq) | (with_reducible apply XC.region (Γ := Γ))))
  rw [e5]
  ((with_reducible apply XOp.callR (R := [_]) (F := [VwB vb a c b (p + 5)]) (hF := vnarrow_fn vb a c b (p + 5) 8 (by omega))); (case hg => exact rfl); (case hc => exact rfl); (case ha => exact rfl); (case hL => exact rfl); try (case hA => exact Known.true))
  case hA => exact Known.of_old hA (Mono.sl _ _ _ _ _)
  rintro _ _ ⟨⟨x1, xa, xc⟩, F, rfl, hx, rfl, hF, hxat⟩
  have hN : isN x1 := by simp only [] at hx; rw [hx]; exact isN_map (bytV_isB hBb _ _)
  obtain ⟨m0, m1, m2, m3, m4, m5, m6, m7, hm⟩ := len8 (l := x1) (by simp only [] at hx; rw [hx]; simp [narV, bytV_len])
  have hat := hxat (by omega)
  simp only [] at hx hat
  subst hm
  have hwr : ∀ o ∈ [m0, m1, m2, m3, m4, m5, m6, m7], IntKind.i64.wrap o = o := fun o h => by have := hN o h; exact wrap64_of (by omega) (by omega)
  have hK : ∀ {L : HL}, (∀ x ∈ F, x ∈ L) → Known w0 (keys [VwB vb a c b p]) L (fun h => lvAt h ([m0, m1, m2, m3, m4, m5, m6, m7], xa, xc)) := fun s => hF.known s
  rw [show slv ([m0, m1, m2, m3, m4, m5, m6, m7], xa, xc) = Value.slice xa 8 xc from rfl]
  (repeat (first | (with_reducible apply XL.op) | ((with_reducible apply XOp.p1); (case hg | hv => exact rfl)) | (with_reducible apply XL.nilT) | (with_reducible apply XC.seq)))
  ((with_reducible apply XC.regionD (Γ := Γ) mixed (.q 0 (.q 1 (.q 2 (.q 3 (.q 4 (.q 5 (.q 6 (.q 7 (.q 8 (.q 9 (.q 10 (.q 11 (.q 12 (.q 13 (.q 14 (.q 15 (.q 16 (.q 17 (.q 18 (.q 19 (.q 20 (.q 21 (.q 22 (.q 23 (.q 24 (.q 25 (.q 26 (.q 27 (.q 28 (.q 29 (.q 30 (.q 31 (.q 32 (.e 33 (.done))))))))))))))))))))))))))))))))))) [33] []); (case hc => kernel_rfl))
  (repeat (first | ((with_reducible apply XOp.storeN (i := 0)); (case hg | ht | hx | hv' | hk | h1 | hi | hs | ha => exact rfl)) | (with_reducible apply XQ.ret) | (with_reducible apply XQ.nt) | ((with_reducible apply XP.p1); (case ho | hg | hv => exact rfl)) | ((with_reducible apply XP.pr); (case ho => exact rfl); (case hg => exact rfl); (case hr => ((with_reducible apply PR.idxA); (case ht | hk | he | hx | hi => exact rfl); (case hr => first | assumption | omega); (case ha => first | assumption | exact SlA.at_ (by assumption))))) | ((with_reducible apply XP.pr); (case ho => exact rfl); (case hg => exact rfl); (case hr => ((with_reducible apply PR.build); (case ht | hk | hok | hz | hf => exact rfl)))) | (with_reducible apply XP.done) | ((with_reducible apply XP.e); (first | ((with_reducible apply XE.d); (case ho => exact rfl); (case hd => exact rfl)) | ((with_reducible apply XE.e); (case ho => exact rfl)))) | (first | ((with_reducible apply XOp.load); (case hg | ht | hk | hx => exact rfl); (case hc => exact (hK (fun y hy => by rw [sel_nil]; simp [hy])).imp fun h s => (s.int 0 (by simp)).1)) | ((with_reducible apply XP.load); (case ho | hg | ht | hk | hx => exact rfl); (case hc => exact (hK (fun y hy => by rw [sel_nil]; simp [hy])).imp fun h s => (s.int 0 (by simp)).1))) | (first | ((with_reducible apply XOp.load); (case hg | ht | hk | hx => exact rfl); (case hc => exact (hK (fun y hy => by rw [sel_nil]; simp [hy])).imp fun h s => (s.int 1 (by simp)).1)) | ((with_reducible apply XP.load); (case ho | hg | ht | hk | hx => exact rfl); (case hc => exact (hK (fun y hy => by rw [sel_nil]; simp [hy])).imp fun h s => (s.int 1 (by simp)).1))) | (first | ((with_reducible apply XOp.load); (case hg | ht | hk | hx => exact rfl); (case hc => exact (hK (fun y hy => by rw [sel_nil]; simp [hy])).imp fun h s => (s.int 2 (by simp)).1)) | ((with_reducible apply XP.load); (case ho | hg | ht | hk | hx => exact rfl); (case hc => exact (hK (fun y hy => by rw [sel_nil]; simp [hy])).imp fun h s => (s.int 2 (by simp)).1))) | (first | ((with_reducible apply XOp.load); (case hg | ht | hk | hx => exact rfl); (case hc => exact (hK (fun y hy => by rw [sel_nil]; simp [hy])).imp fun h s => (s.int 3 (by simp)).1)) | ((with_reducible apply XP.load); (case ho | hg | ht | hk | hx => exact rfl); (case hc => exact (hK (fun y hy => by rw [sel_nil]; simp [hy])).imp fun h s => (s.int 3 (by simp)).1))) | (first | ((with_reducible apply XOp.load); (case hg | ht | hk | hx => exact rfl); (case hc => exact (hK (fun y hy => by rw [sel_nil]; simp [hy])).imp fun h s => (s.int 4 (by simp)).1)) | ((with_reducible apply XP.load); (case ho | hg | ht | hk | hx => exact rfl); (case hc => exact (hK (fun y hy => by rw [sel_nil]; simp [hy])).imp fun h s => (s.int 4 (by simp)).1))) | (first | ((with_reducible apply XOp.load); (case hg | ht | hk | hx => exact rfl); (case hc => exact (hK (fun y hy => by rw [sel_nil]; simp [hy])).imp fun h s => (s.int 5 (by simp)).1)) | ((with_reducible apply XP.load); (case ho | hg | ht | hk | hx => exact rfl); (case hc => exact (hK (fun y hy => by rw [sel_nil]; simp [hy])).imp fun h s => (s.int 5 (by simp)).1))) | (first | ((with_reducible apply XOp.load); (case hg | ht | hk | hx => exact rfl); (case hc => exact (hK (fun y hy => by rw [sel_nil]; simp [hy])).imp fun h s => (s.int 6 (by simp)).1)) | ((with_reducible apply XP.load); (case ho | hg | ht | hk | hx => exact rfl); (case hc => exact (hK (fun y hy => by rw [sel_nil]; simp [hy])).imp fun h s => (s.int 6 (by simp)).1))) | (first | ((with_reducible apply XOp.load); (case hg | ht | hk | hx => exact rfl); (case hc => exact (hK (fun y hy => by rw [sel_nil]; simp [hy])).imp fun h s => (s.int 7 (by simp)).1)) | ((with_reducible apply XP.load); (case ho | hg | ht | hk | hx => exact rfl); (case hc => exact (hK (fun y hy => by rw [sel_nil]; simp [hy])).imp fun h s => (s.int 7 (by simp)).1)))))
  ((with_reducible apply XQ.retE); (case hr => exact .row rfl (by kernel_rfl) (by kernel_rfl) (own_row (i := 0) (m := 8) rfl rfl) .nil))
  refine ⟨[VwB vb a c b (p + 13)], .of (List.Sublist.cons _ (List.Sublist.cons_cons _ (List.nil_sublist _))), ?_, rfl⟩
  rw [← hx]
  show Value.agg ⟨[.int .i64 (IntKind.i64.wrap m0), .int .i64 (IntKind.i64.wrap m1), .int .i64 (IntKind.i64.wrap m2), .int .i64 (IntKind.i64.wrap m3), .int .i64 (IntKind.i64.wrap m4), .int .i64 (IntKind.i64.wrap m5), .int .i64 (IntKind.i64.wrap m6), .int .i64 (IntKind.i64.wrap m7)]⟩ = _
  rw [hwr m0 (by simp), hwr m1 (by simp), hwr m2 (by simp), hwr m3 (by simp), hwr m4 (by simp), hwr m5 (by simp), hwr m6 (by simp), hwr m7 (by simp)]; rfl
end Go.Proofs.YtppggaiahkecoaaDoorX
/- The document's reader: a layer. -/
namespace Go.Proofs.YtppggaiahkecoaaDoorX
open Go Go.SX

theorem layV_eq (cf : Cfg) (b : List Int) (p : Nat) : secV (layV cf) b p =
  (let p0 := p + 5
   let p1 := p0 + cf.Width.toNat
   let p2 := p1 + cf.Width.toNat
   let p3 := p2 + (cf.Width * cf.Width).toNat
   let p4 := p3 + (cf.keys * cf.Width).toNat
   let p5 := p4 + (cf.keys * cf.Width).toNat
   let p6 := p5 + (cf.Width * cf.Width).toNat
   let p7 := p6 + (cf.Hidden * cf.Width).toNat
   let p8 := p7 + (cf.Hidden * cf.Width).toNat
   let p9 := p8 + (cf.Width * cf.Hidden).toNat
   (⟨(narV cf.Width.toNat b p0).1, (narV cf.Width.toNat b p1).1, (matV cf.Width cf.Width b p2).1, (matV cf.keys cf.Width b p3).1, (matV cf.keys cf.Width b p4).1, (matV cf.Width cf.Width b p5).1,
     (matV cf.Hidden cf.Width b p6).1, (matV cf.Hidden cf.Width b p7).1, (matV cf.Width cf.Hidden b p8).1, (narV 7 b p9).1⟩, p9 + 7)) := rfl
set_option maxHeartbeats 16000000 in
set_option maxRecDepth 10000 in
theorem vlayer_fn (vb : Nat) (a : Option Addr) (c : Nat) (b : List Int) (p : Nat) (hp : p ≤ 10000000) (cf : Cfg) (hc : cf.may) : FC Tryd.prog 65 [.pointer (some ⟨vb, 0, none⟩), .agg ⟨cf.cells⟩] [VwB vb a c b p] (fun h => byAt h b a c)
    (fun v L => ∃ (l : LL) (F : HL), v = .agg ⟨l.cells⟩ ∧ l.lay = (secV (layV cf) b p).1 ∧ L = VwB vb a c b (secV (layV cf) b p).2 :: F ∧ Held F (fun h => llAt h l)) := by
  refine FC.sub2 ?_
  refine FC.intro Tryd.func65 rfl (by kernel_rfl) 87 [.cell 4 67] rfl rfl rfl ?_
  intro w0 hA
  have hBb : isB b := fun y hy => inK_u8.1 (hA.okAll y hy)
  obtain ⟨nn1, nn2, nn3, nn4⟩ := may_nn hc
  have hW := hc.2.1
  have hH := hc.2.2.2.2.1
  have bWW := mul_bnd (a := cf.Width) (b := cf.Width) (x := 32) (y := 32) (by omega) (by omega)
  have bKW := mul_bnd (a := cf.keys) (b := cf.Width) (x := 128) (y := 32) (by omega) (by omega)
  have bHW := mul_bnd (a := cf.Hidden) (b := cf.Width) (x := 64) (y := 32) (by omega) (by omega)
  have bWH := mul_bnd (a := cf.Width) (b := cf.Hidden) (x := 32) (y := 64) (by omega) (by omega)
  have ek : IntKind.i64.wrap (cf.KV * cf.head) = cf.keys := wrap64_of (by unfold Cfg.keys at nn3 nn4; omega) (by unfold Cfg.keys at nn3 nn4; omega)
  have e5 : IntKind.i64.wrap ((p : Int) + 5) = ((p + 5 : Nat) : Int) := by rw [wrap64_of (by omega) (by omega)]; omega
  rw [layV_eq]
  simp only []
  obtain ⟨p0, hp0⟩ : ∃ q, q = p + 5 := ⟨_, rfl⟩
  rw [← hp0]
  (repeat (first | (with_reducible apply XL.op) | (with_reducible apply XC.seq) | (with_reducible apply XC.region (Γ := Γ))))
  ((with_reducible apply XOp.box); (case hg | hx' => exact rfl); intro cb)
  (repeat ((with_reducible apply XL.op)))
  ((with_reducible apply XOp.alloc); (case hg | ht | hx' => exact rfl); intro rs)
  (repeat (first | (with_reducible apply XL.op) | ((with_reducible apply XOp.p1); (case hg | hv => exact rfl)) | ((with_reducible apply XOp.load); (case hg | ht | hk | hx => exact rfl); (case hc => exact own_cell (i := 1) rfl rfl)) | (with_reducible apply XL.nilT) | (with_reducible apply XC.seq) | (with_reducible apply XC.region (Γ := Γ))))
  ((with_reducible apply XC.regionD (Γ := Γ) mixed (.q 0 (.q 1 (.q 2 (.e 3 (.q 4 (.q 5 (.done))))))) [] []); (case hc => kernel_rfl))
  (repeat (first | (with_reducible apply XL.op) | ((with_reducible apply XOp.p1); (case hg | hv => exact rfl)) | ((with_reducible apply XOp.load); (case hg | ht | hk | hx => exact rfl); (case hc => exact own_cell (i := 2) rfl rfl)) | ((with_reducible apply XOp.store (i := 2)); (case hg | ht | hk | hx | hv | h1 | hi | hs | ha => exact rfl)) | ((with_reducible apply XOp.pr); (case hg => exact rfl); (case hr => ((with_reducible apply PR.build); (case ht | hk | hok | hz | hf => exact rfl)))) | (with_reducible apply XL.nilT) | (with_reducible apply XC.seq) | (with_reducible apply XC.region (Γ := Γ)) | (with_reducible apply XQ.nt) | ((with_reducible apply XP.p1); (case ho | hg | hv => exact rfl)) | ((with_reducible apply XP.load); (case ho | hg | ht | hk | hx => exact rfl); (case hc => exact own_cell (i := 1) rfl rfl)) | ((with_reducible apply XP.loadO (j := 1)); (case ho | hg | ht | hk | hx | hi | hc => exact rfl)) | (with_reducible apply XP.done) | ((with_reducible apply XP.e); (first | ((with_reducible apply XE.d); (case ho => exact rfl); (case hd => exact rfl)) | ((with_reducible apply XE.e); (case ho => exact rfl)))) | ((with_reducible apply XP.keep); (case hk => first | ((repeat' (first | exact List.forall_mem_nil _ | (with_reducible refine List.forall_mem_cons.2 ⟨?_, ?_⟩) | exact List.mem_cons_self .. | (with_reducible apply List.mem_cons_of_mem) | (with_reducible apply List.mem_append_right))); done) | (intro x hx; first | exact sel_in hx | exact List.mem_cons_of_mem _ (sel_in hx) | exact List.mem_append_right _ (sel_in hx) | exact hx | exact List.mem_cons_of_mem _ hx | exact List.mem_append_right _ hx | ((repeat (first | exact sel_in hx | exact hx | (with_reducible apply List.mem_cons_of_mem) | (with_reducible apply List.mem_append_right))); done) | (rw [List.mem_singleton.1 hx]; (simp; done)) | (rcases List.mem_cons.1 hx with rfl | hx; (simp; done); (rw [List.mem_singleton.1 hx]; (simp; done))) | cases hx))) | (((with_reducible apply XOp.callQ (hF := refHead_fn cf hc)); (case hg => exact rfl); (case hc => exact rfl); (case ha => exact rfl); try (case hA => exact Known.true)); rintro _ rfl)))
  rw [ek]
  skip
  rw [e5, ← hp0]
  skip
  ((with_reducible apply XOp.alloc); (case hg | ht | hx' => exact rfl); intro lb)
  (repeat (first | (with_reducible apply XL.op) | ((with_reducible apply XOp.p1); (case hg | hv => exact rfl)) | ((with_reducible apply XOp.storeN (i := 0)); (case hg | ht | hx | hv' | hk | h1 | hi | hs | ha => exact rfl)) | (with_reducible apply XL.nilT) | (with_reducible apply XC.seq) | (with_reducible apply XC.region (Γ := Γ))))
  ((with_reducible apply XOp.callM (R := [_, _, _]) (hF := vnarrowI_fn vb a c b p0 cf.Width (by omega) (by omega))); (case hg => exact rfl); (case hc => exact rfl); (case ha => exact rfl); (case hL => exact rfl); try (case hA => exact Known.true))
  case hA => exact Known.of_old hA (Mono.sl _ _ _ _ _)
  rintro _ _ ⟨xn1, F0, rfl, hxn1, rfl, hF0⟩
  obtain ⟨p1, hp1⟩ : ∃ q, q = p0 + cf.Width.toNat := ⟨_, rfl⟩
  rw [← hp1]
  (repeat (first | (with_reducible apply XL.op) | ((with_reducible apply XOp.p1); (case hg | hv => exact rfl)) | ((with_reducible apply XOp.store (i := 0)); (case hg | ht | hk | hx | hv | h1 | hi | hs | ha => exact rfl)) | (with_reducible apply XL.nilT) | (with_reducible apply XC.seq) | (with_reducible apply XC.region (Γ := Γ))))
  ((with_reducible apply XOp.callM (R := [_, _, _]) (hF := vnarrowI_fn vb a c b p1 cf.Width (by omega) (by omega))); (case hg => exact rfl); (case hc => exact rfl); (case ha => exact rfl); (case hL => exact rfl); try (case hA => exact Known.true))
  case hA => exact Known.of_old hA (Mono.sl _ _ _ _ _)
  rintro _ _ ⟨xn2, F1, rfl, hxn2, rfl, hF1⟩
  obtain ⟨p2, hp2⟩ : ∃ q, q = p1 + cf.Width.toNat := ⟨_, rfl⟩
  rw [← hp2]
  (repeat (first | (with_reducible apply XL.op) | ((with_reducible apply XOp.p1); (case hg | hv => exact rfl)) | ((with_reducible apply XOp.store (i := 0)); (case hg | ht | hk | hx | hv | h1 | hi | hs | ha => exact rfl)) | (with_reducible apply XL.nilT) | (with_reducible apply XC.seq) | (with_reducible apply XC.region (Γ := Γ))))
  ((with_reducible apply XOp.callM (R := [_, _, _]) (hF := vmat_fn vb a c b p2 (cf.Width) (cf.Width) (by omega) (by omega))); (case hg => exact rfl); (case hc => exact rfl); (case ha => exact rfl); (case hL => exact rfl); try (case hA => exact Known.true))
  case hA => exact Known.of_old hA (Mono.sl _ _ _ _ _)
  rintro _ _ ⟨xq, F2, rfl, hxq, rfl, hF2⟩
  obtain ⟨p3, hp3⟩ : ∃ q, q = p2 + (cf.Width * cf.Width).toNat := ⟨_, rfl⟩
  rw [← hp3]
  (repeat (first | (with_reducible apply XL.op) | ((with_reducible apply XOp.p1); (case hg | hv => exact rfl)) | ((with_reducible apply XOp.storeN (i := 0)); (case hg | ht | hx | hv' | hk | h1 | hi | hs | ha => exact rfl)) | (with_reducible apply XL.nilT) | (with_reducible apply XC.seq) | (with_reducible apply XC.region (Γ := Γ))))
  ((with_reducible apply XOp.callM (R := [_, _, _]) (hF := vmat_fn vb a c b p3 (cf.keys) (cf.Width) (by omega) (by omega))); (case hg => exact rfl); (case hc => exact rfl); (case ha => exact rfl); (case hL => exact rfl); try (case hA => exact Known.true))
  case hA => exact Known.of_old hA (Mono.sl _ _ _ _ _)
  rintro _ _ ⟨xk, F3, rfl, hxk, rfl, hF3⟩
  obtain ⟨p4, hp4⟩ : ∃ q, q = p3 + (cf.keys * cf.Width).toNat := ⟨_, rfl⟩
  rw [← hp4]
  (repeat (first | (with_reducible apply XL.op) | ((with_reducible apply XOp.p1); (case hg | hv => exact rfl)) | ((with_reducible apply XOp.storeN (i := 0)); (case hg | ht | hx | hv' | hk | h1 | hi | hs | ha => exact rfl)) | (with_reducible apply XL.nilT) | (with_reducible apply XC.seq) | (with_reducible apply XC.region (Γ := Γ))))
  ((with_reducible apply XOp.callM (R := [_, _, _]) (hF := vmat_fn vb a c b p4 (cf.keys) (cf.Width) (by omega) (by omega))); (case hg => exact rfl); (case hc => exact rfl); (case ha => exact rfl); (case hL => exact rfl); try (case hA => exact Known.true))
  case hA => exact Known.of_old hA (Mono.sl _ _ _ _ _)
  rintro _ _ ⟨xv, F4, rfl, hxv, rfl, hF4⟩
  obtain ⟨p5, hp5⟩ : ∃ q, q = p4 + (cf.keys * cf.Width).toNat := ⟨_, rfl⟩
  rw [← hp5]
  (repeat (first | (with_reducible apply XL.op) | ((with_reducible apply XOp.p1); (case hg | hv => exact rfl)) | ((with_reducible apply XOp.storeN (i := 0)); (case hg | ht | hx | hv' | hk | h1 | hi | hs | ha => exact rfl)) | (with_reducible apply XL.nilT) | (with_reducible apply XC.seq) | (with_reducible apply XC.region (Γ := Γ))))
  ((with_reducible apply XOp.callM (R := [_, _, _]) (hF := vmat_fn vb a c b p5 (cf.Width) (cf.Width) (by omega) (by omega))); (case hg => exact rfl); (case hc => exact rfl); (case ha => exact rfl); (case hL => exact rfl); try (case hA => exact Known.true))
  case hA => exact Known.of_old hA (Mono.sl _ _ _ _ _)
  rintro _ _ ⟨xo, F5, rfl, hxo, rfl, hF5⟩
  obtain ⟨p6, hp6⟩ : ∃ q, q = p5 + (cf.Width * cf.Width).toNat := ⟨_, rfl⟩
  rw [← hp6]
  (repeat (first | (with_reducible apply XL.op) | ((with_reducible apply XOp.p1); (case hg | hv => exact rfl)) | ((with_reducible apply XOp.load); (case hg | ht | hk | hx => exact rfl); (case hc => exact own_cell (i := 2) rfl rfl)) | ((with_reducible apply XOp.storeN (i := 0)); (case hg | ht | hx | hv' | hk | h1 | hi | hs | ha => exact rfl)) | (with_reducible apply XL.nilT) | (with_reducible apply XC.seq) | (with_reducible apply XC.region (Γ := Γ))))
  ((with_reducible apply XOp.callM (R := [_, _, _]) (hF := vmat_fn vb a c b p6 (cf.Hidden) (cf.Width) (by omega) (by omega))); (case hg => exact rfl); (case hc => exact rfl); (case ha => exact rfl); (case hL => exact rfl); try (case hA => exact Known.true))
  case hA => exact Known.of_old hA (Mono.sl _ _ _ _ _)
  rintro _ _ ⟨xg, F6, rfl, hxg, rfl, hF6⟩
  obtain ⟨p7, hp7⟩ : ∃ q, q = p6 + (cf.Hidden * cf.Width).toNat := ⟨_, rfl⟩
  rw [← hp7]
  (repeat (first | (with_reducible apply XL.op) | ((with_reducible apply XOp.p1); (case hg | hv => exact rfl)) | ((with_reducible apply XOp.load); (case hg | ht | hk | hx => exact rfl); (case hc => exact own_cell (i := 2) rfl rfl)) | ((with_reducible apply XOp.storeN (i := 0)); (case hg | ht | hx | hv' | hk | h1 | hi | hs | ha => exact rfl)) | (with_reducible apply XL.nilT) | (with_reducible apply XC.seq) | (with_reducible apply XC.region (Γ := Γ))))
  ((with_reducible apply XOp.callM (R := [_, _, _]) (hF := vmat_fn vb a c b p7 (cf.Hidden) (cf.Width) (by omega) (by omega))); (case hg => exact rfl); (case hc => exact rfl); (case ha => exact rfl); (case hL => exact rfl); try (case hA => exact Known.true))
  case hA => exact Known.of_old hA (Mono.sl _ _ _ _ _)
  rintro _ _ ⟨xu, F7, rfl, hxu, rfl, hF7⟩
  obtain ⟨p8, hp8⟩ : ∃ q, q = p7 + (cf.Hidden * cf.Width).toNat := ⟨_, rfl⟩
  rw [← hp8]
  (repeat (first | (with_reducible apply XL.op) | ((with_reducible apply XOp.p1); (case hg | hv => exact rfl)) | ((with_reducible apply XOp.load); (case hg | ht | hk | hx => exact rfl); (case hc => exact own_cell (i := 2) rfl rfl)) | ((with_reducible apply XOp.storeN (i := 0)); (case hg | ht | hx | hv' | hk | h1 | hi | hs | ha => exact rfl)) | (with_reducible apply XL.nilT) | (with_reducible apply XC.seq) | (with_reducible apply XC.region (Γ := Γ))))
  ((with_reducible apply XOp.callM (R := [_, _, _]) (hF := vmat_fn vb a c b p8 (cf.Width) (cf.Hidden) (by omega) (by omega))); (case hg => exact rfl); (case hc => exact rfl); (case ha => exact rfl); (case hL => exact rfl); try (case hA => exact Known.true))
  case hA => exact Known.of_old hA (Mono.sl _ _ _ _ _)
  rintro _ _ ⟨xd, F8, rfl, hxd, rfl, hF8⟩
  obtain ⟨p9, hp9⟩ : ∃ q, q = p8 + (cf.Width * cf.Hidden).toNat := ⟨_, rfl⟩
  rw [← hp9]
  (repeat (first | (with_reducible apply XL.op) | ((with_reducible apply XOp.p1); (case hg | hv => exact rfl)) | ((with_reducible apply XOp.storeN (i := 0)); (case hg | ht | hx | hv' | hk | h1 | hi | hs | ha => exact rfl)) | (with_reducible apply XL.nilT) | (with_reducible apply XC.seq) | (with_reducible apply XC.region (Γ := Γ))))
  ((with_reducible apply XOp.callM (R := [_, _, _]) (hF := vnarrow_fn vb a c b p9 7 (by omega))); (case hg => exact rfl); (case hc => exact rfl); (case ha => exact rfl); (case hL => exact rfl); try (case hA => exact Known.true))
  case hA => exact Known.of_old hA (Mono.sl _ _ _ _ _)
  rintro _ _ ⟨⟨y1, ya, yc⟩, F9, rfl, hy, rfl, hF9, hyat⟩
  obtain ⟨o0, o1, o2, o3, o4, o5, o6, ho⟩ := len7 (l := y1) (by simp only [] at hy; rw [hy]; simp [narV, bytV_len])
  have hN : isN y1 := by simp only [] at hy; rw [hy]; exact isN_map (bytV_isB hBb _ _)
  have hat := hyat (by omega)
  simp only [] at hy hat
  subst ho
  have hwr : ∀ o ∈ [o0, o1, o2, o3, o4, o5, o6], IntKind.i64.wrap o = o := fun o h => by have := hN o h; exact wrap64_of (by omega) (by omega)
  have v0 := hwr o0 (by simp); have v1 := hwr o1 (by simp); have v2 := hwr o2 (by simp); have v3 := hwr o3 (by simp); have v4 := hwr o4 (by simp); have v5 := hwr o5 (by simp); have v6 := hwr o6 (by simp)
  have hK : ∀ {L : HL}, (∀ x ∈ F9, x ∈ L) → Known w0 (keys [VwB vb a c b p]) L (fun h => lvAt h ([o0, o1, o2, o3, o4, o5, o6], ya, yc)) := fun s => hF9.known s
  rw [show slv ([o0, o1, o2, o3, o4, o5, o6], ya, yc) = Value.slice ya 7 yc from rfl]
  (repeat (first | (with_reducible apply XL.op) | ((with_reducible apply XOp.p1); (case hg | hv => exact rfl)) | (with_reducible apply XL.nilT) | (with_reducible apply XC.seq) | (with_reducible apply XC.region (Γ := Γ)) | (with_reducible apply XC.block)))
  refine XC.loopP (fun k ρ L => ∃ i : Nat, i + k = 7 ∧ L = [(lb, Obj.cells ⟨byC (mkL xn1 xn2 [xq, xk, xv, xo, xg, xu, xd]).cells i [o0, o1, o2, o3, o4, o5, o6]⟩ 67 (0, 0)), (rs, Obj.cells ⟨zeroL⟩ 67 (0, 0)), (cb, Obj.cells ⟨cf.cells⟩ 23 (0, 0))] ++ ((VwB vb a c b (p9 + 7) :: F9) ++ (F8 ++ (F7 ++ (F6 ++ (F5 ++ (F4 ++ (F3 ++ (F2 ++ (F1 ++ (F0 ++ [])))))))))) ∧ Slots ρ [(4, .pointer (some ⟨rs, 0, none⟩)), (7, .pointer (some ⟨lb, 0, none⟩)), (8, .slice ya 7 yc), (9, .int .i64 i)])
    7 ⟨0, by simp, rfl, rfl, rfl, rfl, rfl, trivial⟩ ?_
  rintro k ρ L ⟨i, hik, rfl, hs⟩
  refine XC.slots _ hs ?_
  (repeat (first | (with_reducible apply XL.op) | ((with_reducible apply XOp.p1); (case hg | hv => exact rfl)) | (with_reducible apply XL.nilT) | (with_reducible apply XC.seq) | (with_reducible apply XC.region (Γ := Γ))))
  ((with_reducible apply XC.cond); (case hc => exact rfl); all_goals (intro hb_; try simp only [pd_true, pd_false, Bool.not_eq_true', Bool.not_eq_false', Bool.and_eq_true, Bool.and_eq_false_iff, Bool.or_eq_true, Bool.or_eq_false_iff, not_true_eq_false, not_false_eq_true, Int.not_lt, Int.not_le] at hb_))
  · rcases (by omega : i = 0 ∨ i = 1 ∨ i = 2 ∨ i = 3 ∨ i = 4 ∨ i = 5 ∨ i = 6) with rfl | rfl | rfl | rfl | rfl | rfl | rfl
    · (repeat (first | (with_reducible apply XL.op) | ((with_reducible apply XOp.p1); (case hg | hv => exact rfl)) | ((with_reducible apply XOp.store (i := 0)); (case hg | ht | hk | hx | hv | h1 | hi | hs | ha => exact rfl)) | ((with_reducible apply XOp.pr); (case hg => exact rfl); (case hr => ((with_reducible apply PR.idxA); (case ht | hk | he | hx | hi => exact rfl); (case hr => first | assumption | omega); (case ha => first | assumption | exact SlA.at_ (by assumption))))) | (with_reducible apply XL.nilT) | (with_reducible apply XC.seq) | (with_reducible apply XC.region (Γ := Γ)) | (with_reducible apply XL.nilQ) | (with_reducible apply XQ.skip) | (with_reducible apply XQ.nt) | (with_reducible apply XQ.nb) | (with_reducible apply XC.block) | (first | ((with_reducible apply XOp.load); (case hg | ht | hk | hx => exact rfl); (case hc => exact (hK (fun y hy => by simp [hy])).imp fun h s => (s.int 0 (by simp)).1)) | ((with_reducible apply XP.load); (case ho | hg | ht | hk | hx => exact rfl); (case hc => exact (hK (fun y hy => by simp [hy])).imp fun h s => (s.int 0 (by simp)).1)))))
      refine ⟨k - 1, by omega, _, .of (List.Sublist.refl _), 1, by omega, ?_, rfl, rfl, rfl, intS2 (i := 0) (m := 7) (by omega) (by omega), trivial⟩
      rw [show IntKind.i64.wrap ([o0, o1, o2, o3, o4, o5, o6][0]?.getD 0) = o0 from v0]; rfl
    · (repeat (first | (with_reducible apply XL.op) | ((with_reducible apply XOp.p1); (case hg | hv => exact rfl)) | ((with_reducible apply XOp.store (i := 0)); (case hg | ht | hk | hx | hv | h1 | hi | hs | ha => exact rfl)) | ((with_reducible apply XOp.pr); (case hg => exact rfl); (case hr => ((with_reducible apply PR.idxA); (case ht | hk | he | hx | hi => exact rfl); (case hr => first | assumption | omega); (case ha => first | assumption | exact SlA.at_ (by assumption))))) | (with_reducible apply XL.nilT) | (with_reducible apply XC.seq) | (with_reducible apply XC.region (Γ := Γ)) | (with_reducible apply XL.nilQ) | (with_reducible apply XQ.skip) | (with_reducible apply XQ.nt) | (with_reducible apply XQ.nb) | (with_reducible apply XC.block) | (first | ((with_reducible apply XOp.load); (case hg | ht | hk | hx => exact rfl); (case hc => exact (hK (fun y hy => by simp [hy])).imp fun h s => (s.int 1 (by simp)).1)) | ((with_reducible apply XP.load); (case ho | hg | ht | hk | hx => exact rfl); (case hc => exact (hK (fun y hy => by simp [hy])).imp fun h s => (s.int 1 (by simp)).1)))))
      refine ⟨k - 1, by omega, _, .of (List.Sublist.refl _), 2, by omega, ?_, rfl, rfl, rfl, intS2 (i := 1) (m := 7) (by omega) (by omega), trivial⟩
      rw [show IntKind.i64.wrap ([o0, o1, o2, o3, o4, o5, o6][1]?.getD 0) = o1 from v1]; rfl
    · (repeat (first | (with_reducible apply XL.op) | ((with_reducible apply XOp.p1); (case hg | hv => exact rfl)) | ((with_reducible apply XOp.store (i := 0)); (case hg | ht | hk | hx | hv | h1 | hi | hs | ha => exact rfl)) | ((with_reducible apply XOp.pr); (case hg => exact rfl); (case hr => ((with_reducible apply PR.idxA); (case ht | hk | he | hx | hi => exact rfl); (case hr => first | assumption | omega); (case ha => first | assumption | exact SlA.at_ (by assumption))))) | (with_reducible apply XL.nilT) | (with_reducible apply XC.seq) | (with_reducible apply XC.region (Γ := Γ)) | (with_reducible apply XL.nilQ) | (with_reducible apply XQ.skip) | (with_reducible apply XQ.nt) | (with_reducible apply XQ.nb) | (with_reducible apply XC.block) | (first | ((with_reducible apply XOp.load); (case hg | ht | hk | hx => exact rfl); (case hc => exact (hK (fun y hy => by simp [hy])).imp fun h s => (s.int 2 (by simp)).1)) | ((with_reducible apply XP.load); (case ho | hg | ht | hk | hx => exact rfl); (case hc => exact (hK (fun y hy => by simp [hy])).imp fun h s => (s.int 2 (by simp)).1)))))
      refine ⟨k - 1, by omega, _, .of (List.Sublist.refl _), 3, by omega, ?_, rfl, rfl, rfl, intS2 (i := 2) (m := 7) (by omega) (by omega), trivial⟩
      rw [show IntKind.i64.wrap ([o0, o1, o2, o3, o4, o5, o6][2]?.getD 0) = o2 from v2]; rfl
    · (repeat (first | (with_reducible apply XL.op) | ((with_reducible apply XOp.p1); (case hg | hv => exact rfl)) | ((with_reducible apply XOp.store (i := 0)); (case hg | ht | hk | hx | hv | h1 | hi | hs | ha => exact rfl)) | ((with_reducible apply XOp.pr); (case hg => exact rfl); (case hr => ((with_reducible apply PR.idxA); (case ht | hk | he | hx | hi => exact rfl); (case hr => first | assumption | omega); (case ha => first | assumption | exact SlA.at_ (by assumption))))) | (with_reducible apply XL.nilT) | (with_reducible apply XC.seq) | (with_reducible apply XC.region (Γ := Γ)) | (with_reducible apply XL.nilQ) | (with_reducible apply XQ.skip) | (with_reducible apply XQ.nt) | (with_reducible apply XQ.nb) | (with_reducible apply XC.block) | (first | ((with_reducible apply XOp.load); (case hg | ht | hk | hx => exact rfl); (case hc => exact (hK (fun y hy => by simp [hy])).imp fun h s => (s.int 3 (by simp)).1)) | ((with_reducible apply XP.load); (case ho | hg | ht | hk | hx => exact rfl); (case hc => exact (hK (fun y hy => by simp [hy])).imp fun h s => (s.int 3 (by simp)).1)))))
      refine ⟨k - 1, by omega, _, .of (List.Sublist.refl _), 4, by omega, ?_, rfl, rfl, rfl, intS2 (i := 3) (m := 7) (by omega) (by omega), trivial⟩
      rw [show IntKind.i64.wrap ([o0, o1, o2, o3, o4, o5, o6][3]?.getD 0) = o3 from v3]; rfl
    · (repeat (first | (with_reducible apply XL.op) | ((with_reducible apply XOp.p1); (case hg | hv => exact rfl)) | ((with_reducible apply XOp.store (i := 0)); (case hg | ht | hk | hx | hv | h1 | hi | hs | ha => exact rfl)) | ((with_reducible apply XOp.pr); (case hg => exact rfl); (case hr => ((with_reducible apply PR.idxA); (case ht | hk | he | hx | hi => exact rfl); (case hr => first | assumption | omega); (case ha => first | assumption | exact SlA.at_ (by assumption))))) | (with_reducible apply XL.nilT) | (with_reducible apply XC.seq) | (with_reducible apply XC.region (Γ := Γ)) | (with_reducible apply XL.nilQ) | (with_reducible apply XQ.skip) | (with_reducible apply XQ.nt) | (with_reducible apply XQ.nb) | (with_reducible apply XC.block) | (first | ((with_reducible apply XOp.load); (case hg | ht | hk | hx => exact rfl); (case hc => exact (hK (fun y hy => by simp [hy])).imp fun h s => (s.int 4 (by simp)).1)) | ((with_reducible apply XP.load); (case ho | hg | ht | hk | hx => exact rfl); (case hc => exact (hK (fun y hy => by simp [hy])).imp fun h s => (s.int 4 (by simp)).1)))))
      refine ⟨k - 1, by omega, _, .of (List.Sublist.refl _), 5, by omega, ?_, rfl, rfl, rfl, intS2 (i := 4) (m := 7) (by omega) (by omega), trivial⟩
      rw [show IntKind.i64.wrap ([o0, o1, o2, o3, o4, o5, o6][4]?.getD 0) = o4 from v4]; rfl
    · (repeat (first | (with_reducible apply XL.op) | ((with_reducible apply XOp.p1); (case hg | hv => exact rfl)) | ((with_reducible apply XOp.store (i := 0)); (case hg | ht | hk | hx | hv | h1 | hi | hs | ha => exact rfl)) | ((with_reducible apply XOp.pr); (case hg => exact rfl); (case hr => ((with_reducible apply PR.idxA); (case ht | hk | he | hx | hi => exact rfl); (case hr => first | assumption | omega); (case ha => first | assumption | exact SlA.at_ (by assumption))))) | (with_reducible apply XL.nilT) | (with_reducible apply XC.seq) | (with_reducible apply XC.region (Γ := Γ)) | (with_reducible apply XL.nilQ) | (with_reducible apply XQ.skip) | (with_reducible apply XQ.nt) | (with_reducible apply XQ.nb) | (with_reducible apply XC.block) | (first | ((with_reducible apply XOp.load); (case hg | ht | hk | hx => exact rfl); (case hc => exact (hK (fun y hy => by simp [hy])).imp fun h s => (s.int 5 (by simp)).1)) | ((with_reducible apply XP.load); (case ho | hg | ht | hk | hx => exact rfl); (case hc => exact (hK (fun y hy => by simp [hy])).imp fun h s => (s.int 5 (by simp)).1)))))
      refine ⟨k - 1, by omega, _, .of (List.Sublist.refl _), 6, by omega, ?_, rfl, rfl, rfl, intS2 (i := 5) (m := 7) (by omega) (by omega), trivial⟩
      rw [show IntKind.i64.wrap ([o0, o1, o2, o3, o4, o5, o6][5]?.getD 0) = o5 from v5]; rfl
    · (repeat (first | (with_reducible apply XL.op) | ((with_reducible apply XOp.p1); (case hg | hv => exact rfl)) | ((with_reducible apply XOp.store (i := 0)); (case hg | ht | hk | hx | hv | h1 | hi | hs | ha => exact rfl)) | ((with_reducible apply XOp.pr); (case hg => exact rfl); (case hr => ((with_reducible apply PR.idxA); (case ht | hk | he | hx | hi => exact rfl); (case hr => first | assumption | omega); (case ha => first | assumption | exact SlA.at_ (by assumption))))) | (with_reducible apply XL.nilT) | (with_reducible apply XC.seq) | (with_reducible apply XC.region (Γ := Γ)) | (with_reducible apply XL.nilQ) | (with_reducible apply XQ.skip) | (with_reducible apply XQ.nt) | (with_reducible apply XQ.nb) | (with_reducible apply XC.block) | (first | ((with_reducible apply XOp.load); (case hg | ht | hk | hx => exact rfl); (case hc => exact (hK (fun y hy => by simp [hy])).imp fun h s => (s.int 6 (by simp)).1)) | ((with_reducible apply XP.load); (case ho | hg | ht | hk | hx => exact rfl); (case hc => exact (hK (fun y hy => by simp [hy])).imp fun h s => (s.int 6 (by simp)).1)))))
      refine ⟨k - 1, by omega, _, .of (List.Sublist.refl _), 7, by omega, ?_, rfl, rfl, rfl, intS2 (i := 6) (m := 7) (by omega) (by omega), trivial⟩
      rw [show IntKind.i64.wrap ([o0, o1, o2, o3, o4, o5, o6][6]?.getD 0) = o6 from v6]; rfl
  obtain rfl : i = 7 := by omega
  clear hs hik
  (repeat (first | (with_reducible apply XL.op) | ((with_reducible apply XOp.loadO (i := 0)); (case hg | ht | hk | hx | hi | hc => exact rfl)) | ((with_reducible apply XOp.storeN (i := 1)); (case hg | ht | hx | hv' | hk | h1 | hi | hs | ha => exact rfl)) | (with_reducible apply XL.nilT) | (with_reducible apply XC.seq) | (with_reducible apply XC.region (Γ := Γ)) | (with_reducible apply XQ.ret) | (with_reducible apply XQ.exit) | (with_reducible apply XQ.nt) | (with_reducible apply XQ.et) | ((with_reducible apply XQ.eb); (case hb => exact rfl))))
  ((with_reducible apply XQ.retE); (case hr => exact .row rfl (by kernel_rfl) (by kernel_rfl) (own_row (i := 1) (m := 30) rfl rfl) .nil))
  refine ⟨VwB vb a c b (p9 + 7) :: (F9 ++ (F8 ++ (F7 ++ (F6 ++ (F5 ++ (F4 ++ (F3 ++ (F2 ++ (F1 ++ (F0 ++ [])))))))))), .of (by ((try simp only [List.append_eq, List.cons_append, List.nil_append, List.append_assoc]); repeat (first | exact List.Sublist.refl _ | exact List.nil_sublist _ | (with_reducible apply List.Sublist.cons_cons) | (with_reducible apply List.Sublist.cons) | exact List.sublist_append_right _ _))), ⟨xn1, xn2, xq, xk, xv, xo, xg, xu, xd, o0, o1, o2, o3, o4, o5, o6⟩, F9 ++ (F8 ++ (F7 ++ (F6 ++ (F5 ++ (F4 ++ (F3 ++ (F2 ++ (F1 ++ (F0 ++ []))))))))), rfl, ?_, ?_, fun h hh => ?_⟩
  · rw [← hxn1, ← hxn2, ← hxq, ← hxk, ← hxv, ← hxo, ← hxg, ← hxu, ← hxd, ← hy]; rfl
  · rfl
  · exact ⟨hF0 h fun y hy => hh y (by simp [hy]), hF1 h fun y hy => hh y (by simp [hy]), hF2 h fun y hy => hh y (by simp [hy]), hF3 h fun y hy => hh y (by simp [hy]), hF4 h fun y hy => hh y (by simp [hy]), hF5 h fun y hy => hh y (by simp [hy]), hF6 h fun y hy => hh y (by simp [hy]), hF7 h fun y hy => hh y (by simp [hy]), hF8 h fun y hy => hh y (by simp [hy])⟩
end Go.Proofs.YtppggaiahkecoaaDoorX
