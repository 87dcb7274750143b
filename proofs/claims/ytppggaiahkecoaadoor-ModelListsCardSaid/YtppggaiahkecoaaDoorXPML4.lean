/- over: the lists of turns, layers and matrices are written over, and appended to. -/
import Derived.Test.YtppggaiahkecoaaDoorXPML3
import Derived.Test.YtppggaiahkecoaaDoorXPML2
import Derived.Test.YtppggaiahkecoaaDoorRows
import Derived.LaidMore
import Derived.LaidHandle
import Derived.MakeChecks
import Derived.Test.YtppggaiahkecoaaDoorXPML1
set_option linter.unusedSimpArgs false
set_option linter.unusedVariables false
namespace Go.Proofs.YtppggaiahkecoaaDoorX
open Go Go.SX
theorem lset_ex : ∀ (cs : List Value) (k : Nat) (v : Value), k < cs.length → ∃ cs', lset cs k v = some cs' ∧ cs'.length = cs.length
  | [], k, v, h => by simp at h
  | c :: cs, 0, v, _ => ⟨v :: cs, rfl, rfl⟩
  | c :: cs, k + 1, v, h => by
    obtain ⟨cs', h1, h2⟩ := lset_ex cs k v (by simpa using h)
    exact ⟨c :: cs', by simp only [lset, h1], by simp [h2]⟩
theorem lsetN_ex : ∀ (vs cs : List Value) (k : Nat), k + vs.length ≤ cs.length → ∃ cs', lsetN cs k vs = some cs' ∧ cs'.length = cs.length
  | [], cs, k, _ => ⟨cs, rfl, rfl⟩
  | v :: vs, cs, k, h => by
    rw [List.length_cons] at h
    obtain ⟨c1, h1, h2⟩ := lset_ex cs k v (by omega)
    obtain ⟨c2, h3, h4⟩ := lsetN_ex vs c1 (k + 1) (by omega)
    exact ⟨c2, by simp only [lsetN, h1, h3], by omega⟩
/-- A slice of the call's own, whatever stands in it. -/
def OwnE (e sz : Nat) (v : Value) (m : Nat) (F : HL) : Prop := ∃ xs, OwnS e sz v m xs F
theorem OwnE.blk {e sz m c : Nat} {a : Option Addr} {F : HL} (h : OwnE e sz (.slice a m c) m F) (hm : 0 < m) : ∃ g cs, a = some ⟨g, 0, none⟩ ∧ F = [(g, .cells ⟨cs⟩ e (0, 0))] ∧ m ≤ c ∧ c ≤ maxLen ∧ cs.length = c * sz := by
  obtain ⟨xs, h⟩ := h
  rcases h.2 with ⟨_, h0, _⟩ | ⟨g, cap, sp, hv, rfl, h1, h2, h3⟩
  · omega
  · obtain ⟨rfl, _, rfl⟩ := Value.slice.inj hv
    exact ⟨g, _, rfl, rfl, h1, h2, h3⟩
theorem OwnE.of {e sz m c g : Nat} {cs : List Value} (h1 : m ≤ c) (h2 : c ≤ maxLen) (h3 : cs.length = c * sz) : OwnE e sz (.slice (some ⟨g, 0, none⟩) m c) m [(g, .cells ⟨cs⟩ e (0, 0))] := by
  have h4 : m * sz ≤ c * sz := Nat.mul_le_mul_right _ h1
  exact ⟨cs.take (m * sz), by rw [List.length_take]; omega, .inr ⟨g, c, cs.drop (m * sz), rfl, by rw [List.take_append_drop], h1, h2, by rw [List.take_append_drop]; exact h3⟩⟩
theorem map_flatA {α : Type} : ∀ ts : List (LA α), ts.map sla = ts.flatMap fun x => [sla x]
  | [] => rfl
  | a :: l => by rw [List.flatMap_cons, List.map_cons, map_flatA l]; rfl
theorem sla_at {α : Type} {e : Nat} {ts : List (LA α)} {a : Option Addr} {c : Nat} {F : HL} (h : OwnS e 1 (.slice a ts.length c) ts.length (ts.map sla) F) (hb : ts.length ≤ 10) : SlA (Kd.raw (fun x : LA α => [sla x]) 1 (fun _ => rfl)) 24 (fv F) ts a c := by
  have h0 : OwnS e 1 (.slice a ts.length c) ts.length (ts.flatMap fun x => [sla x]) F := h.conv rfl (map_flatA ts)
  obtain ⟨_, _, e, s⟩ := h0.raw (f := fun x : LA α => [sla x]) (k := 1) (hk := fun _ => rfl) (by_ := 24) rfl (by omega)
  obtain ⟨rfl, _, rfl⟩ := Value.slice.inj e
  exact s
def OwnL {α : Type} (e sz : Nat) (_ : Nat) (t : LA α) (F : HL) : Prop := OwnE e sz (sla t) t.1.length F
set_option maxHeartbeats 16000000 in
theorem over_fn (lb : Nat) (g : GL) (vN vT vL vM : Value) (FT FL FM CT CL CM : HL) (hT : OwnS 27 1 vT g.T.length (g.T.map sla) FT) (hL : OwnS 28 1 vL g.L.length (g.L.map sla) FL) (hM : OwnS 29 1 vM g.M.length (g.M.map sla) FM)
    (cT : EachAll (OwnL 70 2) 0 g.T CT) (cL : EachAll (OwnL 67 30) 0 g.L CL) (cM : EachAll (OwnL 26 3) 0 g.M CM)
    (hb : g.T.length ≤ 10 ∧ g.L.length = g.T.length ∧ g.M.length = g.T.length) (bT : ∀ t ∈ g.T, t.1.length ≤ 1000000) (bL : ∀ t ∈ g.L, t.1.length ≤ 1000000) (bM : ∀ t ∈ g.M, t.1.length ≤ 1000000) :
    FC Tryd.prog 20 [.pointer (some ⟨lb, 0, none⟩)] (LsB lb vN vT vL vM :: (FT ++ (FL ++ (FM ++ (CT ++ (CL ++ CM)))))) (fun _ => True) (fun _ L => L = []) := by
  refine FC.sub2 ?_
  obtain ⟨aT, dT, rfl⟩ := hT.val
  obtain ⟨aL, dL, rfl⟩ := hL.val
  obtain ⟨aM, dM, rfl⟩ := hM.val
  have sT := sla_at hT hb.1
  have sL := sla_at hL (by omega)
  have sM := sla_at hM (by omega)
  have hTa := sT.at_
  have hLa := sL.at_
  have hMa := sM.at_
  have kT := Held.frag sT (Mono.sl _ _ _ _ _)
  have kL := Held.frag sL (Mono.sl _ _ _ _ _)
  have kM := Held.frag sM (Mono.sl _ _ _ _ _)
  refine FC.intro Tryd.func20 rfl (by kernel_rfl) 122 [] rfl rfl rfl ?_
  intro w0 _
  (repeat (first | (with_reducible apply XL.op) | ((with_reducible apply XOp.p1); (case hg | hv => exact rfl)) | (with_reducible apply XL.nilT) | (with_reducible apply XC.seq) | (with_reducible apply XC.region (Γ := Γ)) | (with_reducible apply XC.block)))
  refine XC.loopP (fun k ρ L => ∃ (i : Nat) (C1 C2 C3 : HL), i + k = g.T.length ∧ EachAll (OwnL 70 2) i (g.T.drop i) C1 ∧ EachAll (OwnL 67 30) i (g.L.drop i) C2 ∧ EachAll (OwnL 26 3) i (g.M.drop i) C3 ∧ L = LsB lb vN (.slice aT g.T.length dT) (.slice aL g.L.length dL) (.slice aM g.M.length dM) :: (FT ++ (FL ++ (FM ++ (C1 ++ (C2 ++ C3))))) ∧ Slots ρ [(0, .pointer (some ⟨lb, 0, none⟩)), (2, .int .i64 i)])
    g.T.length ⟨0, CT, CL, CM, by simp, cT, cL, cM, rfl, rfl, rfl, trivial⟩ ?_
  clear cT cL cM
  rintro k ρ L ⟨i, C1, C2, C3, hik, h1, h2, h3, rfl, hs⟩
  refine XC.slots _ hs ?_
  (repeat (first | (with_reducible apply XL.op) | ((with_reducible apply XOp.p1); (case hg | hv => exact rfl)) | ((with_reducible apply XOp.load); (case hg | ht | hk | hx => exact rfl); (case hc => exact own_cell (i := 0) rfl rfl)) | (with_reducible apply XL.nilT) | (with_reducible apply XC.seq) | (with_reducible apply XC.region (Γ := Γ))))
  ((with_reducible apply XC.cond); (case hc => exact rfl); all_goals (intro hb_; try simp only [pd_true, pd_false, Bool.not_eq_true', Bool.not_eq_false', Bool.and_eq_true, Bool.and_eq_false_iff, Bool.or_eq_true, Bool.or_eq_false_iff, not_true_eq_false, not_false_eq_true, Int.not_lt, Int.not_le] at hb_))
  · obtain ⟨t, ht⟩ : ∃ x, g.T[i]? = some x := ⟨_, List.getElem?_eq_getElem (by omega)⟩
    obtain ⟨y, hy⟩ : ∃ x, g.L[i]? = some x := ⟨_, List.getElem?_eq_getElem (by omega)⟩
    obtain ⟨m, hm⟩ : ∃ x, g.M[i]? = some x := ⟨_, List.getElem?_eq_getElem (by omega)⟩
    have bt := bT t (List.mem_of_getElem? ht)
    have bl := bL y (List.mem_of_getElem? hy)
    have bm := bM m (List.mem_of_getElem? hm)
    rw [List.drop_eq_getElem_cons (by omega), (List.getElem?_eq_some_iff.1 ht).2] at h1
    rw [List.drop_eq_getElem_cons (by omega), (List.getElem?_eq_some_iff.1 hy).2] at h2
    rw [List.drop_eq_getElem_cons (by omega), (List.getElem?_eq_some_iff.1 hm).2] at h3
    obtain ⟨Ft, D1, ot, h1, rfl⟩ := h1
    obtain ⟨Fl, D2, ol, h2, rfl⟩ := h2
    obtain ⟨Fm, D3, om, h3, rfl⟩ := h3
    obtain ⟨xt, at', ct⟩ := t
    obtain ⟨xl, al, cl⟩ := y
    obtain ⟨xm, am, cm⟩ := m
    replace bt : xt.length ≤ 1000000 := bt
    replace bl : xl.length ≤ 1000000 := bl
    replace bm : xm.length ≤ 1000000 := bm
    (repeat (first | (with_reducible apply XL.op) | ((with_reducible apply XOp.p1); (case hg | hv => exact rfl)) | (with_reducible apply XL.nilT) | (with_reducible apply XC.seq) | (with_reducible apply XC.region (Γ := Γ)) | (with_reducible apply XQ.skip) | (with_reducible apply XQ.nt) | (with_reducible apply XC.block)))
    refine XC.perm (L' := LsB lb vN (.slice aT g.T.length dT) (.slice aL g.L.length dL) (.slice aM g.M.length dM) :: (Ft ++ ((FT ++ (FL ++ FM)) ++ (Fl ++ (Fm ++ (D1 ++ (D2 ++ D3))))))) ?_ (by (first | (with_reducible exact List.Perm.refl _) | refine perm_of_cnt fun p_ => ?_; simp only [List.countP_append, List.countP_cons, List.countP_nil]; omega))
    refine XC.loop (fun k ρ L => ∃ (j : Nat) (F : HL), j + k = xt.length ∧ OwnE 70 2 (.slice at' xt.length ct) xt.length F ∧ L = LsB lb vN (.slice aT g.T.length dT) (.slice aL g.L.length dL) (.slice aM g.M.length dM) :: (F ++ ((FT ++ (FL ++ FM)) ++ (Fl ++ (Fm ++ (D1 ++ (D2 ++ D3)))))) ∧ Slots ρ [(0, .pointer (some ⟨lb, 0, none⟩)), (2, .int .i64 i), (3, .int .i64 j)])
      xt.length ⟨0, Ft, by simp, ot, rfl, rfl, rfl, rfl, trivial⟩ ?_
    rintro k2 ρ L ⟨j, F, hjk, hF, rfl, hs⟩
    refine XC.slots _ hs ?_
    (repeat (first | (with_reducible apply XL.op) | ((with_reducible apply XOp.p1); (case hg | hv => exact rfl)) | ((with_reducible apply XOp.load); (case hg | ht | hk | hx => exact rfl); (case hc => exact own_cell (i := 0) rfl rfl)) | ((with_reducible apply XOp.pr); (case hg => exact rfl); (case hr => ((with_reducible apply PR.idxA); (case ht | hk | he | hx | hi => exact rfl); (case hr => first | assumption | omega); (case ha => first | assumption | exact SlA.at_ (by assumption))))) | (with_reducible apply XL.nilT) | (with_reducible apply XC.seq) | (with_reducible apply XC.region (Γ := Γ)) | (first | ((with_reducible apply XOp.load); (case hg | ht | hk | hx => exact rfl); (case hc => exact (kT.known (fun z hz => by simp [hz])).imp fun h s => s.rawAt ht 0 _ rfl)) | ((with_reducible apply XP.load); (case ho | hg | ht | hk | hx => exact rfl); (case hc => exact (kT.known (fun z hz => by simp [hz])).imp fun h s => s.rawAt ht 0 _ rfl)))))
    ((with_reducible apply XC.cond); (case hc => exact rfl); all_goals (intro hb_; try simp only [pd_true, pd_false, Bool.not_eq_true', Bool.not_eq_false', Bool.and_eq_true, Bool.and_eq_false_iff, Bool.or_eq_true, Bool.or_eq_false_iff, not_true_eq_false, not_false_eq_true, Int.not_lt, Int.not_le] at hb_))
    · have hb2_ : ((j : Nat) : Int) < ((xt.length : Nat) : Int) := hb_
      obtain ⟨gb, cs, rfl, rfl, q1, q2, q3⟩ := hF.blk (by omega)
      have hb3_ : ((j : Nat) : Int) < (((xt, (some ⟨gb, 0, none⟩ : Option Addr), ct).1.length : Nat) : Int) := hb2_
      obtain ⟨cs', z1, z2⟩ := lsetN_ex [.int .i64 77, .int .i64 0] cs (j * 2) (by rw [q3]; show j * 2 + 2 ≤ ct * 2; omega)
      (repeat (first | (with_reducible apply XL.op) | ((with_reducible apply XOp.p1); (case hg | hv => exact rfl)) | ((with_reducible apply XOp.load); (case hg | ht | hk | hx => exact rfl); (case hc => exact own_cell (i := 0) rfl rfl)) | ((with_reducible apply XOp.pr); (case hg => exact rfl); (case hr => ((with_reducible apply PR.idxA); (case ht | hk | he | hx | hi => exact rfl); (case hr => first | assumption | omega); (case ha => first | assumption | exact SlA.at_ (by assumption))))) | ((with_reducible apply XOp.pr); (case hg => exact rfl); (case hr => ((with_reducible apply PR.idx); (case ht | hk | he | hx | hi => exact rfl); (case hr => first | assumption | omega)))) | ((with_reducible apply XOp.pr); (case hg => exact rfl); (case hr => ((with_reducible apply PR.build); (case ht | hk | hok | hz | hf => exact rfl)))) | (with_reducible apply XC.seq) | (with_reducible apply XC.region (Γ := Γ)) | (with_reducible apply XQ.skip) | (with_reducible apply XQ.nt) | (with_reducible apply XC.block) | (first | ((with_reducible apply XOp.load); (case hg | ht | hk | hx => exact rfl); (case hc => exact (kT.known (fun z hz => by simp [hz])).imp fun h s => s.rawAt ht 0 _ rfl)) | ((with_reducible apply XP.load); (case ho | hg | ht | hk | hx => exact rfl); (case hc => exact (kT.known (fun z hz => by simp [hz])).imp fun h s => s.rawAt ht 0 _ rfl)))))
      ((with_reducible apply XOp.storeN (i := 1) (cs' := cs')); (case hg => exact rfl); (case ht => exact rfl); (case hx => exact rfl); (case hv' => exact rfl); (case hk => exact rfl); (case h1 => exact rfl); (case hi => exact rfl); (case hs => exact (show lsetN _ (0 + ((j : Nat) : Int).toNat * 2) _ = _ from (by rw [show 0 + ((j : Nat) : Int).toNat * 2 = j * 2 by omega]; exact z1))); (case ha => exact rfl))
      (repeat (first | (with_reducible apply XL.op) | ((with_reducible apply XOp.p1); (case hg | hv => exact rfl)) | (with_reducible apply XL.nilT) | (with_reducible apply XC.region (Γ := Γ)) | (with_reducible apply XL.nilQ) | (with_reducible apply XQ.nt) | (with_reducible apply XQ.nb)))
      exact ⟨k2 - 1, by omega, j + 1, _, by omega, OwnE.of q1 q2 (z2.trans q3), rfl, rfl, rfl, intS (m := xt.length) (by omega) (by omega), trivial⟩
    obtain rfl : j = xt.length := by omega
    generalize F = FTx at *
    have oTx := hF
    clear hF hs hjk hb_
    (repeat (first | (with_reducible apply XL.op) | ((with_reducible apply XOp.p1); (case hg | hv => exact rfl)) | (with_reducible apply XL.nilT) | (with_reducible apply XC.seq) | (with_reducible apply XC.region (Γ := Γ)) | (with_reducible apply XQ.exit) | (with_reducible apply XQ.nt) | (with_reducible apply XQ.et) | (with_reducible apply XC.block) | ((with_reducible apply XQ.eb); (case hb => exact rfl))))
    refine XC.perm (L' := LsB lb vN (.slice aT g.T.length dT) (.slice aL g.L.length dL) (.slice aM g.M.length dM) :: (Fl ++ ((FT ++ (FL ++ FM)) ++ (FTx ++ (Fm ++ (D1 ++ (D2 ++ D3))))))) ?_ (by (first | (with_reducible exact List.Perm.refl _) | refine perm_of_cnt fun p_ => ?_; simp only [List.countP_append, List.countP_cons, List.countP_nil]; omega))
    refine XC.loop (fun k ρ L => ∃ (j : Nat) (F : HL), j + k = xl.length ∧ OwnE 67 30 (.slice al xl.length cl) xl.length F ∧ L = LsB lb vN (.slice aT g.T.length dT) (.slice aL g.L.length dL) (.slice aM g.M.length dM) :: (F ++ ((FT ++ (FL ++ FM)) ++ (FTx ++ (Fm ++ (D1 ++ (D2 ++ D3)))))) ∧ Slots ρ [(0, .pointer (some ⟨lb, 0, none⟩)), (2, .int .i64 i), (4, .int .i64 j)])
      xl.length ⟨0, Fl, by simp, ol, rfl, rfl, rfl, rfl, trivial⟩ ?_
    rintro k2 ρ L ⟨j, F, hjk, hF, rfl, hs⟩
    refine XC.slots _ hs ?_
    (repeat (first | (with_reducible apply XL.op) | ((with_reducible apply XOp.p1); (case hg | hv => exact rfl)) | ((with_reducible apply XOp.load); (case hg | ht | hk | hx => exact rfl); (case hc => exact own_cell (i := 0) rfl rfl)) | ((with_reducible apply XOp.pr); (case hg => exact rfl); (case hr => ((with_reducible apply PR.idxA); (case ht | hk | he | hx | hi => exact rfl); (case hr => first | assumption | omega); (case ha => first | assumption | exact SlA.at_ (by assumption))))) | (with_reducible apply XL.nilT) | (with_reducible apply XC.seq) | (with_reducible apply XC.region (Γ := Γ)) | (first | ((with_reducible apply XOp.load); (case hg | ht | hk | hx => exact rfl); (case hc => exact (kL.known (fun z hz => by simp [hz])).imp fun h s => s.rawAt hy 0 _ rfl)) | ((with_reducible apply XP.load); (case ho | hg | ht | hk | hx => exact rfl); (case hc => exact (kL.known (fun z hz => by simp [hz])).imp fun h s => s.rawAt hy 0 _ rfl)))))
    ((with_reducible apply XC.cond); (case hc => exact rfl); all_goals (intro hb_; try simp only [pd_true, pd_false, Bool.not_eq_true', Bool.not_eq_false', Bool.and_eq_true, Bool.and_eq_false_iff, Bool.or_eq_true, Bool.or_eq_false_iff, not_true_eq_false, not_false_eq_true, Int.not_lt, Int.not_le] at hb_))
    · have hb2_ : ((j : Nat) : Int) < ((xl.length : Nat) : Int) := hb_
      obtain ⟨gb, cs, rfl, rfl, q1, q2, q3⟩ := hF.blk (by omega)
      have hb3_ : ((j : Nat) : Int) < (((xl, (some ⟨gb, 0, none⟩ : Option Addr), cl).1.length : Nat) : Int) := hb2_
      obtain ⟨cs', z1, z2⟩ := lsetN_ex zeroL cs (j * 30) (by rw [q3]; show j * 30 + 30 ≤ cl * 30; omega)
      (repeat (first | (with_reducible apply XL.op) | ((with_reducible apply XOp.p1); (case hg | hv => exact rfl)) | ((with_reducible apply XOp.load); (case hg | ht | hk | hx => exact rfl); (case hc => exact own_cell (i := 0) rfl rfl)) | ((with_reducible apply XOp.pr); (case hg => exact rfl); (case hr => ((with_reducible apply PR.idxA); (case ht | hk | he | hx | hi => exact rfl); (case hr => first | assumption | omega); (case ha => first | assumption | exact SlA.at_ (by assumption))))) | ((with_reducible apply XOp.pr); (case hg => exact rfl); (case hr => ((with_reducible apply PR.idx); (case ht | hk | he | hx | hi => exact rfl); (case hr => first | assumption | omega)))) | ((with_reducible apply XOp.pr); (case hg => exact rfl); (case hr => ((with_reducible apply PR.build); (case ht | hk | hok | hz | hf => exact rfl)))) | (with_reducible apply XC.seq) | (with_reducible apply XC.region (Γ := Γ)) | (with_reducible apply XQ.skip) | (with_reducible apply XQ.nt) | (with_reducible apply XC.block) | (first | ((with_reducible apply XOp.load); (case hg | ht | hk | hx => exact rfl); (case hc => exact (kL.known (fun z hz => by simp [hz])).imp fun h s => s.rawAt hy 0 _ rfl)) | ((with_reducible apply XP.load); (case ho | hg | ht | hk | hx => exact rfl); (case hc => exact (kL.known (fun z hz => by simp [hz])).imp fun h s => s.rawAt hy 0 _ rfl)))))
      ((with_reducible apply XOp.storeN (i := 1) (cs' := cs')); (case hg => exact rfl); (case ht => exact rfl); (case hx => exact rfl); (case hv' => exact rfl); (case hk => exact rfl); (case h1 => exact rfl); (case hi => exact rfl); (case hs => exact (show lsetN _ (0 + ((j : Nat) : Int).toNat * 30) _ = _ from (by rw [show 0 + ((j : Nat) : Int).toNat * 30 = j * 30 by omega]; exact z1))); (case ha => exact rfl))
      (repeat (first | (with_reducible apply XL.op) | ((with_reducible apply XOp.p1); (case hg | hv => exact rfl)) | (with_reducible apply XL.nilT) | (with_reducible apply XC.region (Γ := Γ)) | (with_reducible apply XL.nilQ) | (with_reducible apply XQ.nt) | (with_reducible apply XQ.nb)))
      exact ⟨k2 - 1, by omega, j + 1, _, by omega, OwnE.of q1 q2 (z2.trans q3), rfl, rfl, rfl, intS (m := xl.length) (by omega) (by omega), trivial⟩
    obtain rfl : j = xl.length := by omega
    generalize F = FLx at *
    have oLx := hF
    clear hF hs hjk hb_
    (repeat (first | (with_reducible apply XL.op) | ((with_reducible apply XOp.p1); (case hg | hv => exact rfl)) | (with_reducible apply XL.nilT) | (with_reducible apply XC.seq) | (with_reducible apply XC.region (Γ := Γ)) | (with_reducible apply XQ.exit) | (with_reducible apply XQ.nt) | (with_reducible apply XQ.et) | (with_reducible apply XC.block) | ((with_reducible apply XQ.eb); (case hb => exact rfl))))
    refine XC.perm (L' := LsB lb vN (.slice aT g.T.length dT) (.slice aL g.L.length dL) (.slice aM g.M.length dM) :: (Fm ++ ((FT ++ (FL ++ FM)) ++ (FTx ++ (FLx ++ (D1 ++ (D2 ++ D3))))))) ?_ (by (first | (with_reducible exact List.Perm.refl _) | refine perm_of_cnt fun p_ => ?_; simp only [List.countP_append, List.countP_cons, List.countP_nil]; omega))
    refine XC.loop (fun k ρ L => ∃ (j : Nat) (F : HL), j + k = xm.length ∧ OwnE 26 3 (.slice am xm.length cm) xm.length F ∧ L = LsB lb vN (.slice aT g.T.length dT) (.slice aL g.L.length dL) (.slice aM g.M.length dM) :: (F ++ ((FT ++ (FL ++ FM)) ++ (FTx ++ (FLx ++ (D1 ++ (D2 ++ D3)))))) ∧ Slots ρ [(0, .pointer (some ⟨lb, 0, none⟩)), (2, .int .i64 i), (5, .int .i64 j)])
      xm.length ⟨0, Fm, by simp, om, rfl, rfl, rfl, rfl, trivial⟩ ?_
    rintro k2 ρ L ⟨j, F, hjk, hF, rfl, hs⟩
    refine XC.slots _ hs ?_
    (repeat (first | (with_reducible apply XL.op) | ((with_reducible apply XOp.p1); (case hg | hv => exact rfl)) | ((with_reducible apply XOp.load); (case hg | ht | hk | hx => exact rfl); (case hc => exact own_cell (i := 0) rfl rfl)) | ((with_reducible apply XOp.pr); (case hg => exact rfl); (case hr => ((with_reducible apply PR.idxA); (case ht | hk | he | hx | hi => exact rfl); (case hr => first | assumption | omega); (case ha => first | assumption | exact SlA.at_ (by assumption))))) | (with_reducible apply XL.nilT) | (with_reducible apply XC.seq) | (with_reducible apply XC.region (Γ := Γ)) | (first | ((with_reducible apply XOp.load); (case hg | ht | hk | hx => exact rfl); (case hc => exact (kM.known (fun z hz => by simp [hz])).imp fun h s => s.rawAt hm 0 _ rfl)) | ((with_reducible apply XP.load); (case ho | hg | ht | hk | hx => exact rfl); (case hc => exact (kM.known (fun z hz => by simp [hz])).imp fun h s => s.rawAt hm 0 _ rfl)))))
    ((with_reducible apply XC.cond); (case hc => exact rfl); all_goals (intro hb_; try simp only [pd_true, pd_false, Bool.not_eq_true', Bool.not_eq_false', Bool.and_eq_true, Bool.and_eq_false_iff, Bool.or_eq_true, Bool.or_eq_false_iff, not_true_eq_false, not_false_eq_true, Int.not_lt, Int.not_le] at hb_))
    · have hb2_ : ((j : Nat) : Int) < ((xm.length : Nat) : Int) := hb_
      obtain ⟨gb, cs, rfl, rfl, q1, q2, q3⟩ := hF.blk (by omega)
      have hb3_ : ((j : Nat) : Int) < (((xm, (some ⟨gb, 0, none⟩ : Option Addr), cm).1.length : Nat) : Int) := hb2_
      obtain ⟨cs', z1, z2⟩ := lsetN_ex zeroM cs (j * 3) (by rw [q3]; show j * 3 + 3 ≤ cm * 3; omega)
      (repeat (first | (with_reducible apply XL.op) | ((with_reducible apply XOp.p1); (case hg | hv => exact rfl)) | ((with_reducible apply XOp.load); (case hg | ht | hk | hx => exact rfl); (case hc => exact own_cell (i := 0) rfl rfl)) | ((with_reducible apply XOp.pr); (case hg => exact rfl); (case hr => ((with_reducible apply PR.idxA); (case ht | hk | he | hx | hi => exact rfl); (case hr => first | assumption | omega); (case ha => first | assumption | exact SlA.at_ (by assumption))))) | ((with_reducible apply XOp.pr); (case hg => exact rfl); (case hr => ((with_reducible apply PR.idx); (case ht | hk | he | hx | hi => exact rfl); (case hr => first | assumption | omega)))) | ((with_reducible apply XOp.pr); (case hg => exact rfl); (case hr => ((with_reducible apply PR.build); (case ht | hk | hok | hz | hf => exact rfl)))) | (with_reducible apply XC.seq) | (with_reducible apply XC.region (Γ := Γ)) | (with_reducible apply XQ.skip) | (with_reducible apply XQ.nt) | (with_reducible apply XC.block) | (first | ((with_reducible apply XOp.load); (case hg | ht | hk | hx => exact rfl); (case hc => exact (kM.known (fun z hz => by simp [hz])).imp fun h s => s.rawAt hm 0 _ rfl)) | ((with_reducible apply XP.load); (case ho | hg | ht | hk | hx => exact rfl); (case hc => exact (kM.known (fun z hz => by simp [hz])).imp fun h s => s.rawAt hm 0 _ rfl)))))
      ((with_reducible apply XOp.storeN (i := 1) (cs' := cs')); (case hg => exact rfl); (case ht => exact rfl); (case hx => exact rfl); (case hv' => exact rfl); (case hk => exact rfl); (case h1 => exact rfl); (case hi => exact rfl); (case hs => exact (show lsetN _ (0 + ((j : Nat) : Int).toNat * 3) _ = _ from (by rw [show 0 + ((j : Nat) : Int).toNat * 3 = j * 3 by omega]; exact z1))); (case ha => exact rfl))
      (repeat (first | (with_reducible apply XL.op) | ((with_reducible apply XOp.p1); (case hg | hv => exact rfl)) | (with_reducible apply XL.nilT) | (with_reducible apply XC.region (Γ := Γ)) | (with_reducible apply XL.nilQ) | (with_reducible apply XQ.nt) | (with_reducible apply XQ.nb)))
      exact ⟨k2 - 1, by omega, j + 1, _, by omega, OwnE.of q1 q2 (z2.trans q3), rfl, rfl, rfl, intS (m := xm.length) (by omega) (by omega), trivial⟩
    obtain rfl : j = xm.length := by omega
    generalize F = FMx at *
    have oMx := hF
    clear hF hs hjk hb_
    (repeat (first | (with_reducible apply XL.op) | ((with_reducible apply XOp.p1); (case hg | hv => exact rfl)) | ((with_reducible apply XOp.load); (case hg | ht | hk | hx => exact rfl); (case hc => exact own_cell (i := 0) rfl rfl)) | ((with_reducible apply XOp.pr); (case hg => exact rfl); (case hr => ((with_reducible apply PR.idxA); (case ht | hk | he | hx | hi => exact rfl); (case hr => first | assumption | omega); (case ha => first | assumption | exact SlA.at_ (by assumption))))) | (with_reducible apply XC.seq) | (with_reducible apply XC.region (Γ := Γ)) | (with_reducible apply XQ.exit) | (with_reducible apply XQ.nt) | (with_reducible apply XQ.et) | ((with_reducible apply XQ.eb); (case hb => exact rfl))))
    (repeat (first | (with_reducible apply XL.op) | ((with_reducible apply XOp.p1); (case hg | hv => exact rfl)) | ((with_reducible apply XOp.load); (case hg | ht | hk | hx => exact rfl); (case hc => exact own_cell (i := 0) rfl rfl)) | ((with_reducible apply XOp.pr); (case hg => exact rfl); (case hr => ((with_reducible apply PR.idxA); (case ht | hk | he | hx | hi => exact rfl); (case hr => first | assumption | omega); (case ha => first | assumption | exact SlA.at_ (by assumption))))) | (with_reducible apply XL.nilT) | (with_reducible apply XC.seq) | (with_reducible apply XC.region (Γ := Γ)) | (with_reducible apply XC.block) | (first | ((with_reducible apply XOp.load); (case hg | ht | hk | hx => exact rfl); (case hc => exact (kT.known (fun z hz => by simp [hz])).imp fun h s => s.rawAt ht 0 _ rfl)) | ((with_reducible apply XP.load); (case ho | hg | ht | hk | hx => exact rfl); (case hc => exact (kT.known (fun z hz => by simp [hz])).imp fun h s => s.rawAt ht 0 _ rfl))) | (first | ((with_reducible apply XOp.load); (case hg | ht | hk | hx => exact rfl); (case hc => exact (kL.known (fun z hz => by simp [hz])).imp fun h s => s.rawAt hy 0 _ rfl)) | ((with_reducible apply XP.load); (case ho | hg | ht | hk | hx => exact rfl); (case hc => exact (kL.known (fun z hz => by simp [hz])).imp fun h s => s.rawAt hy 0 _ rfl))) | (first | ((with_reducible apply XOp.load); (case hg | ht | hk | hx => exact rfl); (case hc => exact (kM.known (fun z hz => by simp [hz])).imp fun h s => s.rawAt hm 0 _ rfl)) | ((with_reducible apply XP.load); (case ho | hg | ht | hk | hx => exact rfl); (case hc => exact (kM.known (fun z hz => by simp [hz])).imp fun h s => s.rawAt hm 0 _ rfl)))))
    refine XC.perm (L' := (LsB lb vN (.slice aT g.T.length dT) (.slice aL g.L.length dL) (.slice aM g.M.length dM) :: ((FT ++ (FL ++ FM)) ++ (D1 ++ (D2 ++ D3)))) ++ (FTx ++ (FLx ++ FMx))) ?_ (by (first | (with_reducible exact List.Perm.refl _) | refine perm_of_cnt fun p_ => ?_; simp only [List.countP_append, List.countP_cons, List.countP_nil]; omega))
    refine XC.loop (fun k ρ L => ∃ (j : Nat) (v1 v2 v3 : Value) (F1 F2 F3 : HL), j + k = 16 ∧ OwnE 70 2 v1 (xt.length + j) F1 ∧ OwnE 67 30 v2 (xl.length + j) F2 ∧ OwnE 26 3 v3 (xm.length + j) F3 ∧ L = (LsB lb vN (.slice aT g.T.length dT) (.slice aL g.L.length dL) (.slice aM g.M.length dM) :: ((FT ++ (FL ++ FM)) ++ (D1 ++ (D2 ++ D3)))) ++ (F1 ++ (F2 ++ F3)) ∧ Slots ρ [(0, .pointer (some ⟨lb, 0, none⟩)), (2, .int .i64 i), (6, v1), (7, v2), (8, v3), (9, .int .i64 j)])
      16 ⟨0, _, _, _, FTx, FLx, FMx, by simp, oTx, oLx, oMx, rfl, rfl, rfl, rfl, rfl, rfl, rfl, trivial⟩ ?_
    rintro k2 ρ L ⟨j, v1, v2, v3, F1, F2, F3, hjk, ⟨z1, o1⟩, ⟨z2, o2⟩, ⟨z3, o3⟩, rfl, hs⟩
    obtain ⟨a1, c1, rfl⟩ := o1.val
    obtain ⟨a2, c2, rfl⟩ := o2.val
    obtain ⟨a3, c3, rfl⟩ := o3.val
    refine XC.slots _ hs ?_
    (repeat (first | (with_reducible apply XL.op) | ((with_reducible apply XOp.p1); (case hg | hv => exact rfl)) | (with_reducible apply XL.nilT) | (with_reducible apply XC.seq) | (with_reducible apply XC.region (Γ := Γ))))
    ((with_reducible apply XC.cond); (case hc => exact rfl); all_goals (intro hb_; try simp only [pd_true, pd_false, Bool.not_eq_true', Bool.not_eq_false', Bool.and_eq_true, Bool.and_eq_false_iff, Bool.or_eq_true, Bool.or_eq_false_iff, not_true_eq_false, not_false_eq_true, Int.not_lt, Int.not_le] at hb_))
    · (repeat (first | (with_reducible apply XL.op) | ((with_reducible apply XOp.p1); (case hg | hv => exact rfl)) | ((with_reducible apply XOp.pr); (case hg => exact rfl); (case hr => ((with_reducible apply PR.build); (case ht | hk | hok | hz | hf => exact rfl)))) | (with_reducible apply XC.seq) | (with_reducible apply XC.region (Γ := Γ)) | (with_reducible apply XQ.skip) | (with_reducible apply XQ.nt) | (with_reducible apply XC.block)))
      ((with_reducible apply XOp.buildSlice); (case hg | ht | hk | he | hz | hzl | hf => exact rfl); intro b1)
      (repeat ((with_reducible apply XL.op)))
      (refine (show XOp _ _ _ _ _ _ _ _ ((b1, Obj.cells ⟨[.int .i64 78, .int .i64 0]⟩ 70 (0, 0)) :: ((LsB lb vN (.slice aT g.T.length dT) (.slice aL g.L.length dL) (.slice aM g.M.length dM) :: ((FT ++ (FL ++ FM)) ++ (D1 ++ (D2 ++ D3)))) ++ (F1 ++ (F2 ++ F3)))) from XOp.perm (L' :=  (b1, Obj.cells ⟨[.int .i64 78, .int .i64 0]⟩ 70 (0, 0)) :: (((LsB lb vN (.slice aT g.T.length dT) (.slice aL g.L.length dL) (.slice aM g.M.length dM) :: ((FT ++ (FL ++ FM)) ++ (D1 ++ (D2 ++ D3)))) ++ (F2 ++ F3)) ++ F1)) rfl ?_ (by (first | (with_reducible exact List.Perm.refl _) | refine perm_of_cnt fun p_ => ?_; simp only [List.countP_append, List.countP_cons, List.countP_nil]; omega))))
      ((with_reducible apply XOp.append1R (R := (LsB lb vN (.slice aT g.T.length dT) (.slice aL g.L.length dL) (.slice aM g.M.length dM) :: ((FT ++ (FL ++ FM)) ++ (D1 ++ (D2 ++ D3)))) ++ (F2 ++ F3))); (case hg => exact rfl); (case ht => exact rfl); (case hk => exact rfl); (case he => exact rfl); (case hown => exact o1); (case hs => exact rfl); (case hx => exact rfl); (case hL => exact rfl); (case hl => exact rfl); (case h1 => exact rfl); (case hz => exact rfl); (case hsz => exact Nat.zero_lt_succ _); (case hk0 => exact Nat.zero_lt_succ _); (case h63 => simp only [maxLen]; omega); (case hb => simp only []; omega); intro v_ F_ hown_; obtain ⟨a_, c_, rfl⟩ := hown_.val)
      have p1 := hown_
      clear hown_
      generalize F_ = F1' at *
      generalize a_ = a1' at *
      generalize c_ = c1' at *
      (repeat (first | (with_reducible apply XL.op) | ((with_reducible apply XOp.p1); (case hg | hv => exact rfl)) | ((with_reducible apply XOp.pr); (case hg => exact rfl); (case hr => ((with_reducible apply PR.build); (case ht | hk | hok | hz | hf => exact rfl)))) | (with_reducible apply XL.nilT) | (with_reducible apply XC.seq) | (with_reducible apply XC.region (Γ := Γ))))
      ((with_reducible apply XOp.buildSlice); (case hg | ht | hk | he | hz | hzl | hf => exact rfl); intro b2)
      (repeat ((with_reducible apply XL.op)))
      (refine (show XOp _ _ _ _ _ _ _ _ ((b2, Obj.cells ⟨zeroL⟩ 67 (0, 0)) :: (((LsB lb vN (.slice aT g.T.length dT) (.slice aL g.L.length dL) (.slice aM g.M.length dM) :: ((FT ++ (FL ++ FM)) ++ (D1 ++ (D2 ++ D3)))) ++ (F2 ++ F3)) ++ F1')) from XOp.perm (L' :=  (b2, Obj.cells ⟨zeroL⟩ 67 (0, 0)) :: (((LsB lb vN (.slice aT g.T.length dT) (.slice aL g.L.length dL) (.slice aM g.M.length dM) :: ((FT ++ (FL ++ FM)) ++ (D1 ++ (D2 ++ D3)))) ++ (F1' ++ F3)) ++ F2)) rfl ?_ (by (first | (with_reducible exact List.Perm.refl _) | refine perm_of_cnt fun p_ => ?_; simp only [List.countP_append, List.countP_cons, List.countP_nil]; omega))))
      ((with_reducible apply XOp.append1R (R := (LsB lb vN (.slice aT g.T.length dT) (.slice aL g.L.length dL) (.slice aM g.M.length dM) :: ((FT ++ (FL ++ FM)) ++ (D1 ++ (D2 ++ D3)))) ++ (F1' ++ F3))); (case hg => exact rfl); (case ht => exact rfl); (case hk => exact rfl); (case he => exact rfl); (case hown => exact o2); (case hs => exact rfl); (case hx => exact rfl); (case hL => exact rfl); (case hl => exact rfl); (case h1 => exact rfl); (case hz => exact rfl); (case hsz => exact Nat.zero_lt_succ _); (case hk0 => exact Nat.zero_lt_succ _); (case h63 => simp only [maxLen]; omega); (case hb => simp only []; omega); intro v_ F_ hown_; obtain ⟨a_, c_, rfl⟩ := hown_.val)
      have p2 := hown_
      clear hown_
      generalize F_ = F2' at *
      generalize a_ = a2' at *
      generalize c_ = c2' at *
      (repeat (first | (with_reducible apply XL.op) | ((with_reducible apply XOp.p1); (case hg | hv => exact rfl)) | ((with_reducible apply XOp.pr); (case hg => exact rfl); (case hr => ((with_reducible apply PR.build); (case ht | hk | hok | hz | hf => exact rfl)))) | (with_reducible apply XL.nilT) | (with_reducible apply XC.region (Γ := Γ))))
      ((with_reducible apply XOp.buildSlice); (case hg | ht | hk | he | hz | hzl | hf => exact rfl); intro b3)
      (repeat ((with_reducible apply XL.op)))
      (refine (show XOp _ _ _ _ _ _ _ _ ((b3, Obj.cells ⟨[.int .i64 7, .int .i64 0, .slice none 0 0]⟩ 26 (0, 0)) :: (((LsB lb vN (.slice aT g.T.length dT) (.slice aL g.L.length dL) (.slice aM g.M.length dM) :: ((FT ++ (FL ++ FM)) ++ (D1 ++ (D2 ++ D3)))) ++ (F1' ++ F3)) ++ F2')) from XOp.perm (L' :=  (b3, Obj.cells ⟨[.int .i64 7, .int .i64 0, .slice none 0 0]⟩ 26 (0, 0)) :: (((LsB lb vN (.slice aT g.T.length dT) (.slice aL g.L.length dL) (.slice aM g.M.length dM) :: ((FT ++ (FL ++ FM)) ++ (D1 ++ (D2 ++ D3)))) ++ (F1' ++ F2')) ++ F3)) rfl ?_ (by (first | (with_reducible exact List.Perm.refl _) | refine perm_of_cnt fun p_ => ?_; simp only [List.countP_append, List.countP_cons, List.countP_nil]; omega))))
      ((with_reducible apply XOp.append1R (R := (LsB lb vN (.slice aT g.T.length dT) (.slice aL g.L.length dL) (.slice aM g.M.length dM) :: ((FT ++ (FL ++ FM)) ++ (D1 ++ (D2 ++ D3)))) ++ (F1' ++ F2'))); (case hg => exact rfl); (case ht => exact rfl); (case hk => exact rfl); (case he => exact rfl); (case hown => exact o3); (case hs => exact rfl); (case hx => exact rfl); (case hL => exact rfl); (case hl => exact rfl); (case h1 => exact rfl); (case hz => exact rfl); (case hsz => exact Nat.zero_lt_succ _); (case hk0 => exact Nat.zero_lt_succ _); (case h63 => simp only [maxLen]; omega); (case hb => simp only []; omega); intro v_ F_ hown_; obtain ⟨a_, c_, rfl⟩ := hown_.val)
      (repeat (first | (with_reducible apply XL.op) | ((with_reducible apply XOp.p1); (case hg | hv => exact rfl)) | (with_reducible apply XL.nilT) | (with_reducible apply XC.region (Γ := Γ)) | (with_reducible apply XL.nilQ) | (with_reducible apply XQ.nt) | (with_reducible apply XQ.nb)))
      exact ⟨k2 - 1, by omega, j + 1, _, _, _, F1', F2', F_, by omega, ⟨_, p1⟩, ⟨_, p2⟩, ⟨_, hown_⟩, by simp only [List.append_assoc], rfl, rfl, rfl, rfl, rfl, intS (m := 16) (by omega) (by omega), trivial⟩
    (repeat (first | (with_reducible apply XL.op) | ((with_reducible apply XOp.p1); (case hg | hv => exact rfl)) | (with_reducible apply XL.nilT) | (with_reducible apply XC.region (Γ := Γ)) | (with_reducible apply XQ.exit) | (with_reducible apply XQ.nt) | (with_reducible apply XQ.nb) | (with_reducible apply XQ.et) | ((with_reducible apply XQ.eb); (case hb => exact rfl))))
    refine ⟨k - 1, by omega, LsB lb vN (.slice aT g.T.length dT) (.slice aL g.L.length dL) (.slice aM g.M.length dM) :: (FT ++ (FL ++ (FM ++ (D1 ++ (D2 ++ D3))))), ?_, i + 1, D1, D2, D3, by omega, h1, h2, h3, rfl, rfl, intS (m := g.T.length) (by omega) (by omega), trivial⟩
    exact ⟨(LsB lb vN (.slice aT g.T.length dT) (.slice aL g.L.length dL) (.slice aM g.M.length dM) :: (FT ++ (FL ++ (FM ++ (D1 ++ (D2 ++ D3)))))) ++ (F1 ++ (F2 ++ F3)), by (first | (with_reducible exact List.Perm.refl _) | refine perm_of_cnt fun p_ => ?_; simp only [List.countP_append, List.countP_cons, List.countP_nil]; omega), List.sublist_append_left _ _⟩
  (repeat (first | (with_reducible apply XQ.exit) | (with_reducible apply XQ.et) | ((with_reducible apply XQ.eb); (case hb => exact rfl))))
  ((with_reducible apply XQ.norE); (case hr => exact .nil))
  exact ⟨[], .of (List.nil_sublist _), rfl⟩
end Go.Proofs.YtppggaiahkecoaaDoorX
/- Copies, each list in memory of its own. -/
namespace Go.Proofs.YtppggaiahkecoaaDoorX
open Go Go.SX

theorem copyNarrow_own (x : LV) : FC Tryd.prog 42 [slv x] [] (fun h => lvAt h x)
    (fun v L => ∃ x' : LV, v = slv x' ∧ x'.1 = x.1 ∧ OwnV x' L) := by
  refine FC.sub2 ?_
  obtain ⟨xs, a, cap⟩ := x
  refine FC.intro Tryd.func42 rfl (by kernel_rfl) 19 [.tmp 2] rfl rfl rfl ?_
  intro w0 hA
  change SlA (Kd.int .i8) 1 _ xs a cap at hA
  have hsm := hA.bytes
  have hok := hA.okAll
  (repeat (first | (with_reducible apply XL.op) | ((with_reducible apply XOp.p1); (case hg | hv => exact rfl)) | (with_reducible apply XL.nilT) | (with_reducible apply XC.seq) | (with_reducible apply XC.region (Γ := Γ)) | (with_reducible apply XC.block)))
  refine XC.loop (fun k ρ L => ∃ (i : Nat) (v : Value) (F : HL), i + k = xs.length ∧ OwnS 39 1 v i ((xs.take i).map (.int .i8)) F ∧ L = F ++ [] ∧ Slots ρ [(0, .slice a xs.length cap), (3, v), (4, .int .i64 i)])
    xs.length ⟨0, _, [], by simp, OwnS.nil _ _, rfl, rfl, rfl, rfl, trivial⟩ ?_
  rintro k ρ L ⟨i, v, F, hik, hown, rfl, hs⟩
  obtain ⟨a', c', rfl⟩ := hown.val
  refine XC.slots _ hs ?_
  (repeat (first | (with_reducible apply XL.op) | ((with_reducible apply XOp.p1); (case hg | hv => exact rfl)) | (with_reducible apply XL.nilT) | (with_reducible apply XC.seq) | (with_reducible apply XC.region (Γ := Γ))))
  ((with_reducible apply XC.cond); (case hc => exact rfl); all_goals (intro hb_; try simp only [pd_true, pd_false, Bool.not_eq_true', Bool.not_eq_false', Bool.and_eq_true, Bool.and_eq_false_iff, Bool.or_eq_true, Bool.or_eq_false_iff, not_true_eq_false, not_false_eq_true, Int.not_lt, Int.not_le] at hb_))
  · obtain ⟨x, hi⟩ : ∃ x, xs[i]? = some x := ⟨_, List.getElem?_eq_getElem (by omega)⟩
    have hc := (hA.int i (by omega)).1
    rw [hi] at hc
    change cellv _ _ = some (.int .i8 x) at hc
    (repeat (first | (with_reducible apply XL.op) | ((with_reducible apply XOp.p1); (case hg | hv => exact rfl)) | ((with_reducible apply XOp.pr); (case hg => exact rfl); (case hr => ((with_reducible apply PR.idxA); (case ht | hk | he | hx | hi => exact rfl); (case hr => first | assumption | omega); (case ha => first | assumption | exact SlA.at_ (by assumption))))) | (with_reducible apply XC.seq) | (with_reducible apply XC.region (Γ := Γ)) | (with_reducible apply XQ.skip) | (with_reducible apply XQ.nt) | (with_reducible apply XC.block) | (first | ((with_reducible apply XOp.load); (case hg | ht | hk | hx => exact rfl); (case hc => exact Known.of_old hc (Mono.cell _ _))) | ((with_reducible apply XP.load); (case ho | hg | ht | hk | hx => exact rfl); (case hc => exact Known.of_old hc (Mono.cell _ _))))))
    ((with_reducible apply XOp.buildSlice); (case hg | ht | hk | he | hz | hzl | hf => exact rfl); intro bb)
    (repeat ((with_reducible apply XL.op)))
    ((with_reducible apply XOp.append1); (case hg => exact rfl); (case ht => exact rfl); (case hk => exact rfl); (case he => exact rfl); (case hown => exact hown); (case hs => exact rfl); (case hx => exact rfl); (case hL => exact rfl); (case hl => exact rfl); (case h1 => exact rfl); (case hz => exact rfl); (case hsz => exact Nat.zero_lt_succ _); (case hk0 => exact Nat.zero_lt_succ _); (case h63 => simp only [maxLen]; omega); (case hb => simp only []; omega); intro v_ F_ hown_; obtain ⟨a_, c_, rfl⟩ := hown_.val)
    (repeat (first | (with_reducible apply XL.op) | ((with_reducible apply XOp.p1); (case hg | hv => exact rfl)) | (with_reducible apply XL.nilT) | (with_reducible apply XC.region (Γ := Γ)) | (with_reducible apply XL.nilQ) | (with_reducible apply XQ.nt) | (with_reducible apply XQ.nb)))
    exact ⟨k - 1, by omega, i + 1, _, F_, by omega, hown_.conv rfl (by rw [take_snocD hi]; simp [zerosL]), rfl, rfl, rfl, intS (m := xs.length) (by omega) (by omega), trivial⟩
  · obtain rfl : i = xs.length := by omega
    rw [List.take_length] at hown
    (repeat (first | (with_reducible apply XL.op) | ((with_reducible apply XOp.p1); (case hg | hv => exact rfl)) | (with_reducible apply XL.nilT) | (with_reducible apply XC.seq) | (with_reducible apply XC.region (Γ := Γ)) | (with_reducible apply XQ.ret) | (with_reducible apply XQ.exit) | (with_reducible apply XQ.nt) | (with_reducible apply XQ.et) | ((with_reducible apply XQ.eb); (case hb => exact rfl))))
    ((with_reducible apply XQ.retE); (case hr => exact .t rfl .nil))
    exact ⟨F, .of (by rw [List.append_nil]; exact List.Sublist.refl _), (xs, a', c'), rfl, rfl, hown, hsm, hok⟩
theorem copyMat_own (m : LM) : FC Tryd.prog 39 [.agg ⟨m.cells⟩] [] (fun h => lmAt h m)
    (fun v L => ∃ m' : LM, v = .agg ⟨m'.cells⟩ ∧ m'.mat = m.mat ∧ OwnV m'.d L) := by
  refine FC.sub2 ?_
  refine FC.intro Tryd.func39 rfl (by kernel_rfl) 11 [.cell 2 26] rfl rfl rfl ?_
  intro w0 hA
  (repeat (first | (with_reducible apply XL.op) | (with_reducible apply XC.seq) | (with_reducible apply XC.region (Γ := Γ))))
  ((with_reducible apply XOp.box); (case hg | hx' => exact rfl); intro mb)
  (repeat ((with_reducible apply XL.op)))
  ((with_reducible apply XOp.alloc); (case hg | ht | hx' => exact rfl); intro rb)
  (repeat (first | (with_reducible apply XL.nilT) | (with_reducible apply XC.seq)))
  ((with_reducible apply XC.regionD (Γ := Γ) mixed (.q 0 (.q 1 (.q 2 (.q 3 (.q 4 (.q 5 (.e 6 (.q 7 (.e 8 (.done)))))))))) [8] [false, true]); (case hc => kernel_rfl))
  (repeat (first | ((with_reducible apply XP.p1); (case ho | hg | hv => exact rfl)) | ((with_reducible apply XP.load); (case ho | hg | ht | hk | hx => exact rfl); (case hc => exact own_cell (i := 0) rfl rfl)) | ((with_reducible apply XP.e); (first | ((with_reducible apply XE.d); (case ho => exact rfl); (case hd => exact rfl)) | ((with_reducible apply XE.e); (case ho => exact rfl))))))
  ((with_reducible apply XOp.callN (hF := copyNarrow_own m.d)); (case hg => exact rfl); (case hc => exact rfl); (case ha => exact rfl); try (case hA => exact Known.true))
  case hA => exact Known.of_old hA (lm_mono _)
  rintro _ F ⟨d', rfl, hd, hF⟩
  refine ⟨fun y hy => List.mem_append_left _ (sel_in hy), ?_⟩
  (repeat (first | ((with_reducible apply XOp.storeN (i := 0)); (case hg | ht | hx | hv' | hk | h1 | hi | hs | ha => exact rfl)) | (with_reducible apply XQ.ret) | (with_reducible apply XQ.nt) | ((with_reducible apply XP.pr); (case ho => exact rfl); (case hg => exact rfl); (case hr => ((with_reducible apply PR.build); (case ht | hk | hok | hz | hf => exact rfl)))) | (with_reducible apply XP.done) | ((with_reducible apply XP.e); (first | ((with_reducible apply XE.d); (case ho => exact rfl); (case hd => exact rfl)) | ((with_reducible apply XE.e); (case ho => exact rfl))))))
  ((with_reducible apply XQ.retE); (case hr => exact .row rfl (by kernel_rfl) (by kernel_rfl) (own_row (i := 0) (m := 3) rfl rfl) .nil))
  exact ⟨F, .of (by ((try simp only [List.append_eq, List.cons_append, List.nil_append, List.append_assoc]); repeat (first | exact List.Sublist.refl _ | exact List.nil_sublist _ | (with_reducible apply List.Sublist.cons_cons) | (with_reducible apply List.Sublist.cons) | exact List.sublist_append_right _ _))), ⟨m.r, m.c, d'⟩, rfl, by simp [LM.mat, hd], hF⟩
theorem copyTurns_own (x : LA (Int × Int)) : FC Tryd.prog 40 [sla x] [] (fun h => SlA turnK 16 h x.1 x.2.1 x.2.2)
    (fun v L => ∃ x' : LA (Int × Int), v = sla x' ∧ x'.1 = x.1 ∧ OwnS 70 2 (sla x') x'.1.length (x'.1.flatMap turnV) L) := by
  refine FC.sub2 ?_
  obtain ⟨xs, a, cap⟩ := x
  refine FC.intro Tryd.func40 rfl (by kernel_rfl) 19 [.tmp 2] rfl rfl rfl ?_
  intro w0 hA
  change SlA turnK 16 _ xs a cap at hA
  have hsm := hA.bytes
  have hat := hA.at_
  (repeat (first | (with_reducible apply XL.op) | ((with_reducible apply XOp.p1); (case hg | hv => exact rfl)) | (with_reducible apply XL.nilT) | (with_reducible apply XC.seq) | (with_reducible apply XC.region (Γ := Γ)) | (with_reducible apply XC.block)))
  refine XC.loop (fun k ρ L => ∃ (i : Nat) (v : Value) (F : HL), i + k = xs.length ∧ OwnS 70 2 v i ((xs.take i).flatMap turnV) F ∧ L = F ++ [] ∧ Slots ρ [(0, .slice a xs.length cap), (3, v), (4, .int .i64 i)])
    xs.length ⟨0, _, [], by simp, OwnS.nil _ _, rfl, rfl, rfl, rfl, trivial⟩ ?_
  rintro k ρ L ⟨i, v, F, hik, hown, rfl, hs⟩
  obtain ⟨a', c', rfl⟩ := hown.val
  refine XC.slots _ hs ?_
  (repeat (first | (with_reducible apply XL.op) | ((with_reducible apply XOp.p1); (case hg | hv => exact rfl)) | (with_reducible apply XL.nilT) | (with_reducible apply XC.seq) | (with_reducible apply XC.region (Γ := Γ))))
  ((with_reducible apply XC.cond); (case hc => exact rfl); all_goals (intro hb_; try simp only [pd_true, pd_false, Bool.not_eq_true', Bool.not_eq_false', Bool.and_eq_true, Bool.and_eq_false_iff, Bool.or_eq_true, Bool.or_eq_false_iff, not_true_eq_false, not_false_eq_true, Int.not_lt, Int.not_le] at hb_))
  · obtain ⟨x, hi⟩ : ∃ x, xs[i]? = some x := ⟨_, List.getElem?_eq_getElem (by omega)⟩
    (repeat (first | (with_reducible apply XL.op) | ((with_reducible apply XOp.p1); (case hg | hv => exact rfl)) | ((with_reducible apply XOp.pr); (case hg => exact rfl); (case hr => ((with_reducible apply PR.idxA); (case ht | hk | he | hx | hi => exact rfl); (case hr => first | assumption | omega); (case ha => first | assumption | exact SlA.at_ (by assumption))))) | (with_reducible apply XC.seq) | (with_reducible apply XC.region (Γ := Γ)) | (with_reducible apply XQ.skip) | (with_reducible apply XQ.nt) | (with_reducible apply XC.block) | (first | ((with_reducible apply XOp.loadN); (case hg | ht | hk | hx => exact rfl); (case hc => exact Known.of_old (hA.rawAt hi) (Mono.row _ _ _)); (case hl => exact rfl)) | ((with_reducible apply XP.loadN); (case ho | hg | ht | hk | hx => exact rfl); (case hc => exact Known.of_old (hA.rawAt hi) (Mono.row _ _ _)); (case hl => exact rfl)))))
    ((with_reducible apply XOp.buildSlice); (case hg | ht | hk | he | hz | hzl | hf => exact rfl); intro bb)
    (repeat ((with_reducible apply XL.op)))
    ((with_reducible apply XOp.append1); (case hg => exact rfl); (case ht => exact rfl); (case hk => exact rfl); (case he => exact rfl); (case hown => exact hown); (case hs => exact rfl); (case hx => exact rfl); (case hL => exact rfl); (case hl => exact rfl); (case h1 => exact rfl); (case hz => exact rfl); (case hsz => exact Nat.zero_lt_succ _); (case hk0 => exact Nat.zero_lt_succ _); (case h63 => simp only [maxLen]; omega); (case hb => simp only []; omega); intro v_ F_ hown_; obtain ⟨a_, c_, rfl⟩ := hown_.val)
    (repeat (first | (with_reducible apply XL.op) | ((with_reducible apply XOp.p1); (case hg | hv => exact rfl)) | (with_reducible apply XL.nilT) | (with_reducible apply XC.region (Γ := Γ)) | (with_reducible apply XL.nilQ) | (with_reducible apply XQ.nt) | (with_reducible apply XQ.nb)))
    exact ⟨k - 1, by omega, i + 1, _, F_, by omega, hown_.conv rfl (by rw [take_snocD hi, List.flatMap_append]; simp [zerosL, turnV]), rfl, rfl, rfl, intS (m := xs.length) (by omega) (by omega), trivial⟩
  · obtain rfl : i = xs.length := by omega
    rw [List.take_length] at hown
    (repeat (first | (with_reducible apply XL.op) | ((with_reducible apply XOp.p1); (case hg | hv => exact rfl)) | (with_reducible apply XL.nilT) | (with_reducible apply XC.seq) | (with_reducible apply XC.region (Γ := Γ)) | (with_reducible apply XQ.ret) | (with_reducible apply XQ.exit) | (with_reducible apply XQ.nt) | (with_reducible apply XQ.et) | ((with_reducible apply XQ.eb); (case hb => exact rfl))))
    ((with_reducible apply XQ.retE); (case hr => exact .t rfl .nil))
    exact ⟨F, .of (by rw [List.append_nil]; exact List.Sublist.refl _), (xs, a', c'), rfl, rfl, hown⟩
set_option maxHeartbeats 16000000 in
theorem copyLayer_own (l : LL) : FC Tryd.prog 41 [.agg ⟨l.cells⟩] [] (fun h => llAt h l)
    (fun v L => ∃ l' : LL, v = .agg ⟨l'.cells⟩ ∧ l'.lay = l.lay ∧ OwnAll l'.nl L) := by
  refine FC.sub2 ?_
  refine FC.intro Tryd.func41 rfl (by kernel_rfl) 42 [.cell 2 67] rfl rfl rfl ?_
  intro w0 hA
  (repeat (first | (with_reducible apply XL.op) | (with_reducible apply XC.seq) | (with_reducible apply XC.region (Γ := Γ))))
  ((with_reducible apply XOp.box); (case hg | hx' => exact rfl); intro yb)
  (repeat ((with_reducible apply XL.op)))
  ((with_reducible apply XOp.alloc); (case hg | ht | hx' => exact rfl); intro rb)
  (repeat (first | (with_reducible apply XL.op) | ((with_reducible apply XOp.loadO (i := 1)); (case hg | ht | hk | hx | hi | hc => exact rfl)) | (with_reducible apply XL.nilT) | (with_reducible apply XC.seq) | (with_reducible apply XC.region (Γ := Γ))))
  ((with_reducible apply XOp.alloc); (case hg | ht | hx' => exact rfl); intro xb)
  (repeat (first | (with_reducible apply XL.op) | ((with_reducible apply XOp.p1); (case hg | hv => exact rfl)) | ((with_reducible apply XOp.load); (case hg | ht | hk | hx => exact rfl); (case hc => exact own_cell (i := 2) rfl rfl)) | ((with_reducible apply XOp.storeN (i := 0)); (case hg | ht | hx | hv' | hk | h1 | hi | hs | ha => exact rfl)) | (with_reducible apply XL.nilT) | (with_reducible apply XC.seq) | (with_reducible apply XC.region (Γ := Γ))))
  ((with_reducible apply XOp.callN (hF := copyNarrow_own l.n1)); (case hg => exact rfl); (case hc => exact rfl); (case ha => exact rfl); try (case hA => exact Known.true))
  case hA => exact Known.of_old hA.n1 (lv_mono _)
  rintro _ F0 ⟨x0, rfl, e0, f0⟩
  (repeat (first | (with_reducible apply XL.op) | ((with_reducible apply XOp.p1); (case hg | hv => exact rfl)) | ((with_reducible apply XOp.load); (case hg | ht | hk | hx => exact rfl); (case hc => exact own_cell (i := 2) rfl rfl)) | ((with_reducible apply XOp.store (i := 0)); (case hg | ht | hk | hx | hv | h1 | hi | hs | ha => exact rfl)) | (with_reducible apply XL.nilT) | (with_reducible apply XC.seq) | (with_reducible apply XC.region (Γ := Γ))))
  ((with_reducible apply XOp.callN (hF := copyNarrow_own l.n2)); (case hg => exact rfl); (case hc => exact rfl); (case ha => exact rfl); try (case hA => exact Known.true))
  case hA => exact Known.of_old hA.n2 (lv_mono _)
  rintro _ F1 ⟨x1, rfl, e1, f1⟩
  (repeat (first | (with_reducible apply XL.op) | ((with_reducible apply XOp.p1); (case hg | hv => exact rfl)) | ((with_reducible apply XOp.loadO (i := 2)); (case hg | ht | hk | hx | hi | hc => exact rfl)) | ((with_reducible apply XOp.store (i := 0)); (case hg | ht | hk | hx | hv | h1 | hi | hs | ha => exact rfl)) | (with_reducible apply XL.nilT) | (with_reducible apply XC.seq) | (with_reducible apply XC.region (Γ := Γ))))
  ((with_reducible apply XOp.callN (hF := copyMat_own l.q)); (case hg => exact rfl); (case hc => exact rfl); (case ha => exact rfl); try (case hA => exact Known.true))
  case hA => exact Known.of_old hA.q (lm_mono _)
  rintro _ F2 ⟨x2, rfl, e2, f2⟩
  (repeat (first | (with_reducible apply XL.op) | ((with_reducible apply XOp.p1); (case hg | hv => exact rfl)) | ((with_reducible apply XOp.loadO (i := 2)); (case hg | ht | hk | hx | hi | hc => exact rfl)) | ((with_reducible apply XOp.storeN (i := 0)); (case hg | ht | hx | hv' | hk | h1 | hi | hs | ha => exact rfl)) | (with_reducible apply XL.nilT) | (with_reducible apply XC.seq) | (with_reducible apply XC.region (Γ := Γ))))
  ((with_reducible apply XOp.callN (hF := copyMat_own l.k)); (case hg => exact rfl); (case hc => exact rfl); (case ha => exact rfl); try (case hA => exact Known.true))
  case hA => exact Known.of_old hA.k (lm_mono _)
  rintro _ F3 ⟨x3, rfl, e3, f3⟩
  (repeat (first | (with_reducible apply XL.op) | ((with_reducible apply XOp.p1); (case hg | hv => exact rfl)) | ((with_reducible apply XOp.loadO (i := 2)); (case hg | ht | hk | hx | hi | hc => exact rfl)) | ((with_reducible apply XOp.storeN (i := 0)); (case hg | ht | hx | hv' | hk | h1 | hi | hs | ha => exact rfl)) | (with_reducible apply XL.nilT) | (with_reducible apply XC.seq) | (with_reducible apply XC.region (Γ := Γ))))
  ((with_reducible apply XOp.callN (hF := copyMat_own l.v)); (case hg => exact rfl); (case hc => exact rfl); (case ha => exact rfl); try (case hA => exact Known.true))
  case hA => exact Known.of_old hA.v (lm_mono _)
  rintro _ F4 ⟨x4, rfl, e4, f4⟩
  (repeat (first | (with_reducible apply XL.op) | ((with_reducible apply XOp.p1); (case hg | hv => exact rfl)) | ((with_reducible apply XOp.loadO (i := 2)); (case hg | ht | hk | hx | hi | hc => exact rfl)) | ((with_reducible apply XOp.storeN (i := 0)); (case hg | ht | hx | hv' | hk | h1 | hi | hs | ha => exact rfl)) | (with_reducible apply XL.nilT) | (with_reducible apply XC.seq) | (with_reducible apply XC.region (Γ := Γ))))
  ((with_reducible apply XOp.callN (hF := copyMat_own l.o)); (case hg => exact rfl); (case hc => exact rfl); (case ha => exact rfl); try (case hA => exact Known.true))
  case hA => exact Known.of_old hA.o (lm_mono _)
  rintro _ F5 ⟨x5, rfl, e5, f5⟩
  (repeat (first | (with_reducible apply XL.op) | ((with_reducible apply XOp.p1); (case hg | hv => exact rfl)) | ((with_reducible apply XOp.loadO (i := 2)); (case hg | ht | hk | hx | hi | hc => exact rfl)) | ((with_reducible apply XOp.storeN (i := 0)); (case hg | ht | hx | hv' | hk | h1 | hi | hs | ha => exact rfl)) | (with_reducible apply XL.nilT) | (with_reducible apply XC.seq) | (with_reducible apply XC.region (Γ := Γ))))
  ((with_reducible apply XOp.callN (hF := copyMat_own l.g)); (case hg => exact rfl); (case hc => exact rfl); (case ha => exact rfl); try (case hA => exact Known.true))
  case hA => exact Known.of_old hA.g (lm_mono _)
  rintro _ F6 ⟨x6, rfl, e6, f6⟩
  (repeat (first | (with_reducible apply XL.op) | ((with_reducible apply XOp.p1); (case hg | hv => exact rfl)) | ((with_reducible apply XOp.loadO (i := 2)); (case hg | ht | hk | hx | hi | hc => exact rfl)) | ((with_reducible apply XOp.storeN (i := 0)); (case hg | ht | hx | hv' | hk | h1 | hi | hs | ha => exact rfl)) | (with_reducible apply XL.nilT) | (with_reducible apply XC.seq) | (with_reducible apply XC.region (Γ := Γ))))
  ((with_reducible apply XOp.callN (hF := copyMat_own l.u)); (case hg => exact rfl); (case hc => exact rfl); (case ha => exact rfl); try (case hA => exact Known.true))
  case hA => exact Known.of_old hA.u (lm_mono _)
  rintro _ F7 ⟨x7, rfl, e7, f7⟩
  (repeat (first | (with_reducible apply XL.op) | ((with_reducible apply XOp.p1); (case hg | hv => exact rfl)) | ((with_reducible apply XOp.loadO (i := 2)); (case hg | ht | hk | hx | hi | hc => exact rfl)) | ((with_reducible apply XOp.storeN (i := 0)); (case hg | ht | hx | hv' | hk | h1 | hi | hs | ha => exact rfl)) | (with_reducible apply XL.nilT) | (with_reducible apply XC.seq) | (with_reducible apply XC.region (Γ := Γ))))
  ((with_reducible apply XOp.callN (hF := copyMat_own l.d)); (case hg => exact rfl); (case hc => exact rfl); (case ha => exact rfl); try (case hA => exact Known.true))
  case hA => exact Known.of_old hA.d (lm_mono _)
  rintro _ F8 ⟨x8, rfl, e8, f8⟩
  (repeat (first | (with_reducible apply XL.op) | ((with_reducible apply XOp.p1); (case hg | hv => exact rfl)) | ((with_reducible apply XOp.loadO (i := 0)); (case hg | ht | hk | hx | hi | hc => exact rfl)) | ((with_reducible apply XOp.storeN (i := 0)); (case hg | ht | hx | hv' | hk | h1 | hi | hs | ha => exact rfl)) | ((with_reducible apply XOp.storeN (i := 1)); (case hg | ht | hx | hv' | hk | h1 | hi | hs | ha => exact rfl)) | (with_reducible apply XL.nilT) | (with_reducible apply XC.seq) | (with_reducible apply XC.region (Γ := Γ)) | (with_reducible apply XQ.ret)))
  ((with_reducible apply XQ.retE); (case hr => exact .row rfl (by kernel_rfl) (by kernel_rfl) (own_row (i := 1) (m := 30) rfl rfl) .nil))
  refine ⟨F0 ++ (F1 ++ (F2 ++ (F3 ++ (F4 ++ (F5 ++ (F6 ++ (F7 ++ F8))))))), .of (by ((try simp only [List.append_eq, List.cons_append, List.nil_append, List.append_assoc]); repeat (first | exact List.Sublist.refl _ | exact List.nil_sublist _ | (with_reducible apply List.Sublist.cons_cons) | (with_reducible apply List.Sublist.cons) | exact List.sublist_append_right _ _))), ⟨x0, x1, x2, x3, x4, x5, x6, x7, x8, l.b0, l.b1, l.b2, l.b3, l.b4, l.b5, l.b6⟩, rfl, ?_, OwnAll.cons f0 (.cons f1 (.cons f2 (.cons f3 (.cons f4 (.cons f5 (.cons f6 (.cons f7 (OwnV.all f8))))))))⟩
  exact (lay_eq _ _).2 ⟨e0, e1, e2, e3, e4, e5, e6, e7, e8, rfl⟩
end Go.Proofs.YtppggaiahkecoaaDoorX
/- A copy of weights: each list in memory of its own. -/
namespace Go.Proofs.YtppggaiahkecoaaDoorX
open Go Go.SX

def cpC (x : LW) (e : LM) (t : LA (Int × Int)) (l : Value) (f : LV) (h : LM) (m : Value) : List Value := [.int .i64 x.C.Vocab, .int .i64 x.C.Width, .int .i64 x.C.Heads, .int .i64 x.C.KV, .int .i64 x.C.Layers, .int .i64 x.C.Hidden, .int .i64 x.C.Len, .int .i64 x.C.Medusa,
  .int .i64 e.r, .int .i64 e.c, slv e.d, sla t, l, slv f, .int .i64 h.r, .int .i64 h.c, slv h.d, m]
set_option maxHeartbeats 16000000 in
set_option maxRecDepth 10000 in
theorem copyWeights_own (x : LW) : FC Tryd.prog 14 [.agg ⟨x.cells⟩] [] (fun h => lwAt h x)
    (fun v L => ∃ x' : LW, v = .agg ⟨x'.cells⟩ ∧ x'.w = x.w ∧ OwnW x' L) := by
  refine FC.sub2 ?_
  refine FC.intro Tryd.func14 rfl (by kernel_rfl) 66 [.cell 2 31] rfl rfl rfl ?_
  intro w0 hA
  have hL := hA.l.locRaw
  have hLa := hL.at_
  have hLb := hL.bytes
  have hM := hA.m.locRaw
  have hMa := hM.at_
  have hMb := hM.bytes
  (repeat (first | (with_reducible apply XL.op) | (with_reducible apply XC.seq) | (with_reducible apply XC.region (Γ := Γ))))
  ((with_reducible apply XOp.box); (case hg | hx' => exact rfl); intro wb)
  (repeat ((with_reducible apply XL.op)))
  ((with_reducible apply XOp.alloc); (case hg | ht | hx' => exact rfl); intro rb)
  (repeat (first | (with_reducible apply XL.op) | ((with_reducible apply XOp.loadO (i := 1)); (case hg | ht | hk | hx | hi | hc => exact rfl)) | (with_reducible apply XL.nilT) | (with_reducible apply XC.seq) | (with_reducible apply XC.region (Γ := Γ))))
  ((with_reducible apply XOp.alloc); (case hg | ht | hx' => exact rfl); intro xb)
  (repeat (first | (with_reducible apply XL.op) | ((with_reducible apply XOp.p1); (case hg | hv => exact rfl)) | ((with_reducible apply XOp.loadO (i := 2)); (case hg | ht | hk | hx | hi | hc => exact rfl)) | ((with_reducible apply XOp.storeN (i := 0)); (case hg | ht | hx | hv' | hk | h1 | hi | hs | ha => exact rfl)) | (with_reducible apply XL.nilT) | (with_reducible apply XC.seq) | (with_reducible apply XC.region (Γ := Γ))))
  ((with_reducible apply XOp.callN (hF := copyMat_own x.E)); (case hg => exact rfl); (case hc => exact rfl); (case ha => exact rfl); try (case hA => exact Known.true))
  case hA => exact Known.of_old hA.e (lm_mono _)
  rintro _ F1 ⟨e', rfl, he, hF1⟩
  (repeat (first | (with_reducible apply XL.op) | ((with_reducible apply XOp.p1); (case hg | hv => exact rfl)) | ((with_reducible apply XOp.load); (case hg | ht | hk | hx => exact rfl); (case hc => exact own_cell (i := 2) rfl rfl)) | ((with_reducible apply XOp.storeN (i := 0)); (case hg | ht | hx | hv' | hk | h1 | hi | hs | ha => exact rfl)) | (with_reducible apply XL.nilT) | (with_reducible apply XC.seq) | (with_reducible apply XC.region (Γ := Γ))))
  ((with_reducible apply XOp.callN (hF := copyTurns_own x.T)); (case hg => exact rfl); (case hc => exact rfl); (case ha => exact rfl); try (case hA => exact Known.true))
  case hA => exact Known.of_old hA.t (Mono.sl _ _ _ _ _)
  rintro _ F2 ⟨t', rfl, ht, hF2⟩
  (repeat (first | (with_reducible apply XL.op) | ((with_reducible apply XOp.p1); (case hg | hv => exact rfl)) | ((with_reducible apply XOp.store (i := 0)); (case hg | ht | hk | hx | hv | h1 | hi | hs | ha => exact rfl)) | (with_reducible apply XL.nilT) | (with_reducible apply XC.seq) | (with_reducible apply XC.region (Γ := Γ)) | (with_reducible apply XC.block)))
  refine XC.loopP (fun k ρ L => ∃ (i : Nat) (v : Value) (A : List LL) (G Fv : HL), i + k = x.Ls.1.length ∧ OwnS 67 30 v i (A.flatMap LL.cells) Fv ∧ A.map LL.lay = (x.Ls.1.take i).map LL.lay ∧ OwnAll (A.flatMap LL.nl) G ∧ L = ([(xb, Obj.cells ⟨cpC x e' t' v x.F x.H (sla x.M)⟩ 31 (0, 0)), (rb, Obj.cells ⟨zeroW⟩ 31 (0, 0)), (wb, Obj.cells ⟨x.cells⟩ 31 (0, 0))] ++ (F1 ++ (F2 ++ G))) ++ Fv ∧ Slots ρ [(1, .pointer (some ⟨wb, 0, none⟩)), (2, .pointer (some ⟨rb, 0, none⟩)), (3, .pointer (some ⟨xb, 0, none⟩)), (4, .int .i64 i)])
    x.Ls.1.length ⟨0, _, [], [], [], by simp, OwnS.nil _ _, by simp, OwnAll.nil, by simp only [List.append_nil]; rfl, rfl, rfl, rfl, rfl, trivial⟩ ?_
  rintro k ρ L ⟨i, v, A, G, Fv, hik, hown, hAl, hG, rfl, hs⟩
  obtain ⟨a', c', rfl⟩ := hown.val
  refine XC.slots _ hs ?_
  (repeat (first | (with_reducible apply XL.op) | ((with_reducible apply XOp.p1); (case hg | hv => exact rfl)) | ((with_reducible apply XOp.load); (case hg | ht | hk | hx => exact rfl); (case hc => exact own_cell (i := 2) rfl rfl)) | (with_reducible apply XL.nilT) | (with_reducible apply XC.seq) | (with_reducible apply XC.region (Γ := Γ))))
  ((with_reducible apply XC.cond); (case hc => exact rfl); all_goals (intro hb_; try simp only [pd_true, pd_false, Bool.not_eq_true', Bool.not_eq_false', Bool.and_eq_true, Bool.and_eq_false_iff, Bool.or_eq_true, Bool.or_eq_false_iff, not_true_eq_false, not_false_eq_true, Int.not_lt, Int.not_le] at hb_))
  · obtain ⟨l, hi⟩ : ∃ l, x.Ls.1[i]? = some l := ⟨_, List.getElem?_eq_getElem (by omega)⟩
    have hl := hA.l.locAt (List.mem_of_getElem? hi)
    (repeat (first | (with_reducible apply XL.op) | ((with_reducible apply XOp.p1); (case hg | hv => exact rfl)) | ((with_reducible apply XOp.load); (case hg | ht | hk | hx => exact rfl); (case hc => exact own_cell (i := 2) rfl rfl)) | ((with_reducible apply XOp.pr); (case hg => exact rfl); (case hr => ((with_reducible apply PR.idxA); (case ht | hk | he | hx | hi => exact rfl); (case hr => first | assumption | omega); (case ha => first | assumption | exact SlA.at_ (by assumption))))) | (with_reducible apply XC.seq) | (with_reducible apply XC.region (Γ := Γ)) | (with_reducible apply XQ.skip) | (with_reducible apply XQ.nt) | (with_reducible apply XC.block) | (first | ((with_reducible apply XOp.loadN); (case hg | ht | hk | hx => exact rfl); (case hc => exact Known.of_old (hL.rawAt hi) (Mono.row _ _ _)); (case hl => exact rfl)) | ((with_reducible apply XP.loadN); (case ho | hg | ht | hk | hx => exact rfl); (case hc => exact Known.of_old (hL.rawAt hi) (Mono.row _ _ _)); (case hl => exact rfl)))))
    ((with_reducible apply XOp.callN (hF := copyLayer_own l)); (case hg => exact rfl); (case hc => exact rfl); (case ha => exact rfl); try (case hA => exact Known.true))
    case hA => exact Known.of_old hl (ll_mono _)
    rintro _ G' ⟨l', rfl, hlay, hG'⟩
    (repeat ((with_reducible apply XL.op)))
    ((with_reducible apply XOp.alloc); (case hg | ht | hx' => exact rfl); intro lb)
    (repeat (first | (with_reducible apply XL.op) | ((with_reducible apply XOp.p1); (case hg | hv => exact rfl)) | ((with_reducible apply XOp.load); (case hg | ht | hk | hx => exact rfl); (case hc => exact own_cell (i := 1) rfl rfl)) | ((with_reducible apply XOp.loadO (i := 0)); (case hg | ht | hk | hx | hi | hc => exact rfl)) | ((with_reducible apply XOp.storeN (i := 0)); (case hg | ht | hx | hv' | hk | h1 | hi | hs | ha => exact rfl)) | (with_reducible apply XL.nilT) | (with_reducible apply XC.region (Γ := Γ))))
    ((with_reducible apply XOp.buildSlice); (case hg | ht | hk | he | hz | hzl | hf => exact rfl); intro bb)
    (repeat ((with_reducible apply XL.op)))
    (refine (show XOp _ _ _ _ _ _ _ _ ((bb, Obj.cells ⟨l'.cells⟩ 67 (0, 0)) :: (lb, Obj.cells ⟨l'.cells⟩ 67 (0, 0)) :: (([(xb, Obj.cells ⟨cpC x e' t' (.slice a' i c') x.F x.H (sla x.M)⟩ 31 (0, 0)), (rb, Obj.cells ⟨zeroW⟩ 31 (0, 0)), (wb, Obj.cells ⟨x.cells⟩ 31 (0, 0))] ++ (F1 ++ (F2 ++ G))) ++ Fv) ++ G') from XOp.perm (L' :=  (bb, Obj.cells ⟨l'.cells⟩ 67 (0, 0)) :: (((lb, Obj.cells ⟨l'.cells⟩ 67 (0, 0)) :: [(xb, Obj.cells ⟨cpC x e' t' (.slice a' i c') x.F x.H (sla x.M)⟩ 31 (0, 0)), (rb, Obj.cells ⟨zeroW⟩ 31 (0, 0)), (wb, Obj.cells ⟨x.cells⟩ 31 (0, 0))] ++ (F1 ++ (F2 ++ (G ++ G')))) ++ Fv)) rfl ?_ (by (first | (with_reducible exact List.Perm.refl _) | refine perm_of_cnt fun p_ => ?_; simp only [List.countP_append, List.countP_cons, List.countP_nil]; omega))))
    ((with_reducible apply XOp.append1R (R := (lb, Obj.cells ⟨l'.cells⟩ 67 (0, 0)) :: [(xb, Obj.cells ⟨cpC x e' t' (.slice a' i c') x.F x.H (sla x.M)⟩ 31 (0, 0)), (rb, Obj.cells ⟨zeroW⟩ 31 (0, 0)), (wb, Obj.cells ⟨x.cells⟩ 31 (0, 0))] ++ (F1 ++ (F2 ++ (G ++ G'))))); (case hg => exact rfl); (case ht => exact rfl); (case hk => exact rfl); (case he => exact rfl); (case hown => exact hown); (case hs => exact rfl); (case hx => exact rfl); (case hL => exact rfl); (case hl => exact rfl); (case h1 => exact rfl); (case hz => exact rfl); (case hsz => exact Nat.zero_lt_succ _); (case hk0 => exact Nat.zero_lt_succ _); (case h63 => simp only [maxLen]; omega); (case hb => simp only []; omega); intro v_ F_ hown_; obtain ⟨a_, c_, rfl⟩ := hown_.val)
    (repeat (first | (with_reducible apply XL.op) | ((with_reducible apply XOp.p1); (case hg | hv => exact rfl)) | ((with_reducible apply XOp.store (i := 1)); (case hg | ht | hk | hx | hv | h1 | hi | hs | ha => exact rfl)) | (with_reducible apply XL.nilT) | (with_reducible apply XC.region (Γ := Γ)) | (with_reducible apply XL.nilQ) | (with_reducible apply XQ.nt) | (with_reducible apply XQ.nb)))
    refine ⟨k - 1, by omega, _, .of (List.sublist_cons_self _ _), i + 1, _, A ++ [l'], G ++ G', F_, by omega, hown_.conv rfl (by simp), ?_, ?_, rfl, rfl, rfl, rfl, intS (m := x.Ls.1.length) (by omega) (by omega), trivial⟩
    · rw [List.map_append, hAl, take_snocD hi, List.map_append, List.map_singleton, List.map_singleton, hlay]
    · rw [List.flatMap_append]; exact hG.app (by simpa using hG')
  obtain rfl : i = x.Ls.1.length := by omega
  rw [List.take_length] at hAl
  have hAn : A.length = x.Ls.1.length := by have := congrArg List.length hAl; simpa using this
  clear hs hik
  (repeat (first | (with_reducible apply XL.op) | ((with_reducible apply XOp.p1); (case hg | hv => exact rfl)) | ((with_reducible apply XOp.load); (case hg | ht | hk | hx => exact rfl); (case hc => exact own_cell (i := 2) rfl rfl)) | (with_reducible apply XC.seq) | (with_reducible apply XC.region (Γ := Γ)) | (with_reducible apply XQ.exit) | (with_reducible apply XQ.nt) | (with_reducible apply XQ.et) | ((with_reducible apply XQ.eb); (case hb => exact rfl))))
  ((with_reducible apply XOp.callN (hF := copyNarrow_own x.F)); (case hg => exact rfl); (case hc => exact rfl); (case ha => exact rfl); try (case hA => exact Known.true))
  case hA => exact Known.of_old hA.f (lv_mono _)
  rintro _ F3 ⟨f', rfl, hf, hF3⟩
  (repeat (first | (with_reducible apply XL.op) | ((with_reducible apply XOp.p1); (case hg | hv => exact rfl)) | ((with_reducible apply XOp.loadO (i := 2)); (case hg | ht | hk | hx | hi | hc => exact rfl)) | ((with_reducible apply XOp.store (i := 0)); (case hg | ht | hk | hx | hv | h1 | hi | hs | ha => exact rfl)) | (with_reducible apply XL.nilT) | (with_reducible apply XC.seq) | (with_reducible apply XC.region (Γ := Γ))))
  ((with_reducible apply XOp.callN (hF := copyMat_own x.H)); (case hg => exact rfl); (case hc => exact rfl); (case ha => exact rfl); try (case hA => exact Known.true))
  case hA => exact Known.of_old hA.hd (lm_mono _)
  rintro _ F4 ⟨h', rfl, hh', hF4⟩
  (repeat (first | (with_reducible apply XL.op) | ((with_reducible apply XOp.p1); (case hg | hv => exact rfl)) | ((with_reducible apply XOp.store (i := 0)); (case hg | ht | hk | hx | hv | h1 | hi | hs | ha => exact rfl)) | ((with_reducible apply XOp.storeN (i := 0)); (case hg | ht | hx | hv' | hk | h1 | hi | hs | ha => exact rfl)) | (with_reducible apply XL.nilT) | (with_reducible apply XC.seq) | (with_reducible apply XC.region (Γ := Γ)) | (with_reducible apply XC.block)))
  refine XC.perm (L' := [(xb, Obj.cells ⟨cpC x e' t' (.slice a' x.Ls.1.length c') f' h' (.slice none 0 0)⟩ 31 (0, 0)), (rb, Obj.cells ⟨zeroW⟩ 31 (0, 0)), (wb, Obj.cells ⟨x.cells⟩ 31 (0, 0))] ++ (F1 ++ (F2 ++ (G ++ (Fv ++ (F3 ++ F4)))))) ?_ (show List.Perm (((([(xb, Obj.cells ⟨cpC x e' t' (.slice a' x.Ls.1.length c') f' h' (.slice none 0 0)⟩ 31 (0, 0)), (rb, Obj.cells ⟨zeroW⟩ 31 (0, 0)), (wb, Obj.cells ⟨x.cells⟩ 31 (0, 0))] ++ (F1 ++ (F2 ++ G))) ++ Fv) ++ F3) ++ F4) _ by (first | (with_reducible exact List.Perm.refl _) | refine perm_of_cnt fun p_ => ?_; simp only [List.countP_append, List.countP_cons, List.countP_nil]; omega))
  refine XC.loopP (fun k ρ L => ∃ (i : Nat) (v : Value) (D : List LM) (J Fm : HL), i + k = x.M.1.length ∧ OwnS 26 3 v i (D.flatMap LM.cells) Fm ∧ D.map LM.mat = (x.M.1.take i).map LM.mat ∧ OwnAll (D.map (·.d)) J ∧ L = ([(xb, Obj.cells ⟨cpC x e' t' (.slice a' x.Ls.1.length c') f' h' v⟩ 31 (0, 0)), (rb, Obj.cells ⟨zeroW⟩ 31 (0, 0)), (wb, Obj.cells ⟨x.cells⟩ 31 (0, 0))] ++ ((F1 ++ (F2 ++ (G ++ (Fv ++ (F3 ++ F4))))) ++ J)) ++ Fm ∧ Slots ρ [(1, .pointer (some ⟨wb, 0, none⟩)), (2, .pointer (some ⟨rb, 0, none⟩)), (3, .pointer (some ⟨xb, 0, none⟩)), (6, .int .i64 i)])
    x.M.1.length ⟨0, _, [], [], [], by simp, OwnS.nil _ _, by simp, OwnAll.nil, by simp only [List.append_nil], rfl, rfl, rfl, rfl, trivial⟩ ?_
  rintro k ρ L ⟨i, v, D, J, Fm, hik, hownM, hDl, hJ, rfl, hs⟩
  obtain ⟨am, cm, rfl⟩ := hownM.val
  refine XC.slots _ hs ?_
  (repeat (first | (with_reducible apply XL.op) | ((with_reducible apply XOp.p1); (case hg | hv => exact rfl)) | ((with_reducible apply XOp.load); (case hg | ht | hk | hx => exact rfl); (case hc => exact own_cell (i := 2) rfl rfl)) | (with_reducible apply XL.nilT) | (with_reducible apply XC.seq) | (with_reducible apply XC.region (Γ := Γ))))
  ((with_reducible apply XC.cond); (case hc => exact rfl); all_goals (intro hb_; try simp only [pd_true, pd_false, Bool.not_eq_true', Bool.not_eq_false', Bool.and_eq_true, Bool.and_eq_false_iff, Bool.or_eq_true, Bool.or_eq_false_iff, not_true_eq_false, not_false_eq_true, Int.not_lt, Int.not_le] at hb_))
  · obtain ⟨l, hi⟩ : ∃ l, x.M.1[i]? = some l := ⟨_, List.getElem?_eq_getElem (by omega)⟩
    have hl := hA.m.locAt (List.mem_of_getElem? hi)
    (repeat (first | (with_reducible apply XL.op) | ((with_reducible apply XOp.p1); (case hg | hv => exact rfl)) | ((with_reducible apply XOp.load); (case hg | ht | hk | hx => exact rfl); (case hc => exact own_cell (i := 2) rfl rfl)) | ((with_reducible apply XOp.pr); (case hg => exact rfl); (case hr => ((with_reducible apply PR.idxA); (case ht | hk | he | hx | hi => exact rfl); (case hr => first | assumption | omega); (case ha => first | assumption | exact SlA.at_ (by assumption))))) | (with_reducible apply XC.seq) | (with_reducible apply XC.region (Γ := Γ)) | (with_reducible apply XQ.skip) | (with_reducible apply XQ.nt) | (with_reducible apply XC.block) | (first | ((with_reducible apply XOp.loadN); (case hg | ht | hk | hx => exact rfl); (case hc => exact Known.of_old (hM.rawAt hi) (Mono.row _ _ _)); (case hl => exact rfl)) | ((with_reducible apply XP.loadN); (case ho | hg | ht | hk | hx => exact rfl); (case hc => exact Known.of_old (hM.rawAt hi) (Mono.row _ _ _)); (case hl => exact rfl)))))
    ((with_reducible apply XOp.callN (hF := copyMat_own l)); (case hg => exact rfl); (case hc => exact rfl); (case ha => exact rfl); try (case hA => exact Known.true))
    case hA => exact Known.of_old hl (lm_mono _)
    rintro _ J' ⟨m', rfl, hmat, hJ'⟩
    (repeat ((with_reducible apply XL.op)))
    ((with_reducible apply XOp.alloc); (case hg | ht | hx' => exact rfl); intro lb)
    (repeat (first | (with_reducible apply XL.op) | ((with_reducible apply XOp.p1); (case hg | hv => exact rfl)) | ((with_reducible apply XOp.load); (case hg | ht | hk | hx => exact rfl); (case hc => exact own_cell (i := 1) rfl rfl)) | ((with_reducible apply XOp.loadO (i := 0)); (case hg | ht | hk | hx | hi | hc => exact rfl)) | ((with_reducible apply XOp.storeN (i := 0)); (case hg | ht | hx | hv' | hk | h1 | hi | hs | ha => exact rfl)) | (with_reducible apply XL.nilT) | (with_reducible apply XC.region (Γ := Γ))))
    ((with_reducible apply XOp.buildSlice); (case hg | ht | hk | he | hz | hzl | hf => exact rfl); intro bb)
    (repeat ((with_reducible apply XL.op)))
    (refine (show XOp _ _ _ _ _ _ _ _ ((bb, Obj.cells ⟨m'.cells⟩ 26 (0, 0)) :: (lb, Obj.cells ⟨m'.cells⟩ 26 (0, 0)) :: (([(xb, Obj.cells ⟨cpC x e' t' (.slice a' x.Ls.1.length c') f' h' (.slice am i cm)⟩ 31 (0, 0)), (rb, Obj.cells ⟨zeroW⟩ 31 (0, 0)), (wb, Obj.cells ⟨x.cells⟩ 31 (0, 0))] ++ ((F1 ++ (F2 ++ (G ++ (Fv ++ (F3 ++ F4))))) ++ J)) ++ Fm) ++ J') from XOp.perm (L' :=  (bb, Obj.cells ⟨m'.cells⟩ 26 (0, 0)) :: (((lb, Obj.cells ⟨m'.cells⟩ 26 (0, 0)) :: [(xb, Obj.cells ⟨cpC x e' t' (.slice a' x.Ls.1.length c') f' h' (.slice am i cm)⟩ 31 (0, 0)), (rb, Obj.cells ⟨zeroW⟩ 31 (0, 0)), (wb, Obj.cells ⟨x.cells⟩ 31 (0, 0))] ++ ((F1 ++ (F2 ++ (G ++ (Fv ++ (F3 ++ F4))))) ++ (J ++ J'))) ++ Fm)) rfl ?_ (by (first | (with_reducible exact List.Perm.refl _) | refine perm_of_cnt fun p_ => ?_; simp only [List.countP_append, List.countP_cons, List.countP_nil]; omega))))
    ((with_reducible apply XOp.append1R (R := (lb, Obj.cells ⟨m'.cells⟩ 26 (0, 0)) :: [(xb, Obj.cells ⟨cpC x e' t' (.slice a' x.Ls.1.length c') f' h' (.slice am i cm)⟩ 31 (0, 0)), (rb, Obj.cells ⟨zeroW⟩ 31 (0, 0)), (wb, Obj.cells ⟨x.cells⟩ 31 (0, 0))] ++ ((F1 ++ (F2 ++ (G ++ (Fv ++ (F3 ++ F4))))) ++ (J ++ J')))); (case hg => exact rfl); (case ht => exact rfl); (case hk => exact rfl); (case he => exact rfl); (case hown => exact hownM); (case hs => exact rfl); (case hx => exact rfl); (case hL => exact rfl); (case hl => exact rfl); (case h1 => exact rfl); (case hz => exact rfl); (case hsz => exact Nat.zero_lt_succ _); (case hk0 => exact Nat.zero_lt_succ _); (case h63 => simp only [maxLen]; omega); (case hb => simp only []; omega); intro v_ F_ hown_; obtain ⟨a_, c_, rfl⟩ := hown_.val)
    (repeat (first | (with_reducible apply XL.op) | ((with_reducible apply XOp.p1); (case hg | hv => exact rfl)) | ((with_reducible apply XOp.store (i := 1)); (case hg | ht | hk | hx | hv | h1 | hi | hs | ha => exact rfl)) | (with_reducible apply XL.nilT) | (with_reducible apply XC.region (Γ := Γ)) | (with_reducible apply XL.nilQ) | (with_reducible apply XQ.nt) | (with_reducible apply XQ.nb)))
    refine ⟨k - 1, by omega, _, .of (List.sublist_cons_self _ _), i + 1, _, D ++ [m'], J ++ J', F_, by omega, hown_.conv rfl (by simp), ?_, ?_, rfl, rfl, rfl, rfl, intS (m := x.M.1.length) (by omega) (by omega), trivial⟩
    · rw [List.map_append, hDl, take_snocD hi, List.map_append, List.map_singleton, List.map_singleton, hmat]
    · rw [List.map_append]; exact hJ.app hJ'.all
  obtain rfl : i = x.M.1.length := by omega
  rw [List.take_length] at hDl
  have hDn : D.length = x.M.1.length := by have := congrArg List.length hDl; simpa using this
  clear hs hik
  (repeat (first | (with_reducible apply XL.op) | ((with_reducible apply XOp.loadO (i := 0)); (case hg | ht | hk | hx | hi | hc => exact rfl)) | ((with_reducible apply XOp.storeN (i := 1)); (case hg | ht | hx | hv' | hk | h1 | hi | hs | ha => exact rfl)) | (with_reducible apply XL.nilT) | (with_reducible apply XC.seq) | (with_reducible apply XC.region (Γ := Γ)) | (with_reducible apply XQ.ret) | (with_reducible apply XQ.exit) | (with_reducible apply XQ.nt) | (with_reducible apply XQ.et) | ((with_reducible apply XQ.eb); (case hb => exact rfl))))
  ((with_reducible apply XQ.retE); (case hr => exact .row rfl (by kernel_rfl) (by kernel_rfl) (own_row (i := 1) (m := 18) rfl rfl) .nil))
  refine ⟨((F1 ++ (F2 ++ (G ++ (Fv ++ (F3 ++ F4))))) ++ J) ++ Fm, .of (by ((try simp only [List.append_eq, List.cons_append, List.nil_append, List.append_assoc]); repeat (first | exact List.Sublist.refl _ | exact List.nil_sublist _ | (with_reducible apply List.Sublist.cons_cons) | (with_reducible apply List.Sublist.cons) | exact List.sublist_append_right _ _))), ⟨x.C, e', t', (A, a', c'), f', h', (D, am, cm)⟩, ?_, ?_, ?_⟩
  · simp only [LW.cells, sla, hAn, hDn]; rfl
  · exact (w_eq _ _).2 ⟨rfl, he, ht, hAl, hf, hh', hDl⟩
  · refine ⟨by rw [ht]; exact hA.t.bytes, by rw [hAn]; exact hLb, by rw [hDn]; exact hMb, F1 ++ (F3 ++ (F4 ++ (G ++ J))), F2, Fv, Fm, OwnAll.cons hF1 (.cons hF3 (.cons hF4 (hG.app hJ))), hF2, (by show OwnS _ 30 (.slice a' A.length c') A.length _ Fv; rw [hAn]; exact hown), (by show OwnS _ 3 (.slice am D.length cm) D.length _ Fm; rw [hDn]; exact hownM), by (first | (with_reducible exact List.Perm.refl _) | refine perm_of_cnt fun p_ => ?_; simp only [List.countP_append, List.countP_cons, List.countP_nil]; omega)⟩
end Go.Proofs.YtppggaiahkecoaaDoorX
/- Weights in memory of their own. -/
namespace Go.Proofs.YtppggaiahkecoaaDoorX
open Go Go.SX
theorem copyWeights_fn (x : LW) : FC Tryd.prog 14 [.agg ⟨x.cells⟩] [] (fun h => lwAt h x)
    (fun v L => ∃ x' : LW, v = .agg ⟨x'.cells⟩ ∧ x'.w = x.w ∧ Held L (fun h => lwAt h x')) :=
  (copyWeights_own x).mono fun _ _ ⟨x', h1, h2, h3⟩ => ⟨x', h1, h2, h3.held⟩
end Go.Proofs.YtppggaiahkecoaaDoorX
/- Bytes: copied, held against others. -/
namespace Go.Proofs.YtppggaiahkecoaaDoorX
open Go Go.SX

theorem copyBytes_fn (xs : List Int) (a : Option Addr) (cap : Nat) : FC Tryd.prog 25 [.slice a xs.length cap] [] (fun h => SlA (Kd.int .u8) 1 h xs a cap)
    (fun v L => OwnS 5 1 v xs.length (xs.map (.int .u8)) L) := by
  refine FC.intro Tryd.func25 rfl (by kernel_rfl) 19 [.tmp 2] rfl rfl rfl ?_
  intro w0 hA
  have hsm := hA.bytes
  (repeat (first | (with_reducible apply XL.op) | ((with_reducible apply XOp.p1); (case hg | hv => exact rfl)) | (with_reducible apply XL.nilT) | (with_reducible apply XC.seq) | (with_reducible apply XC.region (Γ := Γ)) | (with_reducible apply XC.block)))
  refine XC.loop (fun k ρ L => ∃ (i : Nat) (v : Value) (F : HL), i + k = xs.length ∧ L = F ++ [] ∧ OwnS 5 1 v i ((xs.take i).map (.int .u8)) F ∧ Slots ρ [(0, .slice a xs.length cap), (3, v), (4, .int .i64 i)])
    xs.length ⟨0, _, [], by simp, rfl, OwnS.nil _ _, rfl, rfl, rfl, trivial⟩ ?_
  rintro k ρ L ⟨i, v, F, hik, rfl, hown, hs⟩
  obtain ⟨a', c', rfl⟩ := hown.val
  refine XC.slots _ hs ?_
  (repeat' (first | (with_reducible apply XL.op) | ((with_reducible apply XOp.p1); (case hg | hv => exact rfl)) | ((with_reducible apply XOp.pr); (case hg => exact rfl); (case hr => ((with_reducible apply PR.idxA); (case ht | hk | he | hx | hi => exact rfl); (case hr => first | assumption | omega); (case ha => first | assumption | exact SlA.at_ (by assumption))))) | ((with_reducible apply XOp.buildSlice); (case hg | ht | hk | he | hz | hzl | hf => exact rfl); intro bs_) | (with_reducible apply XL.nilT) | (with_reducible apply XC.seq) | (with_reducible apply XC.region (Γ := Γ)) | (with_reducible apply XL.nilQ) | (with_reducible apply XQ.skip) | (with_reducible apply XQ.ret) | (with_reducible apply XQ.exit) | (with_reducible apply XQ.nt) | (with_reducible apply XQ.nb) | (with_reducible apply XQ.et) | (with_reducible apply XC.block) | ((with_reducible apply XQ.eb); (case hb => exact rfl)) | (first | ((with_reducible apply XOp.load); (case hg | ht | hk | hx => exact rfl); (case hc => exact Known.of_old (hA.int i (by omega)).1 (Mono.cell _ _))) | ((with_reducible apply XP.load); (case ho | hg | ht | hk | hx => exact rfl); (case hc => exact Known.of_old (hA.int i (by omega)).1 (Mono.cell _ _)))) | ((with_reducible apply XOp.append1); (case hg => exact rfl); (case ht => exact rfl); (case hk => exact rfl); (case he => exact rfl); (case hown => exact hown); (case hs => exact rfl); (case hx => exact rfl); (case hL => exact rfl); (case hl => exact rfl); (case h1 => exact rfl); (case hz => exact rfl); (case hsz => exact Nat.zero_lt_succ _); (case hk0 => exact Nat.zero_lt_succ _); (case h63 => simp only [maxLen]; omega); (case hb => simp only []; omega); intro v_ F_ hown_; obtain ⟨a_, c_, rfl⟩ := hown_.val) | ((with_reducible apply XC.cond); (case hc => exact rfl); all_goals (intro hb_; try simp only [pd_true, pd_false, Bool.not_eq_true', Bool.not_eq_false', Bool.and_eq_true, Bool.and_eq_false_iff, Bool.or_eq_true, Bool.or_eq_false_iff, not_true_eq_false, not_false_eq_true, Int.not_lt, Int.not_le] at hb_))))
  · exact ⟨k - 1, by omega, i + 1, _, F_, by omega, rfl, by rw [take_map_snoc _ _ _ 0 (by omega)]; exact hown_, rfl, rfl, intS (m := xs.length) (by omega) (by omega), trivial⟩
  · ((with_reducible apply XQ.retE); (case hr => exact .t rfl .nil))
    obtain rfl : i = xs.length := by omega
    rw [List.append_nil]
    rw [List.take_length] at hown; exact hown

theorem eqBytes_fn (xs ys : List Int) (a b : Option Addr) (ca cb : Nat) : FC Tryd.prog 12 [.slice a xs.length ca, .slice b ys.length cb] []
    (fun h => SlA (Kd.int .u8) 1 h xs a ca ∧ SlA (Kd.int .u8) 1 h ys b cb) (fun v L => v = .bool (pd (xs = ys)) ∧ L = []) := by
  refine FC.intro Tryd.func12 rfl (by kernel_rfl) 26 [.tmp 4] rfl rfl rfl ?_
  rintro w0 ⟨hA, hB⟩
  have hsm := hA.bytes
  (repeat (first | (with_reducible apply XL.op) | ((with_reducible apply XOp.p1); (case hg | hv => exact rfl)) | (with_reducible apply XL.nilT) | (with_reducible apply XC.seq) | (with_reducible apply XC.region (Γ := Γ))))
  ((with_reducible apply XC.cond); (case hc => exact rfl); all_goals (intro hb_; try simp only [pd_true, pd_false, Bool.not_eq_true', Bool.not_eq_false', Bool.and_eq_true, Bool.and_eq_false_iff, Bool.or_eq_true, Bool.or_eq_false_iff, not_true_eq_false, not_false_eq_true, Int.not_lt, Int.not_le] at hb_))
  · (repeat (first | (with_reducible apply XL.op) | ((with_reducible apply XOp.p1); (case hg | hv => exact rfl)) | (with_reducible apply XL.nilT) | (with_reducible apply XC.seq) | (with_reducible apply XC.region (Γ := Γ)) | (with_reducible apply XQ.ret) | (with_reducible apply XQ.rt)))
    ((with_reducible apply XQ.retE); (case hr => exact .t rfl .nil))
    refine ⟨?_, rfl⟩
    rw [pdf (fun h => hb_ (by rw [h]))]; rfl
  (repeat (first | (with_reducible apply XL.op) | ((with_reducible apply XOp.p1); (case hg | hv => exact rfl)) | (with_reducible apply XL.nilT) | (with_reducible apply XC.seq) | (with_reducible apply XC.region (Γ := Γ)) | (with_reducible apply XQ.skip) | (with_reducible apply XQ.nt) | (with_reducible apply XC.block)))
  refine XC.loop (fun k ρ L => ∃ (i : Nat), i + k = xs.length ∧ L = [] ∧ (∀ j, j < i → xs[j]? = ys[j]?) ∧ Slots ρ [(0, .slice a xs.length ca), (1, .slice b ys.length cb), (5, .int .i64 i)])
    xs.length ⟨0, by simp, rfl, by simp, rfl, rfl, rfl, trivial⟩ ?_
  rintro k ρ L ⟨i, hik, rfl, hq, hs⟩
  refine XC.slots _ hs ?_
  (repeat' (first | (with_reducible apply XL.op) | ((with_reducible apply XOp.p1); (case hg | hv => exact rfl)) | (with_reducible apply XL.nilT) | (with_reducible apply XC.seq) | (with_reducible apply XC.region (Γ := Γ)) | (with_reducible apply XQ.skip) | (with_reducible apply XQ.ret) | (with_reducible apply XQ.exit) | (with_reducible apply XQ.nt) | (with_reducible apply XQ.nb) | (with_reducible apply XQ.rt) | (with_reducible apply XQ.rb) | (with_reducible apply XQ.et) | (with_reducible apply XC.block) | ((with_reducible apply XP.p1); (case ho | hg | hv => exact rfl)) | ((with_reducible apply XP.pr); (case ho => exact rfl); (case hg => exact rfl); (case hr => ((with_reducible apply PR.idxA); (case ht | hk | he | hx | hi => exact rfl); (case hr => first | assumption | omega); (case ha => first | assumption | exact SlA.at_ (by assumption))))) | (with_reducible apply XP.done) | ((with_reducible apply XQ.eb); (case hb => exact rfl)) | ((with_reducible apply XC.regionD (Γ := Γ) mixed (.q 0 (.q 1 (.q 2 (.q 3 (.q 4 (.q 5 (.q 6 (.q 7 (.q 8 (.done)))))))))) [] []); (case hc => kernel_rfl)) | (first | ((with_reducible apply XOp.load); (case hg | ht | hk | hx => exact rfl); (case hc => exact Known.of_old (hA.int i (by omega)).1 (Mono.cell _ _))) | ((with_reducible apply XP.load); (case ho | hg | ht | hk | hx => exact rfl); (case hc => exact Known.of_old (hA.int i (by omega)).1 (Mono.cell _ _)))) | (first | ((with_reducible apply XOp.load); (case hg | ht | hk | hx => exact rfl); (case hc => exact Known.of_old (hB.int i (by omega)).1 (Mono.cell _ _))) | ((with_reducible apply XP.load); (case ho | hg | ht | hk | hx => exact rfl); (case hc => exact Known.of_old (hB.int i (by omega)).1 (Mono.cell _ _)))) | ((with_reducible apply XC.cond); (case hc => exact rfl); all_goals (intro hb_; try simp only [pd_true, pd_false, Bool.not_eq_true', Bool.not_eq_false', Bool.and_eq_true, Bool.and_eq_false_iff, Bool.or_eq_true, Bool.or_eq_false_iff, not_true_eq_false, not_false_eq_true, Int.not_lt, Int.not_le] at hb_))))
  · ((with_reducible apply XQ.retE); (case hr => exact .t rfl .nil))
    refine ⟨?_, rfl⟩
    rw [pdf (fun h => hb_ (by rw [h]))]; rfl
  · refine ⟨k - 1, by omega, i + 1, by omega, rfl, fun j hj => ?_, rfl, rfl, intS (m := xs.length) (by omega) (by omega), trivial⟩
    by_cases h : j = i
    · subst h; rw [List.getElem?_eq_getElem (by omega), List.getElem?_eq_getElem (by omega)] at hb_ ⊢; simpa using hb_
    · exact hq j (by omega)
  · ((with_reducible apply XQ.retE); (case hr => exact .t rfl .nil))
    refine ⟨?_, rfl⟩
    rw [pdt (List.ext_getElem? fun j => ?_)]; rfl
    by_cases h : j < i
    · exact hq j h
    · rw [List.getElem?_eq_none (by omega), List.getElem?_eq_none (by omega)]
end Go.Proofs.YtppggaiahkecoaaDoorX
/- ModelEncodes: the bytes of any weights, or the error; the weights stay. -/
namespace Go.Proofs.YtppggaiahkecoaaDoorX
open Go Go.SX

theorem isB_file (D : List Int → Int) (w : Wts) : isB (fileOf D w) := by
  unfold fileOf fileB wtsB Mat.bytes
  refine isB_app (isB_app isB_begin (isB_app (isB_sec (by omega) (isB_map _)) (isB_app (isB_sec (by omega) (isB_map _)) (isB_app (isB_sec (by omega) (isB_turns _)) (isB_app (isB_flat fun l _ => isB_sec (by omega) (isB_lay _)) (isB_app (isB_sec (by omega) (isB_map _)) (isB_app (isB_sec (by omega) (isB_map _)) (isB_flat fun m _ => isB_sec (by omega) (isB_map _))))))))) (isB_sec (by omega) (numB_isB _ _))
theorem isB_enc (w : Wts) : isB (encS w) := by
  unfold encS; split
  · exact isB_file _ _
  · intro y hy; simp at hy
theorem EncR.get {w : Wts} {v : Value} {L : HL} (h : EncR w v L) : ∃ a c, v = .tuple #[.slice a (encS w).length c, .int .i64 (errW w)] ∧ Held L (fun h => SlA (Kd.int .u8) 1 h (encS w) a c) := by
  obtain ⟨u, m, rfl, hown, hm⟩ := h
  have hl : (encS w).length ≤ 1000000000 := by have := hown.1; rw [List.length_map] at this; omega
  obtain ⟨a, c, rfl, _, s⟩ := own_body hown (isB_enc w) hl
  exact ⟨a, c, rfl, Held.frag s (Mono.sl _ _ _ _ _)⟩
theorem eqBytesT_fn (xs : List Int) (a b : Option Addr) (ca cb : Nat) : FC Tryd.prog 12 [.slice a xs.length ca, .slice b xs.length cb] []
    (fun h => SlA (Kd.int .u8) 1 h xs a ca ∧ SlA (Kd.int .u8) 1 h xs b cb) (fun v L => v = .bool true ∧ L = []) := (eqBytes_fn xs xs a b ca cb).mono fun v L h => ⟨by rw [h.1, pdt rfl], h.2⟩
end Go.Proofs.YtppggaiahkecoaaDoorX
/- Reading weights; what the program's table of sides holds. -/
namespace Go.Proofs.YtppggaiahkecoaaDoorX
open Go Go.SX

theorem len7 {α : Type} {l : List α} (h : l.length = 7) : ∃ a0 a1 a2 a3 a4 a5 a6, l = [a0, a1, a2, a3, a4, a5, a6] := by
  match l, h with
  | [a0, a1, a2, a3, a4, a5, a6], _ => exact ⟨a0, a1, a2, a3, a4, a5, a6, rfl⟩
theorem len14 {α : Type} {l : List α} (h : l.length = 14) : ∃ a0 a1 a2 a3 a4 a5 a6 a7 a8 a9 a10 a11 a12 a13, l = [a0, a1, a2, a3, a4, a5, a6, a7, a8, a9, a10, a11, a12, a13] := by
  match l, h with
  | [a0, a1, a2, a3, a4, a5, a6, a7, a8, a9, a10, a11, a12, a13], _ => exact ⟨a0, a1, a2, a3, a4, a5, a6, a7, a8, a9, a10, a11, a12, a13, rfl⟩
theorem len18 {α : Type} {l : List α} (h : l.length = 18) : ∃ a0 a1 a2 a3 a4 a5 a6 a7 a8 a9 a10 a11 a12 a13 a14 a15 a16 a17, l = [a0, a1, a2, a3, a4, a5, a6, a7, a8, a9, a10, a11, a12, a13, a14, a15, a16, a17] := by
  match l, h with
  | [a0, a1, a2, a3, a4, a5, a6, a7, a8, a9, a10, a11, a12, a13, a14, a15, a16, a17], _ => exact ⟨a0, a1, a2, a3, a4, a5, a6, a7, a8, a9, a10, a11, a12, a13, a14, a15, a16, a17, rfl⟩
theorem len30 {α : Type} {l : List α} (h : l.length = 30) : ∃ a0 a1 a2 a3 a4 a5 a6 a7 a8 a9 a10 a11 a12 a13 a14 a15 a16 a17 a18 a19 a20 a21 a22 a23 a24 a25 a26 a27 a28 a29, l = [a0, a1, a2, a3, a4, a5, a6, a7, a8, a9, a10, a11, a12, a13, a14, a15, a16, a17, a18, a19, a20, a21, a22, a23, a24, a25, a26, a27, a28, a29] := by
  match l, h with
  | [a0, a1, a2, a3, a4, a5, a6, a7, a8, a9, a10, a11, a12, a13, a14, a15, a16, a17, a18, a19, a20, a21, a22, a23, a24, a25, a26, a27, a28, a29], _ => exact ⟨a0, a1, a2, a3, a4, a5, a6, a7, a8, a9, a10, a11, a12, a13, a14, a15, a16, a17, a18, a19, a20, a21, a22, a23, a24, a25, a26, a27, a28, a29, rfl⟩
theorem gSides : Tryd.prog.globalNamed "augur/model.sides" = some 0 := by kernel_rfl
theorem tSides : (Tryd.prog.globals[0]?).map (·.type) = some 117 := by kernel_rfl
theorem pair_of {W : World} {f : Nat} {cs : List Value} {d : DataW Unit} {p : List MemPlace} {a b : Int} (h : DataW.trod (fun _ => ()) Tryd.prog W 0 (fun _ => true) false f 116 cs = some (d, p))
    (hd : d = .agg [.lit (.int .i64 a), .lit (.int .i64 b)]) : cs = [.int .i64 a, .int .i64 b] := by
  obtain ⟨y0, y1, n, hx, hl, h0, h1⟩ := Go.ChangeShapes.trod_struct2 Tryd.underlying116 h
  obtain ⟨n0, e0, r0, _⟩ := DataW.trod_int Tryd.underlying3 h0
  obtain ⟨n1, e1, r1, _⟩ := DataW.trod_int Tryd.underlying3 h1
  subst hd
  simp only [Prod.mk.injEq, DataW.agg.injEq, List.cons.injEq, and_true] at hx
  rw [r0, r1] at hx
  simp only [DataW.lit.injEq, Lit.int.injEq, true_and] at hx
  obtain ⟨⟨rfl, rfl⟩, _⟩ := hx
  have hl2 : cs.length = 2 := hl.trans (by kernel_rfl)
  obtain ⟨c0, c1, rfl⟩ := len2 hl2
  have k1 : Tryd.prog.cellsOf 3 = 1 := by kernel_rfl
  simp only [k1] at e0 e1
  simp at e0 e1
  rw [e0, e1]
theorem sides_of {W : World} (h : laidMetH Tryd.prog [("augur/model.sides", Go.Proofs.YtppggaiahkecoaaDoor.Rows.laid_augur_model_sides)] W) : sidesK (hv W) := by
  rw [MakeChecks.laidMetH_plain _ _ _ (by kernel_rfl)] at h
  obtain ⟨ps, ⟨g0, t0, cs0, f0, p0, q0, hg0, ht0, hv0, hd0, _, _⟩, _, _⟩ := h
  obtain rfl := Option.some.inj (gSides.symm.trans hg0)
  obtain rfl := Option.some.inj (tSides.symm.trans ht0)
  obtain ⟨xs, m, rfl, hx, hl, hn, hf⟩ := DataW.trod_array Tryd.underlying117 hd0
  have hl14 : cs0.toList.length = 14 := hl.trans (by kernel_rfl)
  have k2 : Tryd.prog.cellsOf 116 = 2 := by kernel_rfl
  simp only [Go.Proofs.YtppggaiahkecoaaDoor.Rows.laid_augur_model_sides, Prod.mk.injEq, DataW.agg.injEq] at hx
  obtain ⟨hx, _⟩ := hx
  obtain ⟨x0, x1, x2, x3, x4, x5, x6, rfl⟩ := len7 hn
  simp only [List.map_cons, List.map_nil, List.cons.injEq, and_true] at hx
  obtain ⟨d0, d1, d2, d3, d4, d5, d6⟩ := hx
  have g0 := pair_of (f := m) (d := x0.1) (p := x0.2) (hf 0 (by omega)) d0.symm
  have g1 := pair_of (f := m) (d := x1.1) (p := x1.2) (hf 1 (by omega)) d1.symm
  have g2 := pair_of (f := m) (d := x2.1) (p := x2.2) (hf 2 (by omega)) d2.symm
  have g3 := pair_of (f := m) (d := x3.1) (p := x3.2) (hf 3 (by omega)) d3.symm
  have g4 := pair_of (f := m) (d := x4.1) (p := x4.2) (hf 4 (by omega)) d4.symm
  have g5 := pair_of (f := m) (d := x5.1) (p := x5.2) (hf 5 (by omega)) d5.symm
  have g6 := pair_of (f := m) (d := x6.1) (p := x6.2) (hf 6 (by omega)) d6.symm
  obtain ⟨c0, c1, c2, c3, c4, c5, c6, c7, c8, c9, c10, c11, c12, c13, hcs⟩ := len14 hl14
  rw [hcs] at g0 g1 g2 g3 g4 g5 g6
  simp [k2] at g0 g1 g2 g3 g4 g5 g6
  have hall : cs0.toList = sidesL := by
    rw [hcs]; simp only [sidesL, g0.1, g0.2, g1.1, g1.2, g2.1, g2.2, g3.1, g3.2, g4.1, g4.2, g5.1, g5.2, g6.1, g6.2]
  intro i v hi
  have := World.var?_cell gSides hv0 i
  rw [cellv_hv, Nat.zero_add, this, ← Array.getElem?_toList, hall]
  exact hi

abbrev lvK : Kd LV := Kd.loc (fun x => [slv x]) 1 (fun _ => rfl) lvAt lv_mono
section
variable {H : Type} (enc : TypeId × Value → H) (W : World)
theorem rdrLV : Rdr enc Tryd.prog W 24 lvK := fun fuel cs x h hw => by
  obtain ⟨xs, v, rfl, a, cap, rfl, hs, _⟩ := rdr_slice Tryd.underlying24 (sz := 1) (by_ := 1) (by kernel_rfl) (by kernel_rfl) rfl (by omega) (rdr_int Tryd.underlying39) fuel cs x h hw
  exact ⟨(xs, a, cap), rfl, hs⟩
theorem rdrTurn : Rdr enc Tryd.prog W 70 turnK := fun fuel cs x h hw => by
  have hl := (rdr_struct_len Tryd.underlying70 h).trans (by kernel_rfl : Tryd.prog.cellsOf 70 = 2)
  have k1 : Tryd.prog.cellsOf 2 = 1 := by kernel_rfl
  obtain ⟨a0, e0⟩ := rdr_field Tryd.underlying70 h hw (i := 0) rfl (rdr_int Tryd.underlying2) rfl k1
  obtain ⟨a1, e1⟩ := rdr_field Tryd.underlying70 h hw (i := 1) rfl (rdr_int Tryd.underlying2) rfl k1
  obtain ⟨c0, c1, rfl⟩ := len2 hl
  simp [Kd.int] at e0 e1
  exact ⟨(a0, a1), by show _ = _; rw [e0.1, e1.1]; rfl⟩
theorem rdrMat : Rdr enc Tryd.prog W 26 lmK := fun fuel cs x h hw => by
  have hl := (rdr_struct_len Tryd.underlying26 h).trans (by kernel_rfl : Tryd.prog.cellsOf 26 = 3)
  have k1 : Tryd.prog.cellsOf 3 = 1 := by kernel_rfl
  have k2 : Tryd.prog.cellsOf 24 = 1 := by kernel_rfl
  obtain ⟨a0, e0⟩ := rdr_field Tryd.underlying26 h hw (i := 0) rfl (rdr_int Tryd.underlying3) rfl k1
  obtain ⟨a1, e1⟩ := rdr_field Tryd.underlying26 h hw (i := 1) rfl (rdr_int Tryd.underlying3) rfl k1
  obtain ⟨a2, e2, s2⟩ := rdr_field Tryd.underlying26 h hw (i := 2) rfl (rdrLV enc W) rfl k2
  obtain ⟨c0, c1, c2, rfl⟩ := len3 hl
  simp [Kd.int] at e0 e1 e2
  exact ⟨⟨a0, a1, a2⟩, by simp [LM.cells, e0.1, e1.1, e2], s2⟩
theorem rdrBy : Rdr enc Tryd.prog W 65 (Kd.raw (fun l : Int × Int × Int × Int × Int × Int × Int => [.int .i64 l.1, .int .i64 l.2.1, .int .i64 l.2.2.1, .int .i64 l.2.2.2.1, .int .i64 l.2.2.2.2.1, .int .i64 l.2.2.2.2.2.1, .int .i64 l.2.2.2.2.2.2]) 7 (fun _ => rfl)) := fun fuel cs x h hw => by
  obtain ⟨xs, m, rfl, _, hl, hn, hf⟩ := DataW.trod_array Tryd.underlying65 h
  have hl7 := hl.trans (by kernel_rfl : Tryd.prog.cellsOf 65 = 7)
  have k1 : Tryd.prog.cellsOf 3 = 1 := by kernel_rfl
  have hi : ∀ i < 7, ∃ n, (cs.drop (i * 1)).take 1 = [.int .i64 n] := fun i hi => by
    have hh := hf i hi
    rw [k1] at hh
    obtain ⟨y, hy⟩ : ∃ y, xs[i]? = some y := ⟨_, List.getElem?_eq_getElem (by omega)⟩
    obtain ⟨n, hn, _⟩ := DataW.trod_int Tryd.underlying3 (hh.trans hy)
    exact ⟨n, hn⟩
  obtain ⟨n0, h0⟩ := hi 0 (by omega); obtain ⟨n1, h1⟩ := hi 1 (by omega); obtain ⟨n2, h2⟩ := hi 2 (by omega); obtain ⟨n3, h3⟩ := hi 3 (by omega)
  obtain ⟨n4, h4⟩ := hi 4 (by omega); obtain ⟨n5, h5⟩ := hi 5 (by omega); obtain ⟨n6, h6⟩ := hi 6 (by omega)
  obtain ⟨c0, c1, c2, c3, c4, c5, c6, rfl⟩ := len7 hl7
  simp at h0 h1 h2 h3 h4 h5 h6
  exact ⟨(n0, n1, n2, n3, n4, n5, n6), by show _ = _; rw [h0, h1, h2, h3, h4, h5, h6]⟩
theorem rdrLayer : Rdr enc Tryd.prog W 67 llK := fun fuel cs x h hw => by
  have hl := (rdr_struct_len Tryd.underlying67 h).trans (by kernel_rfl : Tryd.prog.cellsOf 67 = 30)
  have k1 : Tryd.prog.cellsOf 24 = 1 := by kernel_rfl
  have k3 : Tryd.prog.cellsOf 26 = 3 := by kernel_rfl
  have k7 : Tryd.prog.cellsOf 65 = 7 := by kernel_rfl
  obtain ⟨x0, e0, s0⟩ := rdr_field Tryd.underlying67 h hw (i := 0) rfl (rdrLV enc W) rfl k1
  obtain ⟨x1, e1, s1⟩ := rdr_field Tryd.underlying67 h hw (i := 1) rfl (rdrLV enc W) rfl k1
  obtain ⟨x2, e2, s2⟩ := rdr_field Tryd.underlying67 h hw (i := 2) rfl (rdrMat enc W) rfl k3
  obtain ⟨x3, e3, s3⟩ := rdr_field Tryd.underlying67 h hw (i := 3) rfl (rdrMat enc W) rfl k3
  obtain ⟨x4, e4, s4⟩ := rdr_field Tryd.underlying67 h hw (i := 4) rfl (rdrMat enc W) rfl k3
  obtain ⟨x5, e5, s5⟩ := rdr_field Tryd.underlying67 h hw (i := 5) rfl (rdrMat enc W) rfl k3
  obtain ⟨x6, e6, s6⟩ := rdr_field Tryd.underlying67 h hw (i := 6) rfl (rdrMat enc W) rfl k3
  obtain ⟨x7, e7, s7⟩ := rdr_field Tryd.underlying67 h hw (i := 7) rfl (rdrMat enc W) rfl k3
  obtain ⟨x8, e8, s8⟩ := rdr_field Tryd.underlying67 h hw (i := 8) rfl (rdrMat enc W) rfl k3
  obtain ⟨b, eb⟩ := rdr_field Tryd.underlying67 h hw (i := 9) rfl (rdrBy enc W) rfl k7
  change _ = [_, _, _, _, _, _, _] at eb
  obtain ⟨c0, c1, c2, c3, c4, c5, c6, c7, c8, c9, c10, c11, c12, c13, c14, c15, c16, c17, c18, c19, c20, c21, c22, c23, c24, c25, c26, c27, c28, c29, rfl⟩ := len30 hl
  simp [LM.cells] at e0 e1 e2 e3 e4 e5 e6 e7 e8 eb
  refine ⟨⟨x0, x1, x2, x3, x4, x5, x6, x7, x8, b.1, b.2.1, b.2.2.1, b.2.2.2.1, b.2.2.2.2.1, b.2.2.2.2.2.1, b.2.2.2.2.2.2⟩, ?_, ⟨s0, s1, s2, s3, s4, s5, s6, s7, s8⟩⟩
  simp [LL.cells, e0, e1, e2, e3, e4, e5, e6, e7, e8, eb]
abbrev wtsK : Kd LW := Kd.loc LW.cells 18 (fun _ => rfl) lwAt lw_mono
theorem rdrWts : Rdr enc Tryd.prog W 31 wtsK := fun fuel cs x h hw => by
  have hl := (rdr_struct_len Tryd.underlying31 h).trans (by kernel_rfl : Tryd.prog.cellsOf 31 = 18)
  have k1 : Tryd.prog.cellsOf 24 = 1 := by kernel_rfl
  have kt : Tryd.prog.cellsOf 27 = 1 := by kernel_rfl
  have kl : Tryd.prog.cellsOf 28 = 1 := by kernel_rfl
  have km : Tryd.prog.cellsOf 29 = 1 := by kernel_rfl
  have k3 : Tryd.prog.cellsOf 26 = 3 := by kernel_rfl
  have k8 : Tryd.prog.cellsOf 23 = 8 := by kernel_rfl
  obtain ⟨c, ec, _⟩ := rdr_field Tryd.underlying31 h hw (i := 0) rfl (rdrCfg enc W) rfl k8
  obtain ⟨e, ee, se⟩ := rdr_field Tryd.underlying31 h hw (i := 1) rfl (rdrMat enc W) rfl k3
  obtain ⟨t, v2, e2, ta, tc, r2, s2, _⟩ := rdr_field Tryd.underlying31 h hw (i := 2) rfl (rdr_slice Tryd.underlying27 (sz := 2) (by_ := 16) (by kernel_rfl) (by kernel_rfl) rfl (by omega) (rdrTurn enc W)) rfl kt
  obtain ⟨l, v3, e3, la, lc, r3, s3, _⟩ := rdr_field Tryd.underlying31 h hw (i := 3) rfl (rdr_slice Tryd.underlying28 (sz := 30) (by_ := 384) (by kernel_rfl) (by kernel_rfl) rfl (by omega) (rdrLayer enc W)) rfl kl
  obtain ⟨f, ef, sf⟩ := rdr_field Tryd.underlying31 h hw (i := 4) rfl (rdrLV enc W) rfl k1
  obtain ⟨hd, eh, sh⟩ := rdr_field Tryd.underlying31 h hw (i := 5) rfl (rdrMat enc W) rfl k3
  obtain ⟨m, v6, e6, ma, mc, r6, s6, _⟩ := rdr_field Tryd.underlying31 h hw (i := 6) rfl (rdr_slice Tryd.underlying29 (sz := 3) (by_ := 40) (by kernel_rfl) (by kernel_rfl) rfl (by omega) (rdrMat enc W)) rfl km
  obtain ⟨c0, c1, c2, c3, c4, c5, c6, c7, c8, c9, c10, c11, c12, c13, c14, c15, c16, c17, rfl⟩ := len18 hl
  simp [LM.cells, Cfg.cells] at ec ee e2 e3 ef eh e6
  refine ⟨⟨c, e, (t, ta, tc), (l, la, lc), f, hd, (m, ma, mc)⟩, ?_, ⟨se, s2, s3, sf, sh, s6⟩⟩
  simp [LW.cells, ec, ee, e2, e3, ef, eh, e6, r2, r3, r6]
end
end Go.Proofs.YtppggaiahkecoaaDoorX
/- The reader: the next bytes; numbers; heads of sections. -/
namespace Go.Proofs.YtppggaiahkecoaaDoorX
open Go Go.SX

abbrev byAt (h : HV) (l : List Int) (a : Option Addr) (c : Nat) : Prop := SlA (Kd.int .u8) 1 h l a c
/-- The reader's block. -/
abbrev RdB (rb : Nat) (a : Option Addr) (c : Nat) (r : RS) : Nat × Obj := (rb, .cells ⟨[.slice a r.rest.length c, .bool r.bad]⟩ 98 (0, 0))
/-- The reader has gone on from r (at a, c) to p, and left F behind. -/
structure Went (r p : RS) (a : Option Addr) (c : Nat) (a' : Option Addr) (c' : Nat) : Prop where
  at_ : ∀ h, byAt h r.rest a c → byAt h p.rest a' c'
theorem Went.refl (r : RS) (a : Option Addr) (c : Nat) : Went r r a c a c := ⟨fun _ h => h⟩
theorem Went.trans {r p q : RS} {a a' a'' : Option Addr} {c c' c'' : Nat} (x : Went r p a c a' c') (y : Went p q a' c' a'' c'') : Went r q a c a'' c'' := ⟨fun h hh => y.at_ h (x.at_ h hh)⟩
theorem Went.bad {r : RS} {b : Bool} {a : Option Addr} {c : Nat} : Went r ⟨r.rest, b⟩ a c a c := ⟨fun _ h => h⟩
set_option maxHeartbeats 4000000 in
theorem take_fn (rb : Nat) (a : Option Addr) (c : Nat) (r : RS) (n : Nat) (hn : n ≤ 1000000000) : FC Tryd.prog 51 [.pointer (some ⟨rb, 0, none⟩), .int .i64 n] [RdB rb a c r] (fun h => byAt h r.rest a c)
    (fun v L => ∃ a' c' ao F, v = .slice ao n n ∧ L = RdB rb a' c' (takeS r n).2 :: F ∧ (∀ h, byAt h r.rest a c → (∀ x ∈ F, h x.1 = some x.2) → byAt h (takeS r n).1 ao n) ∧ Went r (takeS r n).2 a c a' c' ∧ (0 < n → ao = some ⟨ablk ao, aoff ao, none⟩)) := by
  refine FC.sub2 ?_
  refine FC.intro Tryd.func51 rfl (by kernel_rfl) 41 [.tmp 4] rfl rfl rfl ?_
  intro w0 hA
  have hsm := hA.bytes
  have hle := hA.le
  have hbad : ∀ nb, (r.bad = true ∨ r.rest.length < n) → ∃ a' c' ao F, Value.slice (some ⟨nb, 0, none⟩) n n = .slice ao n n ∧ [(nb, Obj.cells ⟨zerosL [.int .u8 0] n⟩ 5 (0, 0)), (rb, Obj.cells ⟨[.slice a r.rest.length c, .bool true]⟩ 98 (0, 0))].Perm (RdB rb a' c' (takeS r n).2 :: F) ∧ (∀ h, byAt h r.rest a c → (∀ x ∈ F, h x.1 = some x.2) → byAt h (takeS r n).1 ao n) ∧ Went r (takeS r n).2 a c a' c' ∧ (0 < n → ao = some ⟨ablk ao, aoff ao, none⟩) := fun nb hc => by
    have e : takeS r n = (List.replicate n 0, ⟨r.rest, true⟩) := by unfold takeS; rw [if_pos hc]
    refine ⟨a, c, some ⟨nb, 0, none⟩, [(nb, Obj.cells ⟨zerosL [.int .u8 0] n⟩ 5 (0, 0))], rfl, ?_, fun h _ hF => ?_, ?_, fun _ => rfl⟩
    · rw [e]; exact List.Perm.swap _ _ _
    · rw [e]; exact SlA.zeros (Held.row (List.mem_cons_self ..) h hF) (by omega) (inK_u8.2 (by omega))
    · rw [e]; exact Went.bad
  (repeat' (first | (with_reducible apply XL.op) | ((with_reducible apply XOp.p1); (case hg | hv => exact rfl)) | ((with_reducible apply XOp.p0); (case hg => exact rfl)) | ((with_reducible apply XOp.load); (case hg | ht | hk | hx => exact rfl); (case hc => exact own_cell (i := 0) rfl rfl)) | ((with_reducible apply XOp.store (i := 0)); (case hg | ht | hk | hx | hv | h1 | hi | hs | ha => exact rfl)) | (with_reducible apply XL.nilT) | (with_reducible apply XC.seq) | (with_reducible apply XC.region (Γ := Γ)) | (with_reducible apply XQ.skip) | (with_reducible apply XQ.nt) | ((with_reducible apply XC.condT); (case hc => exact rfl)) | ((with_reducible apply XOp.split); (case hg | hj | hd | hb => exact rfl); (fail_if_success (case hf => exact fun h => Bool.noConfusion h)); (fail_if_success (case ht => exact fun h => Bool.noConfusion h)); all_goals (intro hb_; try simp only [pd_true, pd_false, Bool.not_eq_true', Bool.not_eq_false', Bool.and_eq_true, Bool.and_eq_false_iff, Bool.or_eq_true, Bool.or_eq_false_iff, not_true_eq_false, not_false_eq_true, Int.not_lt, Int.not_le] at hb_)) | ((with_reducible apply XC.cond); (case hc => exact rfl); all_goals (intro hb_; try simp only [pd_true, pd_false, Bool.not_eq_true', Bool.not_eq_false', Bool.and_eq_true, Bool.and_eq_false_iff, Bool.or_eq_true, Bool.or_eq_false_iff, not_true_eq_false, not_false_eq_true, Int.not_lt, Int.not_le] at hb_))))
  iterate 2
    (((with_reducible apply XOp.make (k := n) (c := n)); (case hg => exact rfl); (case ht => exact rfl); (case hk => exact rfl); (case he => exact rfl); (case hz => exact rfl); (case hzl => exact rfl); (case hx => rfl); (case hy => rfl); (case hkc => omega); (case hb => simp only []; omega); (case h63 => omega); intro nb)
     (repeat (first | (with_reducible apply XL.op) | ((with_reducible apply XOp.p1); (case hg | hv => exact rfl)) | (with_reducible apply XL.nilT) | (with_reducible apply XQ.ret) | (with_reducible apply XQ.rt)))
     ((with_reducible apply XQ.retE); (case hr => exact .t rfl .nil))
     obtain ⟨a', c', ao, F, h1, h2, h3, h4⟩ := hbad nb (by first | exact .inl hb_ | exact .inr (by omega))
     exact ⟨_, .perm h2, a', c', ao, F, h1, rfl, h3, h4⟩)
  · have e : takeS r n = (r.rest.take n, ⟨r.rest.drop n, false⟩) := by unfold takeS; rw [if_neg]; rintro (h | h); simp_all; omega
    (first | ((with_reducible apply XOp.pr); (case hg => exact rfl); (case hr => (with_reducible apply PR.sliceTo3); (case ht => exact rfl); (case hk => exact rfl); (case he => exact rfl); (case hx => exact rfl); (case hh => exact rfl); (case hm => exact rfl); (case hb => omega))) | ((with_reducible apply XP.pr); (case ho => exact rfl); (case hg => exact rfl); (case hr => (with_reducible apply PR.sliceTo3); (case ht => exact rfl); (case hk => exact rfl); (case he => exact rfl); (case hx => exact rfl); (case hh => exact rfl); (case hm => exact rfl); (case hb => omega))))
    (repeat (first | (with_reducible apply XL.op) | ((with_reducible apply XOp.p1); (case hg | hv => exact rfl)) | ((with_reducible apply XOp.load); (case hg | ht | hk | hx => exact rfl); (case hc => exact own_cell (i := 0) rfl rfl)) | (with_reducible apply XL.nilT) | (with_reducible apply XC.seq) | (with_reducible apply XC.region (Γ := Γ))))
    (first | ((with_reducible apply XOp.pr); (case hg => exact rfl); (case hr => (with_reducible apply PR.sliceFrom); (case ht => exact rfl); (case hk => exact rfl); (case he => exact rfl); (case hx => exact rfl); (case hh => exact rfl); (case hb => omega))) | ((with_reducible apply XP.pr); (case ho => exact rfl); (case hg => exact rfl); (case hr => (with_reducible apply PR.sliceFrom); (case ht => exact rfl); (case hk => exact rfl); (case he => exact rfl); (case hx => exact rfl); (case hh => exact rfl); (case hb => omega))))
    (repeat (first | (with_reducible apply XL.op) | ((with_reducible apply XOp.p1); (case hg | hv => exact rfl)) | ((with_reducible apply XOp.store (i := 0)); (case hg | ht | hk | hx | hv | h1 | hi | hs | ha => exact rfl)) | (with_reducible apply XL.nilT) | (with_reducible apply XC.seq) | (with_reducible apply XC.region (Γ := Γ)) | (with_reducible apply XQ.ret)))
    ((with_reducible apply XQ.retE); (case hr => exact .t rfl .nil))
    refine ⟨_, .of (List.Sublist.refl _), dropA a c n 1, c - n, a, [], by simp [resV], ?_, fun h hh _ => ?_, ?_, fun h0 => hA.at_ (by omega)⟩
    · have hb' : r.bad = false := by assumption
      rw [e]; show [(rb, Obj.cells ⟨[.slice (dropA a c n 1) (r.rest.length - n) (c - n), .bool r.bad]⟩ 98 (0, 0))] = _
      simp only [RdB, List.length_drop, hb']
    · rw [e]; exact hh.take (by omega)
    · rw [e]; exact ⟨fun h hh => hh.drop (by omega)⟩
theorem or_u64 {x b : Int} (hx : 0 ≤ x ∧ x < 72057594037927936) (hb : 0 ≤ b ∧ b ≤ 255) : bitsV .or .u64 (IntKind.u64.wrap (x * 2 ^ 8)) (IntKind.u64.wrap b) = x * 256 + b := by
  obtain ⟨m, rfl⟩ := Int.eq_ofNat_of_zero_le hx.1
  obtain ⟨q, rfl⟩ := Int.eq_ofNat_of_zero_le hb.1
  have hq : q < 2 ^ 8 := by omega
  have e1 : IntKind.u64.wrap (((m : Nat) : Int) * 2 ^ 8) = ((m * 256 : Nat) : Int) := by rw [show ((m : Nat) : Int) * 2 ^ 8 = ((m * 256 : Nat) : Int) by simp]; exact wrap_of (inK_u64.2 (by omega))
  have e2 : IntKind.u64.wrap ((q : Nat) : Int) = ((q : Nat) : Int) := wrap_of (inK_u64.2 (by omega))
  rw [e1, e2]
  unfold bitsV
  simp only []
  have e3 : (BitVec.ofInt IntKind.u64.bits ((m * 256 : Nat) : Int) ||| BitVec.ofInt IntKind.u64.bits ((q : Nat) : Int)).toNat = m * 256 + q := by
    rw [BitVec.toNat_or, BitVec.toNat_ofInt, BitVec.toNat_ofInt]
    have h64 : ((2 ^ IntKind.u64.bits : Nat) : Int) = 18446744073709551616 := by simp [IntKind.bits]
    have a1 : ((((m * 256 : Nat) : Int)) % ((2 ^ IntKind.u64.bits : Nat) : Int)).toNat = m * 256 := by
      rw [h64]; omega
    have a2 : ((((q : Nat) : Int)) % ((2 ^ IntKind.u64.bits : Nat) : Int)).toNat = q := by
      rw [h64]; omega
    rw [a1, a2]
    have := Nat.shiftLeft_add_eq_or_of_lt hq m
    rw [Nat.shiftLeft_eq] at this
    exact this.symm
  have hw : inK .u64 ((m * 256 + q : Nat) : Int) := inK_u64.2 (by omega)
  rw [e3, wrap_of hw]; simp
theorem valB_bnd : ∀ (l : List Int), isB l → 0 ≤ valB l ∧ valB l < ((256 ^ l.length : Nat) : Int)
  | [], _ => by simp [valB]
  | b :: l, h => by
    have hb := h b (by simp)
    have ih := valB_bnd l fun x hx => h x (by simp [hx])
    simp only [valB, List.length_cons, Nat.pow_succ]
    omega
theorem valB_drop (l : List Int) {i : Nat} (h : i < l.length) : valB (l.drop i) = l.getD i 0 + 256 * valB (l.drop (i + 1)) := by
  rw [List.drop_eq_getElem_cons h, List.getD_eq_getElem?_getD, List.getElem?_eq_getElem h]; rfl
theorem value_fn (l : List Int) (a : Option Addr) (c : Nat) (hl : l.length ≤ 8) : FC Tryd.prog 55 [.slice a l.length c] [] (fun h => byAt h l a c)
    (fun v L => v = .int .u64 (valB l) ∧ L = []) := by
  refine FC.nil ?_
  refine FC.intro Tryd.func55 rfl (by kernel_rfl) 21 [.tmp 2] rfl rfl rfl ?_
  intro w0 hA
  have hsm := hA.bytes
  have hB : isB l := fun y hy => inK_u8.1 (hA.okAll y hy)
  (repeat (first | (with_reducible apply XL.op) | ((with_reducible apply XOp.p1); (case hg | hv => exact rfl)) | (with_reducible apply XL.nilT) | (with_reducible apply XC.seq) | (with_reducible apply XC.region (Γ := Γ)) | (with_reducible apply XC.block)))
  refine XC.loop (fun k ρ L => ∃ i : Nat, i = k ∧ i ≤ l.length ∧ L = [] ∧ Slots ρ [(0, .slice a l.length c), (3, .int .u64 (valB (l.drop i))), (4, .int .i64 ((i : Int) - 1))])
    l.length ⟨l.length, rfl, Nat.le_refl _, rfl, rfl, by rw [List.drop_length]; rfl, (by show Value.int _ _ = Value.int _ _; rw [wrap64_of (by omega) (by omega)]), trivial⟩ ?_
  rintro k ρ L ⟨i, rfl, hil, rfl, hs⟩
  refine XC.slots _ hs ?_
  (repeat (first | (with_reducible apply XL.op) | ((with_reducible apply XOp.p1); (case hg | hv => exact rfl)) | (with_reducible apply XL.nilT) | (with_reducible apply XC.seq) | (with_reducible apply XC.region (Γ := Γ))))
  ((with_reducible apply XC.cond); (case hc => exact rfl); all_goals (intro hb_; try simp only [pd_true, pd_false, Bool.not_eq_true', Bool.not_eq_false', Bool.and_eq_true, Bool.and_eq_false_iff, Bool.or_eq_true, Bool.or_eq_false_iff, not_true_eq_false, not_false_eq_true, Int.not_lt, Int.not_le] at hb_))
  · obtain ⟨i, rfl⟩ : ∃ q, i = q + 1 := ⟨i - 1, by omega⟩
    have ei : ((i + 1 : Nat) : Int) - 1 = (i : Int) := by omega
    rw [ei]
    have hc := (hA.int i (by omega)).1
    (repeat (first | (with_reducible apply XL.op) | ((with_reducible apply XOp.p1); (case hg | hv => exact rfl)) | ((with_reducible apply XOp.pr); (case hg => exact rfl); (case hr => ((with_reducible apply PR.idxA); (case ht | hk | he | hx | hi => exact rfl); (case hr => first | assumption | omega); (case ha => first | assumption | exact SlA.at_ (by assumption))))) | (with_reducible apply XL.nilT) | (with_reducible apply XC.seq) | (with_reducible apply XC.region (Γ := Γ)) | (with_reducible apply XL.nilQ) | (with_reducible apply XQ.skip) | (with_reducible apply XQ.nt) | (with_reducible apply XQ.nb) | (with_reducible apply XC.block) | (first | ((with_reducible apply XOp.load); (case hg | ht | hk | hx => exact rfl); (case hc => exact Known.of_old hc (Mono.cell _ _))) | ((with_reducible apply XP.load); (case ho | hg | ht | hk | hx => exact rfl); (case hc => exact Known.of_old hc (Mono.cell _ _))))))
    have hlt : i < l.length := by omega
    have hx := hB (l.getD i 0) (by rw [List.getD_eq_getElem?_getD, List.getElem?_eq_getElem hlt]; exact List.getElem_mem hlt)
    have hbd := valB_bnd (l.drop (i + 1)) fun y hy => hB y (List.drop_subset _ _ hy)
    have hlen : (l.drop (i + 1)).length ≤ 7 := by rw [List.length_drop]; omega
    have hpow : 256 ^ (l.drop (i + 1)).length ≤ 256 ^ 7 := Nat.pow_le_pow_right (by omega) hlen
    have h7 : 256 ^ 7 = 72057594037927936 := by rfl
    have hor := or_u64 (x := valB (l.drop (i + 1))) (b := l.getD i 0) ⟨hbd.1, by omega⟩ hx
    rw [List.getD_eq_getElem?_getD] at hor
    refine ⟨i, by omega, i, rfl, by omega, rfl, rfl, ?_, ?_, trivial⟩
    · show Value.int _ _ = Value.int _ _
      have hor' : bitsV .or .u64 (IntKind.u64.wrap (valB (l.drop (i + 1)) * 2 ^ 8)) (IntKind.u64.wrap (l[i]?.getD 0)) = l[i]?.getD 0 + 256 * valB (l.drop (i + 1)) := by rw [hor]; omega
      rw [valB_drop l hlt, List.getD_eq_getElem?_getD]
      exact congrArg (Value.int .u64) hor'
    · show Value.int _ _ = Value.int _ _
      rw [wrap64_of (by omega) (by omega)]
  · obtain rfl : i = 0 := by omega
    (repeat (first | (with_reducible apply XL.op) | ((with_reducible apply XOp.p1); (case hg | hv => exact rfl)) | (with_reducible apply XL.nilT) | (with_reducible apply XC.seq) | (with_reducible apply XC.region (Γ := Γ)) | (with_reducible apply XQ.ret) | (with_reducible apply XQ.exit) | (with_reducible apply XQ.nt) | (with_reducible apply XQ.et) | ((with_reducible apply XQ.eb); (case hb => exact rfl))))
    ((with_reducible apply XQ.retE); (case hr => exact .t rfl .nil))
    rfl
end Go.Proofs.YtppggaiahkecoaaDoorX
/- The reader: heads of sections, lists of small numbers, matrices. -/
namespace Go.Proofs.YtppggaiahkecoaaDoorX
open Go Go.SX

/-- What a step of the reader leaves. -/
theorem known_out {w0 : World} {K : List Nat} {L F : HL} {A B : HV → Prop} (hA : Known w0 K L A) (hB : ∀ h, A h → (∀ x ∈ F, h x.1 = some x.2) → B h) (s : ∀ x ∈ F, x ∈ L) : Known w0 K L B :=
  fun h e => hB h (hA h e) fun x hx => e.1 x (s x hx)
set_option maxHeartbeats 4000000 in
theorem open_fn (rb : Nat) (a : Option Addr) (c : Nat) (r : RS) (letter n : Int) (hn : 0 ≤ n ∧ n < 4294967296) : FC Tryd.prog 52 [.pointer (some ⟨rb, 0, none⟩), .int .u8 letter, .int .i64 n] [RdB rb a c r] (fun h => byAt h r.rest a c)
    (fun v L => ∃ a' c', L = [RdB rb a' c' (openS r letter n)] ∧ Went r (openS r letter n) a c a' c') := by
  refine FC.sub2 ?_
  refine FC.intro Tryd.func52 rfl (by kernel_rfl) 25 [] rfl rfl rfl ?_
  intro w0 hA
  (repeat (first | (with_reducible apply XL.op) | ((with_reducible apply XOp.p1); (case hg | hv => exact rfl)) | (with_reducible apply XC.seq) | (with_reducible apply XC.region (Γ := Γ))))
  ((with_reducible apply XOp.callR (R := []) (F := [RdB rb a c r]) (hF := take_fn rb a c r 5 (by omega))); (case hg => exact rfl); (case hc => exact rfl); (case ha => exact rfl); (case hL => exact rfl); try (case hA => exact Known.true))
  case hA => exact Known.of_old hA (Mono.sl _ _ _ _ _)
  rintro _ _ ⟨a', c', ao, F, rfl, rfl, hout, hw, hat⟩
  have hK : ∀ {L : HL}, (∀ x ∈ F, x ∈ L) → Known w0 (keys [RdB rb a c r]) L (fun h => byAt h (takeS r 5).1 ao 5) := fun s => known_out (Known.of_old hA (Mono.sl _ _ _ _ _)) hout s
  have hl5 := takeS_len r 5
  obtain ⟨o0, o1, o2, o3, o4, ho⟩ := len5 hl5
  have hao := hat (by omega)
  have hr5 : (takeS r 5).2.rest = (takeS r 5).2.rest := rfl
  have hop : openS r letter n = if o0 = letter ∧ valB [o1, o2, o3, o4] = n then (takeS r 5).2 else ⟨(takeS r 5).2.rest, true⟩ := by unfold openS; rw [ho]; rfl
  rw [ho] at hK
  have ew : IntKind.u64.wrap n = n := wrap_of (inK_u64.2 (by omega))
  generalize (takeS r 5).2 = r' at hop hw
  (repeat' (first | (with_reducible apply XL.op) | ((with_reducible apply XOp.p1); (case hg | hv => exact rfl)) | ((with_reducible apply XOp.p0); (case hg => exact rfl)) | ((with_reducible apply XOp.store (i := 0)); (case hg | ht | hk | hx | hv | h1 | hi | hs | ha => exact rfl)) | ((with_reducible apply XOp.pr); (case hg => exact rfl); (case hr => ((with_reducible apply PR.idxA); (case ht | hk | he | hx | hi => exact rfl); (case hr => first | assumption | omega); (case ha => first | assumption | exact SlA.at_ (by assumption))))) | (with_reducible apply XL.nilT) | (with_reducible apply XC.seq) | (with_reducible apply XC.region (Γ := Γ)) | (with_reducible apply XL.nilQ) | (with_reducible apply XQ.skip) | ((with_reducible apply XC.condT); (case hc => exact rfl)) | (first | ((with_reducible apply XOp.load); (case hg | ht | hk | hx => exact rfl); (case hc => exact (hK (fun y hy => List.mem_cons_of_mem _ hy)).imp fun h s => (s.int 0 (by simp)).1)) | ((with_reducible apply XP.load); (case ho | hg | ht | hk | hx => exact rfl); (case hc => exact (hK (fun y hy => List.mem_cons_of_mem _ hy)).imp fun h s => (s.int 0 (by simp)).1))) | (first | ((with_reducible apply XOp.pr); (case hg => exact rfl); (case hr => (with_reducible apply PR.sliceFrom); (case ht => exact rfl); (case hk => exact rfl); (case he => exact rfl); (case hx => exact rfl); (case hh => exact rfl); (case hb => omega))) | ((with_reducible apply XP.pr); (case ho => exact rfl); (case hg => exact rfl); (case hr => (with_reducible apply PR.sliceFrom); (case ht => exact rfl); (case hk => exact rfl); (case he => exact rfl); (case hx => exact rfl); (case hh => exact rfl); (case hb => omega)))) | (((with_reducible apply XOp.callQ (hF := value_fn [o1, o2, o3, o4] (dropA ao 5 1 1) 4 (by simp))); (case hg => exact rfl); (case hc => exact rfl); (case ha => exact rfl); try (case hA => exact Known.true)); (case hA => exact (hK (fun y hy => List.mem_cons_of_mem _ hy)).imp fun h s => SlA.drop s (k := 1) (by simp)); rintro _ rfl) | ((with_reducible apply XOp.split); (case hg | hj | hd | hb => exact rfl); (fail_if_success (case hf => exact fun h => Bool.noConfusion h)); (fail_if_success (case ht => exact fun h => Bool.noConfusion h)); all_goals (intro hb_; try simp only [pd_true, pd_false, Bool.not_eq_true', Bool.not_eq_false', Bool.and_eq_true, Bool.and_eq_false_iff, Bool.or_eq_true, Bool.or_eq_false_iff, not_true_eq_false, not_false_eq_true, Int.not_lt, Int.not_le] at hb_)) | ((with_reducible apply XC.cond); (case hc => exact rfl); all_goals (intro hb_; try simp only [pd_true, pd_false, Bool.not_eq_true', Bool.not_eq_false', Bool.and_eq_true, Bool.and_eq_false_iff, Bool.or_eq_true, Bool.or_eq_false_iff, not_true_eq_false, not_false_eq_true, Int.not_lt, Int.not_le] at hb_))))
  all_goals ((with_reducible apply XQ.norE); (case hr => exact .nil))
  · have hn2 : ¬ (o0 = letter ∧ valB [o1, o2, o3, o4] = n) := fun h => hb_ h.1
    rw [hop, if_neg hn2]
    exact ⟨_, .of (List.Sublist.cons_cons _ (List.nil_sublist _)), a', c', rfl, hw.trans Went.bad⟩
  · have hn2 : ¬ (o0 = letter ∧ valB [o1, o2, o3, o4] = n) := fun h => hb_ (by rw [ew]; exact h.2)
    rw [hop, if_neg hn2]
    exact ⟨_, .of (List.Sublist.cons_cons _ (List.nil_sublist _)), a', c', rfl, hw.trans Went.bad⟩
  · rw [ew] at hb_
    rw [hop, if_pos ⟨by assumption, hb_⟩]
    exact ⟨_, .of (List.Sublist.cons_cons _ (List.nil_sublist _)), a', c', rfl, hw⟩
def toNs (l : List Int) : List Int := l.map toN
theorem i8_toN {b : Int} (h : 0 ≤ b ∧ b ≤ 255) : IntKind.i8.wrap b = toN b := by
  have e : IntKind.i8.wrap b = IntKind.i8.wrap (toN b) := by
    unfold toN; split
    · simp [IntKind.wrap, IntKind.bits]
    · rfl
  rw [e]; exact wrap_of (inK_i8.2 (by unfold toN; split <;> omega))
set_option maxHeartbeats 4000000 in
theorem narrow_fn (rb : Nat) (a : Option Addr) (c : Nat) (r : RS) (n : Nat) (hn : n ≤ 1000000000) : FC Tryd.prog 92 [.pointer (some ⟨rb, 0, none⟩), .int .i64 n] [RdB rb a c r] (fun h => byAt h r.rest a c)
    (fun v L => ∃ (a' : Option Addr) (c' : Nat) (x : LV) (F : HL), v = slv x ∧ x.1 = (narrowS r n).1 ∧ L = RdB rb a' c' (narrowS r n).2 :: F ∧ OwnV x F ∧ Went r (narrowS r n).2 a c a' c') := by
  refine FC.sub2 ?_
  refine FC.intro Tryd.func92 rfl (by kernel_rfl) 25 [.tmp 4] rfl rfl rfl ?_
  intro w0 hA
  have hBr : isB r.rest := fun y hy => inK_u8.1 (hA.okAll y hy)
  (repeat (first | (with_reducible apply XL.op) | ((with_reducible apply XOp.p1); (case hg | hv => exact rfl)) | (with_reducible apply XL.nilT) | (with_reducible apply XC.seq) | (with_reducible apply XC.region (Γ := Γ))))
  ((with_reducible apply XOp.make (k := 0) (c := n)); (case hg => exact rfl); (case ht => exact rfl); (case hk => exact rfl); (case he => exact rfl); (case hz => exact rfl); (case hzl => exact rfl); (case hx => rfl); (case hy => rfl); (case hkc => omega); (case hb => simp only []; omega); (case h63 => omega); intro lb)
  (repeat (first | (with_reducible apply XL.op) | ((with_reducible apply XOp.p1); (case hg | hv => exact rfl)) | (with_reducible apply XL.nilT) | (with_reducible apply XC.seq) | (with_reducible apply XC.region (Γ := Γ))))
  ((with_reducible apply XOp.callR (R := [_]) (F := [RdB rb a c r]) (hF := take_fn rb a c r n hn)); (case hg => exact rfl); (case hc => exact rfl); (case ha => exact rfl); (case hL => exact rfl); try (case hA => exact Known.true))
  case hA => exact Known.of_old hA (Mono.sl _ _ _ _ _)
  rintro _ _ ⟨a', c', ao, F, rfl, rfl, hout, hw, hat⟩
  have hK : ∀ {L : HL}, (∀ x ∈ F, x ∈ L) → Known w0 (keys [RdB rb a c r]) L (fun h => byAt h (takeS r n).1 ao n) := fun s => known_out (Known.of_old hA (Mono.sl _ _ _ _ _)) hout s
  have hln := takeS_len r n
  have hBo := takeS_isB hBr n
  have h0 : OwnS 39 1 (.slice (some ⟨lb, 0, none⟩) 0 n) 0 ([] : List Value) [(lb, Obj.cells ⟨zerosL [.int .i8 0] n⟩ 39 (0, 0))] :=
    ⟨by simp, .inr ⟨lb, n, zerosL [.int .i8 0] n, rfl, by simp, Nat.zero_le _, by simp only [maxLen]; omega, by simp [zerosL_length]⟩⟩
  have hns : (narrowS r n) = ((takeS r n).1.map toN, (takeS r n).2) := rfl
  rw [hns]
  generalize htk : (takeS r n).1 = out at *
  generalize (takeS r n).2 = r' at *
  (repeat (first | (with_reducible apply XL.op) | ((with_reducible apply XOp.p1); (case hg | hv => exact rfl)) | (with_reducible apply XL.nilT) | (with_reducible apply XC.block)))
  refine XC.perm (L' := (RdB rb a' c' r' :: F) ++ [(lb, Obj.cells ⟨zerosL [.int .i8 0] n⟩ 39 (0, 0))]) ?_ (show List.Perm ((lb, Obj.cells ⟨zerosL [.int .i8 0] n⟩ 39 (0, 0)) :: (RdB rb a' c' r' :: F)) _ by (first | (with_reducible exact List.Perm.refl _) | refine perm_of_cnt fun p_ => ?_; simp only [List.countP_append, List.countP_cons, List.countP_nil]; omega))
  refine XC.loop (fun k ρ L => ∃ (i : Nat) (v : Value) (Fv : HL), i + k = n ∧ OwnS 39 1 v i (((out.take i).map toN).map (.int .i8)) Fv ∧ L = (RdB rb a' c' r' :: F) ++ Fv ∧ Slots ρ [(5, v), (12, .slice ao n n), (13, .int .i64 n), (14, .int .i64 i)])
    n ⟨0, _, _, by simp, h0, rfl, rfl, rfl, rfl, rfl, trivial⟩ ?_
  clear h0
  rintro k ρ L ⟨i, v, Fv, hik, hown, rfl, hs⟩
  obtain ⟨a2, c2, rfl⟩ := hown.val
  refine XC.slots _ hs ?_
  (repeat (first | (with_reducible apply XL.op) | ((with_reducible apply XOp.p1); (case hg | hv => exact rfl)) | (with_reducible apply XL.nilT) | (with_reducible apply XC.seq) | (with_reducible apply XC.region (Γ := Γ))))
  ((with_reducible apply XC.cond); (case hc => exact rfl); all_goals (intro hb_; try simp only [pd_true, pd_false, Bool.not_eq_true', Bool.not_eq_false', Bool.and_eq_true, Bool.and_eq_false_iff, Bool.or_eq_true, Bool.or_eq_false_iff, not_true_eq_false, not_false_eq_true, Int.not_lt, Int.not_le] at hb_))
  · obtain ⟨x, hi⟩ : ∃ x, out[i]? = some x := ⟨_, List.getElem?_eq_getElem (by omega)⟩
    have hx := hBo x (List.mem_of_getElem? hi)
    (repeat (first | (with_reducible apply XL.op) | ((with_reducible apply XOp.p1); (case hg | hv => exact rfl)) | ((with_reducible apply XOp.pr); (case hg => exact rfl); (case hr => ((with_reducible apply PR.idxA); (case ht | hk | he | hx | hi => exact rfl); (case hr => first | assumption | omega); (case ha => first | assumption | exact SlA.at_ (by assumption))))) | (with_reducible apply XL.nilT) | (with_reducible apply XC.seq) | (with_reducible apply XC.region (Γ := Γ)) | (with_reducible apply XQ.skip) | (with_reducible apply XQ.nt) | (with_reducible apply XC.block) | (first | ((with_reducible apply XOp.load); (case hg | ht | hk | hx => exact rfl); (case hc => exact (hK (fun y hy => List.mem_append_left _ (List.mem_cons_of_mem _ hy))).imp fun h s => (s.int i (by omega)).1)) | ((with_reducible apply XP.load); (case ho | hg | ht | hk | hx => exact rfl); (case hc => exact (hK (fun y hy => List.mem_append_left _ (List.mem_cons_of_mem _ hy))).imp fun h s => (s.int i (by omega)).1)))))
    ((with_reducible apply XOp.buildSlice); (case hg | ht | hk | he | hz | hzl | hf => exact rfl); intro bb)
    (repeat ((with_reducible apply XL.op)))
    ((with_reducible apply XOp.append1R (R := RdB rb a' c' r' :: F)); (case hg => exact rfl); (case ht => exact rfl); (case hk => exact rfl); (case he => exact rfl); (case hown => exact hown); (case hs => exact rfl); (case hx => exact rfl); (case hL => exact rfl); (case hl => exact rfl); (case h1 => exact rfl); (case hz => exact rfl); (case hsz => exact Nat.zero_lt_succ _); (case hk0 => exact Nat.zero_lt_succ _); (case h63 => simp only [maxLen]; omega); (case hb => simp only []; omega); intro v_ F_ hown_; obtain ⟨a_, c_, rfl⟩ := hown_.val)
    (repeat (first | (with_reducible apply XL.op) | ((with_reducible apply XOp.p1); (case hg | hv => exact rfl)) | (with_reducible apply XL.nilT) | (with_reducible apply XC.region (Γ := Γ)) | (with_reducible apply XL.nilQ) | (with_reducible apply XQ.nt) | (with_reducible apply XQ.nb)))
    refine ⟨k - 1, by omega, i + 1, _, F_, by omega, hown_.conv rfl ?_, rfl, rfl, rfl, rfl, intS2 (m := n) (by omega) (by omega), trivial⟩
    rw [take_snocD hi, hi]
    simp only [Option.getD_some]
    rw [i8_toN hx]; simp [zerosL]
  · obtain rfl : i = n := by omega
    rw [List.take_of_length_le (by omega)] at hown
    have hNo : isN (out.map toN) := isN_map hBo
    (repeat (first | (with_reducible apply XL.op) | ((with_reducible apply XOp.p1); (case hg | hv => exact rfl)) | (with_reducible apply XL.nilT) | (with_reducible apply XC.seq) | (with_reducible apply XC.region (Γ := Γ)) | (with_reducible apply XQ.ret) | (with_reducible apply XQ.exit) | (with_reducible apply XQ.nt) | (with_reducible apply XQ.et) | ((with_reducible apply XQ.eb); (case hb => exact rfl))))
    ((with_reducible apply XQ.retE); (case hr => exact .t rfl .nil))
    exact ⟨RdB rb a' c' r' :: Fv, .of (by ((try simp only [List.append_eq, List.cons_append, List.nil_append, List.append_assoc]); repeat (first | exact List.Sublist.refl _ | exact List.nil_sublist _ | (with_reducible apply List.Sublist.cons_cons) | (with_reducible apply List.Sublist.cons) | exact List.sublist_append_right _ _))), a', c', (out.map toN, a2, c2), Fv, by simp [resV, hln], rfl, rfl, ⟨(by show OwnS _ 1 (.slice a2 (out.map toN).length c2) (out.map toN).length _ Fv; rw [show (out.map toN).length = i by rw [List.length_map, hln]]; exact hown), by show (out.map toN).length * 1 ≤ _; rw [List.length_map]; omega, fun y hy => inK_i8.2 (hNo y hy)⟩, hw⟩
end Go.Proofs.YtppggaiahkecoaaDoorX
/- The reader: a matrix. -/
namespace Go.Proofs.YtppggaiahkecoaaDoorX
open Go Go.SX

theorem rmatrix_fn (rb : Nat) (a : Option Addr) (c : Nat) (r : RS) (rows cols : Int) (hn : 0 ≤ rows * cols ∧ rows * cols ≤ 1000000000) : FC Tryd.prog 90 [.pointer (some ⟨rb, 0, none⟩), .int .i64 rows, .int .i64 cols] [RdB rb a c r] (fun h => byAt h r.rest a c)
    (fun v L => ∃ (a' : Option Addr) (c' : Nat) (x : LM) (F : HL), v = .agg ⟨x.cells⟩ ∧ x.mat = (matS r rows cols).1 ∧ L = RdB rb a' c' (matS r rows cols).2 :: F ∧ OwnV x.d F ∧ Went r (matS r rows cols).2 a c a' c') := by
  refine FC.sub2 ?_
  refine FC.intro Tryd.func90 rfl (by kernel_rfl) 15 [.cell 6 26] rfl rfl rfl ?_
  intro w0 hA
  have en : IntKind.i64.wrap (rows * cols) = (((rows * cols).toNat : Nat) : Int) := by rw [wrap64_of (by omega) (by omega)]; omega
  (repeat (first | (with_reducible apply XL.op) | (with_reducible apply XC.seq) | (with_reducible apply XC.region (Γ := Γ))))
  ((with_reducible apply XOp.alloc); (case hg | ht | hx' => exact rfl); intro mb)
  (repeat (first | (with_reducible apply XL.op) | ((with_reducible apply XOp.p1); (case hg | hv => exact rfl)) | (with_reducible apply XL.nilT) | (with_reducible apply XC.seq) | (with_reducible apply XC.region (Γ := Γ))))
  rw [en]
  ((with_reducible apply XOp.callR (R := [_]) (F := [RdB rb a c r]) (hF := narrow_fn rb a c r (rows * cols).toNat (by omega))); (case hg => exact rfl); (case hc => exact rfl); (case ha => exact rfl); (case hL => exact rfl); try (case hA => exact Known.true))
  case hA => exact Known.of_old hA (Mono.sl _ _ _ _ _)
  rintro _ _ ⟨a', c', x, F, rfl, hx, rfl, hF, hw⟩
  (repeat (first | (with_reducible apply XL.op) | ((with_reducible apply XOp.storeN (i := 0)); (case hg | ht | hx | hv' | hk | h1 | hi | hs | ha => exact rfl)) | ((with_reducible apply XOp.pr); (case hg => exact rfl); (case hr => ((with_reducible apply PR.build); (case ht | hk | hok | hz | hf => exact rfl)))) | (with_reducible apply XL.nilT) | (with_reducible apply XQ.ret)))
  ((with_reducible apply XQ.retE); (case hr => exact .row rfl (by kernel_rfl) (by kernel_rfl) (own_row (i := 0) (m := 3) rfl rfl) .nil))
  exact ⟨_, .of (List.sublist_cons_self _ _), a', c', ⟨rows, cols, x⟩, F, rfl, by simp only [LM.mat, hx]; rfl, rfl, hF, hw⟩
theorem narrowI_fn (rb : Nat) (a : Option Addr) (c : Nat) (r : RS) (n : Int) (hn : 0 ≤ n ∧ n ≤ 1000000000) : FC Tryd.prog 92 [.pointer (some ⟨rb, 0, none⟩), .int .i64 n] [RdB rb a c r] (fun h => byAt h r.rest a c)
    (fun v L => ∃ (a' : Option Addr) (c' : Nat) (x : LV) (F : HL), v = slv x ∧ x.1 = (narrowS r n.toNat).1 ∧ L = RdB rb a' c' (narrowS r n.toNat).2 :: F ∧ OwnV x F ∧ Went r (narrowS r n.toNat).2 a c a' c') := by
  have h := narrow_fn rb a c r n.toNat (by omega)
  rwa [show ((n.toNat : Nat) : Int) = n by omega] at h
end Go.Proofs.YtppggaiahkecoaaDoorX
/- The reader: a layer. -/
namespace Go.Proofs.YtppggaiahkecoaaDoorX
open Go Go.SX

/-- Rows and columns of a layer's j-th matrix. -/
def rcS (c : Cfg) : Nat → Int × Int
  | 0 => (measS c 0, measS c 0)
  | 1 => (measS c 1, measS c 0)
  | 2 => (measS c 1, measS c 0)
  | 3 => (measS c 0, measS c 0)
  | 4 => (measS c 2, measS c 0)
  | 5 => (measS c 2, measS c 0)
  | 6 => (measS c 0, measS c 2)
  | _ => (0, 0)
def nJ (c : Cfg) : Nat → Int
  | 0 => 2 * c.Width + 7
  | j + 1 => nJ c j + (rcS c j).1 * (rcS c j).2
theorem meas_bnd {c : Cfg} (hc : c.may) (s : Int) : 0 ≤ measS c s ∧ measS c s ≤ 128 := by
  obtain ⟨_, _, n1, n2⟩ := may_nn hc
  have hW := hc.2.1
  have hH := hc.2.2.2.2.1
  unfold measS; split
  · omega
  · split <;> omega
theorem rc_bnd {c : Cfg} (hc : c.may) (j : Nat) : (0 ≤ (rcS c j).1 ∧ (rcS c j).1 ≤ 128) ∧ (0 ≤ (rcS c j).2 ∧ (rcS c j).2 ≤ 128) := by
  match j with
  | 0 => exact ⟨meas_bnd hc 0, meas_bnd hc 0⟩
  | 1 => exact ⟨meas_bnd hc 1, meas_bnd hc 0⟩
  | 2 => exact ⟨meas_bnd hc 1, meas_bnd hc 0⟩
  | 3 => exact ⟨meas_bnd hc 0, meas_bnd hc 0⟩
  | 4 => exact ⟨meas_bnd hc 2, meas_bnd hc 0⟩
  | 5 => exact ⟨meas_bnd hc 2, meas_bnd hc 0⟩
  | 6 => exact ⟨meas_bnd hc 0, meas_bnd hc 2⟩
  | j + 7 => exact ⟨⟨Int.le_refl _, by simp [rcS]⟩, Int.le_refl _, by simp [rcS]⟩
theorem rc_mul {c : Cfg} (hc : c.may) (j : Nat) : 0 ≤ (rcS c j).1 * (rcS c j).2 ∧ (rcS c j).1 * (rcS c j).2 ≤ 16384 := by
  obtain ⟨h1, h2⟩ := rc_bnd hc j
  have := mul_bnd h1 h2
  omega
theorem nJ_bnd {c : Cfg} (hc : c.may) : ∀ j, 0 ≤ nJ c j ∧ nJ c j ≤ 100 + 16384 * (j : Int)
  | 0 => by have hW := hc.2.1; unfold nJ; omega
  | j + 1 => by have h1 := nJ_bnd hc j; have h2 := rc_mul hc j; unfold nJ; omega
theorem nJ_7 (c : Cfg) : nJ c 7 = layN c := by
  simp only [nJ, rcS, meas0, meas1, meas2, layN]
/-- The first j matrices, as the reader gives them. -/
def mst (c : Cfg) (r : RS) : Nat → List Mat × RS
  | 0 => ([], r)
  | j + 1 => let p := mst c r j; let q := matS p.2 (rcS c j).1 (rcS c j).2; (p.1 ++ [q.1], q.2)
def mkL (n1 n2 : LV) (D : List LM) : LL := ⟨n1, n2, D.getD 0 zmat, D.getD 1 zmat, D.getD 2 zmat, D.getD 3 zmat, D.getD 4 zmat, D.getD 5 zmat, D.getD 6 zmat, 0, 0, 0, 0, 0, 0, 0⟩
def byC (l : List Value) (i : Nat) (o : List Int) : List Value := l.take 23 ++ [zf i 0 (o.getD 0 0), zf i 1 (o.getD 1 0), zf i 2 (o.getD 2 0), zf i 3 (o.getD 3 0), zf i 4 (o.getD 4 0), zf i 5 (o.getD 5 0), zf i 6 (o.getD 6 0)]
theorem len1 {α : Type} {l : List α} (h : l.length = 1) : ∃ a, l = [a] := by match l, h with | [a], _ => exact ⟨a, rfl⟩
theorem len4 {α : Type} {l : List α} (h : l.length = 4) : ∃ a b c d, l = [a, b, c, d] := by match l, h with | [a, b, c, d], _ => exact ⟨a, b, c, d, rfl⟩
theorem len6 {α : Type} {l : List α} (h : l.length = 6) : ∃ a b c d e f, l = [a, b, c, d, e, f] := by match l, h with | [a, b, c, d, e, f], _ => exact ⟨a, b, c, d, e, f, rfl⟩
set_option maxHeartbeats 16000000 in
set_option maxRecDepth 10000 in
theorem rlayer_fn (rb : Nat) (a : Option Addr) (c : Nat) (r : RS) (cf : Cfg) (hc : cf.may) : FC Tryd.prog 91 [.pointer (some ⟨rb, 0, none⟩), .agg ⟨cf.cells⟩] [RdB rb a c r] (fun h => sidesK h ∧ byAt h r.rest a c)
    (fun v L => ∃ (a' : Option Addr) (c' : Nat) (l : LL) (F : HL), v = .agg ⟨l.cells⟩ ∧ l.lay = (secS (layF cf) 76 (layN cf) r).1 ∧ L = RdB rb a' c' (secS (layF cf) 76 (layN cf) r).2 :: F ∧ OwnP l.nl F ∧ Went r (secS (layF cf) 76 (layN cf) r).2 a c a' c') := by
  refine FC.sub2 ?_
  refine FC.intro Tryd.func91 rfl (by kernel_rfl) 78 [.cell 4 67] rfl rfl rfl ?_
  rintro w0 ⟨hS, hA⟩
  obtain ⟨nn1, nn2, nn3, nn4⟩ := may_nn hc
  have hW := hc.2.1
  have en : IntKind.i64.wrap (IntKind.i64.wrap (2 * cf.Width) + 7) = nJ cf 0 := by
    rw [show IntKind.i64.wrap (2 * cf.Width) = 2 * cf.Width from wrap64_of (by omega) (by omega), wrap64_of (by omega) (by omega)]; rfl
  (repeat (first | (with_reducible apply XL.op) | (with_reducible apply XC.seq) | (with_reducible apply XC.region (Γ := Γ))))
  ((with_reducible apply XOp.box); (case hg | hx' => exact rfl); intro cb)
  (repeat ((with_reducible apply XL.op)))
  ((with_reducible apply XOp.alloc); (case hg | ht | hx' => exact rfl); intro rs)
  (repeat (first | (with_reducible apply XL.op) | ((with_reducible apply XOp.p1); (case hg | hv => exact rfl)) | ((with_reducible apply XOp.load); (case hg | ht | hk | hx => exact rfl); (case hc => exact own_cell (i := 1) rfl rfl)) | ((with_reducible apply XOp.loadO (i := 1)); (case hg | ht | hk | hx | hi | hc => exact rfl)) | (with_reducible apply XL.nilT) | (with_reducible apply XC.seq) | (with_reducible apply XC.region (Γ := Γ))))
  rw [en]
  ((with_reducible apply XOp.call (hF := shapes_fn cf hc)); (case hg => exact rfl); (case hc => exact rfl); (case ha => exact rfl); (case hL => exact (List.nil_append _).symm); try (case hA => exact Known.true))
  case hA => exact Known.of_old hS sides_mono
  rintro _ _ ⟨sb, rfl, rfl⟩
  (repeat (first | (with_reducible apply XL.op) | ((with_reducible apply XOp.p1); (case hg | hv => exact rfl)) | (with_reducible apply XL.nilT) | (with_reducible apply XC.seq) | (with_reducible apply XC.region (Γ := Γ)) | (with_reducible apply XC.block)))
  refine XC.loopP (fun k ρ L => ∃ j : Nat, j + k = 7 ∧ L = [(sb, Obj.cells ⟨shC cf 7⟩ 80 (0, 0)), (rs, Obj.cells ⟨zeroL⟩ 67 (0, 0)), (cb, Obj.cells ⟨cf.cells⟩ 23 (0, 0)), RdB rb a c r] ∧ Slots ρ [(0, .pointer (some ⟨rb, 0, none⟩)), (3, .pointer (some ⟨cb, 0, none⟩)), (4, .pointer (some ⟨rs, 0, none⟩)), (5, .int .i64 (nJ cf j)), (6, .slice (some ⟨sb, 0, none⟩) 7 7), (20, .slice (some ⟨sb, 0, none⟩) 7 7), (21, .int .i64 7), (22, .int .i64 j)])
    7 ⟨0, by simp, rfl, rfl, rfl, rfl, rfl, rfl, rfl, rfl, rfl, trivial⟩ ?_
  rintro k ρ L ⟨j, hjk, rfl, hs⟩
  refine XC.slots _ hs ?_
  (repeat (first | (with_reducible apply XL.op) | ((with_reducible apply XOp.p1); (case hg | hv => exact rfl)) | (with_reducible apply XL.nilT) | (with_reducible apply XC.seq) | (with_reducible apply XC.region (Γ := Γ))))
  ((with_reducible apply XC.cond); (case hc => exact rfl); all_goals (intro hb_; try simp only [pd_true, pd_false, Bool.not_eq_true', Bool.not_eq_false', Bool.and_eq_true, Bool.and_eq_false_iff, Bool.or_eq_true, Bool.or_eq_false_iff, not_true_eq_false, not_false_eq_true, Int.not_lt, Int.not_le] at hb_))
  · have e1 : ∀ j : Nat, j < 7 → IntKind.i64.wrap (nJ cf j + IntKind.i64.wrap ((rcS cf j).1 * (rcS cf j).2)) = nJ cf (j + 1) := fun j hj => by
      have h1 := nJ_bnd hc j; have h2 := rc_mul hc j
      rw [show IntKind.i64.wrap ((rcS cf j).1 * (rcS cf j).2) = (rcS cf j).1 * (rcS cf j).2 from wrap64_of (by omega) (by omega), wrap64_of (by omega) (by omega)]; rfl
    rcases (by omega : j = 0 ∨ j = 1 ∨ j = 2 ∨ j = 3 ∨ j = 4 ∨ j = 5 ∨ j = 6) with rfl | rfl | rfl | rfl | rfl | rfl | rfl
    all_goals (repeat (first | (with_reducible apply XL.op) | ((with_reducible apply XOp.p1); (case hg | hv => exact rfl)) | ((with_reducible apply XOp.loadO (i := 0)); (case hg | ht | hk | hx | hi | hc => exact rfl)) | (with_reducible apply XC.seq) | (with_reducible apply XC.region (Γ := Γ)) | (with_reducible apply XQ.skip) | (with_reducible apply XQ.nt) | (with_reducible apply XC.block)))
    all_goals ((with_reducible apply XOp.alloc); (case hg | ht | hx' => exact rfl); intro zb)
    all_goals (repeat (first | (with_reducible apply XL.op) | ((with_reducible apply XOp.p1); (case hg | hv => exact rfl)) | ((with_reducible apply XOp.load); (case hg | ht | hk | hx => exact rfl); (case hc => exact own_cell (i := 0) rfl rfl)) | ((with_reducible apply XOp.storeN (i := 0)); (case hg | ht | hx | hv' | hk | h1 | hi | hs | ha => exact rfl)) | (with_reducible apply XL.nilT) | (with_reducible apply XC.region (Γ := Γ)) | (with_reducible apply XL.nilQ) | (with_reducible apply XQ.nt) | (with_reducible apply XQ.nb)))
    all_goals first | exact ⟨k - 1, by omega, _, .of (List.sublist_cons_self _ _), 1, by omega, rfl, rfl, rfl, rfl, congrArg (Value.int .i64) (e1 0 (by omega)), rfl, rfl, rfl, intS2 (i := 0) (m := 7) (by omega) (by omega), trivial⟩ | exact ⟨k - 1, by omega, _, .of (List.sublist_cons_self _ _), 2, by omega, rfl, rfl, rfl, rfl, congrArg (Value.int .i64) (e1 1 (by omega)), rfl, rfl, rfl, intS2 (i := 1) (m := 7) (by omega) (by omega), trivial⟩ | exact ⟨k - 1, by omega, _, .of (List.sublist_cons_self _ _), 3, by omega, rfl, rfl, rfl, rfl, congrArg (Value.int .i64) (e1 2 (by omega)), rfl, rfl, rfl, intS2 (i := 2) (m := 7) (by omega) (by omega), trivial⟩ | exact ⟨k - 1, by omega, _, .of (List.sublist_cons_self _ _), 4, by omega, rfl, rfl, rfl, rfl, congrArg (Value.int .i64) (e1 3 (by omega)), rfl, rfl, rfl, intS2 (i := 3) (m := 7) (by omega) (by omega), trivial⟩ | exact ⟨k - 1, by omega, _, .of (List.sublist_cons_self _ _), 5, by omega, rfl, rfl, rfl, rfl, congrArg (Value.int .i64) (e1 4 (by omega)), rfl, rfl, rfl, intS2 (i := 4) (m := 7) (by omega) (by omega), trivial⟩ | exact ⟨k - 1, by omega, _, .of (List.sublist_cons_self _ _), 6, by omega, rfl, rfl, rfl, rfl, congrArg (Value.int .i64) (e1 5 (by omega)), rfl, rfl, rfl, intS2 (i := 5) (m := 7) (by omega) (by omega), trivial⟩ | exact ⟨k - 1, by omega, _, .of (List.sublist_cons_self _ _), 7, by omega, rfl, rfl, rfl, rfl, congrArg (Value.int .i64) (e1 6 (by omega)), rfl, rfl, rfl, intS2 (i := 6) (m := 7) (by omega) (by omega), trivial⟩
  obtain rfl : j = 7 := by omega
  clear hs hjk
  have hN := nJ_bnd hc 7
  (repeat (first | (with_reducible apply XL.op) | ((with_reducible apply XOp.p1); (case hg | hv => exact rfl)) | (with_reducible apply XC.seq) | (with_reducible apply XC.region (Γ := Γ)) | (with_reducible apply XQ.exit) | (with_reducible apply XQ.nt) | (with_reducible apply XQ.et) | ((with_reducible apply XQ.eb); (case hb => exact rfl))))
  rw [nJ_7]
  rw [nJ_7] at hN
  ((with_reducible apply XOp.callM (R := [_, _, _]) (hF := open_fn rb a c r 76 (layN cf) (by omega))); (case hg => exact rfl); (case hc => exact rfl); (case ha => exact rfl); (case hL => exact rfl); try (case hA => exact Known.true))
  case hA => exact Known.of_old hA (Mono.sl _ _ _ _ _)
  rintro _ _ ⟨a1, c1, rfl, hw⟩
  have hsec : secS (layF cf) 76 (layN cf) r = layF cf (openS r 76 (layN cf)) := rfl
  rw [hsec]
  generalize openS r 76 (layN cf) = r1 at *
  have hWn : ((cf.Width.toNat : Nat) : Int) = cf.Width := by omega
  (repeat (first | (with_reducible apply XL.nilT) | (with_reducible apply XC.seq)))
  refine XC.cut (fun ρ L => ∃ (lb : Nat) (a2 : Option Addr) (c2 : Nat) (n1 n2 : LV) (F : HL), n1.1 = (narrowS r1 cf.Width.toNat).1 ∧ n2.1 = (narrowS (narrowS r1 cf.Width.toNat).2 cf.Width.toNat).1 ∧ OwnP [n1, n2] F ∧
    Went r (narrowS (narrowS r1 cf.Width.toNat).2 cf.Width.toNat).2 a c a2 c2 ∧ L = [(lb, Obj.cells ⟨(mkL n1 n2 []).cells⟩ 67 (0, 0)), (sb, Obj.cells ⟨shC cf 7⟩ 80 (0, 0)), (rs, Obj.cells ⟨zeroL⟩ 67 (0, 0)), (cb, Obj.cells ⟨cf.cells⟩ 23 (0, 0))] ++ (RdB rb a2 c2 (narrowS (narrowS r1 cf.Width.toNat).2 cf.Width.toNat).2 :: F) ∧
    Slots ρ [(0, .pointer (some ⟨rb, 0, none⟩)), (3, .pointer (some ⟨cb, 0, none⟩)), (4, .pointer (some ⟨rs, 0, none⟩)), (6, .slice (some ⟨sb, 0, none⟩) 7 7), (9, .pointer (some ⟨lb, 0, none⟩))]) _ ?_ ?_
  · ((with_reducible apply XC.regionL (Γ := Γ) mixed (.q 0 (.q 1 (.q 2 (.q 4 (.q 5 (.q 6 (.b [(3, .b [(7, .q 8 (.e 9 (.e 10 (.done)))), (9, .e 7 (.q 8 (.e 10 (.done))))]), (9, .e 3 (.e 7 (.q 8 (.e 10 (.done)))))]))))))) [] ([(cb, Obj.cells ⟨cf.cells⟩ 23 (0, 0))])); (case hc => kernel_rfl); (case hs => first | exact List.nil_sublist _ | exact List.Sublist.refl _ | exact List.sublist_append_right _ _ | (refine List.Sublist.cons_cons _ (List.nil_sublist _)) | (refine List.Sublist.cons_cons _ (List.Sublist.cons_cons _ (List.nil_sublist _))) | (refine List.Sublist.cons_cons _ (List.Sublist.cons_cons _ (List.Sublist.cons_cons _ (List.nil_sublist _)))) | (refine List.Sublist.cons_cons _ (List.Sublist.cons_cons _ (List.Sublist.cons_cons _ (List.Sublist.cons_cons _ (List.nil_sublist _))))) | ((try simp only [List.append_eq, List.cons_append, List.nil_append, List.append_assoc]); (repeat (first | exact List.Sublist.refl _ | exact List.nil_sublist _ | (with_reducible apply List.Sublist.cons_cons) | (with_reducible apply List.Sublist.cons))); done)))
    (repeat (first | ((with_reducible apply XP.p1); (case ho | hg | hv => exact rfl)) | ((with_reducible apply XP.load); (case ho | hg | ht | hk | hx => exact rfl); (case hc => exact own_cell (i := 0) rfl rfl)) | (with_reducible apply XP.b) | (with_reducible apply XB.cons) | ((with_reducible apply XE.e); (case ho => exact rfl))))
    · ((with_reducible apply XOp.callM (R := [_, _, _]) (hF := narrowI_fn rb a1 c1 r1 cf.Width (by omega))); (case hg => exact rfl); (case hc => exact rfl); (case ha => exact rfl); (case hL => exact rfl); try (case hA => exact Known.true))
      case hA => exact Known.of_old (hw.at_ _ hA) (Mono.sl _ _ _ _ _)
      rintro _ _ ⟨a2, c2, x2, F2, rfl, hx2, rfl, hF2, hw2⟩
      generalize hp2 : narrowS r1 cf.Width.toNat = p2 at *
      have hw3 := hw.trans hw2
      (repeat (first | ((with_reducible apply XP.keep); (case hk => first | ((repeat' (first | exact List.forall_mem_nil _ | (with_reducible refine List.forall_mem_cons.2 ⟨?_, ?_⟩) | exact List.mem_cons_self .. | (with_reducible apply List.mem_cons_of_mem) | (with_reducible apply List.mem_append_right))); done) | (intro x hx; first | exact sel_in hx | exact List.mem_cons_of_mem _ (sel_in hx) | exact List.mem_append_right _ (sel_in hx) | exact hx | exact List.mem_cons_of_mem _ hx | exact List.mem_append_right _ hx | ((repeat (first | exact sel_in hx | exact hx | (with_reducible apply List.mem_cons_of_mem) | (with_reducible apply List.mem_append_right))); done) | (rw [List.mem_singleton.1 hx]; (simp; done)) | (rcases List.mem_cons.1 hx with rfl | hx; (simp; done); (rw [List.mem_singleton.1 hx]; (simp; done))) | cases hx))) | (with_reducible apply XP.b) | (with_reducible apply XB.cons) | ((with_reducible apply XE.e); (case ho => exact rfl))))
      skip
      · ((with_reducible apply XOp.callM (R := [_, _, _]) (hF := narrowI_fn rb a2 c2 p2.2 cf.Width (by omega))); (case hg => exact rfl); (case hc => exact rfl); (case ha => exact rfl); (case hL => exact rfl); try (case hA => exact Known.true))
        case hA => exact Known.of_old (hw3.at_ _ hA) (Mono.sl _ _ _ _ _)
        rintro _ _ ⟨a3, c3, x3, F3, rfl, hx3, rfl, hF3, hw4⟩
        (repeat (first | ((with_reducible apply XP.pr); (case ho => exact rfl); (case hg => exact rfl); (case hr => ((with_reducible apply PR.build); (case ht | hk | hok | hz | hf => exact rfl)))) | ((with_reducible apply XP.e); (first | ((with_reducible apply XE.d); (case ho => exact rfl); (case hd => exact rfl)) | ((with_reducible apply XE.e); (case ho => exact rfl)))) | ((with_reducible apply XP.keep); (case hk => first | ((repeat' (first | exact List.forall_mem_nil _ | (with_reducible refine List.forall_mem_cons.2 ⟨?_, ?_⟩) | exact List.mem_cons_self .. | (with_reducible apply List.mem_cons_of_mem) | (with_reducible apply List.mem_append_right))); done) | (intro x hx; first | exact sel_in hx | exact List.mem_cons_of_mem _ (sel_in hx) | exact List.mem_append_right _ (sel_in hx) | exact hx | exact List.mem_cons_of_mem _ hx | exact List.mem_append_right _ hx | ((repeat (first | exact sel_in hx | exact hx | (with_reducible apply List.mem_cons_of_mem) | (with_reducible apply List.mem_append_right))); done) | (rw [List.mem_singleton.1 hx]; (simp; done)) | (rcases List.mem_cons.1 hx with rfl | hx; (simp; done); (rw [List.mem_singleton.1 hx]; (simp; done))) | cases hx)))))
        skip
        ((with_reducible apply XOp.alloc); (case hg | ht | hx' => exact rfl); intro lb)
        (repeat (first | ((with_reducible apply XOp.storeN (i := 0)); (case hg | ht | hx | hv' | hk | h1 | hi | hs | ha => exact rfl)) | (with_reducible apply XQ.nt) | (with_reducible apply XP.done) | ((with_reducible apply XP.e); (first | ((with_reducible apply XE.d); (case ho => exact rfl); (case hd => exact rfl)) | ((with_reducible apply XE.e); (case ho => exact rfl)))) | ((with_reducible apply XP.keep); (case hk => first | ((repeat' (first | exact List.forall_mem_nil _ | (with_reducible refine List.forall_mem_cons.2 ⟨?_, ?_⟩) | exact List.mem_cons_self .. | (with_reducible apply List.mem_cons_of_mem) | (with_reducible apply List.mem_append_right))); done) | (intro x hx; first | exact sel_in hx | exact List.mem_cons_of_mem _ (sel_in hx) | exact List.mem_append_right _ (sel_in hx) | exact hx | exact List.mem_cons_of_mem _ hx | exact List.mem_append_right _ hx | ((repeat (first | exact sel_in hx | exact hx | (with_reducible apply List.mem_cons_of_mem) | (with_reducible apply List.mem_append_right))); done) | (rw [List.mem_singleton.1 hx]; (simp; done)) | (rcases List.mem_cons.1 hx with rfl | hx; (simp; done); (rw [List.mem_singleton.1 hx]; (simp; done))) | cases hx)))))
        skip
        exact ⟨lb, a3, c3, x2, x3, _, hx2, hx3, ⟨F2 ++ F3, OwnAll.cons hF2 hF3.all, by (try simp only [List.append_eq, List.append_nil, List.nil_append]); refine perm_of_cnt fun p_ => ?_; simp only [List.countP_append, List.countP_nil]; omega⟩, hw3.trans hw4, rfl, rfl, rfl, rfl, rfl, rfl, trivial⟩
      · (repeat (first | (with_reducible apply XB.cons) | ((with_reducible apply XE.e); (case ho => exact rfl))))
        ((with_reducible apply XOp.alloc); (case hg | ht | hx' => exact rfl); intro lb)
        (repeat (first | ((with_reducible apply XP.e); (first | ((with_reducible apply XE.d); (case ho => exact rfl); (case hd => exact rfl)) | ((with_reducible apply XE.e); (case ho => exact rfl)))) | ((with_reducible apply XP.keep); (case hk => first | ((repeat' (first | exact List.forall_mem_nil _ | (with_reducible refine List.forall_mem_cons.2 ⟨?_, ?_⟩) | exact List.mem_cons_self .. | (with_reducible apply List.mem_cons_of_mem) | (with_reducible apply List.mem_append_right))); done) | (intro x hx; first | exact sel_in hx | exact List.mem_cons_of_mem _ (sel_in hx) | exact List.mem_append_right _ (sel_in hx) | exact hx | exact List.mem_cons_of_mem _ hx | exact List.mem_append_right _ hx | ((repeat (first | exact sel_in hx | exact hx | (with_reducible apply List.mem_cons_of_mem) | (with_reducible apply List.mem_append_right))); done) | (rw [List.mem_singleton.1 hx]; (simp; done)) | (rcases List.mem_cons.1 hx with rfl | hx; (simp; done); (rw [List.mem_singleton.1 hx]; (simp; done))) | cases hx)))))
        skip
        ((with_reducible apply XOp.callM (R := [_, _, _, _]) (hF := narrowI_fn rb a2 c2 p2.2 cf.Width (by omega))); (case hg => exact rfl); (case hc => exact rfl); (case ha => exact rfl); (case hL => exact rfl); try (case hA => exact Known.true))
        case hA => exact Known.of_old (hw3.at_ _ hA) (Mono.sl _ _ _ _ _)
        rintro _ _ ⟨a3, c3, x3, F3, rfl, hx3, rfl, hF3, hw4⟩
        (repeat (first | ((with_reducible apply XOp.storeN (i := 0)); (case hg | ht | hx | hv' | hk | h1 | hi | hs | ha => exact rfl)) | (with_reducible apply XQ.nt) | ((with_reducible apply XP.pr); (case ho => exact rfl); (case hg => exact rfl); (case hr => ((with_reducible apply PR.build); (case ht | hk | hok | hz | hf => exact rfl)))) | (with_reducible apply XP.done) | ((with_reducible apply XP.e); (first | ((with_reducible apply XE.d); (case ho => exact rfl); (case hd => exact rfl)) | ((with_reducible apply XE.e); (case ho => exact rfl)))) | ((with_reducible apply XP.keep); (case hk => first | ((repeat' (first | exact List.forall_mem_nil _ | (with_reducible refine List.forall_mem_cons.2 ⟨?_, ?_⟩) | exact List.mem_cons_self .. | (with_reducible apply List.mem_cons_of_mem) | (with_reducible apply List.mem_append_right))); done) | (intro x hx; first | exact sel_in hx | exact List.mem_cons_of_mem _ (sel_in hx) | exact List.mem_append_right _ (sel_in hx) | exact hx | exact List.mem_cons_of_mem _ hx | exact List.mem_append_right _ hx | ((repeat (first | exact sel_in hx | exact hx | (with_reducible apply List.mem_cons_of_mem) | (with_reducible apply List.mem_append_right))); done) | (rw [List.mem_singleton.1 hx]; (simp; done)) | (rcases List.mem_cons.1 hx with rfl | hx; (simp; done); (rw [List.mem_singleton.1 hx]; (simp; done))) | cases hx)))))
        skip
        exact ⟨lb, a3, c3, x2, x3, _, hx2, hx3, ⟨F2 ++ F3, OwnAll.cons hF2 hF3.all, by (try simp only [List.append_eq, List.append_nil, List.nil_append]); refine perm_of_cnt fun p_ => ?_; simp only [List.countP_append, List.countP_nil]; omega⟩, hw3.trans hw4, rfl, rfl, rfl, rfl, rfl, rfl, trivial⟩
        exact XB.nil
    · (repeat (first | (with_reducible apply XB.cons) | ((with_reducible apply XE.e); (case ho => exact rfl))))
      ((with_reducible apply XOp.alloc); (case hg | ht | hx' => exact rfl); intro lb)
      (repeat (first | ((with_reducible apply XP.e); (first | ((with_reducible apply XE.d); (case ho => exact rfl); (case hd => exact rfl)) | ((with_reducible apply XE.e); (case ho => exact rfl)))) | ((with_reducible apply XP.keep); (case hk => first | ((repeat' (first | exact List.forall_mem_nil _ | (with_reducible refine List.forall_mem_cons.2 ⟨?_, ?_⟩) | exact List.mem_cons_self .. | (with_reducible apply List.mem_cons_of_mem) | (with_reducible apply List.mem_append_right))); done) | (intro x hx; first | exact sel_in hx | exact List.mem_cons_of_mem _ (sel_in hx) | exact List.mem_append_right _ (sel_in hx) | exact hx | exact List.mem_cons_of_mem _ hx | exact List.mem_append_right _ hx | ((repeat (first | exact sel_in hx | exact hx | (with_reducible apply List.mem_cons_of_mem) | (with_reducible apply List.mem_append_right))); done) | (rw [List.mem_singleton.1 hx]; (simp; done)) | (rcases List.mem_cons.1 hx with rfl | hx; (simp; done); (rw [List.mem_singleton.1 hx]; (simp; done))) | cases hx)))))
      skip
      ((with_reducible apply XOp.callM (R := [_, _, _, _]) (hF := narrowI_fn rb a1 c1 r1 cf.Width (by omega))); (case hg => exact rfl); (case hc => exact rfl); (case ha => exact rfl); (case hL => exact rfl); try (case hA => exact Known.true))
      case hA => exact Known.of_old (hw.at_ _ hA) (Mono.sl _ _ _ _ _)
      rintro _ _ ⟨a2, c2, x2, F2, rfl, hx2, rfl, hF2, hw2⟩
      generalize hp2 : narrowS r1 cf.Width.toNat = p2 at *
      have hw3 := hw.trans hw2
      (repeat (first | ((with_reducible apply XP.e); (first | ((with_reducible apply XE.d); (case ho => exact rfl); (case hd => exact rfl)) | ((with_reducible apply XE.e); (case ho => exact rfl)))) | ((with_reducible apply XP.keep); (case hk => first | ((repeat' (first | exact List.forall_mem_nil _ | (with_reducible refine List.forall_mem_cons.2 ⟨?_, ?_⟩) | exact List.mem_cons_self .. | (with_reducible apply List.mem_cons_of_mem) | (with_reducible apply List.mem_append_right))); done) | (intro x hx; first | exact sel_in hx | exact List.mem_cons_of_mem _ (sel_in hx) | exact List.mem_append_right _ (sel_in hx) | exact hx | exact List.mem_cons_of_mem _ hx | exact List.mem_append_right _ hx | ((repeat (first | exact sel_in hx | exact hx | (with_reducible apply List.mem_cons_of_mem) | (with_reducible apply List.mem_append_right))); done) | (rw [List.mem_singleton.1 hx]; (simp; done)) | (rcases List.mem_cons.1 hx with rfl | hx; (simp; done); (rw [List.mem_singleton.1 hx]; (simp; done))) | cases hx)))))
      skip
      ((with_reducible apply XOp.callM (R := [_, _, _, _]) (hF := narrowI_fn rb a2 c2 p2.2 cf.Width (by omega))); (case hg => exact rfl); (case hc => exact rfl); (case ha => exact rfl); (case hL => exact rfl); try (case hA => exact Known.true))
      case hA => exact Known.of_old (hw3.at_ _ hA) (Mono.sl _ _ _ _ _)
      rintro _ _ ⟨a3, c3, x3, F3, rfl, hx3, rfl, hF3, hw4⟩
      (repeat (first | ((with_reducible apply XOp.storeN (i := 0)); (case hg | ht | hx | hv' | hk | h1 | hi | hs | ha => exact rfl)) | (with_reducible apply XQ.nt) | ((with_reducible apply XP.pr); (case ho => exact rfl); (case hg => exact rfl); (case hr => ((with_reducible apply PR.build); (case ht | hk | hok | hz | hf => exact rfl)))) | (with_reducible apply XP.done) | ((with_reducible apply XP.e); (first | ((with_reducible apply XE.d); (case ho => exact rfl); (case hd => exact rfl)) | ((with_reducible apply XE.e); (case ho => exact rfl)))) | ((with_reducible apply XP.keep); (case hk => first | ((repeat' (first | exact List.forall_mem_nil _ | (with_reducible refine List.forall_mem_cons.2 ⟨?_, ?_⟩) | exact List.mem_cons_self .. | (with_reducible apply List.mem_cons_of_mem) | (with_reducible apply List.mem_append_right))); done) | (intro x hx; first | exact sel_in hx | exact List.mem_cons_of_mem _ (sel_in hx) | exact List.mem_append_right _ (sel_in hx) | exact hx | exact List.mem_cons_of_mem _ hx | exact List.mem_append_right _ hx | ((repeat (first | exact sel_in hx | exact hx | (with_reducible apply List.mem_cons_of_mem) | (with_reducible apply List.mem_append_right))); done) | (rw [List.mem_singleton.1 hx]; (simp; done)) | (rcases List.mem_cons.1 hx with rfl | hx; (simp; done); (rw [List.mem_singleton.1 hx]; (simp; done))) | cases hx)))))
      skip
      exact ⟨lb, a3, c3, x2, x3, _, hx2, hx3, ⟨F2 ++ F3, OwnAll.cons hF2 hF3.all, by (try simp only [List.append_eq, List.append_nil, List.nil_append]); refine perm_of_cnt fun p_ => ?_; simp only [List.countP_append, List.countP_nil]; omega⟩, hw3.trans hw4, rfl, rfl, rfl, rfl, rfl, rfl, trivial⟩
      exact XB.nil
  rintro ρ L ⟨lb, a2, c2, n1, n2, F, h1, h2, hF, hw2, rfl, hs⟩
  refine XC.slots _ hs ?_
  generalize hr2 : (narrowS (narrowS r1 cf.Width.toNat).2 cf.Width.toNat).2 = r2 at *
  (repeat (first | (with_reducible apply XL.op) | ((with_reducible apply XOp.p1); (case hg | hv => exact rfl)) | (with_reducible apply XL.nilT) | (with_reducible apply XC.seq) | (with_reducible apply XC.region (Γ := Γ)) | (with_reducible apply XC.block)))
  refine XC.loopP (fun k ρ L => ∃ (j : Nat) (D : List LM) (aj : Option Addr) (cj : Nat) (G : HL), j + k = 7 ∧ D.length = j ∧ D.map LM.mat = (mst cf r2 j).1 ∧ OwnP (D.map (·.d)) G ∧ Went r (mst cf r2 j).2 a c aj cj ∧ L = [(lb, Obj.cells ⟨(mkL n1 n2 D).cells⟩ 67 (0, 0)), (sb, Obj.cells ⟨shC cf 7⟩ 80 (0, 0)), (rs, Obj.cells ⟨zeroL⟩ 67 (0, 0)), (cb, Obj.cells ⟨cf.cells⟩ 23 (0, 0))] ++ (RdB rb aj cj (mst cf r2 j).2 :: (G ++ F)) ∧ Slots ρ [(0, .pointer (some ⟨rb, 0, none⟩)), (4, .pointer (some ⟨rs, 0, none⟩)), (9, .pointer (some ⟨lb, 0, none⟩)), (46, .slice (some ⟨sb, 0, none⟩) 7 7), (47, .int .i64 7), (48, .int .i64 j)])
    7 ⟨0, [], a2, c2, [], by simp, rfl, rfl, OwnP.nil, hw2, rfl, rfl, rfl, rfl, rfl, rfl, rfl, trivial⟩ ?_
  rintro k ρ L ⟨j, D, aj, cj, G, hjk, hDl, hD, hG, hwj, rfl, hs⟩
  refine XC.slots _ hs ?_
  (repeat (first | (with_reducible apply XL.op) | ((with_reducible apply XOp.p1); (case hg | hv => exact rfl)) | (with_reducible apply XL.nilT) | (with_reducible apply XC.seq) | (with_reducible apply XC.region (Γ := Γ))))
  ((with_reducible apply XC.cond); (case hc => exact rfl); all_goals (intro hb_; try simp only [pd_true, pd_false, Bool.not_eq_true', Bool.not_eq_false', Bool.and_eq_true, Bool.and_eq_false_iff, Bool.or_eq_true, Bool.or_eq_false_iff, not_true_eq_false, not_false_eq_true, Int.not_lt, Int.not_le] at hb_))
  · rcases (by omega : j = 0 ∨ j = 1 ∨ j = 2 ∨ j = 3 ∨ j = 4 ∨ j = 5 ∨ j = 6) with rfl | rfl | rfl | rfl | rfl | rfl | rfl
    · obtain rfl := List.eq_nil_of_length_eq_zero hDl
      (repeat (first | (with_reducible apply XL.op) | ((with_reducible apply XOp.p1); (case hg | hv => exact rfl)) | ((with_reducible apply XOp.loadO (i := 1)); (case hg | ht | hk | hx | hi | hc => exact rfl)) | (with_reducible apply XC.seq) | (with_reducible apply XC.region (Γ := Γ)) | (with_reducible apply XQ.skip) | (with_reducible apply XQ.nt) | (with_reducible apply XC.block)))
      ((with_reducible apply XOp.alloc); (case hg | ht | hx' => exact rfl); intro zb)
      (repeat (first | (with_reducible apply XL.op) | ((with_reducible apply XOp.storeN (i := 0)); (case hg | ht | hx | hv' | hk | h1 | hi | hs | ha => exact rfl)) | (with_reducible apply XL.nilT)))
      ((with_reducible apply XC.regionL (Γ := Γ) mixed (.q 0 (.q 1 (.q 3 (.q 4 (.q 5 (.q 6 (.q 7 (.e 2 (.e 8 (.q 9 (.e 10 (.done)))))))))))) [] ([(zb, Obj.cells ⟨[.func (.func 71) #[] #[], .int .i64 (measS cf 0), .int .i64 (measS cf 0)]⟩ 80 (0, 0))])); (case hc => kernel_rfl); (case hs => first | exact List.nil_sublist _ | exact List.Sublist.refl _ | exact List.sublist_append_right _ _ | (refine List.Sublist.cons_cons _ (List.nil_sublist _)) | (refine List.Sublist.cons_cons _ (List.Sublist.cons_cons _ (List.nil_sublist _))) | (refine List.Sublist.cons_cons _ (List.Sublist.cons_cons _ (List.Sublist.cons_cons _ (List.nil_sublist _)))) | (refine List.Sublist.cons_cons _ (List.Sublist.cons_cons _ (List.Sublist.cons_cons _ (List.Sublist.cons_cons _ (List.nil_sublist _))))) | ((try simp only [List.append_eq, List.cons_append, List.nil_append, List.append_assoc]); (repeat (first | exact List.Sublist.refl _ | exact List.nil_sublist _ | (with_reducible apply List.Sublist.cons_cons) | (with_reducible apply List.Sublist.cons))); done)))
      (repeat (first | ((with_reducible apply XP.p1); (case ho | hg | hv => exact rfl)) | ((with_reducible apply XP.load); (case ho | hg | ht | hk | hx => exact rfl); (case hc => exact own_cell (i := 0) rfl rfl)) | ((with_reducible apply XP.e); (first | ((with_reducible apply XE.d); (case ho => exact rfl); (case hd => exact rfl)) | ((with_reducible apply XE.e); (case ho => exact rfl)))) | ((with_reducible apply XP.keep); (case hk => first | ((repeat' (first | exact List.forall_mem_nil _ | (with_reducible refine List.forall_mem_cons.2 ⟨?_, ?_⟩) | exact List.mem_cons_self .. | (with_reducible apply List.mem_cons_of_mem) | (with_reducible apply List.mem_append_right))); done) | (intro x hx; first | exact sel_in hx | exact List.mem_cons_of_mem _ (sel_in hx) | exact List.mem_append_right _ (sel_in hx) | exact hx | exact List.mem_cons_of_mem _ hx | exact List.mem_append_right _ hx | ((repeat (first | exact sel_in hx | exact hx | (with_reducible apply List.mem_cons_of_mem) | (with_reducible apply List.mem_append_right))); done) | (rw [List.mem_singleton.1 hx]; (simp; done)) | (rcases List.mem_cons.1 hx with rfl | hx; (simp; done); (rw [List.mem_singleton.1 hx]; (simp; done))) | cases hx))) | (((with_reducible apply XOp.callQ (hF := shape1_fn lb 0)); (case hg => exact rfl); (case hc => exact rfl); (case ha => exact rfl); try (case hA => exact Known.true)); rintro _ rfl)))
      ((with_reducible apply XOp.callM (R := [_, _, _, _, _]) (hF := rmatrix_fn rb aj cj (mst cf r2 0).2 (rcS cf 0).1 (rcS cf 0).2 (by have := rc_mul hc 0; omega))); (case hg => exact rfl); (case hc => exact rfl); (case ha => exact rfl); (case hL => exact rfl); try (case hA => exact Known.true))
      case hA => exact Known.of_old (hwj.at_ _ hA) (Mono.sl _ _ _ _ _)
      rintro _ _ ⟨a3, c3, m, F3, rfl, hm, rfl, hF3, hw3⟩
      (repeat (first | (with_reducible apply XL.op) | ((with_reducible apply XOp.p1); (case hg | hv => exact rfl)) | ((with_reducible apply XOp.storeN (i := 1)); (case hg | ht | hx | hv' | hk | h1 | hi | hs | ha => exact rfl)) | (with_reducible apply XL.nilT) | (with_reducible apply XC.region (Γ := Γ)) | (with_reducible apply XQ.nt) | (with_reducible apply XQ.nb) | ((with_reducible apply XP.p1); (case ho | hg | hv => exact rfl)) | (with_reducible apply XP.done) | ((with_reducible apply XP.e); (first | ((with_reducible apply XE.d); (case ho => exact rfl); (case hd => exact rfl)) | ((with_reducible apply XE.e); (case ho => exact rfl)))) | ((with_reducible apply XP.keep); (case hk => first | ((repeat' (first | exact List.forall_mem_nil _ | (with_reducible refine List.forall_mem_cons.2 ⟨?_, ?_⟩) | exact List.mem_cons_self .. | (with_reducible apply List.mem_cons_of_mem) | (with_reducible apply List.mem_append_right))); done) | (intro x hx; first | exact sel_in hx | exact List.mem_cons_of_mem _ (sel_in hx) | exact List.mem_append_right _ (sel_in hx) | exact hx | exact List.mem_cons_of_mem _ hx | exact List.mem_append_right _ hx | ((repeat (first | exact sel_in hx | exact hx | (with_reducible apply List.mem_cons_of_mem) | (with_reducible apply List.mem_append_right))); done) | (rw [List.mem_singleton.1 hx]; (simp; done)) | (rcases List.mem_cons.1 hx with rfl | hx; (simp; done); (rw [List.mem_singleton.1 hx]; (simp; done))) | cases hx)))))
      refine ⟨k - 1, by omega, _, .of (List.sublist_cons_self _ _), 1, [m], a3, c3, F3 ++ G, by omega, rfl, ?_, ?_, hwj.trans hw3, by rw [List.append_assoc]; rfl, rfl, rfl, rfl, rfl, rfl, intS2 (i := 0) (m := 7) (by omega) (by omega), trivial⟩
      · show _ = (mst cf r2 0).1 ++ [_]
        rw [← hD, ← hm]; rfl
      · exact OwnP.snoc hG hF3
    · obtain ⟨d0, rfl⟩ := len1 hDl
      (repeat (first | (with_reducible apply XL.op) | ((with_reducible apply XOp.p1); (case hg | hv => exact rfl)) | ((with_reducible apply XOp.loadO (i := 1)); (case hg | ht | hk | hx | hi | hc => exact rfl)) | (with_reducible apply XC.seq) | (with_reducible apply XC.region (Γ := Γ)) | (with_reducible apply XQ.skip) | (with_reducible apply XQ.nt) | (with_reducible apply XC.block)))
      ((with_reducible apply XOp.alloc); (case hg | ht | hx' => exact rfl); intro zb)
      (repeat (first | (with_reducible apply XL.op) | ((with_reducible apply XOp.storeN (i := 0)); (case hg | ht | hx | hv' | hk | h1 | hi | hs | ha => exact rfl)) | (with_reducible apply XL.nilT)))
      ((with_reducible apply XC.regionL (Γ := Γ) mixed (.q 0 (.q 1 (.q 3 (.q 4 (.q 5 (.q 6 (.q 7 (.e 2 (.e 8 (.q 9 (.e 10 (.done)))))))))))) [] ([(zb, Obj.cells ⟨[.func (.func 72) #[] #[], .int .i64 (measS cf 1), .int .i64 (measS cf 0)]⟩ 80 (0, 0))])); (case hc => kernel_rfl); (case hs => first | exact List.nil_sublist _ | exact List.Sublist.refl _ | exact List.sublist_append_right _ _ | (refine List.Sublist.cons_cons _ (List.nil_sublist _)) | (refine List.Sublist.cons_cons _ (List.Sublist.cons_cons _ (List.nil_sublist _))) | (refine List.Sublist.cons_cons _ (List.Sublist.cons_cons _ (List.Sublist.cons_cons _ (List.nil_sublist _)))) | (refine List.Sublist.cons_cons _ (List.Sublist.cons_cons _ (List.Sublist.cons_cons _ (List.Sublist.cons_cons _ (List.nil_sublist _))))) | ((try simp only [List.append_eq, List.cons_append, List.nil_append, List.append_assoc]); (repeat (first | exact List.Sublist.refl _ | exact List.nil_sublist _ | (with_reducible apply List.Sublist.cons_cons) | (with_reducible apply List.Sublist.cons))); done)))
      (repeat (first | ((with_reducible apply XP.p1); (case ho | hg | hv => exact rfl)) | ((with_reducible apply XP.load); (case ho | hg | ht | hk | hx => exact rfl); (case hc => exact own_cell (i := 0) rfl rfl)) | ((with_reducible apply XP.e); (first | ((with_reducible apply XE.d); (case ho => exact rfl); (case hd => exact rfl)) | ((with_reducible apply XE.e); (case ho => exact rfl)))) | ((with_reducible apply XP.keep); (case hk => first | ((repeat' (first | exact List.forall_mem_nil _ | (with_reducible refine List.forall_mem_cons.2 ⟨?_, ?_⟩) | exact List.mem_cons_self .. | (with_reducible apply List.mem_cons_of_mem) | (with_reducible apply List.mem_append_right))); done) | (intro x hx; first | exact sel_in hx | exact List.mem_cons_of_mem _ (sel_in hx) | exact List.mem_append_right _ (sel_in hx) | exact hx | exact List.mem_cons_of_mem _ hx | exact List.mem_append_right _ hx | ((repeat (first | exact sel_in hx | exact hx | (with_reducible apply List.mem_cons_of_mem) | (with_reducible apply List.mem_append_right))); done) | (rw [List.mem_singleton.1 hx]; (simp; done)) | (rcases List.mem_cons.1 hx with rfl | hx; (simp; done); (rw [List.mem_singleton.1 hx]; (simp; done))) | cases hx))) | (((with_reducible apply XOp.callQ (hF := shape2_fn lb 0)); (case hg => exact rfl); (case hc => exact rfl); (case ha => exact rfl); try (case hA => exact Known.true)); rintro _ rfl)))
      ((with_reducible apply XOp.callM (R := [_, _, _, _, _]) (hF := rmatrix_fn rb aj cj (mst cf r2 1).2 (rcS cf 1).1 (rcS cf 1).2 (by have := rc_mul hc 1; omega))); (case hg => exact rfl); (case hc => exact rfl); (case ha => exact rfl); (case hL => exact rfl); try (case hA => exact Known.true))
      case hA => exact Known.of_old (hwj.at_ _ hA) (Mono.sl _ _ _ _ _)
      rintro _ _ ⟨a3, c3, m, F3, rfl, hm, rfl, hF3, hw3⟩
      (repeat (first | (with_reducible apply XL.op) | ((with_reducible apply XOp.p1); (case hg | hv => exact rfl)) | ((with_reducible apply XOp.storeN (i := 1)); (case hg | ht | hx | hv' | hk | h1 | hi | hs | ha => exact rfl)) | (with_reducible apply XL.nilT) | (with_reducible apply XC.region (Γ := Γ)) | (with_reducible apply XQ.nt) | (with_reducible apply XQ.nb) | ((with_reducible apply XP.p1); (case ho | hg | hv => exact rfl)) | (with_reducible apply XP.done) | ((with_reducible apply XP.e); (first | ((with_reducible apply XE.d); (case ho => exact rfl); (case hd => exact rfl)) | ((with_reducible apply XE.e); (case ho => exact rfl)))) | ((with_reducible apply XP.keep); (case hk => first | ((repeat' (first | exact List.forall_mem_nil _ | (with_reducible refine List.forall_mem_cons.2 ⟨?_, ?_⟩) | exact List.mem_cons_self .. | (with_reducible apply List.mem_cons_of_mem) | (with_reducible apply List.mem_append_right))); done) | (intro x hx; first | exact sel_in hx | exact List.mem_cons_of_mem _ (sel_in hx) | exact List.mem_append_right _ (sel_in hx) | exact hx | exact List.mem_cons_of_mem _ hx | exact List.mem_append_right _ hx | ((repeat (first | exact sel_in hx | exact hx | (with_reducible apply List.mem_cons_of_mem) | (with_reducible apply List.mem_append_right))); done) | (rw [List.mem_singleton.1 hx]; (simp; done)) | (rcases List.mem_cons.1 hx with rfl | hx; (simp; done); (rw [List.mem_singleton.1 hx]; (simp; done))) | cases hx)))))
      refine ⟨k - 1, by omega, _, .of (List.sublist_cons_self _ _), 2, [d0, m], a3, c3, F3 ++ G, by omega, rfl, ?_, ?_, hwj.trans hw3, by rw [List.append_assoc]; rfl, rfl, rfl, rfl, rfl, rfl, intS2 (i := 1) (m := 7) (by omega) (by omega), trivial⟩
      · show _ = (mst cf r2 1).1 ++ [_]
        rw [← hD, ← hm]; rfl
      · exact OwnP.snoc hG hF3
    · obtain ⟨d0, d1, rfl⟩ := len2 hDl
      (repeat (first | (with_reducible apply XL.op) | ((with_reducible apply XOp.p1); (case hg | hv => exact rfl)) | ((with_reducible apply XOp.loadO (i := 1)); (case hg | ht | hk | hx | hi | hc => exact rfl)) | (with_reducible apply XC.seq) | (with_reducible apply XC.region (Γ := Γ)) | (with_reducible apply XQ.skip) | (with_reducible apply XQ.nt) | (with_reducible apply XC.block)))
      ((with_reducible apply XOp.alloc); (case hg | ht | hx' => exact rfl); intro zb)
      (repeat (first | (with_reducible apply XL.op) | ((with_reducible apply XOp.storeN (i := 0)); (case hg | ht | hx | hv' | hk | h1 | hi | hs | ha => exact rfl)) | (with_reducible apply XL.nilT)))
      ((with_reducible apply XC.regionL (Γ := Γ) mixed (.q 0 (.q 1 (.q 3 (.q 4 (.q 5 (.q 6 (.q 7 (.e 2 (.e 8 (.q 9 (.e 10 (.done)))))))))))) [] ([(zb, Obj.cells ⟨[.func (.func 73) #[] #[], .int .i64 (measS cf 1), .int .i64 (measS cf 0)]⟩ 80 (0, 0))])); (case hc => kernel_rfl); (case hs => first | exact List.nil_sublist _ | exact List.Sublist.refl _ | exact List.sublist_append_right _ _ | (refine List.Sublist.cons_cons _ (List.nil_sublist _)) | (refine List.Sublist.cons_cons _ (List.Sublist.cons_cons _ (List.nil_sublist _))) | (refine List.Sublist.cons_cons _ (List.Sublist.cons_cons _ (List.Sublist.cons_cons _ (List.nil_sublist _)))) | (refine List.Sublist.cons_cons _ (List.Sublist.cons_cons _ (List.Sublist.cons_cons _ (List.Sublist.cons_cons _ (List.nil_sublist _))))) | ((try simp only [List.append_eq, List.cons_append, List.nil_append, List.append_assoc]); (repeat (first | exact List.Sublist.refl _ | exact List.nil_sublist _ | (with_reducible apply List.Sublist.cons_cons) | (with_reducible apply List.Sublist.cons))); done)))
      (repeat (first | ((with_reducible apply XP.p1); (case ho | hg | hv => exact rfl)) | ((with_reducible apply XP.load); (case ho | hg | ht | hk | hx => exact rfl); (case hc => exact own_cell (i := 0) rfl rfl)) | ((with_reducible apply XP.e); (first | ((with_reducible apply XE.d); (case ho => exact rfl); (case hd => exact rfl)) | ((with_reducible apply XE.e); (case ho => exact rfl)))) | ((with_reducible apply XP.keep); (case hk => first | ((repeat' (first | exact List.forall_mem_nil _ | (with_reducible refine List.forall_mem_cons.2 ⟨?_, ?_⟩) | exact List.mem_cons_self .. | (with_reducible apply List.mem_cons_of_mem) | (with_reducible apply List.mem_append_right))); done) | (intro x hx; first | exact sel_in hx | exact List.mem_cons_of_mem _ (sel_in hx) | exact List.mem_append_right _ (sel_in hx) | exact hx | exact List.mem_cons_of_mem _ hx | exact List.mem_append_right _ hx | ((repeat (first | exact sel_in hx | exact hx | (with_reducible apply List.mem_cons_of_mem) | (with_reducible apply List.mem_append_right))); done) | (rw [List.mem_singleton.1 hx]; (simp; done)) | (rcases List.mem_cons.1 hx with rfl | hx; (simp; done); (rw [List.mem_singleton.1 hx]; (simp; done))) | cases hx))) | (((with_reducible apply XOp.callQ (hF := shape3_fn lb 0)); (case hg => exact rfl); (case hc => exact rfl); (case ha => exact rfl); try (case hA => exact Known.true)); rintro _ rfl)))
      ((with_reducible apply XOp.callM (R := [_, _, _, _, _]) (hF := rmatrix_fn rb aj cj (mst cf r2 2).2 (rcS cf 2).1 (rcS cf 2).2 (by have := rc_mul hc 2; omega))); (case hg => exact rfl); (case hc => exact rfl); (case ha => exact rfl); (case hL => exact rfl); try (case hA => exact Known.true))
      case hA => exact Known.of_old (hwj.at_ _ hA) (Mono.sl _ _ _ _ _)
      rintro _ _ ⟨a3, c3, m, F3, rfl, hm, rfl, hF3, hw3⟩
      (repeat (first | (with_reducible apply XL.op) | ((with_reducible apply XOp.p1); (case hg | hv => exact rfl)) | ((with_reducible apply XOp.storeN (i := 1)); (case hg | ht | hx | hv' | hk | h1 | hi | hs | ha => exact rfl)) | (with_reducible apply XL.nilT) | (with_reducible apply XC.region (Γ := Γ)) | (with_reducible apply XQ.nt) | (with_reducible apply XQ.nb) | ((with_reducible apply XP.p1); (case ho | hg | hv => exact rfl)) | (with_reducible apply XP.done) | ((with_reducible apply XP.e); (first | ((with_reducible apply XE.d); (case ho => exact rfl); (case hd => exact rfl)) | ((with_reducible apply XE.e); (case ho => exact rfl)))) | ((with_reducible apply XP.keep); (case hk => first | ((repeat' (first | exact List.forall_mem_nil _ | (with_reducible refine List.forall_mem_cons.2 ⟨?_, ?_⟩) | exact List.mem_cons_self .. | (with_reducible apply List.mem_cons_of_mem) | (with_reducible apply List.mem_append_right))); done) | (intro x hx; first | exact sel_in hx | exact List.mem_cons_of_mem _ (sel_in hx) | exact List.mem_append_right _ (sel_in hx) | exact hx | exact List.mem_cons_of_mem _ hx | exact List.mem_append_right _ hx | ((repeat (first | exact sel_in hx | exact hx | (with_reducible apply List.mem_cons_of_mem) | (with_reducible apply List.mem_append_right))); done) | (rw [List.mem_singleton.1 hx]; (simp; done)) | (rcases List.mem_cons.1 hx with rfl | hx; (simp; done); (rw [List.mem_singleton.1 hx]; (simp; done))) | cases hx)))))
      refine ⟨k - 1, by omega, _, .of (List.sublist_cons_self _ _), 3, [d0, d1, m], a3, c3, F3 ++ G, by omega, rfl, ?_, ?_, hwj.trans hw3, by rw [List.append_assoc]; rfl, rfl, rfl, rfl, rfl, rfl, intS2 (i := 2) (m := 7) (by omega) (by omega), trivial⟩
      · show _ = (mst cf r2 2).1 ++ [_]
        rw [← hD, ← hm]; rfl
      · exact OwnP.snoc hG hF3
    · obtain ⟨d0, d1, d2, rfl⟩ := len3 hDl
      (repeat (first | (with_reducible apply XL.op) | ((with_reducible apply XOp.p1); (case hg | hv => exact rfl)) | ((with_reducible apply XOp.loadO (i := 1)); (case hg | ht | hk | hx | hi | hc => exact rfl)) | (with_reducible apply XC.seq) | (with_reducible apply XC.region (Γ := Γ)) | (with_reducible apply XQ.skip) | (with_reducible apply XQ.nt) | (with_reducible apply XC.block)))
      ((with_reducible apply XOp.alloc); (case hg | ht | hx' => exact rfl); intro zb)
      (repeat (first | (with_reducible apply XL.op) | ((with_reducible apply XOp.storeN (i := 0)); (case hg | ht | hx | hv' | hk | h1 | hi | hs | ha => exact rfl)) | (with_reducible apply XL.nilT)))
      ((with_reducible apply XC.regionL (Γ := Γ) mixed (.q 0 (.q 1 (.q 3 (.q 4 (.q 5 (.q 6 (.q 7 (.e 2 (.e 8 (.q 9 (.e 10 (.done)))))))))))) [] ([(zb, Obj.cells ⟨[.func (.func 74) #[] #[], .int .i64 (measS cf 0), .int .i64 (measS cf 0)]⟩ 80 (0, 0))])); (case hc => kernel_rfl); (case hs => first | exact List.nil_sublist _ | exact List.Sublist.refl _ | exact List.sublist_append_right _ _ | (refine List.Sublist.cons_cons _ (List.nil_sublist _)) | (refine List.Sublist.cons_cons _ (List.Sublist.cons_cons _ (List.nil_sublist _))) | (refine List.Sublist.cons_cons _ (List.Sublist.cons_cons _ (List.Sublist.cons_cons _ (List.nil_sublist _)))) | (refine List.Sublist.cons_cons _ (List.Sublist.cons_cons _ (List.Sublist.cons_cons _ (List.Sublist.cons_cons _ (List.nil_sublist _))))) | ((try simp only [List.append_eq, List.cons_append, List.nil_append, List.append_assoc]); (repeat (first | exact List.Sublist.refl _ | exact List.nil_sublist _ | (with_reducible apply List.Sublist.cons_cons) | (with_reducible apply List.Sublist.cons))); done)))
      (repeat (first | ((with_reducible apply XP.p1); (case ho | hg | hv => exact rfl)) | ((with_reducible apply XP.load); (case ho | hg | ht | hk | hx => exact rfl); (case hc => exact own_cell (i := 0) rfl rfl)) | ((with_reducible apply XP.e); (first | ((with_reducible apply XE.d); (case ho => exact rfl); (case hd => exact rfl)) | ((with_reducible apply XE.e); (case ho => exact rfl)))) | ((with_reducible apply XP.keep); (case hk => first | ((repeat' (first | exact List.forall_mem_nil _ | (with_reducible refine List.forall_mem_cons.2 ⟨?_, ?_⟩) | exact List.mem_cons_self .. | (with_reducible apply List.mem_cons_of_mem) | (with_reducible apply List.mem_append_right))); done) | (intro x hx; first | exact sel_in hx | exact List.mem_cons_of_mem _ (sel_in hx) | exact List.mem_append_right _ (sel_in hx) | exact hx | exact List.mem_cons_of_mem _ hx | exact List.mem_append_right _ hx | ((repeat (first | exact sel_in hx | exact hx | (with_reducible apply List.mem_cons_of_mem) | (with_reducible apply List.mem_append_right))); done) | (rw [List.mem_singleton.1 hx]; (simp; done)) | (rcases List.mem_cons.1 hx with rfl | hx; (simp; done); (rw [List.mem_singleton.1 hx]; (simp; done))) | cases hx))) | (((with_reducible apply XOp.callQ (hF := shape4_fn lb 0)); (case hg => exact rfl); (case hc => exact rfl); (case ha => exact rfl); try (case hA => exact Known.true)); rintro _ rfl)))
      ((with_reducible apply XOp.callM (R := [_, _, _, _, _]) (hF := rmatrix_fn rb aj cj (mst cf r2 3).2 (rcS cf 3).1 (rcS cf 3).2 (by have := rc_mul hc 3; omega))); (case hg => exact rfl); (case hc => exact rfl); (case ha => exact rfl); (case hL => exact rfl); try (case hA => exact Known.true))
      case hA => exact Known.of_old (hwj.at_ _ hA) (Mono.sl _ _ _ _ _)
      rintro _ _ ⟨a3, c3, m, F3, rfl, hm, rfl, hF3, hw3⟩
      (repeat (first | (with_reducible apply XL.op) | ((with_reducible apply XOp.p1); (case hg | hv => exact rfl)) | ((with_reducible apply XOp.storeN (i := 1)); (case hg | ht | hx | hv' | hk | h1 | hi | hs | ha => exact rfl)) | (with_reducible apply XL.nilT) | (with_reducible apply XC.region (Γ := Γ)) | (with_reducible apply XQ.nt) | (with_reducible apply XQ.nb) | ((with_reducible apply XP.p1); (case ho | hg | hv => exact rfl)) | (with_reducible apply XP.done) | ((with_reducible apply XP.e); (first | ((with_reducible apply XE.d); (case ho => exact rfl); (case hd => exact rfl)) | ((with_reducible apply XE.e); (case ho => exact rfl)))) | ((with_reducible apply XP.keep); (case hk => first | ((repeat' (first | exact List.forall_mem_nil _ | (with_reducible refine List.forall_mem_cons.2 ⟨?_, ?_⟩) | exact List.mem_cons_self .. | (with_reducible apply List.mem_cons_of_mem) | (with_reducible apply List.mem_append_right))); done) | (intro x hx; first | exact sel_in hx | exact List.mem_cons_of_mem _ (sel_in hx) | exact List.mem_append_right _ (sel_in hx) | exact hx | exact List.mem_cons_of_mem _ hx | exact List.mem_append_right _ hx | ((repeat (first | exact sel_in hx | exact hx | (with_reducible apply List.mem_cons_of_mem) | (with_reducible apply List.mem_append_right))); done) | (rw [List.mem_singleton.1 hx]; (simp; done)) | (rcases List.mem_cons.1 hx with rfl | hx; (simp; done); (rw [List.mem_singleton.1 hx]; (simp; done))) | cases hx)))))
      refine ⟨k - 1, by omega, _, .of (List.sublist_cons_self _ _), 4, [d0, d1, d2, m], a3, c3, F3 ++ G, by omega, rfl, ?_, ?_, hwj.trans hw3, by rw [List.append_assoc]; rfl, rfl, rfl, rfl, rfl, rfl, intS2 (i := 3) (m := 7) (by omega) (by omega), trivial⟩
      · show _ = (mst cf r2 3).1 ++ [_]
        rw [← hD, ← hm]; rfl
      · exact OwnP.snoc hG hF3
    · obtain ⟨d0, d1, d2, d3, rfl⟩ := len4 hDl
      (repeat (first | (with_reducible apply XL.op) | ((with_reducible apply XOp.p1); (case hg | hv => exact rfl)) | ((with_reducible apply XOp.loadO (i := 1)); (case hg | ht | hk | hx | hi | hc => exact rfl)) | (with_reducible apply XC.seq) | (with_reducible apply XC.region (Γ := Γ)) | (with_reducible apply XQ.skip) | (with_reducible apply XQ.nt) | (with_reducible apply XC.block)))
      ((with_reducible apply XOp.alloc); (case hg | ht | hx' => exact rfl); intro zb)
      (repeat (first | (with_reducible apply XL.op) | ((with_reducible apply XOp.storeN (i := 0)); (case hg | ht | hx | hv' | hk | h1 | hi | hs | ha => exact rfl)) | (with_reducible apply XL.nilT)))
      ((with_reducible apply XC.regionL (Γ := Γ) mixed (.q 0 (.q 1 (.q 3 (.q 4 (.q 5 (.q 6 (.q 7 (.e 2 (.e 8 (.q 9 (.e 10 (.done)))))))))))) [] ([(zb, Obj.cells ⟨[.func (.func 75) #[] #[], .int .i64 (measS cf 2), .int .i64 (measS cf 0)]⟩ 80 (0, 0))])); (case hc => kernel_rfl); (case hs => first | exact List.nil_sublist _ | exact List.Sublist.refl _ | exact List.sublist_append_right _ _ | (refine List.Sublist.cons_cons _ (List.nil_sublist _)) | (refine List.Sublist.cons_cons _ (List.Sublist.cons_cons _ (List.nil_sublist _))) | (refine List.Sublist.cons_cons _ (List.Sublist.cons_cons _ (List.Sublist.cons_cons _ (List.nil_sublist _)))) | (refine List.Sublist.cons_cons _ (List.Sublist.cons_cons _ (List.Sublist.cons_cons _ (List.Sublist.cons_cons _ (List.nil_sublist _))))) | ((try simp only [List.append_eq, List.cons_append, List.nil_append, List.append_assoc]); (repeat (first | exact List.Sublist.refl _ | exact List.nil_sublist _ | (with_reducible apply List.Sublist.cons_cons) | (with_reducible apply List.Sublist.cons))); done)))
      (repeat (first | ((with_reducible apply XP.p1); (case ho | hg | hv => exact rfl)) | ((with_reducible apply XP.load); (case ho | hg | ht | hk | hx => exact rfl); (case hc => exact own_cell (i := 0) rfl rfl)) | ((with_reducible apply XP.e); (first | ((with_reducible apply XE.d); (case ho => exact rfl); (case hd => exact rfl)) | ((with_reducible apply XE.e); (case ho => exact rfl)))) | ((with_reducible apply XP.keep); (case hk => first | ((repeat' (first | exact List.forall_mem_nil _ | (with_reducible refine List.forall_mem_cons.2 ⟨?_, ?_⟩) | exact List.mem_cons_self .. | (with_reducible apply List.mem_cons_of_mem) | (with_reducible apply List.mem_append_right))); done) | (intro x hx; first | exact sel_in hx | exact List.mem_cons_of_mem _ (sel_in hx) | exact List.mem_append_right _ (sel_in hx) | exact hx | exact List.mem_cons_of_mem _ hx | exact List.mem_append_right _ hx | ((repeat (first | exact sel_in hx | exact hx | (with_reducible apply List.mem_cons_of_mem) | (with_reducible apply List.mem_append_right))); done) | (rw [List.mem_singleton.1 hx]; (simp; done)) | (rcases List.mem_cons.1 hx with rfl | hx; (simp; done); (rw [List.mem_singleton.1 hx]; (simp; done))) | cases hx))) | (((with_reducible apply XOp.callQ (hF := shape5_fn lb 0)); (case hg => exact rfl); (case hc => exact rfl); (case ha => exact rfl); try (case hA => exact Known.true)); rintro _ rfl)))
      ((with_reducible apply XOp.callM (R := [_, _, _, _, _]) (hF := rmatrix_fn rb aj cj (mst cf r2 4).2 (rcS cf 4).1 (rcS cf 4).2 (by have := rc_mul hc 4; omega))); (case hg => exact rfl); (case hc => exact rfl); (case ha => exact rfl); (case hL => exact rfl); try (case hA => exact Known.true))
      case hA => exact Known.of_old (hwj.at_ _ hA) (Mono.sl _ _ _ _ _)
      rintro _ _ ⟨a3, c3, m, F3, rfl, hm, rfl, hF3, hw3⟩
      (repeat (first | (with_reducible apply XL.op) | ((with_reducible apply XOp.p1); (case hg | hv => exact rfl)) | ((with_reducible apply XOp.storeN (i := 1)); (case hg | ht | hx | hv' | hk | h1 | hi | hs | ha => exact rfl)) | (with_reducible apply XL.nilT) | (with_reducible apply XC.region (Γ := Γ)) | (with_reducible apply XQ.nt) | (with_reducible apply XQ.nb) | ((with_reducible apply XP.p1); (case ho | hg | hv => exact rfl)) | (with_reducible apply XP.done) | ((with_reducible apply XP.e); (first | ((with_reducible apply XE.d); (case ho => exact rfl); (case hd => exact rfl)) | ((with_reducible apply XE.e); (case ho => exact rfl)))) | ((with_reducible apply XP.keep); (case hk => first | ((repeat' (first | exact List.forall_mem_nil _ | (with_reducible refine List.forall_mem_cons.2 ⟨?_, ?_⟩) | exact List.mem_cons_self .. | (with_reducible apply List.mem_cons_of_mem) | (with_reducible apply List.mem_append_right))); done) | (intro x hx; first | exact sel_in hx | exact List.mem_cons_of_mem _ (sel_in hx) | exact List.mem_append_right _ (sel_in hx) | exact hx | exact List.mem_cons_of_mem _ hx | exact List.mem_append_right _ hx | ((repeat (first | exact sel_in hx | exact hx | (with_reducible apply List.mem_cons_of_mem) | (with_reducible apply List.mem_append_right))); done) | (rw [List.mem_singleton.1 hx]; (simp; done)) | (rcases List.mem_cons.1 hx with rfl | hx; (simp; done); (rw [List.mem_singleton.1 hx]; (simp; done))) | cases hx)))))
      refine ⟨k - 1, by omega, _, .of (List.sublist_cons_self _ _), 5, [d0, d1, d2, d3, m], a3, c3, F3 ++ G, by omega, rfl, ?_, ?_, hwj.trans hw3, by rw [List.append_assoc]; rfl, rfl, rfl, rfl, rfl, rfl, intS2 (i := 4) (m := 7) (by omega) (by omega), trivial⟩
      · show _ = (mst cf r2 4).1 ++ [_]
        rw [← hD, ← hm]; rfl
      · exact OwnP.snoc hG hF3
    · obtain ⟨d0, d1, d2, d3, d4, rfl⟩ := len5 hDl
      (repeat (first | (with_reducible apply XL.op) | ((with_reducible apply XOp.p1); (case hg | hv => exact rfl)) | ((with_reducible apply XOp.loadO (i := 1)); (case hg | ht | hk | hx | hi | hc => exact rfl)) | (with_reducible apply XC.seq) | (with_reducible apply XC.region (Γ := Γ)) | (with_reducible apply XQ.skip) | (with_reducible apply XQ.nt) | (with_reducible apply XC.block)))
      ((with_reducible apply XOp.alloc); (case hg | ht | hx' => exact rfl); intro zb)
      (repeat (first | (with_reducible apply XL.op) | ((with_reducible apply XOp.storeN (i := 0)); (case hg | ht | hx | hv' | hk | h1 | hi | hs | ha => exact rfl)) | (with_reducible apply XL.nilT)))
      ((with_reducible apply XC.regionL (Γ := Γ) mixed (.q 0 (.q 1 (.q 3 (.q 4 (.q 5 (.q 6 (.q 7 (.e 2 (.e 8 (.q 9 (.e 10 (.done)))))))))))) [] ([(zb, Obj.cells ⟨[.func (.func 76) #[] #[], .int .i64 (measS cf 2), .int .i64 (measS cf 0)]⟩ 80 (0, 0))])); (case hc => kernel_rfl); (case hs => first | exact List.nil_sublist _ | exact List.Sublist.refl _ | exact List.sublist_append_right _ _ | (refine List.Sublist.cons_cons _ (List.nil_sublist _)) | (refine List.Sublist.cons_cons _ (List.Sublist.cons_cons _ (List.nil_sublist _))) | (refine List.Sublist.cons_cons _ (List.Sublist.cons_cons _ (List.Sublist.cons_cons _ (List.nil_sublist _)))) | (refine List.Sublist.cons_cons _ (List.Sublist.cons_cons _ (List.Sublist.cons_cons _ (List.Sublist.cons_cons _ (List.nil_sublist _))))) | ((try simp only [List.append_eq, List.cons_append, List.nil_append, List.append_assoc]); (repeat (first | exact List.Sublist.refl _ | exact List.nil_sublist _ | (with_reducible apply List.Sublist.cons_cons) | (with_reducible apply List.Sublist.cons))); done)))
      (repeat (first | ((with_reducible apply XP.p1); (case ho | hg | hv => exact rfl)) | ((with_reducible apply XP.load); (case ho | hg | ht | hk | hx => exact rfl); (case hc => exact own_cell (i := 0) rfl rfl)) | ((with_reducible apply XP.e); (first | ((with_reducible apply XE.d); (case ho => exact rfl); (case hd => exact rfl)) | ((with_reducible apply XE.e); (case ho => exact rfl)))) | ((with_reducible apply XP.keep); (case hk => first | ((repeat' (first | exact List.forall_mem_nil _ | (with_reducible refine List.forall_mem_cons.2 ⟨?_, ?_⟩) | exact List.mem_cons_self .. | (with_reducible apply List.mem_cons_of_mem) | (with_reducible apply List.mem_append_right))); done) | (intro x hx; first | exact sel_in hx | exact List.mem_cons_of_mem _ (sel_in hx) | exact List.mem_append_right _ (sel_in hx) | exact hx | exact List.mem_cons_of_mem _ hx | exact List.mem_append_right _ hx | ((repeat (first | exact sel_in hx | exact hx | (with_reducible apply List.mem_cons_of_mem) | (with_reducible apply List.mem_append_right))); done) | (rw [List.mem_singleton.1 hx]; (simp; done)) | (rcases List.mem_cons.1 hx with rfl | hx; (simp; done); (rw [List.mem_singleton.1 hx]; (simp; done))) | cases hx))) | (((with_reducible apply XOp.callQ (hF := shape6_fn lb 0)); (case hg => exact rfl); (case hc => exact rfl); (case ha => exact rfl); try (case hA => exact Known.true)); rintro _ rfl)))
      ((with_reducible apply XOp.callM (R := [_, _, _, _, _]) (hF := rmatrix_fn rb aj cj (mst cf r2 5).2 (rcS cf 5).1 (rcS cf 5).2 (by have := rc_mul hc 5; omega))); (case hg => exact rfl); (case hc => exact rfl); (case ha => exact rfl); (case hL => exact rfl); try (case hA => exact Known.true))
      case hA => exact Known.of_old (hwj.at_ _ hA) (Mono.sl _ _ _ _ _)
      rintro _ _ ⟨a3, c3, m, F3, rfl, hm, rfl, hF3, hw3⟩
      (repeat (first | (with_reducible apply XL.op) | ((with_reducible apply XOp.p1); (case hg | hv => exact rfl)) | ((with_reducible apply XOp.storeN (i := 1)); (case hg | ht | hx | hv' | hk | h1 | hi | hs | ha => exact rfl)) | (with_reducible apply XL.nilT) | (with_reducible apply XC.region (Γ := Γ)) | (with_reducible apply XQ.nt) | (with_reducible apply XQ.nb) | ((with_reducible apply XP.p1); (case ho | hg | hv => exact rfl)) | (with_reducible apply XP.done) | ((with_reducible apply XP.e); (first | ((with_reducible apply XE.d); (case ho => exact rfl); (case hd => exact rfl)) | ((with_reducible apply XE.e); (case ho => exact rfl)))) | ((with_reducible apply XP.keep); (case hk => first | ((repeat' (first | exact List.forall_mem_nil _ | (with_reducible refine List.forall_mem_cons.2 ⟨?_, ?_⟩) | exact List.mem_cons_self .. | (with_reducible apply List.mem_cons_of_mem) | (with_reducible apply List.mem_append_right))); done) | (intro x hx; first | exact sel_in hx | exact List.mem_cons_of_mem _ (sel_in hx) | exact List.mem_append_right _ (sel_in hx) | exact hx | exact List.mem_cons_of_mem _ hx | exact List.mem_append_right _ hx | ((repeat (first | exact sel_in hx | exact hx | (with_reducible apply List.mem_cons_of_mem) | (with_reducible apply List.mem_append_right))); done) | (rw [List.mem_singleton.1 hx]; (simp; done)) | (rcases List.mem_cons.1 hx with rfl | hx; (simp; done); (rw [List.mem_singleton.1 hx]; (simp; done))) | cases hx)))))
      refine ⟨k - 1, by omega, _, .of (List.sublist_cons_self _ _), 6, [d0, d1, d2, d3, d4, m], a3, c3, F3 ++ G, by omega, rfl, ?_, ?_, hwj.trans hw3, by rw [List.append_assoc]; rfl, rfl, rfl, rfl, rfl, rfl, intS2 (i := 5) (m := 7) (by omega) (by omega), trivial⟩
      · show _ = (mst cf r2 5).1 ++ [_]
        rw [← hD, ← hm]; rfl
      · exact OwnP.snoc hG hF3
    · obtain ⟨d0, d1, d2, d3, d4, d5, rfl⟩ := len6 hDl
      (repeat (first | (with_reducible apply XL.op) | ((with_reducible apply XOp.p1); (case hg | hv => exact rfl)) | ((with_reducible apply XOp.loadO (i := 1)); (case hg | ht | hk | hx | hi | hc => exact rfl)) | (with_reducible apply XC.seq) | (with_reducible apply XC.region (Γ := Γ)) | (with_reducible apply XQ.skip) | (with_reducible apply XQ.nt) | (with_reducible apply XC.block)))
      ((with_reducible apply XOp.alloc); (case hg | ht | hx' => exact rfl); intro zb)
      (repeat (first | (with_reducible apply XL.op) | ((with_reducible apply XOp.storeN (i := 0)); (case hg | ht | hx | hv' | hk | h1 | hi | hs | ha => exact rfl)) | (with_reducible apply XL.nilT)))
      ((with_reducible apply XC.regionL (Γ := Γ) mixed (.q 0 (.q 1 (.q 3 (.q 4 (.q 5 (.q 6 (.q 7 (.e 2 (.e 8 (.q 9 (.e 10 (.done)))))))))))) [] ([(zb, Obj.cells ⟨[.func (.func 77) #[] #[], .int .i64 (measS cf 0), .int .i64 (measS cf 2)]⟩ 80 (0, 0))])); (case hc => kernel_rfl); (case hs => first | exact List.nil_sublist _ | exact List.Sublist.refl _ | exact List.sublist_append_right _ _ | (refine List.Sublist.cons_cons _ (List.nil_sublist _)) | (refine List.Sublist.cons_cons _ (List.Sublist.cons_cons _ (List.nil_sublist _))) | (refine List.Sublist.cons_cons _ (List.Sublist.cons_cons _ (List.Sublist.cons_cons _ (List.nil_sublist _)))) | (refine List.Sublist.cons_cons _ (List.Sublist.cons_cons _ (List.Sublist.cons_cons _ (List.Sublist.cons_cons _ (List.nil_sublist _))))) | ((try simp only [List.append_eq, List.cons_append, List.nil_append, List.append_assoc]); (repeat (first | exact List.Sublist.refl _ | exact List.nil_sublist _ | (with_reducible apply List.Sublist.cons_cons) | (with_reducible apply List.Sublist.cons))); done)))
      (repeat (first | ((with_reducible apply XP.p1); (case ho | hg | hv => exact rfl)) | ((with_reducible apply XP.load); (case ho | hg | ht | hk | hx => exact rfl); (case hc => exact own_cell (i := 0) rfl rfl)) | ((with_reducible apply XP.e); (first | ((with_reducible apply XE.d); (case ho => exact rfl); (case hd => exact rfl)) | ((with_reducible apply XE.e); (case ho => exact rfl)))) | ((with_reducible apply XP.keep); (case hk => first | ((repeat' (first | exact List.forall_mem_nil _ | (with_reducible refine List.forall_mem_cons.2 ⟨?_, ?_⟩) | exact List.mem_cons_self .. | (with_reducible apply List.mem_cons_of_mem) | (with_reducible apply List.mem_append_right))); done) | (intro x hx; first | exact sel_in hx | exact List.mem_cons_of_mem _ (sel_in hx) | exact List.mem_append_right _ (sel_in hx) | exact hx | exact List.mem_cons_of_mem _ hx | exact List.mem_append_right _ hx | ((repeat (first | exact sel_in hx | exact hx | (with_reducible apply List.mem_cons_of_mem) | (with_reducible apply List.mem_append_right))); done) | (rw [List.mem_singleton.1 hx]; (simp; done)) | (rcases List.mem_cons.1 hx with rfl | hx; (simp; done); (rw [List.mem_singleton.1 hx]; (simp; done))) | cases hx))) | (((with_reducible apply XOp.callQ (hF := shape7_fn lb 0)); (case hg => exact rfl); (case hc => exact rfl); (case ha => exact rfl); try (case hA => exact Known.true)); rintro _ rfl)))
      ((with_reducible apply XOp.callM (R := [_, _, _, _, _]) (hF := rmatrix_fn rb aj cj (mst cf r2 6).2 (rcS cf 6).1 (rcS cf 6).2 (by have := rc_mul hc 6; omega))); (case hg => exact rfl); (case hc => exact rfl); (case ha => exact rfl); (case hL => exact rfl); try (case hA => exact Known.true))
      case hA => exact Known.of_old (hwj.at_ _ hA) (Mono.sl _ _ _ _ _)
      rintro _ _ ⟨a3, c3, m, F3, rfl, hm, rfl, hF3, hw3⟩
      (repeat (first | (with_reducible apply XL.op) | ((with_reducible apply XOp.p1); (case hg | hv => exact rfl)) | ((with_reducible apply XOp.storeN (i := 1)); (case hg | ht | hx | hv' | hk | h1 | hi | hs | ha => exact rfl)) | (with_reducible apply XL.nilT) | (with_reducible apply XC.region (Γ := Γ)) | (with_reducible apply XQ.nt) | (with_reducible apply XQ.nb) | ((with_reducible apply XP.p1); (case ho | hg | hv => exact rfl)) | (with_reducible apply XP.done) | ((with_reducible apply XP.e); (first | ((with_reducible apply XE.d); (case ho => exact rfl); (case hd => exact rfl)) | ((with_reducible apply XE.e); (case ho => exact rfl)))) | ((with_reducible apply XP.keep); (case hk => first | ((repeat' (first | exact List.forall_mem_nil _ | (with_reducible refine List.forall_mem_cons.2 ⟨?_, ?_⟩) | exact List.mem_cons_self .. | (with_reducible apply List.mem_cons_of_mem) | (with_reducible apply List.mem_append_right))); done) | (intro x hx; first | exact sel_in hx | exact List.mem_cons_of_mem _ (sel_in hx) | exact List.mem_append_right _ (sel_in hx) | exact hx | exact List.mem_cons_of_mem _ hx | exact List.mem_append_right _ hx | ((repeat (first | exact sel_in hx | exact hx | (with_reducible apply List.mem_cons_of_mem) | (with_reducible apply List.mem_append_right))); done) | (rw [List.mem_singleton.1 hx]; (simp; done)) | (rcases List.mem_cons.1 hx with rfl | hx; (simp; done); (rw [List.mem_singleton.1 hx]; (simp; done))) | cases hx)))))
      refine ⟨k - 1, by omega, _, .of (List.sublist_cons_self _ _), 7, [d0, d1, d2, d3, d4, d5, m], a3, c3, F3 ++ G, by omega, rfl, ?_, ?_, hwj.trans hw3, by rw [List.append_assoc]; rfl, rfl, rfl, rfl, rfl, rfl, intS2 (i := 6) (m := 7) (by omega) (by omega), trivial⟩
      · show _ = (mst cf r2 6).1 ++ [_]
        rw [← hD, ← hm]; rfl
      · exact OwnP.snoc hG hF3
  obtain rfl : j = 7 := by omega
  obtain ⟨d0, d1, d2, d3, d4, d5, d6, rfl⟩ := len7 hDl
  clear hs hjk
  (repeat (first | (with_reducible apply XL.op) | ((with_reducible apply XOp.p1); (case hg | hv => exact rfl)) | (with_reducible apply XC.seq) | (with_reducible apply XC.region (Γ := Γ)) | (with_reducible apply XQ.exit) | (with_reducible apply XQ.nt) | (with_reducible apply XQ.et) | ((with_reducible apply XQ.eb); (case hb => exact rfl))))
  ((with_reducible apply XOp.callM (R := [_, _, _, _]) (hF := take_fn rb aj cj (mst cf r2 7).2 7 (by omega))); (case hg => exact rfl); (case hc => exact rfl); (case ha => exact rfl); (case hL => exact rfl); try (case hA => exact Known.true))
  case hA => exact Known.of_old (hwj.at_ _ hA) (Mono.sl _ _ _ _ _)
  rintro _ _ ⟨a9, c9, ao, F9, rfl, rfl, hout, hw9, hat⟩
  have hA7 := hwj.at_ _ hA
  have hB7 : isB (mst cf r2 7).2.rest := fun y hy => inK_u8.1 (hA7.okAll y hy)
  have hBo := takeS_isB hB7 7
  obtain ⟨o0, o1, o2, o3, o4, o5, o6, ho⟩ := len7 (takeS_len (mst cf r2 7).2 7)
  have hK : ∀ {L : HL}, (∀ x ∈ F9, x ∈ L) → Known w0 (keys [RdB rb a c r]) L (fun h => byAt h [o0, o1, o2, o3, o4, o5, o6] ao 7) := fun s => ho ▸ known_out (Known.of_old hA7 (Mono.sl _ _ _ _ _)) hout s
  rw [ho] at hBo
  have hwr : ∀ o ∈ [o0, o1, o2, o3, o4, o5, o6], IntKind.i64.wrap o = o := fun o h => by have := hBo o h; exact wrap64_of (by omega) (by omega)
  have v0 := hwr o0 (by simp); have v1 := hwr o1 (by simp); have v2 := hwr o2 (by simp); have v3 := hwr o3 (by simp); have v4 := hwr o4 (by simp); have v5 := hwr o5 (by simp); have v6 := hwr o6 (by simp)
  (repeat (first | (with_reducible apply XL.op) | ((with_reducible apply XOp.p1); (case hg | hv => exact rfl)) | (with_reducible apply XL.nilT) | (with_reducible apply XC.block)))
  refine XC.loopP (fun k ρ L => ∃ i : Nat, i + k = 7 ∧ L = [(lb, Obj.cells ⟨byC (mkL n1 n2 [d0, d1, d2, d3, d4, d5, d6]).cells i [o0, o1, o2, o3, o4, o5, o6]⟩ 67 (0, 0)), (sb, Obj.cells ⟨shC cf 7⟩ 80 (0, 0)), (rs, Obj.cells ⟨zeroL⟩ 67 (0, 0)), (cb, Obj.cells ⟨cf.cells⟩ 23 (0, 0))] ++ ((RdB rb a9 c9 (takeS (mst cf r2 7).2 7).2 :: F9) ++ (G ++ F)) ∧ Slots ρ [(4, .pointer (some ⟨rs, 0, none⟩)), (9, .pointer (some ⟨lb, 0, none⟩)), (64, .slice ao 7 7), (65, .int .i64 7), (66, .int .i64 i)])
    7 ⟨0, by simp, rfl, rfl, rfl, rfl, rfl, rfl, trivial⟩ ?_
  rintro k ρ L ⟨i, hik, rfl, hs⟩
  refine XC.slots _ hs ?_
  (repeat (first | (with_reducible apply XL.op) | ((with_reducible apply XOp.p1); (case hg | hv => exact rfl)) | (with_reducible apply XL.nilT) | (with_reducible apply XC.seq) | (with_reducible apply XC.region (Γ := Γ))))
  ((with_reducible apply XC.cond); (case hc => exact rfl); all_goals (intro hb_; try simp only [pd_true, pd_false, Bool.not_eq_true', Bool.not_eq_false', Bool.and_eq_true, Bool.and_eq_false_iff, Bool.or_eq_true, Bool.or_eq_false_iff, not_true_eq_false, not_false_eq_true, Int.not_lt, Int.not_le] at hb_))
  · rcases (by omega : i = 0 ∨ i = 1 ∨ i = 2 ∨ i = 3 ∨ i = 4 ∨ i = 5 ∨ i = 6) with rfl | rfl | rfl | rfl | rfl | rfl | rfl
    · (repeat (first | (with_reducible apply XL.op) | ((with_reducible apply XOp.p1); (case hg | hv => exact rfl)) | ((with_reducible apply XOp.store (i := 0)); (case hg | ht | hk | hx | hv | h1 | hi | hs | ha => exact rfl)) | ((with_reducible apply XOp.pr); (case hg => exact rfl); (case hr => ((with_reducible apply PR.idxA); (case ht | hk | he | hx | hi => exact rfl); (case hr => first | assumption | omega); (case ha => first | assumption | exact SlA.at_ (by assumption))))) | (with_reducible apply XL.nilT) | (with_reducible apply XC.seq) | (with_reducible apply XC.region (Γ := Γ)) | (with_reducible apply XL.nilQ) | (with_reducible apply XQ.skip) | (with_reducible apply XQ.nt) | (with_reducible apply XQ.nb) | (with_reducible apply XC.block) | (first | ((with_reducible apply XOp.load); (case hg | ht | hk | hx => exact rfl); (case hc => exact (hK (fun y hy => by simp [hy])).imp fun h s => (s.int 0 (by simp)).1)) | ((with_reducible apply XP.load); (case ho | hg | ht | hk | hx => exact rfl); (case hc => exact (hK (fun y hy => by simp [hy])).imp fun h s => (s.int 0 (by simp)).1)))))
      refine ⟨k - 1, by omega, _, .of (List.Sublist.refl _), 1, by omega, ?_, rfl, rfl, rfl, rfl, intS2 (i := 0) (m := 7) (by omega) (by omega), trivial⟩
      rw [show IntKind.i64.wrap ([o0, o1, o2, o3, o4, o5, o6][0]?.getD 0) = o0 from v0]; rfl
    · (repeat (first | (with_reducible apply XL.op) | ((with_reducible apply XOp.p1); (case hg | hv => exact rfl)) | ((with_reducible apply XOp.store (i := 0)); (case hg | ht | hk | hx | hv | h1 | hi | hs | ha => exact rfl)) | ((with_reducible apply XOp.pr); (case hg => exact rfl); (case hr => ((with_reducible apply PR.idxA); (case ht | hk | he | hx | hi => exact rfl); (case hr => first | assumption | omega); (case ha => first | assumption | exact SlA.at_ (by assumption))))) | (with_reducible apply XL.nilT) | (with_reducible apply XC.seq) | (with_reducible apply XC.region (Γ := Γ)) | (with_reducible apply XL.nilQ) | (with_reducible apply XQ.skip) | (with_reducible apply XQ.nt) | (with_reducible apply XQ.nb) | (with_reducible apply XC.block) | (first | ((with_reducible apply XOp.load); (case hg | ht | hk | hx => exact rfl); (case hc => exact (hK (fun y hy => by simp [hy])).imp fun h s => (s.int 1 (by simp)).1)) | ((with_reducible apply XP.load); (case ho | hg | ht | hk | hx => exact rfl); (case hc => exact (hK (fun y hy => by simp [hy])).imp fun h s => (s.int 1 (by simp)).1)))))
      refine ⟨k - 1, by omega, _, .of (List.Sublist.refl _), 2, by omega, ?_, rfl, rfl, rfl, rfl, intS2 (i := 1) (m := 7) (by omega) (by omega), trivial⟩
      rw [show IntKind.i64.wrap ([o0, o1, o2, o3, o4, o5, o6][1]?.getD 0) = o1 from v1]; rfl
    · (repeat (first | (with_reducible apply XL.op) | ((with_reducible apply XOp.p1); (case hg | hv => exact rfl)) | ((with_reducible apply XOp.store (i := 0)); (case hg | ht | hk | hx | hv | h1 | hi | hs | ha => exact rfl)) | ((with_reducible apply XOp.pr); (case hg => exact rfl); (case hr => ((with_reducible apply PR.idxA); (case ht | hk | he | hx | hi => exact rfl); (case hr => first | assumption | omega); (case ha => first | assumption | exact SlA.at_ (by assumption))))) | (with_reducible apply XL.nilT) | (with_reducible apply XC.seq) | (with_reducible apply XC.region (Γ := Γ)) | (with_reducible apply XL.nilQ) | (with_reducible apply XQ.skip) | (with_reducible apply XQ.nt) | (with_reducible apply XQ.nb) | (with_reducible apply XC.block) | (first | ((with_reducible apply XOp.load); (case hg | ht | hk | hx => exact rfl); (case hc => exact (hK (fun y hy => by simp [hy])).imp fun h s => (s.int 2 (by simp)).1)) | ((with_reducible apply XP.load); (case ho | hg | ht | hk | hx => exact rfl); (case hc => exact (hK (fun y hy => by simp [hy])).imp fun h s => (s.int 2 (by simp)).1)))))
      refine ⟨k - 1, by omega, _, .of (List.Sublist.refl _), 3, by omega, ?_, rfl, rfl, rfl, rfl, intS2 (i := 2) (m := 7) (by omega) (by omega), trivial⟩
      rw [show IntKind.i64.wrap ([o0, o1, o2, o3, o4, o5, o6][2]?.getD 0) = o2 from v2]; rfl
    · (repeat (first | (with_reducible apply XL.op) | ((with_reducible apply XOp.p1); (case hg | hv => exact rfl)) | ((with_reducible apply XOp.store (i := 0)); (case hg | ht | hk | hx | hv | h1 | hi | hs | ha => exact rfl)) | ((with_reducible apply XOp.pr); (case hg => exact rfl); (case hr => ((with_reducible apply PR.idxA); (case ht | hk | he | hx | hi => exact rfl); (case hr => first | assumption | omega); (case ha => first | assumption | exact SlA.at_ (by assumption))))) | (with_reducible apply XL.nilT) | (with_reducible apply XC.seq) | (with_reducible apply XC.region (Γ := Γ)) | (with_reducible apply XL.nilQ) | (with_reducible apply XQ.skip) | (with_reducible apply XQ.nt) | (with_reducible apply XQ.nb) | (with_reducible apply XC.block) | (first | ((with_reducible apply XOp.load); (case hg | ht | hk | hx => exact rfl); (case hc => exact (hK (fun y hy => by simp [hy])).imp fun h s => (s.int 3 (by simp)).1)) | ((with_reducible apply XP.load); (case ho | hg | ht | hk | hx => exact rfl); (case hc => exact (hK (fun y hy => by simp [hy])).imp fun h s => (s.int 3 (by simp)).1)))))
      refine ⟨k - 1, by omega, _, .of (List.Sublist.refl _), 4, by omega, ?_, rfl, rfl, rfl, rfl, intS2 (i := 3) (m := 7) (by omega) (by omega), trivial⟩
      rw [show IntKind.i64.wrap ([o0, o1, o2, o3, o4, o5, o6][3]?.getD 0) = o3 from v3]; rfl
    · (repeat (first | (with_reducible apply XL.op) | ((with_reducible apply XOp.p1); (case hg | hv => exact rfl)) | ((with_reducible apply XOp.store (i := 0)); (case hg | ht | hk | hx | hv | h1 | hi | hs | ha => exact rfl)) | ((with_reducible apply XOp.pr); (case hg => exact rfl); (case hr => ((with_reducible apply PR.idxA); (case ht | hk | he | hx | hi => exact rfl); (case hr => first | assumption | omega); (case ha => first | assumption | exact SlA.at_ (by assumption))))) | (with_reducible apply XL.nilT) | (with_reducible apply XC.seq) | (with_reducible apply XC.region (Γ := Γ)) | (with_reducible apply XL.nilQ) | (with_reducible apply XQ.skip) | (with_reducible apply XQ.nt) | (with_reducible apply XQ.nb) | (with_reducible apply XC.block) | (first | ((with_reducible apply XOp.load); (case hg | ht | hk | hx => exact rfl); (case hc => exact (hK (fun y hy => by simp [hy])).imp fun h s => (s.int 4 (by simp)).1)) | ((with_reducible apply XP.load); (case ho | hg | ht | hk | hx => exact rfl); (case hc => exact (hK (fun y hy => by simp [hy])).imp fun h s => (s.int 4 (by simp)).1)))))
      refine ⟨k - 1, by omega, _, .of (List.Sublist.refl _), 5, by omega, ?_, rfl, rfl, rfl, rfl, intS2 (i := 4) (m := 7) (by omega) (by omega), trivial⟩
      rw [show IntKind.i64.wrap ([o0, o1, o2, o3, o4, o5, o6][4]?.getD 0) = o4 from v4]; rfl
    · (repeat (first | (with_reducible apply XL.op) | ((with_reducible apply XOp.p1); (case hg | hv => exact rfl)) | ((with_reducible apply XOp.store (i := 0)); (case hg | ht | hk | hx | hv | h1 | hi | hs | ha => exact rfl)) | ((with_reducible apply XOp.pr); (case hg => exact rfl); (case hr => ((with_reducible apply PR.idxA); (case ht | hk | he | hx | hi => exact rfl); (case hr => first | assumption | omega); (case ha => first | assumption | exact SlA.at_ (by assumption))))) | (with_reducible apply XL.nilT) | (with_reducible apply XC.seq) | (with_reducible apply XC.region (Γ := Γ)) | (with_reducible apply XL.nilQ) | (with_reducible apply XQ.skip) | (with_reducible apply XQ.nt) | (with_reducible apply XQ.nb) | (with_reducible apply XC.block) | (first | ((with_reducible apply XOp.load); (case hg | ht | hk | hx => exact rfl); (case hc => exact (hK (fun y hy => by simp [hy])).imp fun h s => (s.int 5 (by simp)).1)) | ((with_reducible apply XP.load); (case ho | hg | ht | hk | hx => exact rfl); (case hc => exact (hK (fun y hy => by simp [hy])).imp fun h s => (s.int 5 (by simp)).1)))))
      refine ⟨k - 1, by omega, _, .of (List.Sublist.refl _), 6, by omega, ?_, rfl, rfl, rfl, rfl, intS2 (i := 5) (m := 7) (by omega) (by omega), trivial⟩
      rw [show IntKind.i64.wrap ([o0, o1, o2, o3, o4, o5, o6][5]?.getD 0) = o5 from v5]; rfl
    · (repeat (first | (with_reducible apply XL.op) | ((with_reducible apply XOp.p1); (case hg | hv => exact rfl)) | ((with_reducible apply XOp.store (i := 0)); (case hg | ht | hk | hx | hv | h1 | hi | hs | ha => exact rfl)) | ((with_reducible apply XOp.pr); (case hg => exact rfl); (case hr => ((with_reducible apply PR.idxA); (case ht | hk | he | hx | hi => exact rfl); (case hr => first | assumption | omega); (case ha => first | assumption | exact SlA.at_ (by assumption))))) | (with_reducible apply XL.nilT) | (with_reducible apply XC.seq) | (with_reducible apply XC.region (Γ := Γ)) | (with_reducible apply XL.nilQ) | (with_reducible apply XQ.skip) | (with_reducible apply XQ.nt) | (with_reducible apply XQ.nb) | (with_reducible apply XC.block) | (first | ((with_reducible apply XOp.load); (case hg | ht | hk | hx => exact rfl); (case hc => exact (hK (fun y hy => by simp [hy])).imp fun h s => (s.int 6 (by simp)).1)) | ((with_reducible apply XP.load); (case ho | hg | ht | hk | hx => exact rfl); (case hc => exact (hK (fun y hy => by simp [hy])).imp fun h s => (s.int 6 (by simp)).1)))))
      refine ⟨k - 1, by omega, _, .of (List.Sublist.refl _), 7, by omega, ?_, rfl, rfl, rfl, rfl, intS2 (i := 6) (m := 7) (by omega) (by omega), trivial⟩
      rw [show IntKind.i64.wrap ([o0, o1, o2, o3, o4, o5, o6][6]?.getD 0) = o6 from v6]; rfl
  obtain rfl : i = 7 := by omega
  clear hs hik
  (repeat (first | (with_reducible apply XL.op) | ((with_reducible apply XOp.loadO (i := 0)); (case hg | ht | hk | hx | hi | hc => exact rfl)) | ((with_reducible apply XOp.storeN (i := 2)); (case hg | ht | hx | hv' | hk | h1 | hi | hs | ha => exact rfl)) | (with_reducible apply XL.nilT) | (with_reducible apply XC.seq) | (with_reducible apply XC.region (Γ := Γ)) | (with_reducible apply XQ.ret) | (with_reducible apply XQ.exit) | (with_reducible apply XQ.nt) | (with_reducible apply XQ.et) | ((with_reducible apply XQ.eb); (case hb => exact rfl))))
  ((with_reducible apply XQ.retE); (case hr => exact .row rfl (by kernel_rfl) (by kernel_rfl) (own_row (i := 2) (m := 30) rfl rfl) .nil))
  have hlf : layF cf r1 = (⟨n1.1, n2.1, d0.mat, d1.mat, d2.mat, d3.mat, d4.mat, d5.mat, d6.mat, [o0, o1, o2, o3, o4, o5, o6]⟩, (takeS (mst cf r2 7).2 7).2) := by
    have hD' := hD
    simp only [List.map_cons, List.map_nil, mst, rcS, meas0, meas1, meas2, List.nil_append, List.cons_append, List.cons.injEq, and_true] at hD'
    obtain ⟨q0, q1, q2, q3, q4, q5, q6⟩ := hD'
    have ho' := ho
    simp only [mst, rcS, meas0, meas1, meas2] at ho'
    simp only [mst, rcS, meas0, meas1, meas2]
    rw [h1, h2, q0, q1, q2, q3, q4, q5, q6, ← ho', ← hr2]
    rfl
  rw [hlf]
  refine ⟨RdB rb a9 c9 (takeS (mst cf r2 7).2 7).2 :: (G ++ F), .of (by ((try simp only [List.append_eq, List.cons_append, List.nil_append, List.append_assoc]); repeat (first | exact List.Sublist.refl _ | exact List.nil_sublist _ | (with_reducible apply List.Sublist.cons_cons) | (with_reducible apply List.Sublist.cons) | exact List.sublist_append_right _ _))), a9, c9, ⟨n1, n2, d0, d1, d2, d3, d4, d5, d6, o0, o1, o2, o3, o4, o5, o6⟩, _, rfl, rfl, rfl, ?_, hwj.trans hw9⟩
  exact OwnP.perm (hF.app hG) (by (first | (with_reducible exact List.Perm.refl _) | refine perm_of_cnt fun p_ => ?_; simp only [List.countP_append, List.countP_cons, List.countP_nil]; omega))
end Go.Proofs.YtppggaiahkecoaaDoorX
/- The reader: the weights between the measures and the digest. -/
namespace Go.Proofs.YtppggaiahkecoaaDoorX
open Go Go.SX

def rwC (cf : Cfg) (e : LM) (tv lv : Value) (f : LV) (h : LM) (mv : Value) : List Value := [.int .i64 cf.Vocab, .int .i64 cf.Width, .int .i64 cf.Heads, .int .i64 cf.KV, .int .i64 cf.Layers, .int .i64 cf.Hidden, .int .i64 cf.Len, .int .i64 cf.Medusa,
  .int .i64 e.r, .int .i64 e.c, slv e.d, tv, lv, slv f, .int .i64 h.r, .int .i64 h.c, slv h.d, mv]
theorem iter_snoc {α : Type} (f : RS → α × RS) : ∀ (n : Nat) (r : RS), iterS f (n + 1) r = ((iterS f n r).1 ++ [(f (iterS f n r).2).1], (f (iterS f n r).2).2)
  | 0, r => rfl
  | n + 1, r => by
    have h := iter_snoc f n (f r).2
    show ((f r).1 :: (iterS f (n + 1) (f r).2).1, (iterS f (n + 1) (f r).2).2) = _
    rw [h]; rfl
theorem _root_.Go.SX.SlA.takeC {α : Type} {d : Kd α} {by_ : Nat} {h : HV} {xs : List α} {a : Option Addr} {cap : Nat} (s : SlA d by_ h xs a cap) (k : Nat) : SlA d by_ h (xs.take k) a cap :=
  ⟨Nat.le_trans (by rw [List.length_take]; omega) s.le, Nat.le_trans (Nat.mul_le_mul_right _ (by rw [List.length_take]; omega)) s.bytes, s.nil, fun h0 => s.at_ (by rw [List.length_take] at h0; omega),
    fun i x hx => s.row i x (by rw [List.getElem?_take] at hx; split at hx; exact hx; cases hx)⟩
theorem i16_s16 {x : Int} (h : 0 ≤ x ∧ x < 65536) : IntKind.i64.wrap (IntKind.i16.wrap x) = s16 x := by
  have e : IntKind.i16.wrap x = s16 x := by
    have e1 : IntKind.i16.wrap x = IntKind.i16.wrap (s16 x) := by
      unfold s16; split
      · simp [IntKind.wrap, IntKind.bits]
      · rfl
    rw [e1]; unfold s16; split <;> simp [IntKind.wrap, IntKind.bits, IntKind.signed] <;> omega
  rw [e]; exact wrap64_of (by unfold s16; split <;> omega) (by unfold s16; split <;> omega)
theorem drw_sub {A FF GG HH F1 F9 F11 G0 H0 Fv Fl Fm J1 J2 J3 : HL} {R : Nat × Obj} (p1 : FF.Perm (F1 ++ J1)) (p2 : GG.Perm ((FF ++ Fv) ++ (G0 ++ J2))) (p3 : HH.Perm ((F11 ++ (F9 ++ (GG ++ Fl))) ++ (H0 ++ J3))) :
    Sub2 (R :: ((F1 ++ (F9 ++ (F11 ++ (G0 ++ H0)))) ++ (Fv ++ (Fl ++ Fm)))) (A ++ (R :: (HH ++ Fm))) := by
  refine ⟨(R :: ((F1 ++ (F9 ++ (F11 ++ (G0 ++ H0)))) ++ (Fv ++ (Fl ++ Fm)))) ++ (J1 ++ (J2 ++ (J3 ++ A))), perm_of_cnt fun p_ => ?_, List.sublist_append_left _ _⟩
  have q1 := p1.countP_eq p_
  have q2 := p2.countP_eq p_
  have q3 := p3.countP_eq p_
  simp only [List.countP_append, List.countP_cons] at q1 q2 q3 ⊢
  omega
set_option maxHeartbeats 16000000 in
set_option maxRecDepth 10000 in
theorem rweights_fn (rb : Nat) (a : Option Addr) (c : Nat) (r : RS) (cf : Cfg) (hc : cf.may) : FC Tryd.prog 54 [.pointer (some ⟨rb, 0, none⟩), .agg ⟨cf.cells⟩] [RdB rb a c r] (fun h => sidesK h ∧ byAt h r.rest a c)
    (fun v L => ∃ (a' : Option Addr) (c' : Nat) (x : LW) (F : HL), v = .agg ⟨x.cells⟩ ∧ x.w = (weightsS cf r).1 ∧ L = RdB rb a' c' (weightsS cf r).2 :: F ∧ OwnW x F ∧ Went r (weightsS cf r).2 a c a' c') := by
  refine FC.sub2 ?_
  refine FC.intro Tryd.func54 rfl (by kernel_rfl) 112 [.cell 4 31] rfl rfl rfl ?_
  rintro w0 ⟨hS, hA⟩
  obtain ⟨nn1, nn2, nn3, nn4⟩ := may_nn hc
  have hV := hc.1
  have hW := hc.2.1
  have hLy := hc.2.2.2.1
  have hMe := hc.2.2.2.2.2.2.1
  have hVW := mul_bnd (a := cf.Vocab) (b := cf.Width) (x := 64) (y := 32) (by omega) (by omega)
  have eVW : IntKind.i64.wrap (cf.Vocab * cf.Width) = cf.Vocab * cf.Width := wrap64_of (by omega) (by omega)
  have e2h : IntKind.i64.wrap (2 * cf.head) = 2 * cf.head := wrap64_of (by omega) (by omega)
  (repeat (first | (with_reducible apply XL.op) | (with_reducible apply XC.seq) | (with_reducible apply XC.region (Γ := Γ))))
  ((with_reducible apply XOp.box); (case hg | hx' => exact rfl); intro cb)
  (repeat ((with_reducible apply XL.op)))
  ((with_reducible apply XOp.alloc); (case hg | ht | hx' => exact rfl); intro rs)
  (repeat (first | (with_reducible apply XL.op) | ((with_reducible apply XOp.loadO (i := 1)); (case hg | ht | hk | hx | hi | hc => exact rfl)) | ((with_reducible apply XOp.pr); (case hg => exact rfl); (case hr => ((with_reducible apply PR.build); (case ht | hk | hok | hz | hf => exact rfl)))) | (with_reducible apply XL.nilT) | (with_reducible apply XC.seq) | (with_reducible apply XC.region (Γ := Γ))))
  ((with_reducible apply XOp.alloc); (case hg | ht | hx' => exact rfl); intro xb)
  (repeat (first | (with_reducible apply XL.op) | ((with_reducible apply XOp.p1); (case hg | hv => exact rfl)) | ((with_reducible apply XOp.load); (case hg | ht | hk | hx => exact rfl); (case hc => exact own_cell (i := 2) rfl rfl)) | ((with_reducible apply XOp.storeN (i := 0)); (case hg | ht | hx | hv' | hk | h1 | hi | hs | ha => exact rfl)) | (with_reducible apply XL.nilT) | (with_reducible apply XC.seq) | (with_reducible apply XC.region (Γ := Γ))))
  rw [eVW]
  ((with_reducible apply XOp.callM (R := [_, _, _]) (hF := open_fn rb a c r 69 (cf.Vocab * cf.Width) (by omega))); (case hg => exact rfl); (case hc => exact rfl); (case ha => exact rfl); (case hL => exact rfl); try (case hA => exact Known.true))
  case hA => exact Known.of_old hA (Mono.sl _ _ _ _ _)
  rintro _ _ ⟨a1, c1, rfl, hw1⟩
  (repeat (first | (with_reducible apply XL.op) | ((with_reducible apply XOp.p1); (case hg | hv => exact rfl)) | ((with_reducible apply XOp.load); (case hg | ht | hk | hx => exact rfl); (case hc => exact own_cell (i := 2) rfl rfl)) | (with_reducible apply XL.nilT) | (with_reducible apply XC.seq) | (with_reducible apply XC.region (Γ := Γ))))
  ((with_reducible apply XOp.callM (R := [_, _, _]) (hF := rmatrix_fn rb a1 c1 (openS r 69 (cf.Vocab * cf.Width)) cf.Vocab cf.Width (by omega))); (case hg => exact rfl); (case hc => exact rfl); (case ha => exact rfl); (case hL => exact rfl); try (case hA => exact Known.true))
  case hA => exact Known.of_old (hw1.at_ _ hA) (Mono.sl _ _ _ _ _)
  rintro _ _ ⟨a2, c2, e', F1, rfl, he, rfl, hF1, hw2⟩
  have hwE := hw1.trans hw2
  have hsE : secS (fun r => matS r cf.Vocab cf.Width) 69 (cf.Vocab * cf.Width) r = matS (openS r 69 (cf.Vocab * cf.Width)) cf.Vocab cf.Width := rfl
  have hwS : weightsS cf r = (let e := secS (fun r => matS r cf.Vocab cf.Width) 69 (cf.Vocab * cf.Width) r
    let t := secS (iterS turnS (cf.head / 2).toNat) 84 (2 * cf.head) e.2
    let l := iterS (secS (layF cf) 76 (layN cf)) cf.Layers.toNat t.2
    let f := secS (fun r => narrowS r cf.Width.toNat) 70 cf.Width l.2
    let h := secS (fun r => matS r cf.Vocab cf.Width) 72 (cf.Vocab * cf.Width) f.2
    let m := iterS (secS (fun r => matS r cf.Vocab cf.Width) 77 (cf.Vocab * cf.Width)) cf.Medusa.toNat h.2
    (⟨cf, e.1, t.1, l.1, f.1, h.1, m.1⟩, m.2)) := rfl
  rw [hwS, hsE]
  clear hwS hsE
  generalize matS (openS r 69 (cf.Vocab * cf.Width)) cf.Vocab cf.Width = qE at *
  (repeat (first | (with_reducible apply XL.op) | ((with_reducible apply XOp.p1); (case hg | hv => exact rfl)) | ((with_reducible apply XOp.loadO (i := 2)); (case hg | ht | hk | hx | hi | hc => exact rfl)) | ((with_reducible apply XOp.storeN (i := 0)); (case hg | ht | hx | hv' | hk | h1 | hi | hs | ha => exact rfl)) | (with_reducible apply XL.nilT) | (with_reducible apply XC.seq) | (with_reducible apply XC.region (Γ := Γ)) | (((with_reducible apply XOp.callQ (hF := head_fn cf hc)); (case hg => exact rfl); (case hc => exact rfl); (case ha => exact rfl); try (case hA => exact Known.true)); rintro _ rfl)))
  rw [e2h]
  ((with_reducible apply XOp.callM (R := [_, _, _]) (hF := open_fn rb a2 c2 qE.2 84 (2 * cf.head) (by omega))); (case hg => exact rfl); (case hc => exact rfl); (case ha => exact rfl); (case hL => exact rfl); try (case hA => exact Known.true))
  case hA => exact Known.of_old (hwE.at_ _ hA) (Mono.sl _ _ _ _ _)
  rintro _ _ ⟨a3, c3, rfl, hw3⟩
  have hwT := hwE.trans hw3
  simp only [secS]
  generalize openS qE.2 84 (2 * cf.head) = rT at *
  (repeat (first | (with_reducible apply XL.op) | ((with_reducible apply XOp.p1); (case hg | hv => exact rfl)) | ((with_reducible apply XOp.loadO (i := 2)); (case hg | ht | hk | hx | hi | hc => exact rfl)) | (with_reducible apply XL.nilT) | (with_reducible apply XC.seq) | (with_reducible apply XC.region (Γ := Γ)) | (with_reducible apply XC.block) | (((with_reducible apply XOp.callQ (hF := head_fn cf hc)); (case hg => exact rfl); (case hc => exact rfl); (case ha => exact rfl); try (case hA => exact Known.true)); rintro _ rfl)))
  refine XC.loopP (fun k ρ L => ∃ (i : Nat) (v : Value) (a4 : Option Addr) (c4 : Nat) (FF Fv : HL), i + k = (cf.head / 2).toNat ∧ OwnS 70 2 v i ((iterS turnS i rT).1.flatMap turnV) Fv ∧ Went r (iterS turnS i rT).2 a c a4 c4 ∧ (∃ J, FF.Perm (F1 ++ J)) ∧ L = [(xb, Obj.cells ⟨rwC cf e' v (.slice none 0 0) zlv zmat (.slice none 0 0)⟩ 31 (0, 0)), (rs, Obj.cells ⟨zeroW⟩ 31 (0, 0)), (cb, Obj.cells ⟨cf.cells⟩ 23 (0, 0))] ++ (RdB rb a4 c4 (iterS turnS i rT).2 :: (FF ++ Fv)) ∧ Slots ρ [(0, .pointer (some ⟨rb, 0, none⟩)), (3, .pointer (some ⟨cb, 0, none⟩)), (4, .pointer (some ⟨rs, 0, none⟩)), (5, .pointer (some ⟨xb, 0, none⟩)), (30, .int .i64 (cf.head / 2)), (31, .int .i64 i)])
    (cf.head / 2).toNat ⟨0, _, a3, c3, F1, [], by simp, OwnS.nil _ _, hwT, ⟨[], by (first | (with_reducible exact List.Perm.refl _) | refine perm_of_cnt fun p_ => ?_; simp only [List.countP_append, List.countP_cons, List.countP_nil]; omega)⟩, rfl, rfl, rfl, rfl, rfl, (by show Value.int _ _ = _; rw [half_wrap hc]), rfl, trivial⟩ ?_
  rintro k ρ L ⟨i, v, a4, c4, FF, Fv, hik, hown, hw4, hFF, rfl, hs⟩
  obtain ⟨at', ct', rfl⟩ := hown.val
  refine XC.slots _ hs ?_
  (repeat (first | (with_reducible apply XL.op) | ((with_reducible apply XOp.p1); (case hg | hv => exact rfl)) | (with_reducible apply XL.nilT) | (with_reducible apply XC.seq) | (with_reducible apply XC.region (Γ := Γ))))
  ((with_reducible apply XC.cond); (case hc => exact rfl); all_goals (intro hb_; try simp only [pd_true, pd_false, Bool.not_eq_true', Bool.not_eq_false', Bool.and_eq_true, Bool.and_eq_false_iff, Bool.or_eq_true, Bool.or_eq_false_iff, not_true_eq_false, not_false_eq_true, Int.not_lt, Int.not_le] at hb_))
  · have hA4 := hw4.at_ _ hA
    have hB4 : isB (iterS turnS i rT).2.rest := fun y hy => inK_u8.1 (hA4.okAll y hy)
    have hsn := iter_snoc turnS i rT
    generalize hrT' : (iterS turnS i rT).2 = rT' at *
    generalize hls : (iterS turnS i rT).1 = ls at *
    (repeat (first | (with_reducible apply XL.op) | ((with_reducible apply XOp.p1); (case hg | hv => exact rfl)) | (with_reducible apply XC.seq) | (with_reducible apply XC.region (Γ := Γ)) | (with_reducible apply XQ.skip) | (with_reducible apply XQ.nt) | (with_reducible apply XC.block)))
    ((with_reducible apply XOp.callM (R := [_, _, _]) (hF := take_fn rb a4 c4 rT' 4 (by omega))); (case hg => exact rfl); (case hc => exact rfl); (case ha => exact rfl); (case hL => exact rfl); try (case hA => exact Known.true))
    case hA => exact Known.of_old hA4 (Mono.sl _ _ _ _ _)
    rintro _ _ ⟨a5, c5, ao, F5, rfl, rfl, hout, hw5, hat⟩
    have hBo := takeS_isB hB4 4
    have hB2 : 0 ≤ valB ((takeS rT' 4).1.take 2) ∧ valB ((takeS rT' 4).1.take 2) < 65536 := by
      have := valB_bnd ((takeS rT' 4).1.take 2) fun y hy => hBo y (List.take_subset _ _ hy)
      have hl2 : ((takeS rT' 4).1.take 2).length = 2 := by rw [List.length_take, takeS_len]; rfl
      rw [hl2] at this; exact this
    have hB3 : 0 ≤ valB ((takeS rT' 4).1.drop 2) ∧ valB ((takeS rT' 4).1.drop 2) < 65536 := by
      have := valB_bnd ((takeS rT' 4).1.drop 2) fun y hy => hBo y (List.drop_subset _ _ hy)
      have hl2 : ((takeS rT' 4).1.drop 2).length = 2 := by rw [List.length_drop, takeS_len]
      rw [hl2] at this; exact this
    obtain ⟨o0, o1, o2, o3, ho⟩ := len4 (takeS_len rT' 4)
    rw [ho] at hB2 hB3
    have hK : ∀ {L : HL}, (∀ x ∈ F5, x ∈ L) → Known w0 (keys [RdB rb a c r]) L (fun h => byAt h [o0, o1, o2, o3] ao 4) := fun s => ho ▸ known_out (Known.of_old hA4 (Mono.sl _ _ _ _ _)) hout s
    have hts : (turnS rT') = ((s16 (valB [o0, o1]), s16 (valB [o2, o3])), (takeS rT' 4).2) := by unfold turnS; rw [ho]; rfl
    (repeat (first | (with_reducible apply XL.op) | ((with_reducible apply XOp.p1); (case hg | hv => exact rfl)) | (with_reducible apply XL.nilT)))
    ((with_reducible apply XC.regionL (Γ := Γ) mixed (.q 0 (.q 1 (.q 2 (.q 3 (.q 7 (.q 8 (.e 4 (.q 5 (.q 6 (.e 9 (.q 10 (.q 11 (.q 12 (.e 13 (.e 14 (.q 15 (.e 16 (.done)))))))))))))))))) [16] ([(xb, Obj.cells ⟨rwC cf e' (.slice at' i ct') (.slice none 0 0) zlv zmat (.slice none 0 0)⟩ 31 (0, 0))])); (case hc => kernel_rfl); (case hs => first | exact List.nil_sublist _ | exact List.Sublist.refl _ | exact List.sublist_append_right _ _ | (refine List.Sublist.cons_cons _ (List.nil_sublist _)) | (refine List.Sublist.cons_cons _ (List.Sublist.cons_cons _ (List.nil_sublist _))) | (refine List.Sublist.cons_cons _ (List.Sublist.cons_cons _ (List.Sublist.cons_cons _ (List.nil_sublist _)))) | (refine List.Sublist.cons_cons _ (List.Sublist.cons_cons _ (List.Sublist.cons_cons _ (List.Sublist.cons_cons _ (List.nil_sublist _))))) | ((try simp only [List.append_eq, List.cons_append, List.nil_append, List.append_assoc]); (repeat (first | exact List.Sublist.refl _ | exact List.nil_sublist _ | (with_reducible apply List.Sublist.cons_cons) | (with_reducible apply List.Sublist.cons))); done)))
    (repeat (first | ((with_reducible apply XP.p1); (case ho | hg | hv => exact rfl)) | ((with_reducible apply XP.load); (case ho | hg | ht | hk | hx => exact rfl); (case hc => exact own_cell (i := 0) rfl rfl)) | ((with_reducible apply XP.pr); (case ho => exact rfl); (case hg => exact rfl); (case hr => ((with_reducible apply PR.build); (case ht | hk | hok | hz | hf => exact rfl)))) | ((with_reducible apply XP.e); (first | ((with_reducible apply XE.d); (case ho => exact rfl); (case hd => exact rfl)) | ((with_reducible apply XE.e); (case ho => exact rfl)))) | ((with_reducible apply XP.keep); (case hk => first | ((repeat' (first | exact List.forall_mem_nil _ | (with_reducible refine List.forall_mem_cons.2 ⟨?_, ?_⟩) | exact List.mem_cons_self .. | (with_reducible apply List.mem_cons_of_mem) | (with_reducible apply List.mem_append_right))); done) | (intro x hx; first | exact sel_in hx | exact List.mem_cons_of_mem _ (sel_in hx) | exact List.mem_append_right _ (sel_in hx) | exact hx | exact List.mem_cons_of_mem _ hx | exact List.mem_append_right _ hx | ((repeat (first | exact sel_in hx | exact hx | (with_reducible apply List.mem_cons_of_mem) | (with_reducible apply List.mem_append_right))); done) | (rw [List.mem_singleton.1 hx]; (simp; done)) | (rcases List.mem_cons.1 hx with rfl | hx; (simp; done); (rw [List.mem_singleton.1 hx]; (simp; done))) | cases hx))) | (first | ((with_reducible apply XOp.pr); (case hg => exact rfl); (case hr => (with_reducible apply PR.sliceTo); (case ht => exact rfl); (case hk => exact rfl); (case he => exact rfl); (case hx => exact rfl); (case hh => exact rfl); (case hb => omega))) | ((with_reducible apply XP.pr); (case ho => exact rfl); (case hg => exact rfl); (case hr => (with_reducible apply PR.sliceTo); (case ht => exact rfl); (case hk => exact rfl); (case he => exact rfl); (case hx => exact rfl); (case hh => exact rfl); (case hb => omega)))) | (first | ((with_reducible apply XOp.pr); (case hg => exact rfl); (case hr => (with_reducible apply PR.sliceFrom); (case ht => exact rfl); (case hk => exact rfl); (case he => exact rfl); (case hx => exact rfl); (case hh => exact rfl); (case hb => omega))) | ((with_reducible apply XP.pr); (case ho => exact rfl); (case hg => exact rfl); (case hr => (with_reducible apply PR.sliceFrom); (case ht => exact rfl); (case hk => exact rfl); (case he => exact rfl); (case hx => exact rfl); (case hh => exact rfl); (case hb => omega)))) | (((with_reducible apply XOp.callQ (hF := value_fn [o0, o1] ao 4 (by simp))); (case hg => exact rfl); (case hc => exact rfl); (case ha => exact rfl); try (case hA => exact Known.true)); (case hA => exact (hK (fun y hy => by simp [hy])).imp fun h s => SlA.takeC s 2); rintro _ rfl) | (((with_reducible apply XOp.callQ (hF := value_fn [o2, o3] (dropA ao 4 2 1) 2 (by simp))); (case hg => exact rfl); (case hc => exact rfl); (case ha => exact rfl); try (case hA => exact Known.true)); (case hA => exact (hK (fun y hy => by simp [hy])).imp fun h s => SlA.drop s (k := 2) (by simp)); rintro _ rfl)))
    ((with_reducible apply XOp.buildSlice); (case hg | ht | hk | he | hz | hzl | hf => exact rfl); intro bb)
    (repeat (first | ((with_reducible apply XP.e); (first | ((with_reducible apply XE.d); (case ho => exact rfl); (case hd => exact rfl)) | ((with_reducible apply XE.e); (case ho => exact rfl)))) | ((with_reducible apply XP.keep); (case hk => first | ((repeat' (first | exact List.forall_mem_nil _ | (with_reducible refine List.forall_mem_cons.2 ⟨?_, ?_⟩) | exact List.mem_cons_self .. | (with_reducible apply List.mem_cons_of_mem) | (with_reducible apply List.mem_append_right))); done) | (intro x hx; first | exact sel_in hx | exact List.mem_cons_of_mem _ (sel_in hx) | exact List.mem_append_right _ (sel_in hx) | exact hx | exact List.mem_cons_of_mem _ hx | exact List.mem_append_right _ hx | ((repeat (first | exact sel_in hx | exact hx | (with_reducible apply List.mem_cons_of_mem) | (with_reducible apply List.mem_append_right))); done) | (rw [List.mem_singleton.1 hx]; (simp; done)) | (rcases List.mem_cons.1 hx with rfl | hx; (simp; done); (rw [List.mem_singleton.1 hx]; (simp; done))) | cases hx)))))
    (refine (show XOp _ _ _ _ _ _ _ _ ((bb, Obj.cells ⟨[.int .i64 (IntKind.i64.wrap (IntKind.i16.wrap (valB [o0, o1]))), .int .i64 (IntKind.i64.wrap (IntKind.i16.wrap (valB [o2, o3])))]⟩ 70 (0, 0)) :: [(xb, Obj.cells ⟨rwC cf e' (.slice at' i ct') (.slice none 0 0) zlv zmat (.slice none 0 0)⟩ 31 (0, 0)), (rs, Obj.cells ⟨zeroW⟩ 31 (0, 0)), (cb, Obj.cells ⟨cf.cells⟩ 23 (0, 0))] ++ ((RdB rb a5 c5 (takeS rT' 4).2 :: F5) ++ (FF ++ Fv))) from XOp.perm (L' :=  (bb, Obj.cells ⟨[.int .i64 (IntKind.i64.wrap (IntKind.i16.wrap (valB [o0, o1]))), .int .i64 (IntKind.i64.wrap (IntKind.i16.wrap (valB [o2, o3])))]⟩ 70 (0, 0)) :: (([(xb, Obj.cells ⟨rwC cf e' (.slice at' i ct') (.slice none 0 0) zlv zmat (.slice none 0 0)⟩ 31 (0, 0)), (rs, Obj.cells ⟨zeroW⟩ 31 (0, 0)), (cb, Obj.cells ⟨cf.cells⟩ 23 (0, 0))] ++ (RdB rb a5 c5 (takeS rT' 4).2 :: (F5 ++ FF))) ++ Fv)) rfl ?_ (by (first | (with_reducible exact List.Perm.refl _) | refine perm_of_cnt fun p_ => ?_; simp only [List.countP_append, List.countP_cons, List.countP_nil]; omega))))
    ((with_reducible apply XOp.append1R (R := [(xb, Obj.cells ⟨rwC cf e' (.slice at' i ct') (.slice none 0 0) zlv zmat (.slice none 0 0)⟩ 31 (0, 0)), (rs, Obj.cells ⟨zeroW⟩ 31 (0, 0)), (cb, Obj.cells ⟨cf.cells⟩ 23 (0, 0))] ++ (RdB rb a5 c5 (takeS rT' 4).2 :: (F5 ++ FF)))); (case hg => exact rfl); (case ht => exact rfl); (case hk => exact rfl); (case he => exact rfl); (case hown => exact hown); (case hs => exact rfl); (case hx => exact rfl); (case hL => exact rfl); (case hl => exact rfl); (case h1 => exact rfl); (case hz => exact rfl); (case hsz => exact Nat.zero_lt_succ _); (case hk0 => exact Nat.zero_lt_succ _); (case h63 => simp only [maxLen]; omega); (case hb => simp only []; omega); intro v_ F_ hown_; obtain ⟨a_, c_, rfl⟩ := hown_.val)
    (repeat (first | (with_reducible apply XL.op) | ((with_reducible apply XOp.p1); (case hg | hv => exact rfl)) | ((with_reducible apply XOp.store (i := 0)); (case hg | ht | hk | hx | hv | h1 | hi | hs | ha => exact rfl)) | (with_reducible apply XL.nilT) | (with_reducible apply XC.region (Γ := Γ)) | (with_reducible apply XQ.nt) | (with_reducible apply XQ.nb) | ((with_reducible apply XP.p1); (case ho | hg | hv => exact rfl)) | (with_reducible apply XP.done) | ((with_reducible apply XP.e); (first | ((with_reducible apply XE.d); (case ho => exact rfl); (case hd => exact rfl)) | ((with_reducible apply XE.e); (case ho => exact rfl)))) | ((with_reducible apply XP.keep); (case hk => first | ((repeat' (first | exact List.forall_mem_nil _ | (with_reducible refine List.forall_mem_cons.2 ⟨?_, ?_⟩) | exact List.mem_cons_self .. | (with_reducible apply List.mem_cons_of_mem) | (with_reducible apply List.mem_append_right))); done) | (intro x hx; first | exact sel_in hx | exact List.mem_cons_of_mem _ (sel_in hx) | exact List.mem_append_right _ (sel_in hx) | exact hx | exact List.mem_cons_of_mem _ hx | exact List.mem_append_right _ hx | ((repeat (first | exact sel_in hx | exact hx | (with_reducible apply List.mem_cons_of_mem) | (with_reducible apply List.mem_append_right))); done) | (rw [List.mem_singleton.1 hx]; (simp; done)) | (rcases List.mem_cons.1 hx with rfl | hx; (simp; done); (rw [List.mem_singleton.1 hx]; (simp; done))) | cases hx)))))
    refine ⟨k - 1, by omega, _, .of (List.Sublist.refl _), i + 1, _, a5, c5, F5 ++ FF, F_, by omega, hown_.conv rfl ?_, ?_, ⟨F5 ++ hFF.choose, by have p_ := hFF.choose_spec; exact (List.Perm.append_left F5 p_).trans (by (first | (with_reducible exact List.Perm.refl _) | refine perm_of_cnt fun p_ => ?_; simp only [List.countP_append, List.countP_cons, List.countP_nil]; omega))⟩, ?_, rfl, rfl, rfl, rfl, rfl, intS2 (m := 64) (by omega) (by omega), trivial⟩
    · have hB2' : 0 ≤ valB [o0, o1] ∧ valB [o0, o1] < 65536 := hB2
      have hB3' : 0 ≤ valB [o2, o3] ∧ valB [o2, o3] < 65536 := hB3
      rw [hsn, hts, List.flatMap_append, i16_s16 hB2', i16_s16 hB3']; simp [turnV, zerosL]
    · rw [hsn, hts]; exact hw4.trans hw5
    · rw [hsn, hts]; rfl
  obtain rfl : k = 0 := by omega
  rw [Nat.add_zero] at hik
  subst hik
  generalize hqT : iterS turnS (cf.head / 2).toNat rT = qT at *
  have hqTl : qT.1.length = (cf.head / 2).toNat := by rw [← hqT]; exact iter_len _ _ _
  clear hs
  (repeat (first | (with_reducible apply XL.op) | ((with_reducible apply XOp.p1); (case hg | hv => exact rfl)) | ((with_reducible apply XOp.load); (case hg | ht | hk | hx => exact rfl); (case hc => exact own_cell (i := 2) rfl rfl)) | (with_reducible apply XL.nilT) | (with_reducible apply XC.seq) | (with_reducible apply XC.region (Γ := Γ)) | (with_reducible apply XQ.exit) | (with_reducible apply XQ.nt) | (with_reducible apply XQ.et) | (with_reducible apply XC.block) | ((with_reducible apply XQ.eb); (case hb => exact rfl))))
  obtain ⟨fL, hfL⟩ : ∃ f, f = secS (layF cf) 76 (layN cf) := ⟨_, rfl⟩
  refine XC.loopP (fun k ρ L => ∃ (i : Nat) (v : Value) (A : List LL) (a6 : Option Addr) (c6 : Nat) (GG Fl : HL), i + k = cf.Layers.toNat ∧ OwnS 67 30 v i (A.flatMap LL.cells) Fl ∧ A.map LL.lay = (iterS fL i qT.2).1 ∧ Went r (iterS fL i qT.2).2 a c a6 c6 ∧ OwnX (FF ++ Fv) (A.flatMap LL.nl) GG ∧ L = [(xb, Obj.cells ⟨rwC cf e' (.slice at' (cf.head / 2).toNat ct') v zlv zmat (.slice none 0 0)⟩ 31 (0, 0)), (rs, Obj.cells ⟨zeroW⟩ 31 (0, 0)), (cb, Obj.cells ⟨cf.cells⟩ 23 (0, 0))] ++ (RdB rb a6 c6 (iterS fL i qT.2).2 :: (GG ++ Fl)) ∧ Slots ρ [(0, .pointer (some ⟨rb, 0, none⟩)), (3, .pointer (some ⟨cb, 0, none⟩)), (4, .pointer (some ⟨rs, 0, none⟩)), (5, .pointer (some ⟨xb, 0, none⟩)), (53, .int .i64 cf.Layers), (54, .int .i64 i)])
    cf.Layers.toNat ⟨0, _, [], a4, c4, FF ++ Fv, [], by simp, OwnS.nil _ _, rfl, hw4, OwnX.nil _, by rw [List.append_nil]; rfl, rfl, rfl, rfl, rfl, rfl, rfl, trivial⟩ ?_
  rintro k ρ L ⟨i, v, A, a6, c6, GG, Fl, hik, hownL, hAl, hw6, hGG, rfl, hs⟩
  obtain ⟨al, cl, rfl⟩ := hownL.val
  refine XC.slots _ hs ?_
  (repeat (first | (with_reducible apply XL.op) | ((with_reducible apply XOp.p1); (case hg | hv => exact rfl)) | (with_reducible apply XL.nilT) | (with_reducible apply XC.seq) | (with_reducible apply XC.region (Γ := Γ))))
  ((with_reducible apply XC.cond); (case hc => exact rfl); all_goals (intro hb_; try simp only [pd_true, pd_false, Bool.not_eq_true', Bool.not_eq_false', Bool.and_eq_true, Bool.and_eq_false_iff, Bool.or_eq_true, Bool.or_eq_false_iff, not_true_eq_false, not_false_eq_true, Int.not_lt, Int.not_le] at hb_))
  · have hA6 := hw6.at_ _ hA
    have hsn := iter_snoc fL i qT.2
    generalize hrL' : (iterS fL i qT.2).2 = rL' at *
    generalize hls : (iterS fL i qT.2).1 = lls at *
    (repeat (first | (with_reducible apply XC.seq) | (with_reducible apply XQ.skip) | (with_reducible apply XQ.nt) | (with_reducible apply XC.block)))
    ((with_reducible apply XC.regionL (Γ := Γ) mixed (.q 0 (.q 1 (.q 2 (.q 3 (.e 4 (.e 5 (.e 6 (.q 7 (.e 8 (.done)))))))))) [8] ([(xb, Obj.cells ⟨rwC cf e' (.slice at' (cf.head / 2).toNat ct') (.slice al i cl) zlv zmat (.slice none 0 0)⟩ 31 (0, 0)), (cb, Obj.cells ⟨cf.cells⟩ 23 (0, 0))])); (case hc => kernel_rfl); (case hs => first | exact List.nil_sublist _ | exact List.Sublist.refl _ | exact List.sublist_append_right _ _ | (refine List.Sublist.cons_cons _ (List.nil_sublist _)) | (refine List.Sublist.cons_cons _ (List.Sublist.cons_cons _ (List.nil_sublist _))) | (refine List.Sublist.cons_cons _ (List.Sublist.cons_cons _ (List.Sublist.cons_cons _ (List.nil_sublist _)))) | (refine List.Sublist.cons_cons _ (List.Sublist.cons_cons _ (List.Sublist.cons_cons _ (List.Sublist.cons_cons _ (List.nil_sublist _))))) | ((try simp only [List.append_eq, List.cons_append, List.nil_append, List.append_assoc]); (repeat (first | exact List.Sublist.refl _ | exact List.nil_sublist _ | (with_reducible apply List.Sublist.cons_cons) | (with_reducible apply List.Sublist.cons))); done)))
    (repeat (first | ((with_reducible apply XP.p1); (case ho | hg | hv => exact rfl)) | ((with_reducible apply XP.load); (case ho | hg | ht | hk | hx => exact rfl); (case hc => exact own_cell (i := 0) rfl rfl)) | ((with_reducible apply XP.loadO (j := 1)); (case ho | hg | ht | hk | hx | hi | hc => exact rfl)) | ((with_reducible apply XP.e); (first | ((with_reducible apply XE.d); (case ho => exact rfl); (case hd => exact rfl)) | ((with_reducible apply XE.e); (case ho => exact rfl))))))
    ((with_reducible apply XOp.callM (R := [_, _, _]) (hF := rlayer_fn rb a6 c6 rL' cf hc)); (case hg => exact rfl); (case hc => exact rfl); (case ha => exact rfl); (case hL => exact rfl); try (case hA => exact Known.true))
    case hA => exact Known.and (Known.of_old hS sides_mono) (Known.of_old hA6 (Mono.sl _ _ _ _ _))
    rintro _ _ ⟨a7, c7, l', F7, rfl, hlay, rfl, hF7, hw7⟩
    rw [← hfL] at hlay hw7 ⊢
    (refine ⟨fun y_ hy_ => (by rcases List.mem_cons.1 hy_ with rfl | hy_; simp; (rw [List.mem_singleton.1 hy_]; simp)), ?_⟩)
    (repeat (((with_reducible apply XP.e); (first | ((with_reducible apply XE.d); (case ho => exact rfl); (case hd => exact rfl)) | ((with_reducible apply XE.e); (case ho => exact rfl))))))
    ((with_reducible apply XOp.buildSlice); (case hg | ht | hk | he | hz | hzl | hf => exact rfl); intro bb)
    (refine ⟨fun y_ hy_ => (by rcases List.mem_cons.1 hy_ with rfl | hy_; simp; (rw [List.mem_singleton.1 hy_]; simp)), ?_⟩)
    (repeat (((with_reducible apply XP.e); (first | ((with_reducible apply XE.d); (case ho => exact rfl); (case hd => exact rfl)) | ((with_reducible apply XE.e); (case ho => exact rfl))))))
    (refine (show XOp _ _ _ _ _ _ _ _ ((bb, Obj.cells ⟨l'.cells⟩ 67 (0, 0)) :: [(xb, Obj.cells ⟨rwC cf e' (.slice at' (cf.head / 2).toNat ct') (.slice al i cl) zlv zmat (.slice none 0 0)⟩ 31 (0, 0)), (rs, Obj.cells ⟨zeroW⟩ 31 (0, 0)), (cb, Obj.cells ⟨cf.cells⟩ 23 (0, 0))] ++ ((RdB rb a7 c7 (fL rL').2 :: F7) ++ (GG ++ Fl))) from XOp.perm (L' :=  (bb, Obj.cells ⟨l'.cells⟩ 67 (0, 0)) :: (([(xb, Obj.cells ⟨rwC cf e' (.slice at' (cf.head / 2).toNat ct') (.slice al i cl) zlv zmat (.slice none 0 0)⟩ 31 (0, 0)), (rs, Obj.cells ⟨zeroW⟩ 31 (0, 0)), (cb, Obj.cells ⟨cf.cells⟩ 23 (0, 0))] ++ (RdB rb a7 c7 (fL rL').2 :: (F7 ++ GG))) ++ Fl)) rfl ?_ (by (first | (with_reducible exact List.Perm.refl _) | refine perm_of_cnt fun p_ => ?_; simp only [List.countP_append, List.countP_cons, List.countP_nil]; omega))))
    ((with_reducible apply XOp.append1R (R := [(xb, Obj.cells ⟨rwC cf e' (.slice at' (cf.head / 2).toNat ct') (.slice al i cl) zlv zmat (.slice none 0 0)⟩ 31 (0, 0)), (rs, Obj.cells ⟨zeroW⟩ 31 (0, 0)), (cb, Obj.cells ⟨cf.cells⟩ 23 (0, 0))] ++ (RdB rb a7 c7 (fL rL').2 :: (F7 ++ GG)))); (case hg => exact rfl); (case ht => exact rfl); (case hk => exact rfl); (case he => exact rfl); (case hown => exact hownL); (case hs => exact rfl); (case hx => exact rfl); (case hL => exact rfl); (case hl => exact rfl); (case h1 => exact rfl); (case hz => exact rfl); (case hsz => exact Nat.zero_lt_succ _); (case hk0 => exact Nat.zero_lt_succ _); (case h63 => simp only [maxLen]; omega); (case hb => simp only []; omega); intro v_ F_ hown_; obtain ⟨a_, c_, rfl⟩ := hown_.val)
    (refine ⟨fun y_ hy_ => (by rcases List.mem_cons.1 hy_ with rfl | hy_; simp; (rw [List.mem_singleton.1 hy_]; simp)), ?_⟩)
    (repeat (first | (with_reducible apply XL.op) | ((with_reducible apply XOp.p1); (case hg | hv => exact rfl)) | ((with_reducible apply XOp.store (i := 0)); (case hg | ht | hk | hx | hv | h1 | hi | hs | ha => exact rfl)) | (with_reducible apply XL.nilT) | (with_reducible apply XC.region (Γ := Γ)) | (with_reducible apply XQ.nt) | (with_reducible apply XQ.nb) | ((with_reducible apply XP.p1); (case ho | hg | hv => exact rfl)) | (with_reducible apply XP.done) | ((with_reducible apply XP.e); (first | ((with_reducible apply XE.d); (case ho => exact rfl); (case hd => exact rfl)) | ((with_reducible apply XE.e); (case ho => exact rfl))))))
    refine ⟨k - 1, by omega, _, .of (List.Sublist.refl _), i + 1, _, A ++ [l'], a7, c7, F7 ++ GG, F_, by omega, hown_.conv rfl (by simp), ?_, ?_, (by rw [List.flatMap_append]; exact hGG.add (by simpa using hF7)), ?_, rfl, rfl, rfl, rfl, rfl, intS2 (m := 64) (by omega) (by omega), trivial⟩
    · rw [hsn, List.map_append, hAl, List.map_singleton, hlay]
    · rw [hsn]; exact hw6.trans hw7
    · rw [hsn]; rfl
  obtain rfl : k = 0 := by omega
  rw [Nat.add_zero] at hik
  subst hik
  have hfl' : iterS fL cf.Layers.toNat qT.2 = iterS (fun r => layF cf (openS r 76 (layN cf))) cf.Layers.toNat qT.2 := by rw [hfL]; rfl
  generalize hqL : iterS fL cf.Layers.toNat qT.2 = qL at *
  have hqLl : qL.1.length = cf.Layers.toNat := by rw [← hqL]; exact iter_len _ _ _
  clear hs
  (repeat (first | (with_reducible apply XL.op) | ((with_reducible apply XOp.p1); (case hg | hv => exact rfl)) | ((with_reducible apply XOp.load); (case hg | ht | hk | hx => exact rfl); (case hc => exact own_cell (i := 2) rfl rfl)) | (with_reducible apply XC.seq) | (with_reducible apply XC.region (Γ := Γ)) | (with_reducible apply XQ.exit) | (with_reducible apply XQ.nt) | (with_reducible apply XQ.et) | ((with_reducible apply XQ.eb); (case hb => exact rfl))))
  ((with_reducible apply XOp.callM (R := [_, _, _]) (hF := open_fn rb a6 c6 qL.2 70 cf.Width (by omega))); (case hg => exact rfl); (case hc => exact rfl); (case ha => exact rfl); (case hL => exact rfl); try (case hA => exact Known.true))
  case hA => exact Known.of_old (hw6.at_ _ hA) (Mono.sl _ _ _ _ _)
  rintro _ _ ⟨a8, c8, rfl, hw8⟩
  have hwF := hw6.trans hw8
  (repeat (first | (with_reducible apply XL.op) | ((with_reducible apply XOp.p1); (case hg | hv => exact rfl)) | ((with_reducible apply XOp.load); (case hg | ht | hk | hx => exact rfl); (case hc => exact own_cell (i := 2) rfl rfl)) | (with_reducible apply XL.nilT) | (with_reducible apply XC.seq) | (with_reducible apply XC.region (Γ := Γ))))
  ((with_reducible apply XOp.callM (R := [_, _, _]) (hF := narrowI_fn rb a8 c8 (openS qL.2 70 cf.Width) cf.Width (by omega))); (case hg => exact rfl); (case hc => exact rfl); (case ha => exact rfl); (case hL => exact rfl); try (case hA => exact Known.true))
  case hA => exact Known.of_old (hwF.at_ _ hA) (Mono.sl _ _ _ _ _)
  rintro _ _ ⟨a9, c9, f', F9, rfl, hf, rfl, hF9, hw9⟩
  have hwG := hwF.trans hw9
  generalize hqF : narrowS (openS qL.2 70 cf.Width) cf.Width.toNat = qF at *
  (repeat (first | (with_reducible apply XL.op) | ((with_reducible apply XOp.p1); (case hg | hv => exact rfl)) | ((with_reducible apply XOp.load); (case hg | ht | hk | hx => exact rfl); (case hc => exact own_cell (i := 2) rfl rfl)) | ((with_reducible apply XOp.store (i := 0)); (case hg | ht | hk | hx | hv | h1 | hi | hs | ha => exact rfl)) | (with_reducible apply XL.nilT) | (with_reducible apply XC.seq) | (with_reducible apply XC.region (Γ := Γ))))
  rw [eVW]
  ((with_reducible apply XOp.callM (R := [_, _, _]) (hF := open_fn rb a9 c9 qF.2 72 (cf.Vocab * cf.Width) (by omega))); (case hg => exact rfl); (case hc => exact rfl); (case ha => exact rfl); (case hL => exact rfl); try (case hA => exact Known.true))
  case hA => exact Known.of_old (hwG.at_ _ hA) (Mono.sl _ _ _ _ _)
  rintro _ _ ⟨a10, c10, rfl, hw10⟩
  have hwH := hwG.trans hw10
  (repeat (first | (with_reducible apply XL.op) | ((with_reducible apply XOp.p1); (case hg | hv => exact rfl)) | ((with_reducible apply XOp.load); (case hg | ht | hk | hx => exact rfl); (case hc => exact own_cell (i := 2) rfl rfl)) | (with_reducible apply XL.nilT) | (with_reducible apply XC.seq) | (with_reducible apply XC.region (Γ := Γ))))
  ((with_reducible apply XOp.callM (R := [_, _, _]) (hF := rmatrix_fn rb a10 c10 (openS qF.2 72 (cf.Vocab * cf.Width)) cf.Vocab cf.Width (by omega))); (case hg => exact rfl); (case hc => exact rfl); (case ha => exact rfl); (case hL => exact rfl); try (case hA => exact Known.true))
  case hA => exact Known.of_old (hwH.at_ _ hA) (Mono.sl _ _ _ _ _)
  rintro _ _ ⟨a11, c11, h', F11, rfl, hh', rfl, hF11, hw11⟩
  have hwI := hwH.trans hw11
  generalize hqH : matS (openS qF.2 72 (cf.Vocab * cf.Width)) cf.Vocab cf.Width = qH at *
  (repeat (first | (with_reducible apply XL.op) | ((with_reducible apply XOp.p1); (case hg | hv => exact rfl)) | ((with_reducible apply XOp.load); (case hg | ht | hk | hx => exact rfl); (case hc => exact own_cell (i := 2) rfl rfl)) | ((with_reducible apply XOp.storeN (i := 0)); (case hg | ht | hx | hv' | hk | h1 | hi | hs | ha => exact rfl)) | (with_reducible apply XL.nilT) | (with_reducible apply XC.seq) | (with_reducible apply XC.region (Γ := Γ)) | (with_reducible apply XC.block)))
  obtain ⟨fM, hfM⟩ : ∃ f, f = secS (fun r => matS r cf.Vocab cf.Width) 77 (cf.Vocab * cf.Width) := ⟨_, rfl⟩
  refine XC.loopP (fun k ρ L => ∃ (i : Nat) (v : Value) (D : List LM) (a12 : Option Addr) (c12 : Nat) (HH Fm : HL), i + k = cf.Medusa.toNat ∧ OwnS 26 3 v i (D.flatMap LM.cells) Fm ∧ D.map LM.mat = (iterS fM i qH.2).1 ∧ Went r (iterS fM i qH.2).2 a c a12 c12 ∧ OwnX (F11 ++ (F9 ++ (GG ++ Fl))) (D.map (·.d)) HH ∧ L = [(xb, Obj.cells ⟨rwC cf e' (.slice at' (cf.head / 2).toNat ct') (.slice al cf.Layers.toNat cl) f' h' v⟩ 31 (0, 0)), (rs, Obj.cells ⟨zeroW⟩ 31 (0, 0)), (cb, Obj.cells ⟨cf.cells⟩ 23 (0, 0))] ++ (RdB rb a12 c12 (iterS fM i qH.2).2 :: (HH ++ Fm)) ∧ Slots ρ [(0, .pointer (some ⟨rb, 0, none⟩)), (3, .pointer (some ⟨cb, 0, none⟩)), (4, .pointer (some ⟨rs, 0, none⟩)), (5, .pointer (some ⟨xb, 0, none⟩)), (89, .int .i64 cf.Medusa), (90, .int .i64 i)])
    cf.Medusa.toNat ⟨0, _, [], a11, c11, F11 ++ (F9 ++ (GG ++ Fl)), [], by simp, OwnS.nil _ _, rfl, hwI, OwnX.nil _, by rw [List.append_nil]; rfl, rfl, rfl, rfl, rfl, rfl, rfl, trivial⟩ ?_
  rintro k ρ L ⟨i, v, D, a12, c12, HH, Fm, hik, hownM, hDl, hw12, hHH, rfl, hs⟩
  obtain ⟨am, cm, rfl⟩ := hownM.val
  refine XC.slots _ hs ?_
  (repeat (first | (with_reducible apply XL.op) | ((with_reducible apply XOp.p1); (case hg | hv => exact rfl)) | (with_reducible apply XL.nilT) | (with_reducible apply XC.seq) | (with_reducible apply XC.region (Γ := Γ))))
  ((with_reducible apply XC.cond); (case hc => exact rfl); all_goals (intro hb_; try simp only [pd_true, pd_false, Bool.not_eq_true', Bool.not_eq_false', Bool.and_eq_true, Bool.and_eq_false_iff, Bool.or_eq_true, Bool.or_eq_false_iff, not_true_eq_false, not_false_eq_true, Int.not_lt, Int.not_le] at hb_))
  · have hA12 := hw12.at_ _ hA
    have hsn := iter_snoc fM i qH.2
    generalize hrM' : (iterS fM i qH.2).2 = rM' at *
    generalize hms : (iterS fM i qH.2).1 = mms at *
    (repeat (first | (with_reducible apply XL.op) | ((with_reducible apply XOp.p1); (case hg | hv => exact rfl)) | ((with_reducible apply XOp.load); (case hg | ht | hk | hx => exact rfl); (case hc => exact own_cell (i := 2) rfl rfl)) | (with_reducible apply XC.seq) | (with_reducible apply XC.region (Γ := Γ)) | (with_reducible apply XQ.skip) | (with_reducible apply XQ.nt) | (with_reducible apply XC.block)))
    rw [eVW]
    ((with_reducible apply XOp.callM (R := [_, _, _]) (hF := open_fn rb a12 c12 rM' 77 (cf.Vocab * cf.Width) (by omega))); (case hg => exact rfl); (case hc => exact rfl); (case ha => exact rfl); (case hL => exact rfl); try (case hA => exact Known.true))
    case hA => exact Known.of_old hA12 (Mono.sl _ _ _ _ _)
    rintro _ _ ⟨a13, c13, rfl, hw13⟩
    have hw13' := hw12.trans hw13
    (repeat ((with_reducible apply XL.nilT)))
    ((with_reducible apply XC.regionL (Γ := Γ) mixed (.q 0 (.q 1 (.q 2 (.q 3 (.q 4 (.q 5 (.q 6 (.e 7 (.e 8 (.e 9 (.q 10 (.e 11 (.done))))))))))))) [11] ([(xb, Obj.cells ⟨rwC cf e' (.slice at' (cf.head / 2).toNat ct') (.slice al cf.Layers.toNat cl) f' h' (.slice am i cm)⟩ 31 (0, 0)), (cb, Obj.cells ⟨cf.cells⟩ 23 (0, 0))])); (case hc => kernel_rfl); (case hs => first | exact List.nil_sublist _ | exact List.Sublist.refl _ | exact List.sublist_append_right _ _ | (refine List.Sublist.cons_cons _ (List.nil_sublist _)) | (refine List.Sublist.cons_cons _ (List.Sublist.cons_cons _ (List.nil_sublist _))) | (refine List.Sublist.cons_cons _ (List.Sublist.cons_cons _ (List.Sublist.cons_cons _ (List.nil_sublist _)))) | (refine List.Sublist.cons_cons _ (List.Sublist.cons_cons _ (List.Sublist.cons_cons _ (List.Sublist.cons_cons _ (List.nil_sublist _))))) | ((try simp only [List.append_eq, List.cons_append, List.nil_append, List.append_assoc]); (repeat (first | exact List.Sublist.refl _ | exact List.nil_sublist _ | (with_reducible apply List.Sublist.cons_cons) | (with_reducible apply List.Sublist.cons))); done)))
    (repeat (first | ((with_reducible apply XP.p1); (case ho | hg | hv => exact rfl)) | ((with_reducible apply XP.load); (case ho | hg | ht | hk | hx => exact rfl); (case hc => exact own_cell (i := 0) rfl rfl)) | ((with_reducible apply XP.load); (case ho | hg | ht | hk | hx => exact rfl); (case hc => exact own_cell (i := 1) rfl rfl)) | ((with_reducible apply XP.e); (first | ((with_reducible apply XE.d); (case ho => exact rfl); (case hd => exact rfl)) | ((with_reducible apply XE.e); (case ho => exact rfl))))))
    ((with_reducible apply XOp.callM (R := [_, _, _]) (hF := rmatrix_fn rb a13 c13 (openS rM' 77 (cf.Vocab * cf.Width)) cf.Vocab cf.Width (by omega))); (case hg => exact rfl); (case hc => exact rfl); (case ha => exact rfl); (case hL => exact rfl); try (case hA => exact Known.true))
    case hA => exact Known.of_old (hw13'.at_ _ hA) (Mono.sl _ _ _ _ _)
    rintro _ _ ⟨a14, c14, m', F14, rfl, hmat, rfl, hF14, hw14⟩
    have hmf : matS (openS rM' 77 (cf.Vocab * cf.Width)) cf.Vocab cf.Width = fM rM' := by rw [hfM]; rfl
    rw [hmf] at hmat hw14 ⊢
    (refine ⟨fun y_ hy_ => (by rcases List.mem_cons.1 hy_ with rfl | hy_; simp; (rw [List.mem_singleton.1 hy_]; simp)), ?_⟩)
    (repeat (((with_reducible apply XP.e); (first | ((with_reducible apply XE.d); (case ho => exact rfl); (case hd => exact rfl)) | ((with_reducible apply XE.e); (case ho => exact rfl))))))
    ((with_reducible apply XOp.buildSlice); (case hg | ht | hk | he | hz | hzl | hf => exact rfl); intro bb)
    (refine ⟨fun y_ hy_ => (by rcases List.mem_cons.1 hy_ with rfl | hy_; simp; (rw [List.mem_singleton.1 hy_]; simp)), ?_⟩)
    (repeat (((with_reducible apply XP.e); (first | ((with_reducible apply XE.d); (case ho => exact rfl); (case hd => exact rfl)) | ((with_reducible apply XE.e); (case ho => exact rfl))))))
    (refine (show XOp _ _ _ _ _ _ _ _ ((bb, Obj.cells ⟨m'.cells⟩ 26 (0, 0)) :: [(xb, Obj.cells ⟨rwC cf e' (.slice at' (cf.head / 2).toNat ct') (.slice al cf.Layers.toNat cl) f' h' (.slice am i cm)⟩ 31 (0, 0)), (rs, Obj.cells ⟨zeroW⟩ 31 (0, 0)), (cb, Obj.cells ⟨cf.cells⟩ 23 (0, 0))] ++ ((RdB rb a14 c14 (fM rM').2 :: F14) ++ (HH ++ Fm))) from XOp.perm (L' :=  (bb, Obj.cells ⟨m'.cells⟩ 26 (0, 0)) :: (([(xb, Obj.cells ⟨rwC cf e' (.slice at' (cf.head / 2).toNat ct') (.slice al cf.Layers.toNat cl) f' h' (.slice am i cm)⟩ 31 (0, 0)), (rs, Obj.cells ⟨zeroW⟩ 31 (0, 0)), (cb, Obj.cells ⟨cf.cells⟩ 23 (0, 0))] ++ (RdB rb a14 c14 (fM rM').2 :: (F14 ++ HH))) ++ Fm)) rfl ?_ (by (first | (with_reducible exact List.Perm.refl _) | refine perm_of_cnt fun p_ => ?_; simp only [List.countP_append, List.countP_cons, List.countP_nil]; omega))))
    ((with_reducible apply XOp.append1R (R := [(xb, Obj.cells ⟨rwC cf e' (.slice at' (cf.head / 2).toNat ct') (.slice al cf.Layers.toNat cl) f' h' (.slice am i cm)⟩ 31 (0, 0)), (rs, Obj.cells ⟨zeroW⟩ 31 (0, 0)), (cb, Obj.cells ⟨cf.cells⟩ 23 (0, 0))] ++ (RdB rb a14 c14 (fM rM').2 :: (F14 ++ HH)))); (case hg => exact rfl); (case ht => exact rfl); (case hk => exact rfl); (case he => exact rfl); (case hown => exact hownM); (case hs => exact rfl); (case hx => exact rfl); (case hL => exact rfl); (case hl => exact rfl); (case h1 => exact rfl); (case hz => exact rfl); (case hsz => exact Nat.zero_lt_succ _); (case hk0 => exact Nat.zero_lt_succ _); (case h63 => simp only [maxLen]; omega); (case hb => simp only []; omega); intro v_ F_ hown_; obtain ⟨a_, c_, rfl⟩ := hown_.val)
    (refine ⟨fun y_ hy_ => (by rcases List.mem_cons.1 hy_ with rfl | hy_; simp; (rw [List.mem_singleton.1 hy_]; simp)), ?_⟩)
    (repeat (first | (with_reducible apply XL.op) | ((with_reducible apply XOp.p1); (case hg | hv => exact rfl)) | ((with_reducible apply XOp.store (i := 0)); (case hg | ht | hk | hx | hv | h1 | hi | hs | ha => exact rfl)) | (with_reducible apply XL.nilT) | (with_reducible apply XC.region (Γ := Γ)) | (with_reducible apply XQ.nt) | (with_reducible apply XQ.nb) | ((with_reducible apply XP.p1); (case ho | hg | hv => exact rfl)) | (with_reducible apply XP.done) | ((with_reducible apply XP.e); (first | ((with_reducible apply XE.d); (case ho => exact rfl); (case hd => exact rfl)) | ((with_reducible apply XE.e); (case ho => exact rfl))))))
    refine ⟨k - 1, by omega, _, .of (List.Sublist.refl _), i + 1, _, D ++ [m'], a14, c14, F14 ++ HH, F_, by omega, hown_.conv rfl (by simp), ?_, ?_, (by rw [List.map_append]; exact hHH.add (OwnP.one hF14)), ?_, rfl, rfl, rfl, rfl, rfl, intS2 (m := 64) (by omega) (by omega), trivial⟩
    · rw [hsn, List.map_append, hDl, List.map_singleton, hmat]
    · rw [hsn]; exact hw13'.trans hw14
    · rw [hsn]; rfl
  obtain rfl : k = 0 := by omega
  rw [Nat.add_zero] at hik
  subst hik
  have hfm' : iterS fM cf.Medusa.toNat qH.2 = iterS (fun r => matS (openS r 77 (cf.Vocab * cf.Width)) cf.Vocab cf.Width) cf.Medusa.toNat qH.2 := by rw [hfM]; rfl
  have hqMl := iter_len fM cf.Medusa.toNat qH.2
  generalize hqM : iterS fM cf.Medusa.toNat qH.2 = qM at *
  clear hs
  have hAn : A.length = cf.Layers.toNat := by have := congrArg List.length hAl; rw [List.length_map] at this; omega
  have hDn : D.length = cf.Medusa.toNat := by have := congrArg List.length hDl; rw [List.length_map] at this; omega
  (repeat (first | (with_reducible apply XL.op) | ((with_reducible apply XOp.loadO (i := 0)); (case hg | ht | hk | hx | hi | hc => exact rfl)) | ((with_reducible apply XOp.storeN (i := 1)); (case hg | ht | hx | hv' | hk | h1 | hi | hs | ha => exact rfl)) | (with_reducible apply XL.nilT) | (with_reducible apply XC.seq) | (with_reducible apply XC.region (Γ := Γ)) | (with_reducible apply XQ.ret) | (with_reducible apply XQ.exit) | (with_reducible apply XQ.nt) | (with_reducible apply XQ.et) | ((with_reducible apply XQ.eb); (case hb => exact rfl))))
  ((with_reducible apply XQ.retE); (case hr => exact .row rfl (by kernel_rfl) (by kernel_rfl) (own_row (i := 1) (m := 18) rfl rfl) .nil))
  rw [← hfL, ← hfM, hqL, hqF, hqH, hqM]
  obtain ⟨J1, p1⟩ := hFF
  obtain ⟨G0, J2, g0, p2⟩ := hGG
  obtain ⟨H0, J3, h0, p3⟩ := hHH
  refine ⟨RdB rb a12 c12 qM.2 :: ((F1 ++ (F9 ++ (F11 ++ (G0 ++ H0)))) ++ (Fv ++ (Fl ++ Fm))), (by exact drw_sub (A := [_, _, _]) p1 p2 p3), a12, c12, ⟨cf, e', (qT.1, at', ct'), (A, al, cl), f', h', (D, am, cm)⟩, (F1 ++ (F9 ++ (F11 ++ (G0 ++ H0)))) ++ (Fv ++ (Fl ++ Fm)), ?_, ?_, ?_, ?_, ?_⟩
  · simp only [LW.cells, sla, hqTl, hAn, hDn]; rfl
  · show (⟨cf, e'.mat, qT.1, A.map LL.lay, f'.1, h'.mat, D.map LM.mat⟩ : Wts) = _
    rw [he, hAl, hf, hh', hDl]
  · rfl
  · exact ⟨by show qT.1.length * 16 ≤ _; omega, by show A.length * 384 ≤ _; omega, by show D.length * 40 ≤ _; omega, F1 ++ (F9 ++ (F11 ++ (G0 ++ H0))), Fv, Fl, Fm, OwnAll.cons hF1 (.cons hF9 (.cons hF11 (g0.app h0))), (by show OwnS _ 2 (.slice at' qT.1.length ct') qT.1.length _ Fv; rw [hqTl]; exact hown), (by show OwnS _ 30 (.slice al A.length cl) A.length _ Fl; rw [hAn]; exact hownL), (by show OwnS _ 3 (.slice am D.length cm) D.length _ Fm; rw [hDn]; exact hownM), by (first | (with_reducible exact List.Perm.refl _) | refine perm_of_cnt fun p_ => ?_; simp only [List.countP_append, List.countP_cons, List.countP_nil]; omega)⟩
  · exact hw12
end Go.Proofs.YtppggaiahkecoaaDoorX
