/- Two Configs held against each other by ==. -/
import Derived.Test.YtppggaiahkecoaaDoorXPMR5
import Derived.Test.YtppggaiahkecoaaDoorXPCk1
import Derived.Laws.StructEq
import Derived.Test.YtppggaiahkecoaaDoorXPMR4
set_option linter.unusedSimpArgs false
set_option linter.unusedVariables false
namespace Go.Proofs.YtppggaiahkecoaaDoorX
open Go Go.SX

theorem eqField_int {P : Program} {d : Nat} {f : Field} {fs : List Field} {xs ys : Array Value} {a b : Int} {k : IntKind} (hn : f.name ≠ "_") (hu : P.underlying f.type = some (.int k)) (hag : isAggT P f.type = 1) (hx : xs[f.offset]? = some (.int k a)) (hy : ys[f.offset]? = some (.int k b)) (w : World) :
    (Op.eqFields (d + 1) xs ys (f :: fs)).run P w = if a = b then (Op.eqFields (d + 1) xs ys fs).run P w else .ok false w := by
  rw [show Op.eqFields (d + 1) xs ys (f :: fs) = (if f.name ≠ "_" then do
      let a ← part f.type xs f.offset
      let b ← part f.type ys f.offset
      let r ← Op.equalIn (d + 1) f.type a b
      if (!r) = true then pure false else Op.eqFields (d + 1) xs ys fs
    else Op.eqFields (d + 1) xs ys fs) from rfl]
  rw [if_pos hn, bind_run (run_part_one hag hx w), bind_run (run_part_one hag hy w), bind_run (run_equalIn_int w d f.type k k a b hu)]
  by_cases h : a = b
  · subst h
    rw [if_pos rfl]
    have : (a == a) = true := by simp
    rw [this]; rfl
  · rw [if_neg h]
    have : (a == b) = false := by simpa using h
    rw [this]; rfl
theorem eqCfg_run (c d : Cfg) (w : World) : (Op.equalIn 10000 23 (.agg ⟨c.cells⟩) (.agg ⟨d.cells⟩)).run Tryd.prog w = .ok (pd (c = d)) w := by
  have hf : Tryd.prog.underlying 23 = some (.struct (Tryd.prog.fieldsOf 23)) := by unfold Program.fieldsOf; rw [Tryd.underlying23]
  have hp : Tryd.prog.stoodInHeld 23 = false := by kernel_rfl
  rw [run_equalIn_struct w 9999 23 _ _ hf hp]
  unfold Program.fieldsOf
  rw [Tryd.underlying23]
  have h3 := Tryd.underlying3
  have ha : isAggT Tryd.prog 3 = 1 := by unfold isAggT; rw [h3]; rfl
  dsimp only
  refine Eq.trans (eqField_int (d := 9998) (k := .i64) (a := c.Vocab) (b := d.Vocab) ?_ ?_ ?_ ?_ ?_ w) ?_
  · simp
  · exact h3
  · exact ha
  · rfl
  · rfl
  by_cases e0 : c.Vocab = d.Vocab
  case neg => rw [if_neg e0, pdf (fun h => e0 (by rw [h]))]
  rw [if_pos e0]
  refine Eq.trans (eqField_int (d := 9998) (k := .i64) (a := c.Width) (b := d.Width) ?_ ?_ ?_ ?_ ?_ w) ?_
  · simp
  · exact h3
  · exact ha
  · rfl
  · rfl
  by_cases e1 : c.Width = d.Width
  case neg => rw [if_neg e1, pdf (fun h => e1 (by rw [h]))]
  rw [if_pos e1]
  refine Eq.trans (eqField_int (d := 9998) (k := .i64) (a := c.Heads) (b := d.Heads) ?_ ?_ ?_ ?_ ?_ w) ?_
  · simp
  · exact h3
  · exact ha
  · rfl
  · rfl
  by_cases e2 : c.Heads = d.Heads
  case neg => rw [if_neg e2, pdf (fun h => e2 (by rw [h]))]
  rw [if_pos e2]
  refine Eq.trans (eqField_int (d := 9998) (k := .i64) (a := c.KV) (b := d.KV) ?_ ?_ ?_ ?_ ?_ w) ?_
  · simp
  · exact h3
  · exact ha
  · rfl
  · rfl
  by_cases e3 : c.KV = d.KV
  case neg => rw [if_neg e3, pdf (fun h => e3 (by rw [h]))]
  rw [if_pos e3]
  refine Eq.trans (eqField_int (d := 9998) (k := .i64) (a := c.Layers) (b := d.Layers) ?_ ?_ ?_ ?_ ?_ w) ?_
  · simp
  · exact h3
  · exact ha
  · rfl
  · rfl
  by_cases e4 : c.Layers = d.Layers
  case neg => rw [if_neg e4, pdf (fun h => e4 (by rw [h]))]
  rw [if_pos e4]
  refine Eq.trans (eqField_int (d := 9998) (k := .i64) (a := c.Hidden) (b := d.Hidden) ?_ ?_ ?_ ?_ ?_ w) ?_
  · simp
  · exact h3
  · exact ha
  · rfl
  · rfl
  by_cases e5 : c.Hidden = d.Hidden
  case neg => rw [if_neg e5, pdf (fun h => e5 (by rw [h]))]
  rw [if_pos e5]
  refine Eq.trans (eqField_int (d := 9998) (k := .i64) (a := c.Len) (b := d.Len) ?_ ?_ ?_ ?_ ?_ w) ?_
  · simp
  · exact h3
  · exact ha
  · rfl
  · rfl
  by_cases e6 : c.Len = d.Len
  case neg => rw [if_neg e6, pdf (fun h => e6 (by rw [h]))]
  rw [if_pos e6]
  refine Eq.trans (eqField_int (d := 9998) (k := .i64) (a := c.Medusa) (b := d.Medusa) ?_ ?_ ?_ ?_ ?_ w) ?_
  · simp
  · exact h3
  · exact ha
  · rfl
  · rfl
  by_cases e7 : c.Medusa = d.Medusa
  case neg => rw [if_neg e7, pdf (fun h => e7 (by rw [h]))]
  rw [if_pos e7]
  have h : c = d := by
    obtain ⟨c1, c2, c3, c4, c5, c6, c7, c8⟩ := c
    obtain ⟨d1, d2, d3, d4, d5, d6, d7, d8⟩ := d
    simp only [Cfg.mk.injEq]
    exact ⟨e0, e1, e2, e3, e4, e5, e6, e7⟩
  rw [pdt h]; rfl
theorem PR.eqCfg {n : Nat} {w0 : World} {K : List Nat} {ρ : Fr} {L : HL} {x y : Operand} {ty : Nat} {c d : Cfg} (hx : ev n ρ x = .agg ⟨c.cells⟩) (hy : ev n ρ y = .agg ⟨d.cells⟩) :
    PR Γ n w0 K ρ L (.binOp .eql 23 x y ty) (.bool (pd (c = d))) := ⟨fun o ho w ow => by
  unfold execOp; rw [ho]
  refine run_value ?_
  rw [hx, hy, bind_run (run_eqGuard_agg w .eql 23 x y ⟨c.cells⟩ ⟨d.cells⟩ (by kernel_rfl))]
  show (((Op.equal 23 (.agg ⟨c.cells⟩) (.agg ⟨d.cells⟩)) >>= fun b => pure (Value.bool b)) : Sem Value).run Tryd.prog w = _
  rw [bind_run (show (Op.equal 23 (.agg ⟨c.cells⟩) (.agg ⟨d.cells⟩)).run Tryd.prog w = .ok (pd (c = d)) w from eqCfg_run c d w)]; rfl⟩
end Go.Proofs.YtppggaiahkecoaaDoorX
/- ModelChecks: of any weights: the error, whether there is a model, and what it says of itself; the weights stay. -/
namespace Go.Proofs.YtppggaiahkecoaaDoorX
open Go Go.SX

theorem eqWC_fn (x y : LW) {cx cy : List Value} (hx : x.cells = cx) (hy : y.cells = cy) (he : x.w = y.w) : FC Tryd.prog 23 [.agg ⟨cx⟩, .agg ⟨cy⟩] []
    (fun h => lwAt h x ∧ lwAt h y) (fun v L => v = .bool true ∧ L = []) := by subst hx; subst hy; exact eqWeightsT_fn x y he
theorem checkC_fn (x : LW) {cx : List Value} (hx : x.cells = cx) : FC Tryd.prog 27 [.agg ⟨cx⟩] [] (fun h => sidesK h ∧ lwAt h x)
    (fun v L => v = .int .i64 (errW x.w) ∧ L = []) := by subst hx; exact checkW_fn x
theorem copyC_fn (x : LW) {cx : List Value} (hx : x.cells = cx) : FC Tryd.prog 14 [.agg ⟨cx⟩] [] (fun h => lwAt h x)
    (fun v L => ∃ x' : LW, v = .agg ⟨x'.cells⟩ ∧ x'.w = x.w ∧ Held L (fun h => lwAt h x')) := by subst hx; exact copyWeights_fn x
theorem refCheckC_fn (x : LW) {e : Int} (he : errW x.w = e) : FC Tryd.prog 16 [.agg ⟨x.cells⟩] [] (fun h => lwAt h x)
    (fun v L => v = .int .i64 e ∧ L = []) := by subst he; exact refCheckW_fn x
theorem newE_fn (x : LW) {w : Wts} (hw : x.w = w) : FC Tryd.prog 17 [.agg ⟨x.cells⟩] [] (fun h => sidesK h ∧ lwAt h x) (fun v L => 
  (errW w ≠ 0 ∧ v = .tuple #[.pointer none, .int .i64 (errW w)] ∧ L = []) ∨
  (errW w = 0 ∧ okW w ∧ ∃ (mb : Nat) (x' : LW) (F : HL), v = .tuple #[.pointer (some ⟨mb, 0, none⟩), .int .i64 (errW w)] ∧ x'.w = w ∧ L = MdB mb x' :: F ∧ OwnW x' F)) := by
  subst hw
  refine (new_fn x).mono fun v L h => ?_
  rcases h with h | ⟨hok, mb, x', F, rfl, h⟩
  · exact .inl h
  · exact .inr ⟨errW_ok hok, hok, mb, x', F, by rw [errW_ok hok], h⟩
set_option maxHeartbeats 16000000 in
set_option maxRecDepth 10000 in
theorem modelChecks_fn (x : LW) : FC Tryd.prog 6 [.agg ⟨x.cells⟩] [] (fun h => sidesK h ∧ lwAt h x) (fun v _ => v = .bool true) := by
  refine FC.intro Tryd.func6 rfl (by kernel_rfl) 95 [.tmp 2] rfl rfl rfl ?_
  rintro w0 ⟨hS, hX⟩
  (repeat (first | (with_reducible apply XL.op) | (with_reducible apply XC.seq) | (with_reducible apply XC.region (Γ := Γ))))
  ((with_reducible apply XOp.box); (case hg | hx' => exact rfl); intro wb)
  (repeat (first | (with_reducible apply XL.op) | ((with_reducible apply XOp.p1); (case hg | hv => exact rfl)) | ((with_reducible apply XOp.loadO (i := 0)); (case hg | ht | hk | hx | hi | hc => exact rfl)) | (with_reducible apply XL.nilT) | (with_reducible apply XC.seq) | (with_reducible apply XC.region (Γ := Γ)) | (((with_reducible apply XOp.callQ (hF := works_fn)); (case hg => exact rfl); (case hc => exact rfl); (case ha => exact rfl); try (case hA => exact Known.true)); (case hA => exact Known.of_old hS sides_mono); rintro _ rfl)))
  ((with_reducible apply XOp.callN (hF := wide_fn x)); (case hg => exact rfl); (case hc => exact rfl); (case ha => exact rfl); try (case hA => exact Known.true))
  case hA => exact Known.of_old hX (lw_mono _)
  rintro _ _ ⟨x', fb, F, rfl, hw, hxF, rfl, hfo, hF⟩
  obtain ⟨C', E', T', Ls', F', H', M'⟩ := x'
  simp only [] at hxF
  subst hxF
  have hfm : ∀ (G : HL), Held ((fb, Obj.cells ⟨(x.F.1 ++ mk64).map (.int .i8)⟩ 39 (0, 0)) :: G) (fun h => mkLv h (mvd x.F fb)) := fun G => mk_lv (List.mem_cons_self ..) hX.f.bytes hX.f.okAll
  have hW : Held ((fb, Obj.cells ⟨(x.F.1 ++ mk64).map (.int .i8)⟩ 39 (0, 0)) :: F) (fun h => wideR h (⟨C', E', T', Ls', mvd x.F fb, H', M'⟩ : LW) ∧ mkLv h (⟨C', E', T', Ls', mvd x.F fb, H', M'⟩ : LW).F ∧ lwAt h (⟨C', E', T', Ls', mvd x.F fb, H', M'⟩ : LW)) := fun h hh =>
    have h1 := hF h fun y hy => hh y (List.mem_cons_of_mem _ hy)
    have h2 := hfm F h hh
    ⟨h1, h2, wide_at h1 h2.at_ hX hw⟩
  have hWA : Held ((fb, Obj.cells ⟨(x.F.1 ++ mk64).map (.int .i8)⟩ 39 (0, 0)) :: F) (fun h => lwAt h (⟨C', E', T', Ls', mvd x.F fb, H', M'⟩ : LW)) := hW.imp fun _ h => h.2.2
  (repeat ((with_reducible apply XL.op)))
  ((with_reducible apply XOp.alloc); (case hg | ht | hx' => exact rfl); intro xb)
  (repeat (first | (with_reducible apply XL.op) | ((with_reducible apply XOp.loadO (i := 0)); (case hg | ht | hk | hx | hi | hc => exact rfl)) | ((with_reducible apply XOp.storeN (i := 0)); (case hg | ht | hx | hv' | hk | h1 | hi | hs | ha => exact rfl)) | (with_reducible apply XL.nilT) | (with_reducible apply XC.seq) | (with_reducible apply XC.region (Γ := Γ))))
  ((with_reducible apply XOp.callQ (hF := checkW_fn (⟨C', E', T', Ls', mvd x.F fb, H', M'⟩ : LW))); (case hg => exact rfl); (case hc => exact rfl); (case ha => exact rfl); try (case hA => exact Known.true))
  case hA => exact Known.and (Known.of_old hS sides_mono) (Held.known hWA (fun y hy => List.mem_cons_of_mem _ (List.mem_cons_of_mem _ hy)))
  rintro _ rfl
  rw [hw]
  (repeat (first | (with_reducible apply XL.op) | ((with_reducible apply XOp.p1); (case hg | hv => exact rfl)) | ((with_reducible apply XOp.loadO (i := 0)); (case hg | ht | hk | hx | hi | hc => exact rfl)) | (with_reducible apply XL.nilT) | (with_reducible apply XC.seq) | (with_reducible apply XC.region (Γ := Γ))))
  ((with_reducible apply XOp.callN (hF := newE_fn (⟨C', E', T', Ls', mvd x.F fb, H', M'⟩ : LW) hw)); (case hg => exact rfl); (case hc => exact rfl); (case ha => exact rfl); try (case hA => exact Known.true))
  case hA => exact Known.and (Known.of_old hS sides_mono) (Held.known hWA (fun y hy => List.mem_cons_of_mem _ (List.mem_cons_of_mem _ hy)))
  rintro _ G hN
  obtain ⟨e, hee⟩ : ∃ e, errW x.w = e := ⟨_, rfl⟩
  rw [hee] at hN ⊢
  rcases hN with ⟨hne, rfl, rfl⟩ | ⟨hze, hok, mb, x2, F2, rfl, hx2, rfl, ho2⟩
  case' inl => obtain ⟨A, hA, hAe⟩ : ∃ A : HV → Prop, Held [] A ∧ A = (fun _ => True) := ⟨_, fun _ _ => trivial, rfl⟩
  case' inr => obtain ⟨A, hA, hAe⟩ : ∃ A : HV → Prop, Held (MdB mb x2 :: F2) A ∧ A = (fun h => rowv h mb 0 x2.cells ∧ lwAt h x2) := ⟨_, Held.and (Held.row (List.mem_cons_self ..)) (ho2.held.sub fun y hy => List.mem_cons_of_mem _ hy), rfl⟩
  case' inl => obtain ⟨p, hp⟩ : ∃ p : Option Addr, p = none := ⟨_, rfl⟩
  case' inr => obtain ⟨p, hp⟩ : ∃ p : Option Addr, p = some ⟨mb, 0, none⟩ := ⟨_, rfl⟩
  all_goals
    (repeat (first | (with_reducible apply XL.op) | ((with_reducible apply XOp.p1); (case hg | hv => exact rfl)) | ((with_reducible apply XOp.loadO (i := 0)); (case hg | ht | hk | hx | hi | hc => exact rfl)) | ((with_reducible apply XOp.loadO (i := 1)); (case hg | ht | hk | hx | hi | hc => exact rfl)) | (with_reducible apply XL.nilT) | (with_reducible apply XC.seq) | (with_reducible apply XC.region (Γ := Γ)) | (((with_reducible apply XOp.callQ (hF := refCheckC_fn x hee)); (case hg => exact rfl); (case hc => exact rfl); (case ha => exact rfl); try (case hA => exact Known.true)); (case hA => exact Known.of_old hX (lw_mono _)); rintro _ rfl)))
  all_goals
    ((with_reducible apply XOp.callQ (hF := spare_fn (⟨C', E', T', Ls', mvd x.F fb, H', M'⟩ : LW) x hw hfo)); (case hg => exact rfl); (case hc => exact rfl); (case ha => exact rfl); try (case hA => exact Known.true))
    case hA => exact Known.and (hF.known fun y hy => by simp [hy]) (Known.and ((hfm []).known fun y hy => by simp at hy; simp [hy]) (Known.of_old hX (lw_mono _)))
    rintro _ rfl
    (repeat (first | (with_reducible apply XL.op) | ((with_reducible apply XOp.p1); (case hg | hv => exact rfl)) | ((with_reducible apply XOp.load); (case hg | ht | hk | hx => exact rfl); (case hc => exact own_cell (i := 0) rfl rfl)) | (with_reducible apply XL.nilT) | (with_reducible apply XC.seq) | (with_reducible apply XC.region (Γ := Γ))))
  all_goals
    refine XC.cut (fun ρ L => ∃ o L', L = o :: (wb, Obj.cells ⟨x.cells⟩ 31 (0, 0)) :: L' ∧ Held L' A ∧ Slots ρ [(1, .pointer (some ⟨wb, 0, none⟩)), (3, .bool true), (5, .int .i64 e), (6, .pointer p), (7, .int .i64 e), (8, .int .i64 e), (9, .bool true)]) _ ?_ ?_
    case refine_1 =>
      ((with_reducible apply XC.cond); (case hc => exact rfl); all_goals (intro hb_; try simp only [pd_true, pd_false, Bool.not_eq_true', Bool.not_eq_false', Bool.and_eq_true, Bool.and_eq_false_iff, Bool.or_eq_true, Bool.or_eq_false_iff, not_true_eq_false, not_false_eq_true, Int.not_lt, Int.not_le] at hb_))
      · obtain ⟨z0, zs, hz⟩ : ∃ z zs, x.F.1 = z :: zs := by
          cases h : x.F.1 with
          | nil => rw [h] at hb_; simp at hb_
          | cons z zs => exact ⟨z, zs, rfl⟩
        have hlen : (0 : Int) ≤ 0 ∧ (0 : Int) < ((x.F.1.length : Nat) : Int) := ⟨Int.le_refl _, hb_⟩
        have hl0 : 0 < x.F.1.length := by omega
        (repeat (first | (with_reducible apply XL.op) | ((with_reducible apply XOp.p1); (case hg | hv => exact rfl)) | ((with_reducible apply XOp.load); (case hg | ht | hk | hx => exact rfl); (case hc => exact own_cell (i := 0) rfl rfl)) | ((with_reducible apply XOp.loadO (i := 0)); (case hg | ht | hk | hx | hi | hc => exact rfl)) | ((with_reducible apply XOp.pr); (case hg => exact rfl); (case hr => ((with_reducible apply PR.idx); (case ht | hk | he | hx | hi => exact rfl); (case hr => first | assumption | omega)))) | (with_reducible apply XL.nilT) | (with_reducible apply XC.seq) | (with_reducible apply XC.region (Γ := Γ)) | (((with_reducible apply XOp.callQ (hF := checkW_fn (⟨C', E', T', Ls', mvd x.F fb, H', M'⟩ : LW))); (case hg => exact rfl); (case hc => exact rfl); (case ha => exact rfl); try (case hA => exact Known.true)); (case hA => exact Known.and (Known.of_old hS sides_mono) (Held.known hWA (fun y hy => by simp only [List.mem_cons, List.mem_append] at hy ⊢; rcases hy with hy | hy <;> simp [hy]))); rintro _ rfl) | (first | ((with_reducible apply XOp.pr); (case hg => exact rfl); (case hr => (with_reducible apply PR.idx); (case ht => exact rfl); (case hk => exact rfl); (case he => exact rfl); (case hx => exact rfl); (case hi => exact rfl); (case hr => exact hlen))) | ((with_reducible apply XP.pr); (case ho => exact rfl); (case hg => exact rfl); (case hr => (with_reducible apply PR.idx); (case ht => exact rfl); (case hk => exact rfl); (case he => exact rfl); (case hx => exact rfl); (case hi => exact rfl); (case hr => exact hlen))))))
        ((with_reducible apply XOp.storeE (i := 2) (cs' := (((-128 :: zs) ++ mk64).map (.int .i8)))); (case hg => exact rfl); (case ht => exact rfl); (case hk => exact rfl); (case hx => exact rfl); (case hv' => exact rfl); (case h1 => exact rfl); (case hi => exact rfl); (case hs => exact (show 0 + 0 * 1 < _ ∧ List.set _ (0 + 0 * 1) _ = _ from ⟨by simp only [List.length_map, List.length_append, mk64_len]; omega, by rw [hz]; rfl⟩)); (case ha => exact rfl))
        (repeat (first | (with_reducible apply XL.op) | ((with_reducible apply XOp.loadO (i := 0)); (case hg | ht | hk | hx | hi | hc => exact rfl)) | (with_reducible apply XL.nilT) | (with_reducible apply XC.seq) | (with_reducible apply XC.region (Γ := Γ))))
        have hcells : (⟨C', E', T', Ls', mvd x.F fb, H', M'⟩ : LW).cells = (⟨C', E', T', Ls', mvd (-128 :: zs, x.F.2) fb, H', M'⟩ : LW).cells := by simp only [LW.cells, slv, mvd, hz]; rfl
        have hcw : [Value.agg ⟨(⟨C', E', T', Ls', mvd x.F fb, H', M'⟩ : LW).cells⟩] = [Value.agg ⟨(⟨C', E', T', Ls', mvd (-128 :: zs, x.F.2) fb, H', M'⟩ : LW).cells⟩] := congrArg (fun c => [Value.agg ⟨c⟩]) hcells
        have hok : ∀ y ∈ x.F.1, inK .i8 y := hX.f.okAll
        have hb1 := hX.f.bytes
        have hW2 : Held ((fb, Obj.cells ⟨((-128 :: zs) ++ mk64).map (.int .i8)⟩ 39 (0, 0)) :: F) (fun h => lwAt h (⟨C', E', T', Ls', mvd (-128 :: zs, x.F.2) fb, H', M'⟩ : LW)) := fun h hh =>
          have h1 := hF h fun y hy => hh y (List.mem_cons_of_mem _ hy)
          have h2 := mk_lv (F := (fb, Obj.cells ⟨((-128 :: zs) ++ mk64).map (.int .i8)⟩ 39 (0, 0)) :: F) (List.mem_cons_self ..) (by rw [hz] at hb1; simpa using hb1) (fun y hy => by
            rcases List.mem_cons.1 hy with rfl | hy
            · exact inK_i8.2 (by omega)
            · exact hok y (by rw [hz]; exact List.mem_cons_of_mem _ hy)) h hh
          wide_at2 h1 hX hw h2.at_
        ((with_reducible apply XOp.callN (hF := copyWeights_fn (⟨C', E', T', Ls', mvd (-128 :: zs, x.F.2) fb, H', M'⟩ : LW))); (case hg => exact rfl); (case hc => exact rfl); (case ha =>  exact hcw); try (case hA => exact Known.true))
        case hA => exact hW2.known fun y hy => by simp only [List.mem_cons, List.mem_append] at hy ⊢; rcases hy with hy | hy <;> simp [hy]
        rintro _ E3 ⟨x3, rfl, hx3, s3⟩
        (repeat ((with_reducible apply XL.op)))
        ((with_reducible apply XOp.callQ (hF := refCheckW_fn x3)); (case hg => exact rfl); (case hc => exact rfl); (case ha => exact rfl); try (case hA => exact Known.true))
        case hA => exact s3.known fun y hy => by simp [hy]
        rintro _ rfl
        rw [hx3]
        (repeat (first | (with_reducible apply XL.op) | ((with_reducible apply XOp.p1); (case hg | hv => exact rfl)) | ((with_reducible apply XOp.loadO (i := 0)); (case hg | ht | hk | hx | hi | hc => exact rfl)) | (with_reducible apply XL.nilT) | (with_reducible apply XC.seq) | (with_reducible apply XC.region (Γ := Γ)) | (((with_reducible apply XOp.callQ (hF := checkC_fn (⟨C', E', T', Ls', mvd (-128 :: zs, x.F.2) fb, H', M'⟩ : LW) hcells.symm)); (case hg => exact rfl); (case hc => exact rfl); (case ha => exact rfl); try (case hA => exact Known.true)); (case hA => exact Known.and (Known.of_old hS sides_mono) (hW2.known fun y hy => by simp only [List.mem_cons, List.mem_append] at hy ⊢; rcases hy with hy | hy <;> simp [hy])); rintro _ rfl)))
        rw [pdt (rfl : errW (⟨C', E', T', Ls', mvd (-128 :: zs, x.F.2) fb, H', M'⟩ : LW).w = errW (⟨C', E', T', Ls', mvd (-128 :: zs, x.F.2) fb, H', M'⟩ : LW).w)]
        have hx0 := hX.f.int 0 hl0
        rw [hz] at hx0
        have hx0' := hx0.1
        change cellv _ _ = some (.int .i8 z0) at hx0'
        have hat := hX.f.at_
        ((with_reducible apply XC.regionD (Γ := Γ) mixed (.q 0 (.q 1 (.q 2 (.q 3 (.q 4 (.q 5 (.q 6 (.e 7 (.done))))))))) [7] []); (case hc => kernel_rfl))
        (repeat (first | ((with_reducible apply XOp.store (i := 2)); (case hg | ht | hk | hx | hv | h1 | hi | hs | ha => exact rfl)) | (with_reducible apply XQ.nt) | ((with_reducible apply XP.p1); (case ho | hg | hv => exact rfl)) | ((with_reducible apply XP.load); (case ho | hg | ht | hk | hx => exact rfl); (case hc => exact own_cell (i := 0) rfl rfl)) | ((with_reducible apply XP.load); (case ho | hg | ht | hk | hx => exact rfl); (case hc => exact own_cell (i := 1) rfl rfl)) | ((with_reducible apply XP.pr); (case ho => exact rfl); (case hg => exact rfl); (case hr => ((with_reducible apply PR.idxA); (case ht | hk | he | hx | hi => exact rfl); (case hr => first | assumption | omega); (case ha => first | assumption | exact SlA.at_ (by assumption))))) | ((with_reducible apply XP.pr); (case ho => exact rfl); (case hg => exact rfl); (case hr => ((with_reducible apply PR.idx); (case ht | hk | he | hx | hi => exact rfl); (case hr => first | assumption | omega)))) | (with_reducible apply XP.done) | ((with_reducible apply XP.e); (first | ((with_reducible apply XE.d); (case ho => exact rfl); (case hd => exact rfl)) | ((with_reducible apply XE.e); (case ho => exact rfl)))) | (first | ((with_reducible apply XOp.load); (case hg | ht | hk | hx => exact rfl); (case hc => exact Known.of_old hx0' (Mono.cell _ _))) | ((with_reducible apply XP.load); (case ho | hg | ht | hk | hx => exact rfl); (case hc => exact Known.of_old hx0' (Mono.cell _ _)))) | (first | ((with_reducible apply XOp.pr); (case hg => exact rfl); (case hr => (with_reducible apply PR.idx); (case ht => exact rfl); (case hk => exact rfl); (case he => exact rfl); (case hx => exact rfl); (case hi => exact rfl); (case hr => exact hlen))) | ((with_reducible apply XP.pr); (case ho => exact rfl); (case hg => exact rfl); (case hr => (with_reducible apply PR.idx); (case ht => exact rfl); (case hk => exact rfl); (case he => exact rfl); (case hx => exact rfl); (case hi => exact rfl); (case hr => exact hlen))))))
        exact ⟨_, _, rfl, hA.sub (fun y hy => by first | exact absurd hy List.not_mem_nil | (rcases List.mem_cons.1 hy with rfl | hy <;> simp only [List.append_eq, List.nil_append, List.mem_append, List.mem_cons, true_or, or_true, *])), rfl, rfl, rfl, congrArg Value.pointer hp.symm, rfl, rfl, rfl, trivial⟩
      · (repeat (first | (with_reducible apply XQ.skip) | (with_reducible apply XQ.nt)))
        exact ⟨_, _, rfl, hA.sub (fun y hy => by first | exact absurd hy List.not_mem_nil | (rcases List.mem_cons.1 hy with rfl | hy <;> simp only [List.append_eq, List.nil_append, List.mem_append, List.mem_cons, true_or, or_true, *])), rfl, rfl, rfl, congrArg Value.pointer hp.symm, rfl, rfl, rfl, trivial⟩
    rintro ρ L ⟨⟨ob, oo⟩, L', rfl, hLA, hs⟩
    refine XC.slots _ hs ?_
    clear hs
    subst hp
    subst hAe
    (repeat (first | (with_reducible apply XL.op) | ((with_reducible apply XOp.p1); (case hg | hv => exact rfl)) | (with_reducible apply XC.seq) | (with_reducible apply XC.region (Γ := Γ)) | (first | ((with_reducible apply XOp.split); (case hg | hj | hd | hb => exact rfl); (fail_if_success (case hf => exact fun h => Bool.noConfusion h)); (fail_if_success (case ht => exact fun h => Bool.noConfusion h)); (first | (case ht => intro hb_; try simp only [pd_true, pd_false, Bool.not_eq_true', Bool.not_eq_false', Bool.and_eq_true, Bool.and_eq_false_iff, Bool.or_eq_true, Bool.or_eq_false_iff, not_true_eq_false, not_false_eq_true, Int.not_lt, Int.not_le] at hb_; first | done | (exfalso; first | omega | contradiction)) | (case hf => intro hb_; try simp only [pd_true, pd_false, Bool.not_eq_true', Bool.not_eq_false', Bool.and_eq_true, Bool.and_eq_false_iff, Bool.or_eq_true, Bool.or_eq_false_iff, not_true_eq_false, not_false_eq_true, Int.not_lt, Int.not_le] at hb_; first | done | (exfalso; first | omega | contradiction))); intro hb_; try simp only [pd_true, pd_false, Bool.not_eq_true', Bool.not_eq_false', Bool.and_eq_true, Bool.and_eq_false_iff, Bool.or_eq_true, Bool.or_eq_false_iff, not_true_eq_false, not_false_eq_true, Int.not_lt, Int.not_le] at hb_) | ((with_reducible apply XP.split); (case ho | hg | hj | hd | hb => exact rfl); (fail_if_success (case hf => exact fun h => Bool.noConfusion h)); (fail_if_success (case ht => exact fun h => Bool.noConfusion h)); (first | (case ht => intro hb_; try simp only [pd_true, pd_false, Bool.not_eq_true', Bool.not_eq_false', Bool.and_eq_true, Bool.and_eq_false_iff, Bool.or_eq_true, Bool.or_eq_false_iff, not_true_eq_false, not_false_eq_true, Int.not_lt, Int.not_le] at hb_; first | done | (exfalso; first | omega | contradiction)) | (case hf => intro hb_; try simp only [pd_true, pd_false, Bool.not_eq_true', Bool.not_eq_false', Bool.and_eq_true, Bool.and_eq_false_iff, Bool.or_eq_true, Bool.or_eq_false_iff, not_true_eq_false, not_false_eq_true, Int.not_lt, Int.not_le] at hb_; first | done | (exfalso; first | omega | contradiction))); intro hb_; try simp only [pd_true, pd_false, Bool.not_eq_true', Bool.not_eq_false', Bool.and_eq_true, Bool.and_eq_false_iff, Bool.or_eq_true, Bool.or_eq_false_iff, not_true_eq_false, not_false_eq_true, Int.not_lt, Int.not_le] at hb_) | ((with_reducible apply XC.cond); (case hc => exact rfl); (first | (case ht => intro hb_; try simp only [pd_true, pd_false, Bool.not_eq_true', Bool.not_eq_false', Bool.and_eq_true, Bool.and_eq_false_iff, Bool.or_eq_true, Bool.or_eq_false_iff, not_true_eq_false, not_false_eq_true, Int.not_lt, Int.not_le] at hb_; first | done | (exfalso; first | omega | contradiction)) | (case hf => intro hb_; try simp only [pd_true, pd_false, Bool.not_eq_true', Bool.not_eq_false', Bool.and_eq_true, Bool.and_eq_false_iff, Bool.or_eq_true, Bool.or_eq_false_iff, not_true_eq_false, not_false_eq_true, Int.not_lt, Int.not_le] at hb_; first | done | (exfalso; first | omega | contradiction))); intro hb_; try simp only [pd_true, pd_false, Bool.not_eq_true', Bool.not_eq_false', Bool.and_eq_true, Bool.and_eq_false_iff, Bool.or_eq_true, Bool.or_eq_false_iff, not_true_eq_false, not_false_eq_true, Int.not_lt, Int.not_le] at hb_)) | (first | (first | ((with_reducible apply XOp.pr); (case hg => exact rfl); (case hr => (with_reducible apply PR.eqNilP); (case ht => exact rfl); (case hk => exact rfl); (case hx => exact rfl); (case hy => exact rfl))) | ((with_reducible apply XP.pr); (case ho => exact rfl); (case hg => exact rfl); (case hr => (with_reducible apply PR.eqNilP); (case ht => exact rfl); (case hk => exact rfl); (case hx => exact rfl); (case hy => exact rfl)))) | (first | ((with_reducible apply XOp.pr); (case hg => exact rfl); (case hr => (with_reducible apply PR.neNilP); (case ht => exact rfl); (case hk => exact rfl); (case hx => exact rfl); (case hy => exact rfl))) | ((with_reducible apply XP.pr); (case ho => exact rfl); (case hg => exact rfl); (case hr => (with_reducible apply PR.neNilP); (case ht => exact rfl); (case hk => exact rfl); (case hx => exact rfl); (case hy => exact rfl))))) | (first | (first | ((with_reducible apply XOp.pr); (case hg => exact rfl); (case hr => (with_reducible apply PR.eqBB); (case ht => exact rfl); (case hk => exact rfl); (case hx => exact rfl); (case hy => exact rfl))) | ((with_reducible apply XP.pr); (case ho => exact rfl); (case hg => exact rfl); (case hr => (with_reducible apply PR.eqBB); (case ht => exact rfl); (case hk => exact rfl); (case hx => exact rfl); (case hy => exact rfl)))) | (first | ((with_reducible apply XOp.pr); (case hg => exact rfl); (case hr => (with_reducible apply PR.neBB); (case ht => exact rfl); (case hk => exact rfl); (case hx => exact rfl); (case hy => exact rfl))) | ((with_reducible apply XP.pr); (case ho => exact rfl); (case hg => exact rfl); (case hr => (with_reducible apply PR.neBB); (case ht => exact rfl); (case hk => exact rfl); (case hx => exact rfl); (case hy => exact rfl)))))))
  · rw [pdt hze]
    have hcfg : x2.C = x.C := congrArg Wts.C hx2
    have hm2 : x2.C.may := by rw [hcfg]; exact hok.c
    (repeat (first | (with_reducible apply XL.op) | ((with_reducible apply XOp.p1); (case hg | hv => exact rfl)) | (with_reducible apply XL.nilT) | (with_reducible apply XC.seq) | (with_reducible apply XC.region (Γ := Γ)) | (with_reducible apply XQ.skip) | (with_reducible apply XQ.nt) | ((with_reducible apply XC.condF); (case hc => exact rfl))))
    ((with_reducible apply XOp.callQ (hF := cOf_fn mb x2)); (case hg => exact rfl); (case hc => exact rfl); (case ha => exact rfl); try (case hA => exact Known.true))
    case hA => exact (hLA.imp fun _ h => h.1).known fun y hy => by simp [hy]
    rintro _ rfl
    (repeat ((with_reducible apply XL.op)))
    ((with_reducible apply XOp.alloc); (case hg | ht | hx' => exact rfl); intro cb)
    (repeat (first | (with_reducible apply XL.op) | ((with_reducible apply XOp.p1); (case hg | hv => exact rfl)) | ((with_reducible apply XOp.storeN (i := 0)); (case hg | ht | hx | hv' | hk | h1 | hi | hs | ha => exact rfl)) | (with_reducible apply XL.nilT) | (with_reducible apply XC.seq) | (with_reducible apply XC.region (Γ := Γ))))
    ((with_reducible apply XOp.callN (hF := wOf_fn mb x2 hm2)); (case hg => exact rfl); (case hc => exact rfl); (case ha => exact rfl); try (case hA => exact Known.true))
    case hA => exact Known.and (Known.of_old hS sides_mono) (hLA.known fun y hy => by simp [hy])
    rintro _ F4 ⟨x4, rfl, hx4, hF4⟩
    (repeat ((with_reducible apply XL.op)))
    ((with_reducible apply XOp.alloc); (case hg | ht | hx' => exact rfl); intro ub)
    (repeat (first | (with_reducible apply XL.op) | ((with_reducible apply XOp.storeN (i := 0)); (case hg | ht | hx | hv' | hk | h1 | hi | hs | ha => exact rfl)) | ((with_reducible apply XOp.pr); (case hg => exact rfl); (case hr => ((with_reducible apply PR.build); (case ht | hk | hok | hz | hf => exact rfl)))) | (with_reducible apply XL.nilT) | (with_reducible apply XC.seq) | (with_reducible apply XC.region (Γ := Γ))))
    ((with_reducible apply XOp.alloc); (case hg | ht | hx' => exact rfl); intro vb)
    (repeat (first | (with_reducible apply XL.op) | ((with_reducible apply XOp.p1); (case hg | hv => exact rfl)) | ((with_reducible apply XOp.loadO (i := 0)); (case hg | ht | hk | hx | hi | hc => exact rfl)) | ((with_reducible apply XOp.loadO (i := 2)); (case hg | ht | hk | hx | hi | hc => exact rfl)) | ((with_reducible apply XOp.loadO (i := 4)); (case hg | ht | hk | hx | hi | hc => exact rfl)) | ((with_reducible apply XOp.storeN (i := 0)); (case hg | ht | hx | hv' | hk | h1 | hi | hs | ha => exact rfl)) | (with_reducible apply XL.nilT) | (with_reducible apply XC.seq) | (with_reducible apply XC.region (Γ := Γ)) | (first | ((with_reducible apply XOp.split); (case hg | hj | hd | hb => exact rfl); (fail_if_success (case hf => exact fun h => Bool.noConfusion h)); (fail_if_success (case ht => exact fun h => Bool.noConfusion h)); (first | (case ht => intro hb_; try simp only [pd_true, pd_false, Bool.not_eq_true', Bool.not_eq_false', Bool.and_eq_true, Bool.and_eq_false_iff, Bool.or_eq_true, Bool.or_eq_false_iff, not_true_eq_false, not_false_eq_true, Int.not_lt, Int.not_le] at hb_; first | done | (exfalso; first | omega | contradiction)) | (case hf => intro hb_; try simp only [pd_true, pd_false, Bool.not_eq_true', Bool.not_eq_false', Bool.and_eq_true, Bool.and_eq_false_iff, Bool.or_eq_true, Bool.or_eq_false_iff, not_true_eq_false, not_false_eq_true, Int.not_lt, Int.not_le] at hb_; first | done | (exfalso; first | omega | contradiction))); intro hb_; try simp only [pd_true, pd_false, Bool.not_eq_true', Bool.not_eq_false', Bool.and_eq_true, Bool.and_eq_false_iff, Bool.or_eq_true, Bool.or_eq_false_iff, not_true_eq_false, not_false_eq_true, Int.not_lt, Int.not_le] at hb_) | ((with_reducible apply XP.split); (case ho | hg | hj | hd | hb => exact rfl); (fail_if_success (case hf => exact fun h => Bool.noConfusion h)); (fail_if_success (case ht => exact fun h => Bool.noConfusion h)); (first | (case ht => intro hb_; try simp only [pd_true, pd_false, Bool.not_eq_true', Bool.not_eq_false', Bool.and_eq_true, Bool.and_eq_false_iff, Bool.or_eq_true, Bool.or_eq_false_iff, not_true_eq_false, not_false_eq_true, Int.not_lt, Int.not_le] at hb_; first | done | (exfalso; first | omega | contradiction)) | (case hf => intro hb_; try simp only [pd_true, pd_false, Bool.not_eq_true', Bool.not_eq_false', Bool.and_eq_true, Bool.and_eq_false_iff, Bool.or_eq_true, Bool.or_eq_false_iff, not_true_eq_false, not_false_eq_true, Int.not_lt, Int.not_le] at hb_; first | done | (exfalso; first | omega | contradiction))); intro hb_; try simp only [pd_true, pd_false, Bool.not_eq_true', Bool.not_eq_false', Bool.and_eq_true, Bool.and_eq_false_iff, Bool.or_eq_true, Bool.or_eq_false_iff, not_true_eq_false, not_false_eq_true, Int.not_lt, Int.not_le] at hb_) | ((with_reducible apply XC.cond); (case hc => exact rfl); (first | (case ht => intro hb_; try simp only [pd_true, pd_false, Bool.not_eq_true', Bool.not_eq_false', Bool.and_eq_true, Bool.and_eq_false_iff, Bool.or_eq_true, Bool.or_eq_false_iff, not_true_eq_false, not_false_eq_true, Int.not_lt, Int.not_le] at hb_; first | done | (exfalso; first | omega | contradiction)) | (case hf => intro hb_; try simp only [pd_true, pd_false, Bool.not_eq_true', Bool.not_eq_false', Bool.and_eq_true, Bool.and_eq_false_iff, Bool.or_eq_true, Bool.or_eq_false_iff, not_true_eq_false, not_false_eq_true, Int.not_lt, Int.not_le] at hb_; first | done | (exfalso; first | omega | contradiction))); intro hb_; try simp only [pd_true, pd_false, Bool.not_eq_true', Bool.not_eq_false', Bool.and_eq_true, Bool.and_eq_false_iff, Bool.or_eq_true, Bool.or_eq_false_iff, not_true_eq_false, not_false_eq_true, Int.not_lt, Int.not_le] at hb_))))
    subst hze
    (repeat (first | (with_reducible apply XL.op) | ((with_reducible apply XOp.p1); (case hg | hv => exact rfl)) | ((with_reducible apply XOp.loadO (i := 0)); (case hg | ht | hk | hx | hi | hc => exact rfl)) | ((with_reducible apply XOp.loadO (i := 1)); (case hg | ht | hk | hx | hi | hc => exact rfl)) | (first | ((with_reducible apply XOp.split); (case hg | hj | hd | hb => exact rfl); (fail_if_success (case hf => exact fun h => Bool.noConfusion h)); (fail_if_success (case ht => exact fun h => Bool.noConfusion h)); (first | (case ht => intro hb_; try simp only [pd_true, pd_false, Bool.not_eq_true', Bool.not_eq_false', Bool.and_eq_true, Bool.and_eq_false_iff, Bool.or_eq_true, Bool.or_eq_false_iff, not_true_eq_false, not_false_eq_true, Int.not_lt, Int.not_le] at hb_; first | done | (exfalso; first | omega | contradiction)) | (case hf => intro hb_; try simp only [pd_true, pd_false, Bool.not_eq_true', Bool.not_eq_false', Bool.and_eq_true, Bool.and_eq_false_iff, Bool.or_eq_true, Bool.or_eq_false_iff, not_true_eq_false, not_false_eq_true, Int.not_lt, Int.not_le] at hb_; first | done | (exfalso; first | omega | contradiction))); intro hb_; try simp only [pd_true, pd_false, Bool.not_eq_true', Bool.not_eq_false', Bool.and_eq_true, Bool.and_eq_false_iff, Bool.or_eq_true, Bool.or_eq_false_iff, not_true_eq_false, not_false_eq_true, Int.not_lt, Int.not_le] at hb_) | ((with_reducible apply XP.split); (case ho | hg | hj | hd | hb => exact rfl); (fail_if_success (case hf => exact fun h => Bool.noConfusion h)); (fail_if_success (case ht => exact fun h => Bool.noConfusion h)); (first | (case ht => intro hb_; try simp only [pd_true, pd_false, Bool.not_eq_true', Bool.not_eq_false', Bool.and_eq_true, Bool.and_eq_false_iff, Bool.or_eq_true, Bool.or_eq_false_iff, not_true_eq_false, not_false_eq_true, Int.not_lt, Int.not_le] at hb_; first | done | (exfalso; first | omega | contradiction)) | (case hf => intro hb_; try simp only [pd_true, pd_false, Bool.not_eq_true', Bool.not_eq_false', Bool.and_eq_true, Bool.and_eq_false_iff, Bool.or_eq_true, Bool.or_eq_false_iff, not_true_eq_false, not_false_eq_true, Int.not_lt, Int.not_le] at hb_; first | done | (exfalso; first | omega | contradiction))); intro hb_; try simp only [pd_true, pd_false, Bool.not_eq_true', Bool.not_eq_false', Bool.and_eq_true, Bool.and_eq_false_iff, Bool.or_eq_true, Bool.or_eq_false_iff, not_true_eq_false, not_false_eq_true, Int.not_lt, Int.not_le] at hb_) | ((with_reducible apply XC.cond); (case hc => exact rfl); (first | (case ht => intro hb_; try simp only [pd_true, pd_false, Bool.not_eq_true', Bool.not_eq_false', Bool.and_eq_true, Bool.and_eq_false_iff, Bool.or_eq_true, Bool.or_eq_false_iff, not_true_eq_false, not_false_eq_true, Int.not_lt, Int.not_le] at hb_; first | done | (exfalso; first | omega | contradiction)) | (case hf => intro hb_; try simp only [pd_true, pd_false, Bool.not_eq_true', Bool.not_eq_false', Bool.and_eq_true, Bool.and_eq_false_iff, Bool.or_eq_true, Bool.or_eq_false_iff, not_true_eq_false, not_false_eq_true, Int.not_lt, Int.not_le] at hb_; first | done | (exfalso; first | omega | contradiction))); intro hb_; try simp only [pd_true, pd_false, Bool.not_eq_true', Bool.not_eq_false', Bool.and_eq_true, Bool.and_eq_false_iff, Bool.or_eq_true, Bool.or_eq_false_iff, not_true_eq_false, not_false_eq_true, Int.not_lt, Int.not_le] at hb_)) | ((with_reducible apply XOp.pr); (case hg => exact rfl); (case hr => exact PR.eqCfg (c := x2.C) (d := x.C) rfl rfl))))
    rw [pdt hcfg]
    skip
    ((with_reducible apply XOp.callQ (hF := eqWC_fn x4 x rfl rfl (hx4.trans hx2))); (case hg => exact rfl); (case hc => exact rfl); (case ha => exact rfl); try (case hA => exact Known.true))
    case hA => exact Known.and (hF4.held.known fun y hy => by simp [hy]) (Known.of_old hX (lw_mono _))
    rintro _ rfl
    (repeat (first | (with_reducible apply XL.op) | ((with_reducible apply XOp.p1); (case hg | hv => exact rfl)) | (with_reducible apply XL.nilT) | (with_reducible apply XQ.ret)))
    ((with_reducible apply XQ.retE); (case hr => exact .t rfl .nil))
    rfl
  · rw [pdf hne]
    (repeat (first | (with_reducible apply XL.op) | ((with_reducible apply XOp.p1); (case hg | hv => exact rfl)) | (with_reducible apply XL.nilT) | (with_reducible apply XC.seq) | (with_reducible apply XC.region (Γ := Γ)) | (with_reducible apply XQ.skip) | (with_reducible apply XQ.nt) | ((with_reducible apply XC.condF); (case hc => exact rfl))))
    ((with_reducible apply XOp.callQ (hF := cNil_fn)); (case hg => exact rfl); (case hc => exact rfl); (case ha => exact rfl); try (case hA => exact Known.true))
    rintro _ rfl
    (repeat ((with_reducible apply XL.op)))
    ((with_reducible apply XOp.alloc); (case hg | ht | hx' => exact rfl); intro cb)
    (repeat (first | (with_reducible apply XL.op) | ((with_reducible apply XOp.p1); (case hg | hv => exact rfl)) | ((with_reducible apply XOp.storeN (i := 0)); (case hg | ht | hx | hv' | hk | h1 | hi | hs | ha => exact rfl)) | (with_reducible apply XL.nilT) | (with_reducible apply XC.seq) | (with_reducible apply XC.region (Γ := Γ))))
    ((with_reducible apply XOp.callQ (hF := wNil_fn)); (case hg => exact rfl); (case hc => exact rfl); (case ha => exact rfl); try (case hA => exact Known.true))
    rintro _ rfl
    (repeat ((with_reducible apply XL.op)))
    ((with_reducible apply XOp.alloc); (case hg | ht | hx' => exact rfl); intro ub)
    (repeat (first | (with_reducible apply XL.op) | ((with_reducible apply XOp.storeN (i := 0)); (case hg | ht | hx | hv' | hk | h1 | hi | hs | ha => exact rfl)) | ((with_reducible apply XOp.pr); (case hg => exact rfl); (case hr => ((with_reducible apply PR.build); (case ht | hk | hok | hz | hf => exact rfl)))) | (with_reducible apply XL.nilT) | (with_reducible apply XC.seq) | (with_reducible apply XC.region (Γ := Γ))))
    ((with_reducible apply XOp.alloc); (case hg | ht | hx' => exact rfl); intro vb)
    (repeat (first | (with_reducible apply XL.op) | ((with_reducible apply XOp.p1); (case hg | hv => exact rfl)) | ((with_reducible apply XOp.loadO (i := 0)); (case hg | ht | hk | hx | hi | hc => exact rfl)) | ((with_reducible apply XOp.loadO (i := 1)); (case hg | ht | hk | hx | hi | hc => exact rfl)) | ((with_reducible apply XOp.loadO (i := 2)); (case hg | ht | hk | hx | hi | hc => exact rfl)) | ((with_reducible apply XOp.storeN (i := 0)); (case hg | ht | hx | hv' | hk | h1 | hi | hs | ha => exact rfl)) | (with_reducible apply XL.nilT) | (with_reducible apply XC.seq) | (with_reducible apply XC.region (Γ := Γ)) | (with_reducible apply XQ.skip) | (with_reducible apply XQ.nt) | (first | ((with_reducible apply XOp.split); (case hg | hj | hd | hb => exact rfl); (fail_if_success (case hf => exact fun h => Bool.noConfusion h)); (fail_if_success (case ht => exact fun h => Bool.noConfusion h)); (first | (case ht => intro hb_; try simp only [pd_true, pd_false, Bool.not_eq_true', Bool.not_eq_false', Bool.and_eq_true, Bool.and_eq_false_iff, Bool.or_eq_true, Bool.or_eq_false_iff, not_true_eq_false, not_false_eq_true, Int.not_lt, Int.not_le] at hb_; first | done | (exfalso; first | omega | contradiction)) | (case hf => intro hb_; try simp only [pd_true, pd_false, Bool.not_eq_true', Bool.not_eq_false', Bool.and_eq_true, Bool.and_eq_false_iff, Bool.or_eq_true, Bool.or_eq_false_iff, not_true_eq_false, not_false_eq_true, Int.not_lt, Int.not_le] at hb_; first | done | (exfalso; first | omega | contradiction))); intro hb_; try simp only [pd_true, pd_false, Bool.not_eq_true', Bool.not_eq_false', Bool.and_eq_true, Bool.and_eq_false_iff, Bool.or_eq_true, Bool.or_eq_false_iff, not_true_eq_false, not_false_eq_true, Int.not_lt, Int.not_le] at hb_) | ((with_reducible apply XP.split); (case ho | hg | hj | hd | hb => exact rfl); (fail_if_success (case hf => exact fun h => Bool.noConfusion h)); (fail_if_success (case ht => exact fun h => Bool.noConfusion h)); (first | (case ht => intro hb_; try simp only [pd_true, pd_false, Bool.not_eq_true', Bool.not_eq_false', Bool.and_eq_true, Bool.and_eq_false_iff, Bool.or_eq_true, Bool.or_eq_false_iff, not_true_eq_false, not_false_eq_true, Int.not_lt, Int.not_le] at hb_; first | done | (exfalso; first | omega | contradiction)) | (case hf => intro hb_; try simp only [pd_true, pd_false, Bool.not_eq_true', Bool.not_eq_false', Bool.and_eq_true, Bool.and_eq_false_iff, Bool.or_eq_true, Bool.or_eq_false_iff, not_true_eq_false, not_false_eq_true, Int.not_lt, Int.not_le] at hb_; first | done | (exfalso; first | omega | contradiction))); intro hb_; try simp only [pd_true, pd_false, Bool.not_eq_true', Bool.not_eq_false', Bool.and_eq_true, Bool.and_eq_false_iff, Bool.or_eq_true, Bool.or_eq_false_iff, not_true_eq_false, not_false_eq_true, Int.not_lt, Int.not_le] at hb_) | ((with_reducible apply XC.cond); (case hc => exact rfl); (first | (case ht => intro hb_; try simp only [pd_true, pd_false, Bool.not_eq_true', Bool.not_eq_false', Bool.and_eq_true, Bool.and_eq_false_iff, Bool.or_eq_true, Bool.or_eq_false_iff, not_true_eq_false, not_false_eq_true, Int.not_lt, Int.not_le] at hb_; first | done | (exfalso; first | omega | contradiction)) | (case hf => intro hb_; try simp only [pd_true, pd_false, Bool.not_eq_true', Bool.not_eq_false', Bool.and_eq_true, Bool.and_eq_false_iff, Bool.or_eq_true, Bool.or_eq_false_iff, not_true_eq_false, not_false_eq_true, Int.not_lt, Int.not_le] at hb_; first | done | (exfalso; first | omega | contradiction))); intro hb_; try simp only [pd_true, pd_false, Bool.not_eq_true', Bool.not_eq_false', Bool.and_eq_true, Bool.and_eq_false_iff, Bool.or_eq_true, Bool.or_eq_false_iff, not_true_eq_false, not_false_eq_true, Int.not_lt, Int.not_le] at hb_)) | ((with_reducible apply XOp.pr); (case hg => exact rfl); (case hr => exact PR.eqCfg (c := zeroLW.C) (d := zeroLW.C) rfl rfl))))
    rw [pdt (rfl : zeroLW.C = zeroLW.C)]
    skip
    ((with_reducible apply XOp.callQ (hF := eqWC_fn zeroLW zeroLW rfl rfl rfl)); (case hg => exact rfl); (case hc => exact rfl); (case ha => exact rfl); try (case hA => exact Known.true))
    case hA => exact Known.and (fun _ _ => zeroLW_at _) (fun _ _ => zeroLW_at _)
    rintro _ rfl
    (repeat (first | (with_reducible apply XL.op) | ((with_reducible apply XOp.p1); (case hg | hv => exact rfl)) | (with_reducible apply XL.nilT) | (with_reducible apply XQ.ret)))
    ((with_reducible apply XQ.retE); (case hr => exact .t rfl .nil))
    rfl
end Go.Proofs.YtppggaiahkecoaaDoorX
