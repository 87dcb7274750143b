/- Regions whose order is open: operations that only read are taken first; those of ds (which write what others read) come up behind all that is taken. -/
import Derived.Test.YthnmagdaepgdiaaXJudge
import Derived.OrdersHeld
import Derived.Deep.RegionHeld3
set_option linter.unusedSimpArgs false
set_option linter.unusedVariables false
namespace Go.SX
open Go Go.RowKit

section
variable {P : Program} {ops : Array Oper} {Q : Exit → Act → World → Prop} {md : Region.Mode} {S : World → Prop} {ds : List Nat}

/-- Operation d waits for operation i, by a chain of at most so many edges. -/
def waitsB (md : Region.Mode) (ops : Array Oper) (i : Nat) : Nat → Nat → Bool
  | 0, _ => false
  | fuel + 1, d => match ops[d]? with
    | some o => o.after.any fun e => Region.binds md e && (e.on == i || waitsB md ops i fuel e.on)
    | none => false
/-- What is listed is closed under the edges. -/
def shutB (md : Region.Mode) (ops : Array Oper) (listed : Array Bool) : Bool :=
  (List.range ops.size).all fun j => !listed.getD j false || match ops[j]? with
    | some o => o.after.all fun e => !Region.binds md e || listed.getD e.on false
    | none => true
def Shut (md : Region.Mode) (ops : Array Oper) (listed : Array Bool) : Prop :=
  ∀ j oj, ops[j]? = some oj → listed.getD j false = true → ∀ e ∈ oj.after, Region.binds md e = true → listed.getD e.on false = true
theorem shutB_spec {listed : Array Bool} (h : shutB md ops listed = true) : Shut md ops listed := by
  intro j oj hj hl e he hb
  have hlt : j < ops.size := (Array.getElem?_eq_some_iff.1 hj).1
  have h1 := List.all_eq_true.1 h j (List.mem_range.2 hlt)
  simp only [hl, hj, Bool.not_true, Bool.false_or] at h1
  have h2 := Array.all_eq_true_iff_forall_mem.1 h1 e he
  simpa [hb] using h2
theorem Shut.set {listed : Array Bool} {i : Nat} (h : Shut md ops listed) (hi : i ∈ Region.ready md ops listed) : Shut md ops (listed.setIfInBounds i true) := by
  obtain ⟨_, oi, hoi, hall⟩ := mem_ready.1 hi
  intro j oj hj hl e he hb
  by_cases hij : i = j
  · subst hij
    have : oj = oi := Option.some.inj (hj.symm.trans hoi)
    subst this
    exact getD_set_true (hall e he hb)
  · rw [getD_set_ne false hij] at hl
    exact getD_set_true (h j oj hj hl e he hb)
theorem waits_listed {listed : Array Bool} {i : Nat} (hc : Shut md ops listed) : ∀ (fuel d : Nat), waitsB md ops i fuel d = true → listed.getD d false = true → listed.getD i false = true
  | 0, _, h, _ => by simp [waitsB] at h
  | fuel + 1, d, h, hl => by
    unfold waitsB at h
    cases ho : ops[d]? with
    | none => rw [ho] at h; simp at h
    | some o =>
      rw [ho] at h
      obtain ⟨e, he, h1⟩ := Array.any_eq_true'.1 h
      simp only [Bool.and_eq_true, Bool.or_eq_true, beq_iff_eq] at h1
      have hle := hc d o ho hl e he h1.1
      rcases h1.2 with h2 | h2
      · rw [← h2]; exact hle
      · exact waits_listed hc fuel e.on h2 hle
theorem both_listed {listed : Array Bool} {i : Nat} (h0 : listed.getD i true = false) (h1 : listed.getD i false = true) : False := by
  rcases Nat.lt_or_ge i listed.size with h' | h'
  · simp [h'] at h0 h1; rw [h0] at h1; cases h1
  · simp [Array.getElem?_eq_none h'] at h0
theorem waits_not_ready {listed : Array Bool} {i d fuel : Nat} (hc : Shut md ops listed) (hr : waitsB md ops i fuel d = true) (hun : listed.getD i true = false) : d ∉ Region.ready md ops listed := by
  intro hd
  obtain ⟨_, o, ho, hall⟩ := mem_ready.1 hd
  cases fuel with
  | zero => simp [waitsB] at hr
  | succ n =>
    unfold waitsB at hr
    rw [ho] at hr
    obtain ⟨e, he, h1⟩ := Array.any_eq_true'.1 hr
    simp only [Bool.and_eq_true, Bool.or_eq_true, beq_iff_eq] at h1
    have hle := hall e he h1.1
    rcases h1.2 with h2 | h2
    · exact both_listed hun (h2 ▸ hle)
    · exact both_listed hun (waits_listed hc n e.on h2 hle)

/-- Whatever order is picked from here on; S holds behind every operation that is not one of ds. -/
def anyD (P : Program) (md : Region.Mode) (ops : Array Oper) (Q : Exit → Act → World → Prop) (S : World → Prop) (ds : List Nat) : Nat → Array Bool → Act → World → Prop
  | 0, listed, a, w => Region.ready md ops listed = [] ∧ Q .normal a w
  | fuel + 1, listed, a, w =>
    (Region.ready md ops listed = [] → Q .normal a w) ∧
    ∀ i ∈ Region.ready md ops listed, wpOp P ops Q i (fun a' w' => (i ∉ ds → S w → S w') ∧ anyD P md ops Q S ds fuel (listed.setIfInBounds i true) a' w') a w
theorem wpAny_of_anyD : ∀ (fuel : Nat) (listed : Array Bool) (a : Act) (w : World), anyD P md ops Q S ds fuel listed a w → wpAny P md ops Q fuel listed a w
  | 0, _, _, _, h => h
  | fuel + 1, _, _, _, h => ⟨h.1, fun i hi => wpOp_mono (fun a' w' h' => wpAny_of_anyD fuel _ a' w' h'.2) (h.2 i hi)⟩

theorem anyD_first {i : Nat} {oi : Oper} {v : Value} (hi : ops[i]? = some oi) (hsel : ∀ (j : Nat) (o : Oper) cs b, ops[j]? = some o → o.op ≠ .select cs b)
    (hQ : ∀ c a w, Q (.panic c) (a.put oi.dst v) w → Q (.panic c) a w) (n : Nat) :
    ∀ (fuel : Nat) (listed : Array Bool) (a : Act) (w : World),
      (∀ j oj, ops[j]? = some oj → j ≠ i → listed.getD j true = false → (∀ e ∈ oj.after, Region.binds md e = true → e.on ≠ i) → oi.apart ops oj = true) →
      Shut md ops listed → (∀ d ∈ ds, listed.getD d true = false → waitsB md ops i n d = true) →
      i ∈ Region.ready md ops listed → YieldsIf P ops S oi v a → S w →
      anyD P md ops Q S ds fuel (listed.setIfInBounds i true) (a.put oi.dst v) w → anyD P md ops Q S ds (fuel + 1) listed a w := by
  intro fuel
  induction fuel with
  | zero =>
    intro listed a w _ _ _ hr hy hS H
    refine ⟨fun h => (by rw [h] at hr; cases hr), fun j hj => ?_⟩
    by_cases hji : j = i
    · subst hji; exact hy.wpOp hi hS ⟨fun _ h => h, H⟩
    · have := ready_mono hj hji
      rw [H.1] at this
      cases this
  | succ fuel ih =>
    intro listed a w hfree hc hd hr hy hS H
    refine ⟨fun h => (by rw [h] at hr; cases hr), fun j hj => ?_⟩
    by_cases hji : j = i
    · subst hji; exact hy.wpOp hi hS ⟨fun _ h => h, H⟩
    · have h1 := H.2 j (ready_mono hj hji)
      obtain ⟨hjun, oj, hoj, hall⟩ := mem_ready.1 hj
      have hiun := (mem_ready.1 hr).1
      have hnot : ∀ e ∈ oj.after, Region.binds md e = true → e.on ≠ i := fun e he hb heq => both_listed hiun (heq ▸ hall e he hb)
      have hjd : j ∉ ds := fun hm => waits_not_ready hc (hd j hm hjun) hiun hj
      have h2 := wpOp_putIf hoj (hfree j oj hoj hji hjun hnot) (fun cs b => hsel i oi cs b hi) (fun cs b => hsel j oj cs b hoj) hQ hy h1
      have hfree' : ∀ k ok, ops[k]? = some ok → k ≠ i → (listed.setIfInBounds j true).getD k true = false →
          (∀ e ∈ ok.after, Region.binds md e = true → e.on ≠ i) → oi.apart ops ok = true := fun k ok hk hki hun hno => by
        refine hfree k ok hk hki ?_ hno
        by_cases hjk : j = k
        · subst hjk; exact hjun
        · rw [getD_set_ne true hjk] at hun; exact hun
      have hd' : ∀ d ∈ ds, (listed.setIfInBounds j true).getD d true = false → waitsB md ops i n d = true := fun d hm hun => by
        refine hd d hm ?_
        by_cases hjk : j = d
        · subst hjk; exact absurd hm hjd
        · rw [getD_set_ne true hjk] at hun; exact hun
      refine wpOp_mono (fun a' w' h3 => ⟨fun hn hs => h3.2.1 hn hs, ih (listed.setIfInBounds j true) a' w' hfree' (hc.set hj) hd' (ready_mono hr (Ne.symm hji)) h3.1 (h3.2.1 hjd hS) ?_⟩) h2
      rw [Array.setIfInBounds_comm _ _ hji]
      exact h3.2.2
end

/-! ### A plan: what is taken first, what comes up alone or beside others -/
inductive Pl where
  | done
  | q (i : Nat) (p : Pl)
  | e (i : Nat) (p : Pl)
  | b (l : List (Nat × Pl))
mutual
def Pl.chk (ops : Array Oper) (ds : List Nat) : Nat → Array Bool → Pl → Bool
  | _, listed, .done => (Region.ready .any ops listed).isEmpty
  | 0, _, _ => false
  | fuel + 1, listed, .q i p => (Region.ready .any ops listed).contains i && Region.free .any ops listed i && shutB .any ops listed &&
      (ds.all fun d => listed.getD d true || waitsB .any ops i ops.size d) && Pl.chk ops ds fuel (listed.setIfInBounds i true) p
  | fuel + 1, listed, .e i p => Region.ready .any ops listed == [i] && Pl.chk ops ds fuel (listed.setIfInBounds i true) p
  | fuel + 1, listed, .b l => Region.ready .any ops listed == l.map (·.1) && !l.isEmpty && Pl.chkAll ops ds fuel listed l
def Pl.chkAll (ops : Array Oper) (ds : List Nat) : Nat → Array Bool → List (Nat × Pl) → Bool
  | _, _, [] => true
  | fuel, listed, x :: l => Pl.chk ops ds fuel (listed.setIfInBounds x.1 true) x.2 && Pl.chkAll ops ds fuel listed l
end
theorem Pl.chkAll_mem {ops : Array Oper} {ds : List Nat} {fuel : Nat} {listed : Array Bool} : ∀ {l : List (Nat × Pl)}, Pl.chkAll ops ds fuel listed l = true → ∀ x ∈ l, x.2.chk ops ds fuel (listed.setIfInBounds x.1 true) = true
  | x :: l, h, y, hy => by
    unfold Pl.chkAll at h
    simp only [Bool.and_eq_true] at h
    rcases List.mem_cons.1 hy with rfl | hy
    · exact h.1
    · exact Pl.chkAll_mem h.2 y hy

/-- Those entries that a mask keeps; what the mask does not reach is kept. -/
def sel : List Bool → HL → HL
  | true :: m, x :: l => x :: sel m l
  | false :: m, _ :: l => sel m l
  | _, l => l
theorem sel_sub : ∀ (m : List Bool) (l : HL), (sel m l).Sublist l
  | [], l => by cases l <;> exact List.Sublist.refl _
  | true :: m, [] => List.Sublist.refl _
  | false :: m, [] => List.Sublist.refl _
  | true :: m, x :: l => (sel_sub m l).cons_cons x
  | false :: m, x :: l => (sel_sub m l).cons x

section
variable {P : Program} {Γ : Env P} {n : Nat} {w0 : World} {K : List Nat} {Q : Exit → Fr → HL → Prop} {ρ : Fr} {L Lb : HL} {ops : List Oper} {o : Oper} {ds : List Nat} {p : Pl} {i : Nat} {lv : Bool}

structure XP {P : Program} (_Γ : Env P) (n : Nat) (w0 : World) (K : List Nat) (ops : List Oper) (Q : Exit → Fr → HL → Prop) (Lb : HL) (ds : List Nat) (lv : Bool) (p : Pl) (ρ : Fr) (L : HL) : Prop where
  out : ∀ w, Own w0 K L w → (lv = true → Own w0 K Lb w) → ∀ fuel listed, p.chk ops.toArray ds fuel listed = true → Region.noSelect ops.toArray = true →
    anyD P .any ops.toArray (NoPanic (lift n w0 K Q)) (fun w => Own w0 K Lb w) ds fuel listed (mkA n ρ) w

theorem XP.done (h : XQ Q .normal ρ L) : XP Γ n w0 K ops Q Lb ds lv .done ρ L := by
  refine ⟨fun w ow _ fuel listed hc _ => ?_⟩
  have hr : Region.ready .any ops.toArray listed = [] := by cases fuel <;> simpa [Pl.chk] using hc
  have hq : NoPanic (lift n w0 K Q) .normal (mkA n ρ) w := ⟨by simp, ρ, L, rfl, ow, h.out⟩
  cases fuel with
  | zero => exact ⟨hr, hq⟩
  | succ k => exact ⟨fun _ => hq, by rw [hr]; simp⟩

theorem XP.quiet {v : Value} (ho : ops[i]? = some o)
    (hy : YieldsIf P ops.toArray (fun w => Own w0 K Lb w) o v (mkA n ρ)) (h : XP Γ n w0 K ops Q Lb ds true p (updO ρ o.dst v) L) : XP Γ n w0 K ops Q Lb ds true (.q i p) ρ L := by
  refine ⟨fun w ow ob' fuel listed hc hs => ?_⟩
  have ob := ob' rfl
  cases fuel with
  | zero => simp [Pl.chk] at hc
  | succ k =>
    simp only [Pl.chk, Bool.and_eq_true] at hc
    obtain ⟨⟨⟨⟨h1, h2⟩, h3⟩, h4⟩, h5⟩ := hc
    have hoi : ops.toArray[i]? = some o := by simpa using ho
    refine anyD_first hoi (Region.noSelect_spec hs) (fun _ _ _ h => h.elim) ops.toArray.size k listed (mkA n ρ) w (Region.free_spec hoi h2) (shutB_spec h3) ?_ (by simpa using h1) hy ob ?_
    · intro d hd hun
      have := List.all_eq_true.1 h4 d hd
      simpa [hun] using this
    · rw [mkA_put]; exact h.out w ow ob' k _ h5 hs

theorem XP.q1 {v : Value} (ho : ops[i]? = some o) (hg : gval n ρ ops o.guard = some true)
    (hr : ∀ w, Own w0 K Lb w → (execOp (ev n ρ) o).run P w = .ok (.value v) w) (h : XP Γ n w0 K ops Q Lb ds true p (updO ρ o.dst v) L) : XP Γ n w0 K ops Q Lb ds true (.q i p) ρ L :=
  XP.quiet ho (.inl ⟨gval_spec hg, fun w ow => by rw [mkA_eval]; exact hr w ow⟩) h
theorem XP.p1 {d : Nat} {op : Op} {ty : Nat} {pos : String} {af : Array Edge} {g : Option (Nat × Bool)} {v : Value} (ho : ops[i]? = some { dst := some d, op := op, type := ty, pos := pos, after := af, guard := g })
    (hg : gval n ρ ops g = some true) (hv : pval Γ n ρ op = some v) (h : XP Γ n w0 K ops Q Lb ds true p (upd ρ d v) L) : XP Γ n w0 K ops Q Lb ds true (.q i p) ρ L :=
  XP.q1 ho hg (fun w _ => pval_run hv w) h
theorem XP.p0 {d : Nat} {op : Op} {ty : Nat} {pos : String} {af : Array Edge} {g : Option (Nat × Bool)} (ho : ops[i]? = some { dst := some d, op := op, type := ty, pos := pos, after := af, guard := g })
    (hg : gval n ρ ops g = some false) (h : XP Γ n w0 K ops Q Lb ds true p (upd ρ d undef) L) : XP Γ n w0 K ops Q Lb ds true (.q i p) ρ L :=
  XP.quiet ho (.inr ⟨gval_spec hg, rfl⟩) h
theorem XP.load {d : Nat} {t ty b off : Nat} {x : Operand} {pos : String} {af : Array Edge} {g : Option (Nat × Bool)} {r : TR} {v : Value} (ho : ops[i]? = some { dst := some d, op := .load t x, type := ty, pos := pos, after := af, guard := g })
    (hg : gval n ρ ops g = some true) (ht : Γ.get t = some r) (hk : aggK r.k = 1) (hx : ev n ρ x = .pointer (some ⟨b, off, none⟩))
    (hc : Known w0 K Lb (fun h => cellv h ⟨b, off, none⟩ = some v)) (h : XP Γ n w0 K ops Q Lb ds true p (upd ρ d v) L) : XP Γ n w0 K ops Q Lb ds true (.q i p) ρ L :=
  XP.q1 ho hg (fun w ow => by
    refine run_value ?_
    simp only [Instr.loadAt, hx, Instr.sureAddr]
    show (loadVar t ⟨b, off, none⟩).run P w = _
    exact load_run (Γ.is ht) ((tk_agg (Γ.is ht)).trans (by rw [← hk]; cases r.k <;> rfl)) (hc.at ow)) h
theorem XP.loadN {d : Nat} {t ty b off : Nat} {x : Operand} {pos : String} {af : Array Edge} {g : Option (Nat × Bool)} {r : TR} {vs : List Value} (ho : ops[i]? = some { dst := some d, op := .load t x, type := ty, pos := pos, after := af, guard := g })
    (hg : gval n ρ ops g = some true) (ht : Γ.get t = some r) (hk : aggK r.k = 2) (hx : ev n ρ x = .pointer (some ⟨b, off, none⟩)) (hl : vs.length = r.sz)
    (hc : Known w0 K Lb (fun h => rowv h b off vs)) (h : XP Γ n w0 K ops Q Lb ds true p (upd ρ d (.agg ⟨vs⟩)) L) : XP Γ n w0 K ops Q Lb ds true (.q i p) ρ L :=
  XP.q1 ho hg (fun w ow => by
    refine run_value ?_
    simp only [Instr.loadAt, hx, Instr.sureAddr]
    show (loadVar t ⟨b, off, none⟩).run P w = _
    exact loadN_run (Γ.is ht) ((tk_agg (Γ.is ht)).trans (by rw [← hk]; cases r.k <;> rfl)) hl (hc.at ow)) h
theorem XP.loadO {d : Nat} {t ty j b off te : Nat} {fz : Nat × Nat} {x : Operand} {pos : String} {af : Array Edge} {g : Option (Nat × Bool)} {r : TR} {cs vs : List Value} (ho : ops[i]? = some { dst := some d, op := .load t x, type := ty, pos := pos, after := af, guard := g })
    (hg : gval n ρ ops g = some true) (ht : Γ.get t = some r) (hk : aggK r.k = 2) (hx : ev n ρ x = .pointer (some ⟨b, off, none⟩)) (hi : Lb[j]? = some (b, .cells ⟨cs⟩ te fz)) (hc : grab cs off r.sz = some vs)
    (h : XP Γ n w0 K ops Q Lb ds true p (upd ρ d (.agg ⟨vs⟩)) L) : XP Γ n w0 K ops Q Lb ds true (.q i p) ρ L :=
  XP.loadN ho hg ht hk hx (grab_eq hc).2 (own_grab hi hc) h

theorem XP.step {N : Fr → HL → Prop} {J : Act → World → Prop} {Q' : Exit → Act → World → Prop} (ho : ops.toArray[i]? = some o) (h : XOp Γ n w0 K ops o N ρ L) (hJ : ∀ ρ' L' w', N ρ' L' → Own w0 K L' w' → J (mkA n ρ') w')
    (w : World) (ow : Own w0 K L w) : wpOp P ops.toArray Q' i J (mkA n ρ) w := by
  have := h.out Q' w ow
  unfold wpOp
  simp only [ho]
  split
  · rename_i hw
    rw [if_pos hw] at this
    refine .inl (Oper.wp_mono (fun a w ⟨ρ', L', ha, ho, hk⟩ => ?_) this)
    subst ha; exact hJ _ _ _ hk ho
  · rename_i hw
    rw [if_neg hw] at this
    rw [mkA_put]; exact hJ _ _ _ this ow
/-- An operation that comes up: either nothing of what is taken first is lost by it, or it is one of ds: then nothing is taken first behind it. -/
structure XE {P : Program} (_Γ : Env P) (n : Nat) (w0 : World) (K : List Nat) (ops : List Oper) (Q : Exit → Fr → HL → Prop) (Lb : HL) (ds : List Nat) (lv : Bool) (i : Nat) (p : Pl) (ρ : Fr) (L : HL) : Prop where
  out : ∃ o, ops[i]? = some o ∧ (XOp _Γ n w0 K ops o (fun ρ' L' => (∀ x ∈ Lb, x ∈ L') ∧ XP _Γ n w0 K ops Q Lb ds lv p ρ' L') ρ L ∨
    ds.contains i = true ∧ XOp _Γ n w0 K ops o (fun ρ' L' => XP _Γ n w0 K ops Q Lb ds false p ρ' L') ρ L)
theorem XE.e (ho : ops[i]? = some o) (h : XOp Γ n w0 K ops o (fun ρ' L' => (∀ x ∈ Lb, x ∈ L') ∧ XP Γ n w0 K ops Q Lb ds lv p ρ' L') ρ L) : XE Γ n w0 K ops Q Lb ds lv i p ρ L := ⟨o, ho, .inl h⟩
theorem XE.d (ho : ops[i]? = some o) (hd : ds.contains i = true) (h : XOp Γ n w0 K ops o (fun ρ' L' => XP Γ n w0 K ops Q Lb ds false p ρ' L') ρ L) : XE Γ n w0 K ops Q Lb ds lv i p ρ L := ⟨o, ho, .inr ⟨hd, h⟩⟩
theorem XE.any (h : XE Γ n w0 K ops Q Lb ds lv i p ρ L) {w : World} (ow : Own w0 K L w) (ob : lv = true → Own w0 K Lb w) {k : Nat} {listed : Array Bool}
    (hc : Pl.chk ops.toArray ds k (listed.setIfInBounds i true) p = true) (hs : Region.noSelect ops.toArray = true) :
    wpOp P ops.toArray (NoPanic (lift n w0 K Q)) i (fun a' w' => (i ∉ ds → Own w0 K Lb w → Own w0 K Lb w') ∧
      anyD P .any ops.toArray (NoPanic (lift n w0 K Q)) (fun w => Own w0 K Lb w) ds k (listed.setIfInBounds i true) a' w') (mkA n ρ) w := by
  obtain ⟨o, ho, h⟩ := h.out
  have hoi : ops.toArray[i]? = some o := by simpa using ho
  rcases h with h | ⟨hd, h⟩
  · exact XP.step hoi h (fun ρ' L' w' hN ow' => ⟨fun _ hS => ow'.sub hN.1 hS.nodup, hN.2.out w' ow' (fun hl => ow'.sub hN.1 (ob hl).nodup) k _ hc hs⟩) w ow
  · exact XP.step hoi h (fun ρ' L' w' hN ow' => ⟨fun hn _ => absurd (by simpa using hd) hn, hN.out w' ow' (by simp) k _ hc hs⟩) w ow
/-- The one operation that may come up now. -/
theorem XP.e (h : XE Γ n w0 K ops Q Lb ds lv i p ρ L) : XP Γ n w0 K ops Q Lb ds lv (.e i p) ρ L := by
  refine ⟨fun w ow ob fuel listed hc hs => ?_⟩
  cases fuel with
  | zero => simp [Pl.chk] at hc
  | succ k =>
    simp only [Pl.chk, Bool.and_eq_true, beq_iff_eq] at hc
    refine ⟨fun h0 => (by rw [hc.1] at h0; cases h0), fun j hj => ?_⟩
    rw [hc.1] at hj
    obtain rfl : j = i := by simpa using hj
    exact h.any ow ob hc.2 hs
theorem sel_in {m : List Bool} {l : HL} {x : Nat × Obj} (h : x ∈ sel m l) : x ∈ l := (sel_sub m l).subset h
theorem XP.keep (hk : ∀ x ∈ Lb, x ∈ L) (h : XP Γ n w0 K ops Q Lb ds lv p ρ L) : (∀ x ∈ Lb, x ∈ L) ∧ XP Γ n w0 K ops Q Lb ds lv p ρ L := ⟨hk, h⟩
/-- Any of several may come up. -/
structure XB {P : Program} (_Γ : Env P) (n : Nat) (w0 : World) (K : List Nat) (ops : List Oper) (Q : Exit → Fr → HL → Prop) (Lb : HL) (ds : List Nat) (lv : Bool) (l : List (Nat × Pl)) (ρ : Fr) (L : HL) : Prop where
  out : ∀ x ∈ l, XE _Γ n w0 K ops Q Lb ds lv x.1 x.2 ρ L
theorem XB.nil : XB Γ n w0 K ops Q Lb ds lv [] ρ L := ⟨by simp⟩
theorem XB.cons {l : List (Nat × Pl)} (h : XE Γ n w0 K ops Q Lb ds lv i p ρ L) (t : XB Γ n w0 K ops Q Lb ds lv l ρ L) : XB Γ n w0 K ops Q Lb ds lv ((i, p) :: l) ρ L :=
  ⟨fun x hx => by rcases List.mem_cons.1 hx with rfl | hx; exact h; exact t.out x hx⟩
theorem XP.b {l : List (Nat × Pl)} (h : XB Γ n w0 K ops Q Lb ds lv l ρ L) : XP Γ n w0 K ops Q Lb ds lv (.b l) ρ L := by
  refine ⟨fun w ow ob fuel listed hc hs => ?_⟩
  cases fuel with
  | zero => simp [Pl.chk] at hc
  | succ k =>
    simp only [Pl.chk, Bool.and_eq_true, beq_iff_eq] at hc
    obtain ⟨⟨h1, h2⟩, h3⟩ := hc
    refine ⟨fun h0 => (by rw [h1] at h0; cases l <;> simp at h0 h2), fun j hj => ?_⟩
    rw [h1] at hj
    obtain ⟨x, hx, rfl⟩ := List.mem_map.1 hj
    exact (h.out x hx).any ow ob (Pl.chkAll_mem h3 x hx) hs
/-- A guard that is not known. -/
theorem XP.split {j d : Nat} {want b : Bool} {oj : Oper} (ho : ops[i]? = some o) (hg : o.guard = some (j, want)) (hj : ops[j]? = some oj) (hd : oj.dst = some d) (hb : ρ d = .bool b)
    (ht : b = true → XP Γ n w0 K ops Q Lb ds lv (.q i p) (upd ρ d (.bool true)) L) (hf : b = false → XP Γ n w0 K ops Q Lb ds lv (.q i p) (upd ρ d (.bool false)) L) :
    XP Γ n w0 K ops Q Lb ds lv (.q i p) ρ L := by
  cases b with
  | true => have := ht rfl; rw [upd_same ρ d _ hb] at this; exact this
  | false => have := hf rfl; rw [upd_same ρ d _ hb] at this; exact this

theorem XC.regionL {id : Nat} (mixed : P.follows .mixedOrders = true) (p : Pl) (ds : List Nat) (Lb : HL) (hc : (p.chk ops.toArray ds ops.length (Array.replicate ops.length false) && Region.noSelect ops.toArray) = true)
    (hs : Lb.Sublist L) (h : XP Γ n w0 K ops Q Lb ds true p ρ L) : XC P n w0 K (.region id ops.toArray true) Q ρ L := by
  simp only [Bool.and_eq_true] at hc
  refine ⟨fun w ow => ?_⟩
  have ow' : Own w0 K L { w with drawn := w.drawn + 1 } := ow.drew
  refine wp_region_noPanic (wp_region_any mixed (wpAny_of_anyD (S := fun w => Own w0 K Lb w) (ds := ds) _ _ _ _ ?_))
  have := h.out _ ow' (fun _ => ow'.sub (fun x hx => hs.subset hx) ((hs.map _).nodup ow'.nodup)) ops.length _ hc.1 hc.2
  simpa using this
theorem XC.regionD {id : Nat} (mixed : P.follows .mixedOrders = true) (p : Pl) (ds : List Nat) (m : List Bool) (hc : (p.chk ops.toArray ds ops.length (Array.replicate ops.length false) && Region.noSelect ops.toArray) = true)
    (h : XP Γ n w0 K ops Q (sel m L) ds true p ρ L) : XC P n w0 K (.region id ops.toArray true) Q ρ L := by
  simp only [Bool.and_eq_true] at hc
  refine ⟨fun w ow => ?_⟩
  have ow' : Own w0 K L { w with drawn := w.drawn + 1 } := ow.drew
  refine wp_region_noPanic (wp_region_any mixed (wpAny_of_anyD (S := fun w => Own w0 K (sel m L) w) (ds := ds) _ _ _ _ ?_))
  have := h.out _ ow' (fun _ => ow'.sub (fun x hx => (sel_sub m L).subset hx) (((sel_sub m L).map _).nodup ow'.nodup)) ops.length _ hc.1 hc.2
  simpa using this
end
end Go.SX
