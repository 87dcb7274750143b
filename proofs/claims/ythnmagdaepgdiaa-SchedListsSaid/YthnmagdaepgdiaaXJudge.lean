import Derived.Test.YthnmagdaepgdiaaXStep
set_option linter.unusedSimpArgs false
set_option linter.unusedVariables false
namespace Go.SX
open Go Go.RowKit

/-! ### Judgements -/
def lift (n : Nat) (w0 : World) (K : List Nat) (Q : Exit → Fr → HL → Prop) : Exit → Act → World → Prop :=
  fun e a w => e ≠ .outgrown ∧ ∃ ρ L, a = mkA n ρ ∧ Own w0 K L w ∧ Q e ρ L
structure XC (P : Program) (n : Nat) (w0 : World) (K : List Nat) (c : Code) (Q : Exit → Fr → HL → Prop) (ρ : Fr) (L : HL) : Prop where
  out : ∀ w, Own w0 K L w → c.wp P (lift n w0 K Q) (mkA n ρ) w
structure XL {P : Program} (_Γ : Env P) (n : Nat) (w0 : World) (K : List Nat) (ops : List Oper) (Q : Exit → Fr → HL → Prop) (rest : List Oper) (ρ : Fr) (L : HL) : Prop where
  out : ∀ w, Own w0 K L w → wpList P ops.toArray (lift n w0 K Q) rest (mkA n ρ) w
def thenX (N : Fr → HL → Prop) (Q : Exit → Fr → HL → Prop) : Exit → Fr → HL → Prop
  | .normal, ρ, L => N ρ L
  | e, ρ, L => Q e ρ L
def blockX (id : Nat) (Q : Exit → Fr → HL → Prop) : Exit → Fr → HL → Prop
  | .exit id', ρ, L => match Nat.beq id' id with | true => Q .normal ρ L | false => Q (.exit id') ρ L
  | e, ρ, L => Q e ρ L

section
variable {P : Program} {Γ : Env P} {n : Nat} {w0 : World} {K : List Nat} {Q : Exit → Fr → HL → Prop} {ρ : Fr} {L : HL} {ops rest : List Oper} {o : Oper}

theorem XC.mono {c : Code} {Q' : Exit → Fr → HL → Prop} (h : XC P n w0 K c Q ρ L) (hq : ∀ e ρ L, Q e ρ L → Q' e ρ L) : XC P n w0 K c Q' ρ L :=
  ⟨fun w o => Go.wp_mono (h.out w o) fun _ _ _ ⟨h1, ρ, L, h2, h3, h4⟩ => ⟨h1, ρ, L, h2, h3, hq _ _ _ h4⟩⟩
theorem XC.sub {c : Code} {L' : HL} (h : XC P n w0 K c Q ρ L') (s : ∀ x ∈ L', x ∈ L) (nd : (keys L).Nodup → (keys L').Nodup) : XC P n w0 K c Q ρ L :=
  ⟨fun w o => h.out w (o.sub s (nd o.nodup))⟩
theorem XC.perm {c : Code} {L' : HL} (h : XC P n w0 K c Q ρ L') (p : L.Perm L') : XC P n w0 K c Q ρ L := ⟨fun w o => h.out w (o.perm p)⟩
theorem XL.perm {L' : HL} (h : XL Γ n w0 K ops Q rest ρ L') (p : L.Perm L') : XL Γ n w0 K ops Q rest ρ L := ⟨fun w o => h.out w (o.perm p)⟩

theorem XC.skip (h : Q .normal ρ L) : XC P n w0 K .skip Q ρ L := ⟨fun _ o => wp_skip ⟨by simp, ρ, L, rfl, o, h⟩⟩
theorem XC.label {l : Nat} (h : Q .normal ρ L) : XC P n w0 K (.label l) Q ρ L := ⟨fun _ o => wp_label ⟨by simp, ρ, L, rfl, o, h⟩⟩
theorem XC.ret (h : Q .ret ρ L) : XC P n w0 K .ret Q ρ L := ⟨fun _ o => wp_ret ⟨by simp, ρ, L, rfl, o, h⟩⟩
theorem XC.exit {id : Nat} (h : Q (.exit id) ρ L) : XC P n w0 K (.exit id) Q ρ L := ⟨fun _ o => wp_exit ⟨by simp, ρ, L, rfl, o, h⟩⟩
theorem XC.seq {x y : Code} (h : XC P n w0 K x (thenX (fun ρ L => XC P n w0 K y Q ρ L) Q) ρ L) : XC P n w0 K (.seq x y) Q ρ L :=
  ⟨fun w o => wp_seq (Go.wp_mono (h.out w o) fun e a w ⟨h1, ρ, L, h2, h3, h4⟩ => by
    cases e <;> first | (subst h2; exact h4.out w h3) | exact ⟨h1, ρ, L, h2, h3, h4⟩)⟩
theorem XC.block {id : Nat} {c : Code} (h : XC P n w0 K c (blockX id Q) ρ L) : XC P n w0 K (.block id c) Q ρ L :=
  ⟨fun w o => wp_block (Go.wp_mono (h.out w o) fun e a w ⟨h1, ρ, L, h2, h3, h4⟩ => by
    cases e with
    | exit id' =>
      simp only [blockX] at h4
      simp only [Exit.inBlock]
      cases hb : Nat.beq id' id with
      | true =>
        rw [hb] at h4
        rw [if_pos (Nat.eq_of_beq_eq_true hb)]
        exact ⟨by simp, ρ, L, h2, h3, h4⟩
      | false =>
        rw [hb] at h4
        rw [if_neg (fun e => by subst e; simp at hb)]
        exact ⟨by simp, ρ, L, h2, h3, h4⟩
    | _ => exact ⟨h1, ρ, L, h2, h3, h4⟩)⟩
theorem XC.condT {c : Operand} {x y : Code} (hc : ev n ρ c = .bool true) (h : XC P n w0 K x Q ρ L) : XC P n w0 K (.cond c x y) Q ρ L :=
  ⟨fun w o => wp_cond_true (by rw [mkA_eval]; exact hc) (h.out w o)⟩
theorem XC.condF {c : Operand} {x y : Code} (hc : ev n ρ c = .bool false) (h : XC P n w0 K y Q ρ L) : XC P n w0 K (.cond c x y) Q ρ L :=
  ⟨fun w o => wp_cond_false (by rw [mkA_eval]; exact hc) (h.out w o)⟩
theorem XC.cond {c : Operand} {x y : Code} {b : Bool} (hc : ev n ρ c = .bool b) (ht : b = true → XC P n w0 K x Q ρ L) (hf : b = false → XC P n w0 K y Q ρ L) :
    XC P n w0 K (.cond c x y) Q ρ L :=
  ⟨fun w o => wp_cond_split (by rw [mkA_eval]; exact hc) (fun e => (ht e).out w o) (fun e => (hf e).out w o)⟩
/-- A loop: the invariant bears a number that every round lowers. -/
theorem XC.loop {c : Code} (I : Nat → Fr → HL → Prop) (k : Nat) (h0 : I k ρ L)
    (round : ∀ k ρ L, I k ρ L → XC P n w0 K c (thenX (fun ρ' L' => ∃ k', k' < k ∧ I k' ρ' L') Q) ρ L) : XC P n w0 K (.loop c) Q ρ L :=
  ⟨fun w o => wp_loop_ghost (fun k a w => ∃ ρ L, a = mkA n ρ ∧ Own w0 K L w ∧ I k ρ L) k ⟨ρ, L, rfl, o, h0⟩ fun k a w ⟨ρ, L, ha, o, hI⟩ => by
    subst ha
    refine Go.wp_mono ((round k ρ L hI).out w o) fun e a w ⟨h1, ρ, L, h2, h3, h4⟩ => ?_
    cases e <;> first
      | (obtain ⟨k', hk, hi⟩ := h4; exact ⟨k', hk, ρ, L, h2, h3, hi⟩)
      | exact ⟨h1, ρ, L, h2, h3, h4⟩⟩
theorem XC.subl {c : Code} {L' : HL} (hs : L'.Sublist L) (h : XC P n w0 K c Q ρ L') : XC P n w0 K c Q ρ L := h.sub (fun x hx => hs.subset hx) (fun nd => (hs.map _).nodup nd)
/-- A loop whose rounds may leave more blocks behind than are looked at. -/
theorem XC.loopS {c : Code} (I : Nat → Fr → HL → Prop) (k : Nat) (h0 : I k ρ L)
    (round : ∀ k ρ L, I k ρ L → XC P n w0 K c (thenX (fun ρ' L' => ∃ k', k' < k ∧ ∃ L'', L''.Sublist L' ∧ I k' ρ' L'') Q) ρ L) : XC P n w0 K (.loop c) Q ρ L :=
  XC.loop (fun k ρ L => ∃ L'', L''.Sublist L ∧ I k ρ L'') k ⟨L, List.Sublist.refl _, h0⟩ fun k ρ _ ⟨L'', hs, hi⟩ => XC.subl hs (round k ρ L'' hi)
theorem XC.skipT {N : Fr → HL → Prop} (h : N ρ L) : XC P n w0 K .skip (thenX N Q) ρ L := .skip h
/-- What a way out must give, told step by step. -/
structure XQ (Q : Exit → Fr → HL → Prop) (e : Exit) (ρ : Fr) (L : HL) : Prop where
  out : Q e ρ L
theorem XQ.skip (h : XQ Q .normal ρ L) : XC P n w0 K .skip Q ρ L := .skip h.out
theorem XQ.ret (h : XQ Q .ret ρ L) : XC P n w0 K .ret Q ρ L := .ret h.out
theorem XQ.exit {id : Nat} (h : XQ Q (.exit id) ρ L) : XC P n w0 K (.exit id) Q ρ L := .exit h.out
theorem XQ.nt {N : Fr → HL → Prop} (h : N ρ L) : XQ (thenX N Q) .normal ρ L := ⟨h⟩
theorem XQ.nb {id : Nat} (h : XQ Q .normal ρ L) : XQ (blockX id Q) .normal ρ L := ⟨h.out⟩
theorem XQ.rt {N : Fr → HL → Prop} (h : XQ Q .ret ρ L) : XQ (thenX N Q) .ret ρ L := ⟨h.out⟩
theorem XQ.rb {id : Nat} (h : XQ Q .ret ρ L) : XQ (blockX id Q) .ret ρ L := ⟨h.out⟩
theorem XQ.et {N : Fr → HL → Prop} {id : Nat} (h : XQ Q (.exit id) ρ L) : XQ (thenX N Q) (.exit id) ρ L := ⟨h.out⟩
theorem XQ.eb {id id' : Nat} (hb : Nat.beq id' id = true) (h : XQ Q .normal ρ L) : XQ (blockX id Q) (.exit id') ρ L := ⟨by simp only [blockX]; rw [hb]; exact h.out⟩
theorem XQ.en {id id' : Nat} (hb : Nat.beq id' id = false) (h : XQ Q (.exit id') ρ L) : XQ (blockX id Q) (.exit id') ρ L := ⟨by simp only [blockX]; rw [hb]; exact h.out⟩
/-- What holds at a point, put down in one's own words. -/
theorem XC.cut {c : Code} (M : Fr → HL → Prop) (N : Fr → HL → Prop) (h : XC P n w0 K c (thenX M Q) ρ L) (hm : ∀ ρ L, M ρ L → N ρ L) : XC P n w0 K c (thenX N Q) ρ L :=
  h.mono fun e ρ L hq => by cases e <;> first | exact hm _ _ hq | exact hq

theorem XC.cutB {c : Code} {id : Nat} (M : Fr → HL → Prop) (h : XC P n w0 K c (blockX id (thenX M Q)) ρ L) (hm : ∀ ρ L, M ρ L → XQ Q .normal ρ L) : XC P n w0 K c (blockX id Q) ρ L :=
  h.mono fun e ρ L hq => by
    cases e with
    | normal => exact (hm _ _ hq).out
    | exit id' =>
      simp only [blockX] at hq ⊢
      cases hb : Nat.beq id' id with
      | true => rw [hb] at hq; exact (hm _ _ hq).out
      | false => rw [hb] at hq; exact hq
    | _ => exact hq

def Slots (ρ : Fr) : List (Nat × Value) → Prop
  | [] => True
  | (d, v) :: l => ρ d = v ∧ Slots ρ l
def updL (ρ : Fr) : List (Nat × Value) → Fr
  | [] => ρ
  | (d, v) :: l => upd (updL ρ l) d v
theorem updL_same : ∀ (l : List (Nat × Value)) (ρ : Fr), Slots ρ l → updL ρ l = ρ
  | [], _, _ => rfl
  | (d, v) :: l, ρ, h => by
    show upd (updL ρ l) d v = ρ
    rw [updL_same l ρ h.2, upd_same ρ d v h.1]
theorem XC.slots {c : Code} (l : List (Nat × Value)) (hs : Slots ρ l) (h : XC P n w0 K c Q (updL ρ l) L) : XC P n w0 K c Q ρ L := by
  rw [updL_same l ρ hs] at h; exact h

/-! ### Regions -/
theorem XC.region {id : Nat} {l : List Oper} (h : XL Γ n w0 K l Q l ρ L) : XC P n w0 K (.region id l.toArray false) Q ρ L :=
  ⟨fun w o => wp_region_lit (h.out w o)⟩
theorem XL.nilQ (h : XQ Q .normal ρ L) : XL Γ n w0 K ops Q [] ρ L := ⟨fun _ o => ⟨by simp, ρ, L, rfl, o, h.out⟩⟩
theorem XL.nilT {N : Fr → HL → Prop} (h : N ρ L) : XL Γ n w0 K ops (thenX N Q) [] ρ L := ⟨fun _ o => ⟨by simp, ρ, L, rfl, o, h⟩⟩
theorem XL.nil (h : Q .normal ρ L) : XL Γ n w0 K ops Q [] ρ L := ⟨fun _ o => ⟨by simp, ρ, L, rfl, o, h⟩⟩

def gval (n : Nat) (ρ : Fr) (ops : List Oper) (g : Option (Nat × Bool)) : Option Bool :=
  match g with
  | none => some true
  | some (j, want) => match ops[j]? with
    | some oj => match oj.dst with
      | some d => match Nat.blt d n with
        | true => match ρ d with
          | .bool b => match b, want with
            | true, true => some true
            | false, false => some true
            | true, false => some false
            | false, true => some false
          | .tuple _ => some false
          | _ => none
        | false => none
      | none => none
    | none => none

theorem yielded_mkA {j d : Nat} {oj : Oper} (hj : ops[j]? = some oj) (hd : oj.dst = some d) (hn : Nat.blt d n = true) :
    yielded ops.toArray (mkA n ρ).tmps j = (match ρ d with | .bool b => some b | _ => none) := by
  unfold yielded
  have hd' : d < n := by rw [Nat.blt_eq] at hn; exact hn
  simp [hj, hd, mkA, hd']
  cases ρ d <;> rfl

theorem gval_spec {b : Bool} (h : gval n ρ ops o.guard = some b) : Region.wanted o (yielded ops.toArray (mkA n ρ).tmps) = b := by
  unfold gval at h
  unfold Region.wanted
  split at h
  · rename_i hg; rw [hg]; cases h; rfl
  · rename_i j want hg
    rw [hg]
    split at h
    · rename_i oj hj
      split at h
      · rename_i d hd
        split at h
        · rename_i hn
          simp only
          rw [yielded_mkA hj hd hn]
          split at h
          · rename_i b' hb
            rw [hb]
            cases b' <;> cases want <;> simp at h <;> subst h <;> rfl
          · rename_i vs hb
            rw [hb]
            cases h; cases want <;> rfl
          · cases h
        · cases h
      · cases h
    · cases h

/-- One operation: whatever it does, N holds behind it. -/
structure XOp {P : Program} (_Γ : Env P) (n : Nat) (w0 : World) (K : List Nat) (ops : List Oper) (o : Oper) (N : Fr → HL → Prop) (ρ : Fr) (L : HL) : Prop where
  out : ∀ (Q' : Exit → Act → World → Prop) w, Own w0 K L w →
    if Region.wanted o (yielded ops.toArray (mkA n ρ).tmps) then o.wp P (mkA n ρ) w (fun a' w' => ∃ ρ' L', a' = mkA n ρ' ∧ Own w0 K L' w' ∧ N ρ' L') Q'
    else N (updO ρ o.dst undef) L
theorem XL.op (h : XOp Γ n w0 K ops o (fun ρ L => XL Γ n w0 K ops Q rest ρ L) ρ L) : XL Γ n w0 K ops Q (o :: rest) ρ L := by
  refine ⟨fun w ow => ?_⟩
  have := h.out (lift n w0 K Q) w ow
  unfold wpList
  split
  · rename_i hw
    rw [if_pos hw] at this
    refine .inl (Oper.wp_mono (fun a w ⟨ρ', L', ha, ho, hk⟩ => ?_) this)
    subst ha; exact hk.out w ho
  · rename_i hw
    rw [if_neg hw] at this
    rw [mkA_put]; exact this.out w ow
variable {N : Fr → HL → Prop}
/-- An operation that comes to a value. -/
theorem XOp.val {L : HL} (hg : gval n ρ ops o.guard = some true)
    (h : ∀ w, Own w0 K L w → ∃ v w' L', (execOp (ev n ρ) o).run P w = .ok (.value v) w' ∧ Own w0 K L' w' ∧ N (updO ρ o.dst v) L') :
    XOp Γ n w0 K ops o N ρ L := by
  refine ⟨fun Q' w ow => ?_⟩
  obtain ⟨v, w', L', hr, ow', hk⟩ := h w ow
  rw [if_pos (gval_spec hg)]
  unfold Oper.wp
  rw [mkA_eval, hr]
  show ∃ ρ' L', (mkA n ρ).put o.dst v = mkA n ρ' ∧ _
  exact ⟨_, L', mkA_put .., ow', hk⟩
/-- One that comes to none. -/
theorem XOp.noval {L : HL} (hg : gval n ρ ops o.guard = some true)
    (h : ∀ w, Own w0 K L w → ∃ w' L', (execOp (ev n ρ) o).run P w = .ok .skip w' ∧ Own w0 K L' w' ∧ N (updO ρ o.dst undef) L') :
    XOp Γ n w0 K ops o N ρ L := by
  refine ⟨fun Q' w ow => ?_⟩
  obtain ⟨w', L', hr, ow', hk⟩ := h w ow
  rw [if_pos (gval_spec hg)]
  unfold Oper.wp
  rw [mkA_eval, hr]
  show ∃ ρ' L', (mkA n ρ).put o.dst undef = mkA n ρ' ∧ _
  exact ⟨_, L', mkA_put .., ow', hk⟩
theorem XOp.skip (hg : gval n ρ ops o.guard = some false) (h : N (updO ρ o.dst undef) L) : XOp Γ n w0 K ops o N ρ L := by
  refine ⟨fun Q' w ow => ?_⟩
  rw [if_neg (by rw [gval_spec hg]; simp)]
  exact h
theorem XOp.p1 {d : Nat} {op : Op} {ty : Nat} {pos : String} {af : Array Edge} {g : Option (Nat × Bool)} {v : Value} (hg : gval n ρ ops g = some true) (hv : pval Γ n ρ op = some v)
    (h : N (upd ρ d v) L) : XOp Γ n w0 K ops { dst := some d, op := op, type := ty, pos := pos, after := af, guard := g } N ρ L :=
  XOp.val hg fun w ow => ⟨v, w, L, pval_run hv w, ow, h⟩
theorem XOp.p0 {d : Nat} {op : Op} {ty : Nat} {pos : String} {af : Array Edge} {g : Option (Nat × Bool)} (hg : gval n ρ ops g = some false)
    (h : N (upd ρ d undef) L) : XOp Γ n w0 K ops { dst := some d, op := op, type := ty, pos := pos, after := af, guard := g } N ρ L :=
  XOp.skip hg h
theorem XOp.p00 {op : Op} {ty : Nat} {pos : String} {af : Array Edge} {g : Option (Nat × Bool)} (hg : gval n ρ ops g = some false)
    (h : N ρ L) : XOp Γ n w0 K ops { dst := none, op := op, type := ty, pos := pos, after := af, guard := g } N ρ L :=
  XOp.skip hg h
/-- A guard that is not known: two ways; in each it is. -/
theorem XOp.split {j d : Nat} {want b : Bool} {oj : Oper} (hg : o.guard = some (j, want)) (hj : ops[j]? = some oj) (hd : oj.dst = some d) (hb : ρ d = .bool b)
    (ht : b = true → XOp Γ n w0 K ops o N (upd ρ d (.bool true)) L) (hf : b = false → XOp Γ n w0 K ops o N (upd ρ d (.bool false)) L) :
    XOp Γ n w0 K ops o N ρ L := by
  cases b with
  | true => have := ht rfl; rw [upd_same ρ d _ hb] at this; exact this
  | false => have := hf rfl; rw [upd_same ρ d _ hb] at this; exact this

/-! ### Memory -/
def cellv (h : HV) (a : Addr) : Option Value :=
  match h a.block with
  | some (.cells c _ _) => if a.spot.isSome then none else c[a.off]?
  | _ => none
theorem cellv_hv (w : World) (a : Addr) : cellv (hv w) a = w.cell? a := rfl
/-- The cells vs lie from a place on. -/
def rowv (h : HV) (b off : Nat) (vs : List Value) : Prop := ∀ i v, vs[i]? = some v → cellv h ⟨b, off + i, none⟩ = some v

theorem own_cell {i b : Nat} {cs : List Value} {t : Nat} {fz : Nat × Nat} {off : Nat} {v : Value} (hi : L[i]? = some (b, .cells ⟨cs⟩ t fz)) (hc : cs[off]? = some v) :
    Known w0 K L (fun h => cellv h ⟨b, off, none⟩ = some v) := fun h e => by
  have := e.1 _ (List.mem_of_getElem? hi)
  simp only at this
  simp [cellv, this, hc]
theorem own_row {i b : Nat} {cs : List Value} {t : Nat} {fz : Nat × Nat} {off m : Nat} {vs : List Value} (hi : L[i]? = some (b, .cells ⟨cs⟩ t fz)) (hc : (cs.drop off).take m = vs) :
    Known w0 K L (fun h => rowv h b off vs) := fun h e => by
  intro j v hj
  have := e.1 _ (List.mem_of_getElem? hi)
  simp only at this
  subst hc
  rw [List.getElem?_take] at hj
  split at hj
  · rw [List.getElem?_drop] at hj
    simp [cellv, this, hj]
  · cases hj

def takeF : Nat → List Value → Option (List Value)
  | 0, _ => some []
  | m + 1, x :: l => match takeF m l with | some r => some (x :: r) | none => none
  | _ + 1, [] => none
def grab : List Value → Nat → Nat → Option (List Value)
  | l, 0, m => takeF m l
  | _ :: l, k + 1, m => grab l k m
  | [], _ + 1, _ => none
theorem takeF_eq : ∀ {m : Nat} {l r : List Value}, takeF m l = some r → l.take m = r ∧ r.length = m
  | 0, l, r, h => by cases h; simp
  | m + 1, x :: l, r, h => by
    unfold takeF at h
    split at h
    · rename_i r' hr
      cases h
      have := takeF_eq hr
      simp [this.1, this.2]
    · cases h
  | m + 1, [], r, h => by cases h
theorem grab_eq : ∀ {l : List Value} {k m : Nat} {r : List Value}, grab l k m = some r → (l.drop k).take m = r ∧ r.length = m
  | l, 0, m, r, h => takeF_eq (by unfold grab at h; exact h)
  | _ :: l, k + 1, m, r, h => grab_eq (l := l) (k := k) (m := m) (r := r) h
  | [], k + 1, m, r, h => by cases h
theorem own_grab {i b : Nat} {cs : List Value} {t : Nat} {fz : Nat × Nat} {off m : Nat} {vs : List Value} (hi : L[i]? = some (b, .cells ⟨cs⟩ t fz)) (hc : grab cs off m = some vs) :
    Known w0 K L (fun h => rowv h b off vs) := own_row hi (grab_eq hc).1

theorem load_run {t : Nat} {r : TR} (ht : TypeIs P t r) (hk : isAggT P t = 1) {a : Addr} {v : Value} {w : World} (hc : w.cell? a = some v) : (loadVar t a).run P w = .ok v w := by
  unfold loadVar
  rw [bind_run (isAgg_run ht w), hk]
  simp [load, Sem.run, hc]

theorem loadCells_run {b off : Nat} {w : World} : ∀ (vs : List Value) (i : Nat) (acc : Array Value), (∀ j v, vs[j]? = some v → w.cell? ⟨b, off + (i + j), none⟩ = some v) →
    (loadCellsFrom ⟨b, off, none⟩ i vs.length acc).run P w = .ok (acc ++ vs.toArray) w
  | [], i, acc, _ => by simp [loadCellsFrom, pure, Sem.run]
  | v :: vs, i, acc, h => by
    simp only [List.length_cons, loadCellsFrom, add_off]
    have h0 : w.cell? ⟨b, off + i, none⟩ = some v := h 0 v rfl
    show ((load _).bind _).run P w = _
    simp only [load, Sem.bind, Sem.run, h0]
    rw [loadCells_run vs (i + 1) (acc.push v) (fun j v' hj => by have := h (j + 1) v' hj; rw [show i + 1 + j = i + (j + 1) by omega]; exact this)]
    simp

theorem loadN_run {t : Nat} {r : TR} (ht : TypeIs P t r) (hk : isAggT P t = 2) {b off : Nat} {vs : List Value} {w : World} (hl : vs.length = r.sz) (hc : rowv (hv w) b off vs) :
    (loadVar t ⟨b, off, none⟩).run P w = .ok (.agg ⟨vs⟩) w := by
  unfold loadVar
  rw [bind_run (isAgg_run ht w), hk]
  simp only [beq_self_eq_true, if_true, bind_run (size_run ht w), loadCells, ← hl]
  have := loadCells_run (P := P) (b := b) (off := off) (w := w) vs 0 #[] (fun j v hj => by have := hc j v hj; rw [cellv_hv] at this; simpa using this)
  rw [bind_run this]
  simp [pure, Sem.run]

def aggK : TK → Nat | .struct _ => 2 | .array _ _ => 2 | _ => 1

/-- A load of one cell. -/
theorem XOp.load {d : Nat} {t ty b off : Nat} {x : Operand} {pos : String} {af : Array Edge} {g : Option (Nat × Bool)} {r : TR} {v : Value}
    (hg : gval n ρ ops g = some true) (ht : Γ.get t = some r) (hk : aggK r.k = 1) (hx : ev n ρ x = .pointer (some ⟨b, off, none⟩))
    (hc : Known w0 K L (fun h => cellv h ⟨b, off, none⟩ = some v)) (h : N (upd ρ d v) L) :
    XOp Γ n w0 K ops { dst := some d, op := .load t x, type := ty, pos := pos, after := af, guard := g } N ρ L :=
  XOp.val hg fun w ow => ⟨v, w, L, by
    refine run_value ?_
    simp only [Instr.loadAt, hx, Instr.sureAddr]
    show (loadVar t ⟨b, off, none⟩).run P w = _
    exact load_run (Γ.is ht) ((tk_agg (Γ.is ht)).trans (by rw [← hk]; cases r.k <;> rfl)) (hc.at ow), ow, h⟩
/-- A load of a struct or an array. -/
theorem XOp.loadN {d : Nat} {t ty b off : Nat} {x : Operand} {pos : String} {af : Array Edge} {g : Option (Nat × Bool)} {r : TR} {vs : List Value}
    (hg : gval n ρ ops g = some true) (ht : Γ.get t = some r) (hk : aggK r.k = 2) (hx : ev n ρ x = .pointer (some ⟨b, off, none⟩)) (hl : vs.length = r.sz)
    (hc : Known w0 K L (fun h => rowv h b off vs)) (h : N (upd ρ d (.agg ⟨vs⟩)) L) :
    XOp Γ n w0 K ops { dst := some d, op := .load t x, type := ty, pos := pos, after := af, guard := g } N ρ L :=
  XOp.val hg fun w ow => ⟨_, w, L, by
    refine run_value ?_
    simp only [Instr.loadAt, hx, Instr.sureAddr]
    show (loadVar t ⟨b, off, none⟩).run P w = _
    exact loadN_run (Γ.is ht) ((tk_agg (Γ.is ht)).trans (by rw [← hk]; cases r.k <;> rfl)) hl (hc.at ow), ow, h⟩

/-- The same, out of a block that is held. -/
theorem XOp.loadO {d : Nat} {t ty i b off te : Nat} {fz : Nat × Nat} {x : Operand} {pos : String} {af : Array Edge} {g : Option (Nat × Bool)} {r : TR} {cs vs : List Value}
    (hg : gval n ρ ops g = some true) (ht : Γ.get t = some r) (hk : aggK r.k = 2) (hx : ev n ρ x = .pointer (some ⟨b, off, none⟩)) (hi : L[i]? = some (b, .cells ⟨cs⟩ te fz)) (hc : grab cs off r.sz = some vs)
    (h : N (upd ρ d (.agg ⟨vs⟩)) L) :
    XOp Γ n w0 K ops { dst := some d, op := .load t x, type := ty, pos := pos, after := af, guard := g } N ρ L :=
  XOp.loadN hg ht hk hx (grab_eq hc).2 (own_grab hi hc) h
def cellsO (v : Value) : Option (List Value) :=
  match v with
  | .agg ⟨l⟩ => some l
  | v => match force v with | some v' => some [v'] | none => none
theorem cellsO_eq {v : Value} {l : List Value} (h : cellsO v = some l) : cellsL v = l := by
  unfold cellsO at h
  split at h
  · cases h; rfl
  · rename_i v' hne
    split at h
    · rename_i u hu
      cases h
      rw [← force_eq hu]
      unfold cellsL
      split
      · exact (hne _ rfl).elim
      · rfl
    · cases h
theorem cellsL_eq (v : Value) : v.cells = ⟨cellsL v⟩ := by
  cases v <;> rfl
/-- A new variable that holds a value. -/
theorem XOp.box {d : Nat} {t ty : Nat} {x : Operand} {pos : String} {af : Array Edge} {g : Option (Nat × Bool)} {cs : List Value}
    (hg : gval n ρ ops g = some true) (hx' : cellsO (ev n ρ x) = some cs)
    (h : ∀ b, N (upd ρ d (.pointer (some ⟨b, 0, none⟩))) ((b, .cells ⟨cs⟩ t (0, 0)) :: L)) :
    XOp Γ n w0 K ops { dst := some d, op := .box t x, type := ty, pos := pos, after := af, guard := g } N ρ L :=
  XOp.val hg fun w ow => ⟨.pointer (some ⟨w.heap.size, 0, none⟩), w.alloc (.cells ⟨cs⟩ t (0, 0)), (w.heap.size, .cells ⟨cs⟩ t (0, 0)) :: L, by
    have hx := cellsO_eq hx'
    refine run_value ?_
    simp only [Instr.box, newVar, newRow, newObj, cellsL_eq, hx, bind, Sem.bind, pure, Sem.run]
    rfl, ow.new _, h w.heap.size⟩
/-- A new variable that holds its type's zero. -/
theorem XOp.alloc {d : Nat} {t ty : Nat} {pos : String} {af : Array Edge} {g : Option (Nat × Bool)} {r : TR} {cs : List Value}
    (hg : gval n ρ ops g = some true) (ht : Γ.get t = some r) (hx' : cellsO r.z = some cs)
    (h : ∀ b, N (upd ρ d (.pointer (some ⟨b, 0, none⟩))) ((b, .cells ⟨cs⟩ t (0, 0)) :: L)) :
    XOp Γ n w0 K ops { dst := some d, op := .alloc t, type := ty, pos := pos, after := af, guard := g } N ρ L :=
  XOp.val hg fun w ow => ⟨.pointer (some ⟨w.heap.size, 0, none⟩), w.alloc (.cells ⟨cs⟩ t (0, 0)), (w.heap.size, .cells ⟨cs⟩ t (0, 0)) :: L, by
    have hx := cellsO_eq hx'
    refine run_value ?_
    have hz := zero_run (Γ.is ht) w
    simp only [Instr.alloc]
    rw [bind_run hz]
    simp only [newVar, newRow, newObj, cellsL_eq, hx, bind, Sem.bind, pure, Sem.run]
    rfl, ow.new _, h w.heap.size⟩

theorem getElem_set_ne {α : Type} {a : Array α} {i j : Nat} {x : α} (h : ¬ i = j) (h1 : j < (a.setIfInBounds i x).size) (h2 : j < a.size) : (a.setIfInBounds i x)[j] = a[j] := by
  have := Array.getElem?_setIfInBounds_ne (xs := a) (i := i) (j := j) (a := x) h
  rw [Array.getElem?_eq_getElem h1, Array.getElem?_eq_getElem h2] at this
  exact Option.some.inj this
/-- The world with one block put in another's place. -/
def putB (w : World) (b : Nat) (ob : Obj) : World := { w with heap := w.heap.setIfInBounds b ob }
def lset : List Value → Nat → Value → Option (List Value)
  | [], _, _ => none
  | _ :: l, 0, v => some (v :: l)
  | x :: l, i + 1, v => match lset l i v with | some l' => some (x :: l') | none => none
theorem lset_eq : ∀ {l : List Value} {i : Nat} {v : Value} {l' : List Value}, lset l i v = some l' → l' = l.set i v ∧ i < l.length
  | [], _, _, _, h => by simp [lset] at h
  | _ :: l, 0, v, l', h => by simp [lset] at h; subst h; simp
  | x :: l, i + 1, v, l', h => by
    unfold lset at h
    split at h
    · rename_i l2 h2
      cases h
      have := lset_eq h2
      refine ⟨by rw [this.1]; rfl, ?_⟩
      have := this.2
      simp; omega
    · cases h
/-- Several cells one behind the other. -/
def lsetN : List Value → Nat → List Value → Option (List Value)
  | l, _, [] => some l
  | l, i, v :: vs => match lset l i v with | some l' => lsetN l' (i + 1) vs | none => none
def aset : HL → Nat → Nat × Obj → Option HL
  | [], _, _ => none
  | _ :: l, 0, v => some (v :: l)
  | x :: l, i + 1, v => match aset l i v with | some l' => some (x :: l') | none => none
theorem aset_eq : ∀ {l : HL} {i : Nat} {v : Nat × Obj} {l' : HL}, aset l i v = some l' → l' = l.set i v
  | [], _, _, _, h => by simp [aset] at h
  | _ :: l, 0, v, l', h => by simp [aset] at h; subst h; simp
  | x :: l, i + 1, v, l', h => by
    unfold aset at h
    split at h
    · rename_i l2 h2
      cases h
      rw [aset_eq h2]; rfl
    · cases h

theorem store_one {b t : Nat} {cs : List Value} {off : Nat} {v : Value} {w : World} (hh : w.heap[b]? = some (.cells ⟨cs⟩ t (0, 0))) (ho : off < cs.length) (hv : v.oneCell' = true) :
    (store ⟨b, off, none⟩ v).run P w = .ok () (putB w b (.cells ⟨cs.set off v⟩ t (0, 0))) := by
  have hc : w.cell? ⟨b, off, none⟩ = some cs[off] := by simp [World.cell?, hh, ho]
  have hf : w.frozen? ⟨b, off, none⟩ = false := by simp [World.frozen?, hh]
  have hw : w.setCell ⟨b, off, none⟩ v = putB w b (.cells ⟨cs.set off v⟩ t (0, 0)) := by
    unfold World.setCell putB
    congr 1
    have hb := (Array.getElem?_eq_some_iff.1 hh)
    obtain ⟨hb, he⟩ := hb
    refine Array.ext (by simp) fun j h1 h2 => ?_
    rw [Array.getElem_modify]
    by_cases hj : b = j
    · subst hj
      simp [he]
    · rw [if_neg hj, getElem_set_ne hj]
  cases v <;> simp [Value.oneCell'] at hv <;> simp [store, Sem.run, hc, hf, hw]
theorem putB_putB (w : World) (b : Nat) (x y : Obj) : putB (putB w b x) b y = putB w b y := by
  unfold putB; simp
theorem putB_heap {w : World} {b : Nat} {x : Obj} (h : b < w.heap.size) : (putB w b x).heap[b]? = some x := by
  unfold putB; simp [h]

theorem Own.put {i b : Nat} {ob ob' : Obj} {L' : HL} {w : World} (ow : Own w0 K L w) (hi : L[i]? = some (b, ob)) (hs : aset L i (b, ob') = some L') : Own w0 K L' (putB w b ob') := by
  rw [aset_eq hs]
  exact ow.set hi ob' rfl rfl rfl rfl

/-- A store of one cell into a block that is held. -/
theorem XOp.store {d : Option Nat} {t ty i b off : Nat} {x y : Operand} {pos : String} {af : Array Edge} {g : Option (Nat × Bool)} {r : TR} {v : Value} {cs cs' : List Value} {te : Nat} {L' : HL}
    (hg : gval n ρ ops g = some true) (ht : Γ.get t = some r) (hk : r.sz = 1) (hx : ev n ρ x = .pointer (some ⟨b, off, none⟩)) (hv : force (ev n ρ y) = some v) (h1 : v.oneCell' = true)
    (hi : L[i]? = some (b, .cells ⟨cs⟩ te (0, 0))) (hs : lset cs off v = some cs') (ha : aset L i (b, .cells ⟨cs'⟩ te (0, 0)) = some L')
    (h : N (updO ρ d undef) L') :
    XOp Γ n w0 K ops { dst := d, op := .store t x y, type := ty, pos := pos, after := af, guard := g } N ρ L :=
  XOp.noval hg fun w ow => by
    have hv := force_eq hv
    obtain ⟨rfl, ho⟩ := lset_eq hs
    refine ⟨putB w b (.cells ⟨cs.set off v⟩ te (0, 0)), L', ?_, ow.put hi ha, h⟩
    have hh := ow.has _ (List.mem_of_getElem? hi)
    have hc : v.cells = #[v] := by cases v <;> simp [Value.oneCell'] at h1 <;> rfl
    have hrun : (Instr.storeAt t (ev n ρ x) (ev n ρ y)).run P w = .ok () (putB w b (.cells ⟨cs.set off v⟩ te (0, 0))) := by
      rw [hx, hv]
      show (storeVar t ⟨b, off, none⟩ v).run P w = _
      unfold storeVar
      rw [hc, bind_run (size_run (Γ.is ht) w), hk]
      show ((Go.store ((Addr.mk b off none).add 0) v).bind _).run P w = _
      rw [add_off, run_bind, Nat.add_zero, store_one hh ho h1]; rfl
    show ((Instr.storeAt t (ev n ρ x) (ev n ρ y)).bind _).run P w = _
    rw [run_bind, hrun]; rfl

theorem storeN_run {b te : Nat} : ∀ (vs : List Value) (cs cs' : List Value) (off i : Nat) (w : World), w.heap[b]? = some (.cells ⟨cs⟩ te (0, 0)) → lsetN cs (off + i) vs = some cs' →
    (∀ v ∈ vs, v.oneCell' = true) → (storeCells ⟨b, off, none⟩ vs i).run P w = .ok () (putB w b (.cells ⟨cs'⟩ te (0, 0)))
  | [], cs, cs', off, i, w, hh, hs, _ => by
    cases hs
    have : putB w b (.cells ⟨cs⟩ te (0, 0)) = w := by
      unfold putB
      obtain ⟨hb, he⟩ := Array.getElem?_eq_some_iff.1 hh
      rw [show w.heap.setIfInBounds b (.cells ⟨cs⟩ te (0, 0)) = w.heap from by
        refine Array.ext (by simp) fun j h1 h2 => ?_
        by_cases hj : b = j
        · subst hj; simp [he]
        · exact getElem_set_ne hj _ _]
    rw [this]; rfl
  | v :: vs, cs, cs', off, i, w, hh, hs, h1 => by
    unfold lsetN at hs
    split at hs
    · rename_i l' hl
      obtain ⟨rfl, ho⟩ := lset_eq hl
      have hb : b < w.heap.size := (Array.getElem?_eq_some_iff.1 hh).1
      simp only [storeCells]
      show ((Go.store ((Addr.mk b off none).add i) v).bind _).run P w = _
      rw [add_off, run_bind, store_one hh ho (h1 v (by simp))]
      show (storeCells ⟨b, off, none⟩ vs (i + 1)).run P _ = _
      rw [storeN_run vs _ cs' off (i + 1) _ (putB_heap hb) (by rw [show off + (i + 1) = off + i + 1 by omega]; exact hs) (fun v hv => h1 v (by simp [hv])), putB_putB]
    · cases hs
/-- A store of a struct or an array. -/
theorem XOp.storeN {d : Option Nat} {t ty i b off : Nat} {x y : Operand} {pos : String} {af : Array Edge} {g : Option (Nat × Bool)} {r : TR} {vs : List Value} {cs cs' : List Value} {te : Nat} {L' : HL}
    (hg : gval n ρ ops g = some true) (ht : Γ.get t = some r) (hx : ev n ρ x = .pointer (some ⟨b, off, none⟩)) (hv' : cellsO (ev n ρ y) = some vs) (hk : vs.length = r.sz) (h1 : vs.all (·.oneCell') = true)
    (hi : L[i]? = some (b, .cells ⟨cs⟩ te (0, 0))) (hs : lsetN cs off vs = some cs') (ha : aset L i (b, .cells ⟨cs'⟩ te (0, 0)) = some L')
    (h : N (updO ρ d undef) L') :
    XOp Γ n w0 K ops { dst := d, op := .store t x y, type := ty, pos := pos, after := af, guard := g } N ρ L :=
  XOp.noval hg fun w ow => by
    refine ⟨putB w b (.cells ⟨cs'⟩ te (0, 0)), L', ?_, ow.put hi ha, h⟩
    have hv := cellsO_eq hv'
    have hh := ow.has _ (List.mem_of_getElem? hi)
    have hrun : (Instr.storeAt t (ev n ρ x) (ev n ρ y)).run P w = .ok () (putB w b (.cells ⟨cs'⟩ te (0, 0))) := by
      rw [hx]
      show (storeVar t ⟨b, off, none⟩ (ev n ρ y)).run P w = _
      unfold storeVar
      rw [cellsL_eq, hv, bind_run (size_run (Γ.is ht) w), ← hk]
      rw [if_neg (by simp)]
      exact storeN_run vs cs cs' off 0 w hh (by simpa using hs) (fun v hv => List.all_eq_true.1 h1 v hv)
    show ((Instr.storeAt t (ev n ρ x) (ev n ρ y)).bind _).run P w = _
    rw [run_bind, hrun]; rfl

end

/-! ### Functions -/
def isFn (P : Program) (f : Nat) : Bool := match P.funcs[f]? with | some fn => fn.body.isSome && !(fn.name == "runtime.NumGoroutine") | none => false
def oldv (w : World) (S : List Nat) : HV := fun b => if b ∈ S then none else w.heap[b]?
/-- What a function does: it is handed the blocks L0 (which it may write), knows A of what is read, and hands back a value and blocks. -/
def FC (P : Program) (f : Nat) (as : List Value) (L0 : HL) (A : HV → Prop) (Post : Value → HL → Prop) : Prop :=
  isFn P f = true ∧ ∀ w, (∀ x ∈ L0, w.heap[x.1]? = some x.2) → (keys L0).Nodup → (∀ h : HV, (∀ b o, oldv w (keys L0) b = some o → h b = some o) → A h) →
    Calls P f as.toArray w (fun e w' => ∃ v L', e = .returned v ∧ Own w (keys L0) L' w' ∧ Post v L')

theorem FC.mono {P f as L0 A Post} {Post' : Value → HL → Prop} (h : FC P f as L0 A Post) (hp : ∀ v L, Post v L → Post' v L) : FC P f as L0 A Post' :=
  ⟨h.1, fun w h1 h2 h3 => (h.2 w h1 h2 h3).mono fun _ _ ⟨v, L', he, ho, hq⟩ => ⟨v, L', he, ho, hp _ _ hq⟩⟩

/-- What a call hands back is no longer looked at. -/
theorem FC.drop {P f as L0 A Post} (h : FC P f as L0 A Post) : FC P f as L0 A (fun v L => L = [] ∧ ∃ L', Post v L') :=
  ⟨h.1, fun w h1 h2 h3 => (h.2 w h1 h2 h3).mono fun _ _ ⟨v, L', he, ho, hq⟩ => ⟨v, [], he, ho.sub (by simp) (by simp [keys]), rfl, L', hq⟩⟩

section
variable {P : Program} {Γ : Env P} {n : Nat} {w0 : World} {K : List Nat} {Q : Exit → Fr → HL → Prop} {ρ : Fr} {L : HL} {ops rest : List Oper} {o : Oper}

variable {N : Fr → HL → Prop}
theorem isFn_run {f : Nat} (h : isFn P f = true) (as : Array Value) (w : World) : (callFunc f as).run P w = .ok (.enter f as) w := by
  unfold isFn at h
  split at h
  · rename_i fn hf
    simp only [Bool.and_eq_true, Bool.not_eq_true'] at h
    unfold callFunc
    simp only [program, bind, Sem.bind, Sem.run, hf, h.2]
    have : fn.body.isNone = false := by cases hb : fn.body <;> simp_all
    simp [this, pure]
  · cases h

/-- A call, by its contract: it is handed L0; R stays. -/
theorem XOp.call {d : Option Nat} {ty f : Nat} {c : Operand} {xs : Array Operand} {ts : Array Nat} {pos : String} {af : Array Edge} {g : Option (Nat × Bool)}
    {as : List Value} {first cap : Array Value} {L0 R : HL} {A : HV → Prop} {Post : Value → HL → Prop}
    (hF : FC P f as L0 A Post)
    (hg : gval n ρ ops g = some true) (hc : ev n ρ c = .func (.func f) first cap) (ha : first.toList ++ args n ρ xs ++ cap.toList = as)
    (hL : L = L0 ++ R) (hA : Known w0 K R A)
    (h : ∀ v L', Post v L' → N (updO ρ d v) (L' ++ R)) :
    XOp Γ n w0 K ops { dst := d, op := .call { callee := .value c, args := xs, argTypes := ts }, type := ty, pos := pos, after := af, guard := g } N ρ L := by
  refine ⟨fun Q' w ow => ?_⟩
  subst hL
  rw [if_pos (gval_spec hg)]
  unfold Oper.wp
  rw [mkA_eval]
  have hrun : (execOp (ev n ρ) { dst := d, op := .call { callee := .value c, args := xs, argTypes := ts }, type := ty, pos := pos, after := af, guard := g }).run P w = .ok (.enter f as.toArray) w := by
    have e : (first ++ (args n ρ xs).toArray) ++ cap = as.toArray := by
      subst ha
      refine Array.ext' ?_
      simp
    show ((resolve (ev n ρ) { callee := .value c, args := xs, argTypes := ts } ty).bind _).run P w = _
    have h1 : (resolve (ev n ρ) { callee := .value c, args := xs, argTypes := ts } ty).run P w = .ok { target := .fn (.func f) cap, args := first ++ (args n ρ xs).toArray } w := by
      simp only [resolve, hc, map_args, Deferred.ofValue]; rfl
    rw [run_bind, h1]
    show (callFunc f ((first ++ (args n ρ xs).toArray) ++ cap)).run P w = _
    rw [e]
    exact isFn_run hF.1 _ _
  rw [hrun]
  show Calls P f as.toArray w _
  have hnd : (keys L0).Nodup ∧ (keys R).Nodup ∧ ∀ a ∈ keys L0, ∀ b ∈ keys R, a ≠ b := by
    have hnd := ow.nodup
    unfold keys at hnd; rw [List.map_append, List.nodup_append] at hnd; exact hnd
  refine (hF.2 w (fun x hx => ow.has x (List.mem_append_left _ hx)) hnd.1 ?_).mono ?_
  · intro h hh
    refine hA h ⟨fun x hx => ?_, fun b hb hk => ?_⟩
    · refine hh _ _ ?_
      unfold oldv
      rw [if_neg (fun hm => hnd.2.2 _ hm _ (List.mem_map.2 ⟨x, hx, rfl⟩) rfl)]
      exact ow.has x (List.mem_append_right _ hx)
    · have hb' : b < w.heap.size := Nat.lt_of_lt_of_le hb ow.size
      have h1 : oldv w (keys L0) b = some w.heap[b] := by
        unfold oldv
        rw [if_neg (fun hm => by
          obtain ⟨x, hx, rfl⟩ := List.mem_map.1 hm
          exact hk (ow.mine x (List.mem_append_left _ hx) hb))]
        simp [hb']
      rw [hh _ _ h1, ← ow.old b hb hk]; simp [hb']
  · rintro e w' ⟨v, L', rfl, ow', hp⟩
    show ∃ ρ' L'', (mkA n ρ).put d v = mkA n ρ' ∧ _
    exact ⟨_, _, mkA_put .., ow.call ow', h v L' hp⟩

/-! ### Entering a function, and leaving it -/
def argF : List Value → Fr
  | [], _ => undef
  | v :: _, 0 => v
  | _ :: l, t + 1 => argF l t
theorem argF_get : ∀ (l : List Value) (t : Nat), argF l t = (l[t]?).getD undef
  | [], t => by simp [argF]
  | v :: l, 0 => by simp [argF]
  | v :: l, t + 1 => by simp [argF, argF_get l t]

/-- What a function's results are read out of. -/
inductive Res (P : Program) (n : Nat) (ρ : Fr) (w0 : World) (K : List Nat) (L : HL) : List ResultVar → List Value → Prop where
  | nil : Res P n ρ w0 K L [] []
  | tmp {t l v vs} (h : ev n ρ (.tmp t) = v) (r : Res P n ρ w0 K L l vs) : Res P n ρ w0 K L (.tmp t :: l) (v :: vs)
  | cell {a t b off l v vs} (h : ev n ρ (.tmp a) = .pointer (some ⟨b, off, none⟩)) (hk : isAggT P t = 1) (hd : (P.info? t).isSome = true)
      (hc : Known w0 K L (fun h => cellv h ⟨b, off, none⟩ = some v)) (r : Res P n ρ w0 K L l vs) : Res P n ρ w0 K L (.cell a t :: l) (v :: vs)
  | row {a t b off l us vs} (h : ev n ρ (.tmp a) = .pointer (some ⟨b, off, none⟩)) (hk : isAggT P t = 2) (hs : sizeT P t = us.length)
      (hc : Known w0 K L (fun h => rowv h b off us)) (r : Res P n ρ w0 K L l vs) : Res P n ρ w0 K L (.cell a t :: l) (.agg ⟨us⟩ :: vs)

theorem Res.t {t l v vs} (h : force (ev n ρ (.tmp t)) = some v) (r : Res P n ρ w0 K L l vs) : Res P n ρ w0 K L (.tmp t :: l) (v :: vs) := .tmp (force_eq h) r
def resV : List Value → Value
  | [v] => v
  | vs => .tuple ⟨vs⟩

theorem load_size {t : Nat} {b off : Nat} {vs : List Value} {w : World} (hk : isAggT P t = 2) (hs : sizeT P t = vs.length) (hc : rowv (hv w) b off vs) :
    (loadVar t ⟨b, off, none⟩).run P w = .ok (.agg ⟨vs⟩) w := by
  unfold isAggT at hk
  cases hu : P.underlying t with
  | none => rw [hu] at hk; cases hk
  | some d =>
    have hi : ∃ i, P.info? t = some i ∧ i.size = vs.length := by
      unfold sizeT at hs
      cases hi : P.info? t with
      | none => simp [Program.underlying, hi] at hu
      | some i => rw [hi] at hs; exact ⟨i, rfl, hs⟩
    obtain ⟨i, hi, his⟩ := hi
    rw [hu] at hk
    have ha : (isAgg t).run P w = .ok true w := by
      show ((underlying t).bind _).run P w = _
      rw [run_bind, underlying_run hu]
      cases d <;> first | rfl | cases hk
    have hsz : (sizeOf t).run P w = .ok vs.length w := by
      simp [sizeOf, typeInfo, program, bind, Sem.bind, Sem.run, hi, pure, his]
    unfold loadVar
    rw [bind_run ha, if_pos rfl, bind_run hsz, loadCells]
    have := loadCells_run (P := P) (b := b) (off := off) (w := w) vs 0 #[] (fun j v hj => by have := hc j v hj; rw [cellv_hv] at this; simpa using this)
    rw [bind_run this]
    simp [pure, Sem.run]
theorem load_plain {t : Nat} {a : Addr} {v : Value} {w : World} (hk : isAggT P t = 1) (hc : w.cell? a = some v) : (loadVar t a).run P w = .ok v w := by
  unfold isAggT at hk
  cases hu : P.underlying t with
  | none => rw [hu] at hk; cases hk
  | some d =>
    rw [hu] at hk
    have ha : (isAgg t).run P w = .ok false w := by
      show ((underlying t).bind _).run P w = _
      rw [run_bind, underlying_run hu]
      cases d <;> first | rfl | cases hk
    unfold loadVar
    rw [bind_run ha]
    simp [load, Sem.run, hc]

inductive F2 {α β : Type} (R : α → β → Prop) : List α → List β → Prop where
  | nil : F2 R [] []
  | cons {a b l m} (h : R a b) (t : F2 R l m) : F2 R (a :: l) (b :: m)
theorem mapM_run {α : Type} (f : ResultVar → Sem α) {w : World} : ∀ (l : List ResultVar) (vs : List α), F2 (fun r v => (f r).run P w = .ok v w) l vs → (l.mapM f).run P w = .ok vs w
  | [], _, h => by cases h; rfl
  | r :: l, _, h => by
    cases h with
    | cons h1 h2 =>
      rw [List.mapM_cons, bind_run h1, bind_run (mapM_run f l _ h2)]; rfl

def resF (n : Nat) (ρ : Fr) : ResultVar → Sem Value
  | .tmp t => pure (ev n ρ (.tmp t))
  | .cell a t => do loadVar t (← asAddr (ev n ρ (.tmp a)))
theorem Res.run {l : List ResultVar} {vs : List Value} (r : Res P n ρ w0 K L l vs) {w : World} (ow : Own w0 K L w) :
    F2 (fun r v => (resF n ρ r).run P w = .ok v w) l vs := by
  induction r with
  | nil => exact .nil
  | tmp h _ ih => exact .cons (by simp only [resF, h]; rfl) ih
  | cell h hk hd hc _ ih =>
    refine .cons ?_ ih
    simp only [resF, h]
    exact load_plain hk (hc.at ow)
  | row h hk hs hc _ ih =>
    refine .cons ?_ ih
    simp only [resF, h]
    exact load_size hk hs (hc.at ow)

theorem resV_eq (vs : List Value) : (if h : vs.toArray.size = 1 then vs.toArray[0] else Value.tuple vs.toArray) = resV vs := by
  unfold resV
  split
  · rename_i h; split
    · rfl
    · rename_i hne
      exfalso
      simp at h
      match vs, h with
      | [v], _ => exact hne v rfl
  · rename_i h; split
    · exact absurd rfl h
    · rfl

theorem results_run {fn : Func} {vs : List Value} (r : Res P n ρ w0 K L fn.results.toList vs) {w : World} (ow : Own w0 K L w) :
    (results fn (mkA n ρ).tmps).run P w = .ok (resV vs) w := by
  have h1 := mapM_run (P := P) _ _ _ (r.run ow)
  have key : ∀ g : ResultVar → Sem Value, (∀ r, g r = resF n ρ r) →
      ((fn.results.mapM g >>= fun vs => pure (if h : vs.size = 1 then vs[0] else .tuple vs)) : Sem Value).run P w = .ok (resV vs) w := by
    intro g hg
    obtain rfl : g = resF n ρ := funext hg
    rw [← Array.toArray_toList (xs := fn.results), List.mapM_toArray]
    have h2 : ((List.toArray <$> List.mapM (resF n ρ) fn.results.toList) : Sem (Array Value)).run P w = .ok vs.toArray w := by
      show ((List.mapM (resF n ρ) fn.results.toList).bind _).run P w = _
      rw [run_bind, h1]; rfl
    rw [bind_run h2, resV_eq]; rfl
  unfold results
  refine key _ fun r => ?_
  have he : ∀ t, (mkA n ρ).tmps.getD t undef = ev n ρ (.tmp t) := fun t => by rw [← mkA_eval]; rfl
  cases r with
  | tmp t => simp only [he]; rfl
  | cell a t => simp only [he]; rfl

/-- What a function's end must give. -/
def retX (P : Program) (rs : List ResultVar) (n : Nat) (w0 : World) (K : List Nat) (Post : Value → HL → Prop) : Exit → Fr → HL → Prop
  | .normal, ρ, L => ∃ vs, Res P n ρ w0 K L rs vs ∧ Post (resV vs) L
  | .ret, ρ, L => ∃ vs, Res P n ρ w0 K L rs vs ∧ Post (resV vs) L
  | _, _, _ => False

theorem XQ.retE {rs : List ResultVar} {vs : List Value} {Post : Value → HL → Prop} (hr : Res P n ρ w0 K L rs vs) (hp : Post (resV vs) L) : XQ (retX P rs n w0 K Post) .ret ρ L := ⟨⟨vs, hr, hp⟩⟩
theorem XQ.norE {rs : List ResultVar} {vs : List Value} {Post : Value → HL → Prop} (hr : Res P n ρ w0 K L rs vs) (hp : Post (resV vs) L) : XQ (retX P rs n w0 K Post) .normal ρ L := ⟨⟨vs, hr, hp⟩⟩
theorem FC.intro {f : Nat} {fn : Func} {c : Code} {as : List Value} {L0 : HL} {A : HV → Prop} {Post : Value → HL → Prop}
    (hf : P.funcs[f]? = some fn) (hb : fn.body = some c) (hr : isFn P f = true) (n : Nat) (rs : List ResultVar) (hnt : fn.ntmps = n) (hrs : fn.results = rs.toArray) (hn' : Nat.ble as.length n = true)
    (h : ∀ w0, A (oldv w0 (keys L0)) → XC P n w0 (keys L0) c (retX P rs n w0 (keys L0) Post) (argF as) L0) : FC P f as L0 A Post := by
  subst hnt
  refine ⟨hr, fun w h1 h2 h3 => ?_⟩
  have hn := Nat.le_of_ble_eq_true hn'
  have hk : A (oldv w (keys L0)) := h3 _ fun b o ho => ho
  have ht : as.toArray ++ Array.replicate (fn.ntmps - as.toArray.size) undef = (mkA fn.ntmps (argF as)).tmps := by
    refine Array.ext (by simp [mkA]; omega) fun i h1 h2 => ?_
    simp only [mkA, Array.getElem_ofFn, argF_get]
    rw [Array.getElem_append]
    split
    · rename_i hi
      simp at hi
      simp [hi]
    · rename_i hi
      simp at hi
      simp [hi]
  refine calls_of_wp hf hb ?_
  rw [ht]
  refine Go.wp_mono ((h w hk).out w (Own.refl h1 h2)) ?_
  rintro e a w' ⟨h0, ρ, L, rfl, ow, hq⟩
  cases e with
  | normal => obtain ⟨vs, hres, hp⟩ := hq; exact ⟨rfl, _, results_run (by rw [hrs]; exact hres) ow, _, _, rfl, ow, hp⟩
  | ret => obtain ⟨vs, hres, hp⟩ := hq; exact ⟨rfl, _, results_run (by rw [hrs]; exact hres) ow, _, _, rfl, ow, hp⟩
  | outgrown => exact absurd rfl h0
  | exit id => exact hq.elim
  | goto l => exact hq.elim
  | panic c => exact hq.elim

end
end Go.SX
