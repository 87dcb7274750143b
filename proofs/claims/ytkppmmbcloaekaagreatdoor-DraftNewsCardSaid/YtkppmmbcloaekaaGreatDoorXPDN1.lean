/- Symbolic execution with the world kept out of sight: a frame is a function, the memory that a call holds is a list of blocks. -/
import Derived.Tactics
import Derived.Below
import Derived.Deep.Quiet
import Derived.StillTail
import Derived.KernelRfl
import Derived.Laws.Entries
import Derived.Laws.Strings
import Derived.Deep.LoopGhost
import Derived.SizedLaws
import Derived.ChangeArms
import Derived.OpenShut
import Derived.WideShapes
import Derived.OrdersHeld
import Derived.Deep.RegionHeld3
import Derived.Laws.AppendOwn
import Derived.Laws.MakeOwn
import Derived.Laws.BytesString
import Derived.Laws.BytesArg
import Derived.Laws.Concat
import Derived.Scope
import Derived.Laws.Cover3
import Derived.Laws.StructEq
import Derived.Orders
import Derived.ChangeKeysEq
import Derived.WideKeyRuns
import Derived.Laws.Pointers
import Derived.Laws.Small
import Derived.Recover
set_option linter.unusedSimpArgs false
set_option linter.unusedVariables false
namespace Go.SX
open Go Go.RowKit

/-! ### Memory: blocks that are held, views -/
abbrev HL := List (Nat × Obj)
abbrev HV := Nat → Option Obj
def keys (L : HL) : List Nat := L.map (·.1)

/-- Since w0 nothing below its size has turned but the blocks of K; the blocks of L are as L says. -/
structure Own (w0 : World) (K : List Nat) (L : HL) (w : World) : Prop where
  size : w0.heap.size ≤ w.heap.size
  os : w.os = w0.os
  tape : w.tape = w0.tape
  output : w.output = w0.output
  has : ∀ x ∈ L, w.heap[x.1]? = some x.2
  nodup : (keys L).Nodup
  old : ∀ b, b < w0.heap.size → b ∉ K → w.heap[b]? = w0.heap[b]?
  mine : ∀ x ∈ L, x.1 < w0.heap.size → x.1 ∈ K

/-- What every state says that holds L: whatever view agrees with L and with what is old. -/
def Ext (w0 : World) (K : List Nat) (L : HL) (h : HV) : Prop :=
  (∀ x ∈ L, h x.1 = some x.2) ∧ ∀ b, b < w0.heap.size → b ∉ K → h b = w0.heap[b]?
def Known (w0 : World) (K : List Nat) (L : HL) (A : HV → Prop) : Prop := ∀ h, Ext w0 K L h → A h
def hv (w : World) : HV := fun b => w.heap[b]?

theorem Own.ext {w0 K L w} (h : Own w0 K L w) : Ext w0 K L (hv w) := ⟨h.has, h.old⟩
theorem Known.at {w0 K L A w} (h : Known w0 K L A) (o : Own w0 K L w) : A (hv w) := h _ o.ext

theorem Ext.sub {w0 K L L' h} (s : ∀ x ∈ L', x ∈ L) (e : Ext w0 K L h) : Ext w0 K L' h := ⟨fun x hx => e.1 x (s x hx), e.2⟩
theorem Known.sub {w0 K L L' A} (k : Known w0 K L' A) (s : ∀ x ∈ L', x ∈ L) : Known w0 K L A := fun h e => k h (e.sub s)
theorem Known.and {w0 K L A B} (a : Known w0 K L A) (b : Known w0 K L B) : Known w0 K L (fun h => A h ∧ B h) := fun h e => ⟨a h e, b h e⟩
theorem Known.imp {w0 K L} {A B : HV → Prop} (a : Known w0 K L A) (f : ∀ h, A h → B h) : Known w0 K L B := fun h e => f h (a h e)
/-- What is known where nothing is held holds of the world at hand. -/
theorem Known.now {w0 : World} {K : List Nat} {A : HV → Prop} (k : Known w0 K [] A) : A (hv w0) := k _ ⟨by simp, fun _ _ _ => rfl⟩
theorem Known.true {w0 K L} : Known w0 K L (fun _ => True) := fun _ _ => trivial

theorem Own.refl {w0 : World} {L : HL} (hh : ∀ x ∈ L, w0.heap[x.1]? = some x.2) (hn : (keys L).Nodup) : Own w0 (keys L) L w0 :=
  ⟨Nat.le_refl _, rfl, rfl, rfl, hh, hn, fun _ _ _ => rfl, fun x hx _ => List.mem_map.2 ⟨x, hx, rfl⟩⟩

theorem Own.sub {w0 K L L' w} (o : Own w0 K L w) (s : ∀ x ∈ L', x ∈ L) (n : (keys L').Nodup) : Own w0 K L' w :=
  ⟨o.size, o.os, o.tape, o.output, fun x hx => o.has x (s x hx), n, o.old, fun x hx => o.mine x (s x hx)⟩

theorem Own.perm {w0 K L L' w} (o : Own w0 K L w) (p : L.Perm L') : Own w0 K L' w :=
  o.sub (fun x hx => p.mem_iff.2 hx) ((p.map _).nodup_iff.1 o.nodup)

theorem Own.drew {w0 K L w} (o : Own w0 K L w) : Own w0 K L { w with drawn := w.drawn + 1 } :=
  ⟨o.size, o.os, o.tape, o.output, o.has, o.nodup, o.old, o.mine⟩

theorem Own.lt {w0 K L w} (o : Own w0 K L w) {x} (hx : x ∈ L) : x.1 < w.heap.size := by
  have := o.has x hx
  exact (Array.getElem?_eq_some_iff.1 this).1

/-- A new block. -/
theorem Own.new {w0 : World} {K : List Nat} {L : HL} {w : World} (o : Own w0 K L w) (ob : Obj) : Own w0 K ((w.heap.size, ob) :: L) (w.alloc ob) := by
  refine ⟨?_, o.os, o.tape, o.output, ?_, ?_, ?_, ?_⟩
  · have := o.size; show w0.heap.size ≤ (w.heap.push ob).size; simp; omega
  · intro x hx
    show (w.heap.push ob)[x.1]? = _
    rcases List.mem_cons.1 hx with rfl | hx
    · simp
    · have := o.lt hx
      rw [Array.getElem?_push, if_neg (by omega)]; exact o.has x hx
  · refine List.nodup_cons.2 ⟨fun hm => ?_, o.nodup⟩
    obtain ⟨x, hx, he⟩ := List.mem_map.1 hm
    have := o.lt hx; rw [he] at this; exact Nat.lt_irrefl _ this
  · intro b hb hk
    have := o.size
    show (w.heap.push ob)[b]? = _
    rw [Array.getElem?_push, if_neg (by omega)]; exact o.old b hb hk
  · intro x hx hlt
    rcases List.mem_cons.1 hx with rfl | hx
    · have := o.size; simp at hlt; omega
    · exact o.mine x hx hlt

/-- The block of one entry turns. -/
theorem Own.set {w0 K L w} (o : Own w0 K L w) {i b ob} (hi : L[i]? = some (b, ob)) (ob' : Obj) {w' : World}
    (hw : w'.heap = w.heap.setIfInBounds b ob') (h1 : w'.os = w.os) (h2 : w'.tape = w.tape) (h3 : w'.output = w.output) : Own w0 K (L.set i (b, ob')) w' := by
  have hm : (b, ob) ∈ L := List.mem_of_getElem? hi
  have hlt := o.lt hm
  have hk : keys (L.set i (b, ob')) = keys L := by
    unfold keys; rw [List.map_set]
    refine List.ext_getElem? fun j => ?_
    rw [List.getElem?_set]
    split
    · rename_i e; subst e
      have hl := (List.getElem?_eq_some_iff.1 hi).1
      simp [hl]
      have := List.getElem?_eq_some_iff.1 hi
      obtain ⟨_, e⟩ := this
      rw [e]
    · rfl
  have hnd : (keys (L.set i (b, ob'))).Nodup := by rw [hk]; exact o.nodup
  refine ⟨?_, h1.trans o.os, h2.trans o.tape, h3.trans o.output, ?_, hnd, ?_, ?_⟩
  · rw [hw]; simp; exact o.size
  · intro x hx
    rw [hw]
    by_cases hb : x.1 = b
    · have : x = (b, ob') := by
        obtain ⟨j, hj⟩ := List.mem_iff_getElem?.1 hx
        have hjk : (keys (L.set i (b, ob')))[j]? = some b := by unfold keys; rw [List.getElem?_map, hj]; simp [hb]
        have hil : i < L.length := (List.getElem?_eq_some_iff.1 hi).1
        have hik : (keys (L.set i (b, ob')))[i]? = some b := by rw [hk]; unfold keys; rw [List.getElem?_map, hi]; rfl
        have hji : j = i := by
          have hjl := (List.getElem?_eq_some_iff.1 hjk).1
          exact List.getElem?_inj hjl hnd |>.1 (hjk.trans hik.symm)
        subst hji
        rw [List.getElem?_set_self hil] at hj
        exact (Option.some.inj hj).symm
      subst this
      simp [hlt]
    · have hx' : x ∈ L := by
        rcases List.mem_or_eq_of_mem_set hx with h | h
        · exact h
        · subst h; exact absurd rfl hb
      rw [Array.getElem?_setIfInBounds_ne (fun e => hb e.symm)]; exact o.has x hx'
  · intro c hc hck
    rw [hw, Array.getElem?_setIfInBounds_ne]
    · exact o.old c hc hck
    · intro e; subst e
      exact hck (o.mine _ hm hc)
  · intro x hx hxl
    rcases List.mem_or_eq_of_mem_set hx with h | h
    · exact o.mine x h hxl
    · subst h; exact o.mine (b, ob) hm hxl

/-- Behind a call that was handed the blocks L0. -/
theorem Own.call {w0 K L0 R w L' w'} (o : Own w0 K (L0 ++ R) w) (c : Own w (keys L0) L' w') : Own w0 K (L' ++ R) w' := by
  have hnd := o.nodup
  unfold keys at hnd; rw [List.map_append, List.nodup_append] at hnd
  obtain ⟨_, n2, n3⟩ := hnd
  have hR : ∀ x ∈ R, x.1 < w.heap.size ∧ x.1 ∉ keys L0 := fun x hx =>
    ⟨o.lt (List.mem_append_right _ hx), fun hm => n3 _ hm _ (List.mem_map.2 ⟨x, hx, rfl⟩) rfl⟩
  refine ⟨Nat.le_trans o.size c.size, c.os.trans o.os, c.tape.trans o.tape, c.output.trans o.output, ?_, ?_, ?_, ?_⟩
  · intro x hx
    rcases List.mem_append.1 hx with h | h
    · exact c.has x h
    · rw [c.old _ (hR x h).1 (hR x h).2]; exact o.has x (List.mem_append_right _ h)
  · unfold keys; rw [List.map_append, List.nodup_append]
    refine ⟨c.nodup, n2, ?_⟩
    intro a ha b hb e
    subst e
    obtain ⟨x, hx, rfl⟩ := List.mem_map.1 ha
    obtain ⟨y, hy, he⟩ := List.mem_map.1 hb
    have h1 := hR y hy
    rw [he] at h1
    exact h1.2 (c.mine x hx h1.1)
  · intro b hb hk
    have h1 : b ∉ keys L0 := fun hm => by
      obtain ⟨x, hx, rfl⟩ := List.mem_map.1 hm
      exact hk (o.mine x (List.mem_append_left _ hx) hb)
    rw [c.old b (Nat.lt_of_lt_of_le hb o.size) h1]; exact o.old b hb hk
  · intro x hx hlt
    rcases List.mem_append.1 hx with h | h
    · have := c.mine x h (Nat.lt_of_lt_of_le hlt o.size)
      obtain ⟨y, hy, he⟩ := List.mem_map.1 this
      rw [← he] at hlt ⊢
      exact o.mine y (List.mem_append_left _ hy) hlt
    · exact o.mine x (List.mem_append_right _ h) hlt

theorem Own.below {w0 L w} (o : Own w0 [] L w) : Below w0.heap.size w0 w :=
  ⟨o.os, o.tape, o.output, o.size, fun k hk => o.old k hk (by simp)⟩

/-! ### Frames -/
abbrev Fr := Nat → Value
def upd (ρ : Fr) (d : Nat) (v : Value) : Fr := fun t => match Nat.beq t d with | true => v | false => ρ t
/-- A frame's size, and what it has deferred. -/
structure FrN where
  sz : Nat
  ds : List Deferred
def mkA (n : FrN) (ρ : Fr) : Act := { tmps := Array.ofFn (n := n.sz) (fun i => ρ i.val), defers := n.ds }
def ev (n : FrN) (ρ : Fr) : Operand → Value
  | .tmp t => match Nat.blt t n.sz with | true => ρ t | false => undef
  | .const v => v
  | .global g => .pointer (some ⟨g, 0, none⟩)
  | .func f => .func (.func f) #[] #[]
def updO (ρ : Fr) (d : Option Nat) (v : Value) : Fr := match d with | some d => upd ρ d v | none => ρ

theorem blt_no {t n : Nat} (h : ¬ t < n) : Nat.blt t n = false := by
  rcases hb : Nat.blt t n with _ | _
  · rfl
  · rw [Nat.blt_eq] at hb; exact absurd hb h

theorem mkA_eval (n : FrN) (ρ : Fr) : (mkA n ρ).eval = ev n ρ := by
  funext x
  cases x with
  | tmp t =>
    simp only [Act.eval, mkA, ev]
    by_cases h : t < n.sz
    · simp [h, Array.getD]
      rw [show Nat.blt t n.sz = true from by simpa using h]
    · simp [h, Array.getD]
      rw [show Nat.blt t n.sz = false from blt_no h]
  | _ => rfl

theorem upd_eq (ρ : Fr) (d : Nat) (v : Value) (t : Nat) : upd ρ d v t = if t = d then v else ρ t := by
  unfold upd
  by_cases h : t = d
  · subst h; simp
  · rw [if_neg h]; rcases hb : Nat.beq t d with _ | _
    · rfl
    · exact absurd (Nat.eq_of_beq_eq_true hb) h

theorem mkA_put (n : FrN) (ρ : Fr) (d : Option Nat) (v : Value) : (mkA n ρ).put d v = mkA n (updO ρ d v) := by
  cases d with
  | none => rfl
  | some d =>
    simp only [Act.put, mkA, updO]
    congr 1
    refine Array.ext (by simp) fun i h1 h2 => ?_
    by_cases h : d = i
    · subst h; simp [upd_eq]
    · rw [Array.getElem_setIfInBounds_ne (h := h) (hj := by simpa using h1)]
      simp only [Array.getElem_ofFn, upd_eq]
      rw [if_neg (fun e => h e.symm)]

theorem upd_same (ρ : Fr) (d : Nat) (v : Value) (h : ρ d = v) : upd ρ d v = ρ := by
  funext t; rw [upd_eq]; split
  · rename_i e; rw [e, h]
  · rfl

end Go.SX
/- Operations that only compute: what they come to, as one function; types by a table. -/
namespace Go.SX
open Go Go.RowKit

/-! ### Types -/
inductive TK where
  | bool | int (k : IntKind) | string | ptr (e : Nat) | slice (e : Nat) | array (n e : Nat) | map (k e : Nat)
  | struct (fs : List (Nat × Nat × Nat)) | func | iface | tuple | other
structure TR where
  k : TK
  sz : Nat
  by_ : Nat
  z : Value
def aggOf : TypeDesc → Nat | .struct _ => 2 | .array _ _ => 2 | _ => 1
/-- 2: a struct or an array; 1: one cell; 0: no type. -/
def isAggT (P : Program) (t : Nat) : Nat := match P.underlying t with | some d => aggOf d | none => 0
def sizeT (P : Program) (t : Nat) : Nat := match P.info? t with | some i => i.size | none => 0
def tkOf (P : Program) : TypeDesc → TK
  | .bool => .bool | .int k => .int k | .string => .string | .pointer e => .ptr e | .slice e => .slice e | .array n e => .array n e
  | .map k e => .map k e | .struct fs => .struct (fs.toList.map fun f => (f.offset, sizeT P f.type, isAggT P f.type))
  | .func _ _ _ => .func | .interface _ => .iface | .tuple _ => .tuple | _ => .other
def look (P : Program) (t : Nat) : Option TR :=
  match P.underlying t, P.info? t with
  | some d, some i => match i.zero with
    | some z => some ⟨tkOf P d, i.size, i.bytes, z⟩
    | none => none
  | _, _ => none
def getT : List (Nat × TR) → Nat → Option TR
  | [], _ => none
  | (a, r) :: l, t => match Nat.beq a t with | true => some r | false => getT l t
structure Env (P : Program) where
  tab : List (Nat × TR)
  ok : tab.map (fun x => look P x.1) = tab.map (fun x => some x.2)
def Env.get {P : Program} (Γ : Env P) (t : Nat) : Option TR := getT Γ.tab t
theorem getT_look {P : Program} : ∀ (l : List (Nat × TR)), l.map (fun x => look P x.1) = l.map (fun x => some x.2) → ∀ t r, getT l t = some r → look P t = some r
  | [], _, _, _, h => by simp [getT] at h
  | (a, q) :: l, hl, t, r, h => by
    simp only [List.map_cons, List.cons.injEq] at hl
    unfold getT at h
    split at h
    · rename_i e
      have := Nat.eq_of_beq_eq_true e
      subst this
      rw [hl.1]; exact h
    · exact getT_look l hl.2 t r h
theorem Env.look {P : Program} (Γ : Env P) {t : Nat} {r : TR} (h : Γ.get t = some r) : SX.look P t = some r := getT_look _ Γ.ok t r h

structure TypeIs (P : Program) (t : Nat) (r : TR) : Prop where
  d : ∃ d, P.underlying t = some d ∧ tkOf P d = r.k
  i : ∃ i, P.info? t = some i ∧ i.size = r.sz ∧ i.bytes = r.by_ ∧ i.zero = some r.z
theorem Env.is {P : Program} (Γ : Env P) {t : Nat} {r : TR} (h : Γ.get t = some r) : TypeIs P t r := by
  have := Γ.look h
  unfold SX.look at this
  split at this
  · rename_i d i hd hi
    split at this
    · rename_i z hz
      simp only [Option.some.injEq] at this
      subst this
      exact ⟨⟨d, hd, rfl⟩, ⟨i, hi, rfl, rfl, hz⟩⟩
    · cases this
  · cases this

theorem tk_slice {P : Program} {t : Nat} {r : TR} {e : Nat} (h : TypeIs P t r) (hk : r.k = .slice e) : P.underlying t = some (.slice e) := by
  obtain ⟨d, hd, he⟩ := h.d; rw [hk] at he; cases d <;> simp [tkOf] at he; subst he; exact hd
theorem tk_int {P : Program} {t : Nat} {r : TR} {k : IntKind} (h : TypeIs P t r) (hk : r.k = .int k) : P.underlying t = some (.int k) := by
  obtain ⟨d, hd, he⟩ := h.d; rw [hk] at he; cases d <;> simp [tkOf] at he; subst he; exact hd
theorem tk_string {P : Program} {t : Nat} {r : TR} (h : TypeIs P t r) (hk : r.k = .string) : P.underlying t = some .string := by
  obtain ⟨d, hd, he⟩ := h.d; rw [hk] at he; cases d <;> simp [tkOf] at he; exact hd
theorem tk_bool {P : Program} {t : Nat} {r : TR} (h : TypeIs P t r) (hk : r.k = .bool) : P.underlying t = some .bool := by
  obtain ⟨d, hd, he⟩ := h.d; rw [hk] at he; cases d <;> simp [tkOf] at he; exact hd
theorem tk_ptr {P : Program} {t : Nat} {r : TR} {e : Nat} (h : TypeIs P t r) (hk : r.k = .ptr e) : P.underlying t = some (.pointer e) := by
  obtain ⟨d, hd, he⟩ := h.d; rw [hk] at he; cases d <;> simp [tkOf] at he; subst he; exact hd
theorem tk_array {P : Program} {t : Nat} {r : TR} {n e : Nat} (h : TypeIs P t r) (hk : r.k = .array n e) : P.underlying t = some (.array n e) := by
  obtain ⟨d, hd, he⟩ := h.d; rw [hk] at he; cases d <;> simp [tkOf] at he; obtain ⟨rfl, rfl⟩ := he; exact hd
theorem tk_map {P : Program} {t : Nat} {r : TR} {n e : Nat} (h : TypeIs P t r) (hk : r.k = .map n e) : P.underlying t = some (.map n e) := by
  obtain ⟨d, hd, he⟩ := h.d; rw [hk] at he; cases d <;> simp [tkOf] at he; obtain ⟨rfl, rfl⟩ := he; exact hd
theorem tk_struct {P : Program} {t : Nat} {r : TR} {l : List (Nat × Nat × Nat)} (h : TypeIs P t r) (hk : r.k = .struct l) :
    ∃ fs, P.underlying t = some (.struct fs) ∧ fs.toList.map (fun f => (f.offset, sizeT P f.type, isAggT P f.type)) = l := by
  obtain ⟨d, hd, he⟩ := h.d; rw [hk] at he; cases d <;> simp [tkOf] at he; exact ⟨_, hd, by simpa using he⟩
theorem tk_agg {P : Program} {t : Nat} {r : TR} (h : TypeIs P t r) : isAggT P t = (match r.k with | .struct _ => 2 | .array _ _ => 2 | _ => 1) := by
  obtain ⟨d, hd, he⟩ := h.d
  unfold isAggT; rw [hd, ← he]; cases d <;> rfl

/-! ### Values -/
def kEq (a b : IntKind) : Bool := Nat.beq a.ctorIdx b.ctorIdx
theorem kEq_eq {a b : IntKind} (h : kEq a b = true) : a = b := by
  cases a <;> cases b <;> first | rfl | (simp [kEq, IntKind.ctorIdx] at h)

def bitsV (op : BinOp) (k : IntKind) (x y : Int) : Int :=
  match op with
  | .and => k.wrap ((BitVec.ofInt k.bits x) &&& (BitVec.ofInt k.bits y)).toNat
  | .or => k.wrap ((BitVec.ofInt k.bits x) ||| (BitVec.ofInt k.bits y)).toNat
  | .xor => k.wrap ((BitVec.ofInt k.bits x) ^^^ (BitVec.ofInt k.bits y)).toNat
  | _ => k.wrap ((BitVec.ofInt k.bits x) &&& ~~~(BitVec.ofInt k.bits y)).toNat

/-- A proposition as a Bool that no evaluation opens. -/
noncomputable def pd (p : Prop) : Bool := @decide p (Classical.propDecidable p)
theorem pd_eq (p : Prop) [h : Decidable p] : pd p = decide p := by
  unfold pd; by_cases hp : p <;> simp [hp]
theorem pd_true {p : Prop} : pd p = true ↔ p := by
  unfold pd; exact @decide_eq_true_iff p (Classical.propDecidable p)
theorem pd_false {p : Prop} : pd p = false ↔ ¬ p := by
  unfold pd; exact @decide_eq_false_iff_not p (Classical.propDecidable p)
/-- A number that is seen to be above 0, or at least 0. -/
def seenPos : Int → Bool
  | .ofNat (_ + 1) => true
  | _ => false
def seenNat : Int → Bool
  | .ofNat _ => true
  | _ => false
theorem seenPos_spec {i : Int} (h : seenPos i = true) : ¬ i = 0 ∧ 0 < i := by
  unfold seenPos at h; split at h
  · rename_i m; exact ⟨by simp; omega, by simp⟩
  · cases h
theorem seenNat_spec {i : Int} (h : seenNat i = true) : ¬ i < 0 := by
  unfold seenNat at h; split at h
  · rename_i m; simp
  · cases h
theorem toList_inj {s t : ByteArray} (h : s.toList = t.toList) : s = t := by
  have hs : ∀ u : ByteArray, u.toList = u.data.toList := fun u => ByteArray.toList_eq u
  rw [hs, hs] at h
  cases s; cases t; simp at h; rw [h]

/-- A binary operation's value, where it is one without a question. -/
noncomputable def pbin (op : BinOp) (a b : Value) : Option Value :=
  match a, b with
  | .int k x, .int k' y =>
    match op with
    | .shl => match seenNat y with | false => none | true => some (.int k (k.wrap (x * 2 ^ (min y.toNat k.bits))))
    | .shr => match seenNat y with | false => none | true => some (.int k (x.fdiv (2 ^ (min y.toNat k.bits))))
    | op => match kEq k k' with
      | false => none
      | true =>
        match op with
        | .add => some (.int k (k.wrap (x + y)))
        | .sub => some (.int k (k.wrap (x - y)))
        | .mul => some (.int k (k.wrap (x * y)))
        | .quo => match seenPos y with | false => none | true => some (.int k (k.wrap (x.tdiv y)))
        | .rem => match seenPos y with | false => none | true => some (.int k (x.tmod y))
        | .and => some (.int k (bitsV .and k x y))
        | .or => some (.int k (bitsV .or k x y))
        | .xor => some (.int k (bitsV .xor k x y))
        | .andNot => some (.int k (bitsV .andNot k x y))
        | .eql => some (.bool (pd (x = y)))
        | .neq => some (.bool (!pd (x = y)))
        | .lss => some (.bool (pd (x < y)))
        | .leq => some (.bool (pd (x ≤ y)))
        | .gtr => some (.bool (pd (y < x)))
        | .geq => some (.bool (pd (y ≤ x)))
        | _ => none
  | .string s, .string t =>
    match op with
    | .eql => some (.bool (pd (s = t)))
    | .neq => some (.bool (!pd (s = t)))
    | _ => none
  | _, _ => none

theorem pbin_run {op : BinOp} {a b v : Value} (h : pbin op a b = some v) (P : Program) (t : Nat) (x y : Operand) (w : World) :
    (do eqGuard op t x y a b; binOp op t a b : Sem Value).run P w = .ok v w := by
  unfold pbin at h
  split at h
  · rename_i k x' k' y'
    rw [eqGuard_at_int]
    show (binOp op t _ _).run P w = _
    cases op
    case shl =>
      simp only at h
      split at h
      · cases h
      · rename_i hy
        have hy' := seenNat_spec hy
        simp only [Option.some.injEq] at h; subst h
        simp [binOp, Op.shift, pure, hy']
    case shr =>
      simp only at h
      split at h
      · cases h
      · rename_i hy
        have hy' := seenNat_spec hy
        simp only [Option.some.injEq] at h; subst h
        simp [binOp, Op.shift, pure, hy']
    all_goals
      simp only at h
      split at h
      · cases h
      · rename_i hk
        have := kEq_eq hk
        subst this
        first
        | (split at h
           · cases h
           · rename_i hy
             simp only [Option.some.injEq] at h; subst h
             have hy' := (seenPos_spec hy).1
             simp [binOp, Op.intDiv, hy', pure])
        | (simp only [Option.some.injEq] at h; subst h
           simp [binOp, Op.intArith, Op.intBits, bitsV, pure]; done)
        | (simp only [Option.some.injEq] at h; subst h
           simp [binOp, Op.intCmp, pure, pd_eq]; done)
        | (simp only [Option.some.injEq] at h; subst h
           simp [binOp, Op.intCmp, pure, pd_eq]; rfl)
        | (cases h; done)
  · rename_i s t'
    have e : (s.toList == t'.toList) = pd (s = t') := by
      rw [Bool.eq_iff_iff, pd_true, beq_iff_eq]; exact ⟨toList_inj, fun h => by rw [h]⟩
    cases op <;> simp at h <;> subst h <;> simp [binOp, Op.stringOp, eqGuard, bind, Sem.bind, pure, Sem.run, e]
  · cases h

def pnot (op : UnOp) (a : Value) : Option Value :=
  match op, a with
  | .neg, .int k n => some (.int k (k.wrap (0 - n)))
  | .not, .bool b => some (.bool (!b))
  | _, _ => none
theorem pnot_run {op : UnOp} {a v : Value} (h : pnot op a = some v) (P : Program) (w : World) : (Op.unary op a).run P w = .ok v w := by
  unfold pnot at h
  split at h <;> first | (simp only [Option.some.injEq] at h; subst h; rfl) | cases h

def pmm (mx : Bool) (k : IntKind) : Int → List Value → Option Int
  | a, [] => some a
  | a, .int _ b :: l => match mx with
    | true => pmm mx k (if b > a then b else a) l
    | false => pmm mx k (if b < a then b else a) l
  | _, _ => none
theorem pmm_max {k : IntKind} (P : Program) (w : World) : ∀ (l : List Value) (a r : Int), pmm true k a l = some r → (l.foldlM Builtin.max2 (.int k a)).run P w = .ok (.int k r) w
  | [], a, r, h => by simp [pmm] at h; subst h; rfl
  | v :: l, a, r, h => by
    cases v <;> simp [pmm] at h
    rw [List.foldlM_cons]
    exact pmm_max P w l _ r (by simpa using h)
theorem pmm_min {k : IntKind} (P : Program) (w : World) : ∀ (l : List Value) (a r : Int), pmm false k a l = some r → (l.foldlM Builtin.min2 (.int k a)).run P w = .ok (.int k r) w
  | [], a, r, h => by simp [pmm] at h; subst h; rfl
  | v :: l, a, r, h => by
    cases v <;> simp [pmm] at h
    rw [List.foldlM_cons]
    exact pmm_min P w l _ r (by simpa using h)

def args (n : FrN) (ρ : Fr) (xs : Array Operand) : List Value := xs.toList.map (ev n ρ)
theorem map_args (n : FrN) (ρ : Fr) (xs : Array Operand) : xs.map (ev n ρ) = (args n ρ xs).toArray := by
  unfold args; rw [← Array.toList_map]
def lenV : Value → Option Int
  | .slice _ n _ => some n
  | .string s => some s.size
  | _ => none

def pcall {P : Program} (Γ : Env P) (b : Builtin) (ts : Array Nat) (xs : List Value) : Option Value :=
  match b, ts.toList, xs with
  | .len, t :: _, x :: _ => match Γ.get t with
    | some r => match r.k, x with
      | .string, .string s => some (.int .i64 s.size)
      | .slice _, .slice _ n _ => some (.int .i64 n)
      | .array n _, _ => some (.int .i64 n)
      | _, _ => none
    | none => none
  | .cap, t :: _, x :: _ => match Γ.get t with
    | some r => match r.k, x with
      | .slice _, .slice _ _ n => some (.int .i64 n)
      | _, _ => none
    | none => none
  | .max, _, .int k a :: l => match pmm true k a l with | some r => some (.int k r) | none => none
  | .min, _, .int k a :: l => match pmm false k a l with | some r => some (.int k r) | none => none
  | _, _, _ => none

theorem run_bind {α β : Type} {P : Program} (s : Sem α) (f : α → Sem β) : ∀ w, (s.bind f).run P w = match s.run P w with | .ok a w' => (f a).run P w' | .halt h w' => .halt h w' := by
  induction s with
  | pure a => intro w; rfl
  | load m a k ih =>
    intro w; simp only [Sem.bind, Sem.run]; split
    · exact ih _ _
    · split
      · exact ih _ _
      · rfl
  | store m a v k ih =>
    intro w
    cases v <;> simp only [Sem.bind, Sem.run] <;> (split <;> (first | exact ih _ | (split <;> first | rfl | exact ih _)))
  | new o k ih => intro w; exact ih _ _
  | shape r k ih => intro w; exact ih _ _
  | freeze a n k ih => intro w; exact ih _
  | frozen a k ih => intro w; exact ih _ _
  | getObj r k ih => intro w; simp only [Sem.bind, Sem.run]; split <;> first | rfl | exact ih _ _
  | setObj r o k ih => intro w; simp only [Sem.bind, Sem.run]; split <;> first | rfl | exact ih _
  | choose q k ih => intro w; simp only [Sem.bind, Sem.run]; split <;> exact ih _ _
  | sys c k ih => intro w; exact ih _ _
  | program k ih => intro w; exact ih _ _
  | mark m k ih => intro w; exact ih _
  | halt h => intro w; rfl
theorem run_value {P : Program} {s : Sem Value} {v : Value} {w w' : World} (h : s.run P w = .ok v w') : (do pure (Next.value (← s)) : Sem Next).run P w = .ok (.value v) w' := by
  show (s.bind _).run P w = _
  rw [run_bind, h]; rfl
theorem pcall_run {P : Program} {Γ : Env P} {b : Builtin} {ts : Array Nat} {xs : List Value} {v : Value} (h : pcall Γ b ts xs = some v) (ty : Nat) (cs : Array Bool) (w : World) :
    (builtin b ts ty cs xs.toArray).run P w = .ok (.value v) w := by
  unfold pcall at h
  split at h
  · rename_i t tl x l hts
    split at h
    · rename_i r hr
      have ht := Γ.is hr
      have h0 : ts[0]? = some t := by rw [← Array.getElem?_toList, hts]; rfl
      split at h <;> simp only [Option.some.injEq, reduceCtorEq] at h <;> subst h
      · rename_i hk
        simp [builtin, Builtin.len_, h0, underlying, program, bind, Sem.bind, pure, Sem.run, tk_string ht hk, goInt]
      · rename_i hk
        simp [builtin, Builtin.len_, h0, underlying, program, bind, Sem.bind, pure, Sem.run, tk_slice ht hk, goInt]
      · rename_i hk
        simp [builtin, Builtin.len_, h0, underlying, program, bind, Sem.bind, pure, Sem.run, tk_array ht hk, goInt]
    · cases h
  · rename_i t tl x l hts
    split at h
    · rename_i r hr
      have ht := Γ.is hr
      have h0 : ts[0]? = some t := by rw [← Array.getElem?_toList, hts]; rfl
      split at h <;> simp only [Option.some.injEq, reduceCtorEq] at h <;> subst h
      rename_i hk
      simp [builtin, Builtin.cap_, h0, underlying, program, bind, Sem.bind, pure, Sem.run, tk_slice ht hk, goInt]
    · cases h
  · rename_i k a l
    split at h <;> simp only [Option.some.injEq, reduceCtorEq] at h
    subst h; rename_i r hr
    have := pmm_max P w l a r hr
    exact run_value this
  · rename_i k a l
    split at h <;> simp only [Option.some.injEq, reduceCtorEq] at h
    subst h; rename_i r hr
    have := pmm_min P w l a r hr
    exact run_value this
  · cases h
end Go.SX
/- The judgements: a region's operations (XL), code (XC), a function's contract (Fn); the rules for what only computes, and for control. -/
namespace Go.SX
open Go Go.RowKit

/-! ### What an operation that only computes comes to -/
def force : Value → Option Value
  | .bool b => some (.bool b)
  | .int k n => some (.int k n)
  | .string s => some (.string s)
  | .pointer (some ⟨b, o, s⟩) => some (.pointer (some ⟨b, o, s⟩))
  | .pointer none => some (.pointer none)
  | .slice a l c => some (.slice a l c)
  | .map r => some (.map r)
  | .func f a b => some (.func f a b)
  | .nilFunc => some .nilFunc
  | .iface t v => some (.iface t v)
  | .nilIface => some .nilIface
  | .agg cs => some (.agg cs)
  | .tuple vs => some (.tuple vs)
  | _ => none
theorem force_eq {a v : Value} (h : force a = some v) : a = v := by
  unfold force at h; split at h <;> first | (cases h; rfl) | cases h

def offs (b o n : Nat) : Value := .pointer (some ⟨b, o + n, none⟩)
theorem add_off (b o n : Nat) : (Addr.mk b o none).add n = ⟨b, o + n, none⟩ := by
  unfold Addr.add; split
  · rename_i h; subst h; rfl
  · rfl

def pfieldAddr {P : Program} (Γ : Env P) (s f : Nat) (x : Value) : Option Value :=
  match Γ.get s, x with
  | some r, .pointer (some ⟨b, o, none⟩) => match r.k with
    | .struct fs => match fs[f]? with
      | some (off, sz, _) => match Nat.beq sz 0 with | true => none | false => some (.pointer (some ⟨b, o + off, none⟩))
      | none => none
    | _ => none
  | _, _ => none
def pfield {P : Program} (Γ : Env P) (s f : Nat) (x : Value) : Option Value :=
  match Γ.get s, x with
  | some r, .agg ⟨cs⟩ => match r.k with
    | .struct fs => match fs[f]? with
      | some (off, sz, ag) => match ag with
        | 2 => some (.agg ⟨(cs.drop off).take sz⟩)
        | 1 => match cs[off]? with | some v => force v | none => none
        | _ => none
      | none => none
    | _ => none
  | _, _ => none
def pconv {P : Program} (Γ : Env P) (s d : Nat) (x : Value) : Option Value :=
  match Γ.get s, Γ.get d, x with
  | some _, some r, .int _ m => match r.k with | .int k => some (.int k (k.wrap m)) | _ => none
  | some _, some r, .string s => match r.k with | .string => some (.string s) | _ => none
  | _, _, _ => none
def pidx {P : Program} (Γ : Env P) (t : Nat) (x i : Value) : Option Value :=
  match Γ.get t, x, i with
  | some r, .pointer (some ⟨b, o, none⟩), .int _ i => match r.k with
    | .array n e => match Γ.get e with
      | some re => match Nat.blt i.toNat n && seenNat i with
        | true => some (.pointer (some ⟨b, o + i.toNat * re.sz, none⟩))
        | false => none
      | none => none
    | _ => none
  | some r, .slice (some ⟨b, o, none⟩) l _, .int _ i => match r.k with
    | .slice e => match Γ.get e with
      | some re => match Nat.blt i.toNat l && seenNat i with
        | true => some (.pointer (some ⟨b, o + i.toNat * re.sz, none⟩))
        | false => none
      | none => none
    | _ => none
  | _, _, _ => none
def pnil : Value → Option Value
  | .pointer (some ⟨b, o, s⟩) => some (.pointer (some ⟨b, o, s⟩))
  | .func (.func f) a b => some (.func (.func f) a b)
  | _ => none
def ppick : Value → Value → Value → Option Value
  | .bool true, a, _ => force a
  | .bool false, _, b => force b
  | _, _, _ => none
def pext : Value → Nat → Option Value
  | .tuple vs, i => match vs.toList[i]? with | some v => force v | none => none
  | _, _ => none
def pmi {P : Program} (Γ : Env P) (t : Nat) (x : Value) : Option Value :=
  match Γ.get t with
  | some r => match r.k with | .iface => none | _ => some (.iface t x)
  | none => none
/-- A composite's parts, laid into its cells. -/
def splice (cs : List Value) (off : Nat) (vs : List Value) : List Value := cs.take off ++ vs ++ cs.drop (off + vs.length)
def cellsL : Value → List Value
  | .agg ⟨l⟩ => l
  | v => [v]

noncomputable def pval {P : Program} (Γ : Env P) (n : FrN) (ρ : Fr) (op : Op) : Option Value :=
  match op with
  | .move x => force (ev n ρ x)
  | .assign x => force (ev n ρ x)
  | .pick c a b => ppick (ev n ρ c) (ev n ρ a) (ev n ρ b)
  | .binOp op _ x y _ => pbin op (ev n ρ x) (ev n ρ y)
  | .unOp op _ x => pnot op (ev n ρ x)
  | .nilCheck x => pnil (ev n ρ x)
  | .convert s d x => pconv Γ s d (ev n ρ x)
  | .fieldAddr s x f => pfieldAddr Γ s f (ev n ρ x)
  | .field s x f => pfield Γ s f (ev n ρ x)
  | .indexAddr t x i => pidx Γ t (ev n ρ x) (ev n ρ i)
  | .makeFunc fn first cap => some (.func fn (args n ρ first).toArray (args n ρ cap).toArray)
  | .makeInterface t x => pmi Γ t (ev n ρ x)
  | .extract x i => pext (ev n ρ x) i
  | .call c => match c.callee with | .builtin b => pcall Γ b c.argTypes (args n ρ c.args) | _ => none
  | _ => none

theorem underlying_run {P : Program} {t : Nat} {d : TypeDesc} (h : P.underlying t = some d) (w : World) : (underlying t).run P w = .ok d w := by
  simp [underlying, program, bind, Sem.bind, Sem.run, h, pure]
theorem info_run {P : Program} {t : Nat} {r : TR} (h : TypeIs P t r) (w : World) : ∃ i, (typeInfo t).run P w = .ok i w ∧ i.size = r.sz ∧ i.bytes = r.by_ ∧ i.zero = some r.z := by
  obtain ⟨i, hi, h1⟩ := h.i
  exact ⟨i, by simp [typeInfo, program, bind, Sem.bind, Sem.run, hi, pure], h1⟩
theorem size_run {P : Program} {t : Nat} {r : TR} (h : TypeIs P t r) (w : World) : (sizeOf t).run P w = .ok r.sz w := by
  obtain ⟨i, h1, h2, _⟩ := info_run h w
  show ((typeInfo t).bind _).run P w = _
  rw [run_bind, h1]; show Result.ok i.size w = _; rw [h2]
theorem zero_run {P : Program} {t : Nat} {r : TR} (h : TypeIs P t r) (w : World) : (zeroValue t).run P w = .ok r.z w := by
  obtain ⟨i, h1, _, _, h2⟩ := info_run h w
  show ((typeInfo t).bind _).run P w = _
  rw [run_bind, h1]; simp only [h2]; rfl
theorem isAgg_run {P : Program} {t : Nat} {r : TR} (h : TypeIs P t r) (w : World) : (isAgg t).run P w = .ok (isAggT P t == 2) w := by
  obtain ⟨d, hd, _⟩ := h.d
  show ((underlying t).bind _).run P w = _
  rw [run_bind, underlying_run hd]
  unfold isAggT; rw [hd]; cases d <;> rfl
theorem bind_run {α β : Type} {P : Program} {s : Sem α} {f : α → Sem β} {a : α} {w w1 : World} (h : s.run P w = .ok a w1) : (s >>= f).run P w = (f a).run P w1 := by
  show (s.bind f).run P w = _
  rw [run_bind, h]
theorem extract_list (cs : List Value) (a n : Nat) : (Array.mk cs).extract a (a + n) = ⟨(cs.drop a).take n⟩ := by
  refine Array.ext' ?_
  simp [List.extract]
theorem run_part_agg {P : Program} {t sz : Nat} (h : isAggT P t = 2) (hs : sizeT P t = sz) {cs : Array Value} {off : Nat} {w : World} :
    (part t cs off).run P w = .ok (.agg (cs.extract off (off + sz))) w := by
  unfold isAggT at h
  cases hu : P.underlying t with
  | none => rw [hu] at h; cases h
  | some d =>
    have hi : ∃ i, P.info? t = some i ∧ i.size = sz := by
      unfold sizeT at hs
      cases hi : P.info? t with
      | none => simp [Program.underlying, hi] at hu
      | some i => rw [hi] at hs; exact ⟨i, rfl, hs⟩
    obtain ⟨i, hi, his⟩ := hi
    rw [hu] at h
    have ha : (isAgg t).run P w = .ok true w := by
      show ((underlying t).bind _).run P w = _
      rw [run_bind, underlying_run hu]
      cases d <;> first | rfl | cases h
    unfold part
    rw [bind_run ha]
    simp [sizeOf, typeInfo, program, bind, Sem.bind, Sem.run, hi, pure, his]
theorem run_part_one {P : Program} {t : Nat} (h : isAggT P t = 1) {cs : Array Value} {off : Nat} {v : Value} (hc : cs[off]? = some v) (w : World) :
    (part t cs off).run P w = .ok v w := by
  unfold isAggT at h
  cases hu : P.underlying t with
  | none => rw [hu] at h; cases h
  | some d =>
    rw [hu] at h
    have ha : (isAgg t).run P w = .ok false w := by
      show ((underlying t).bind _).run P w = _
      rw [run_bind, underlying_run hu]
      cases d <;> first | rfl | cases h
    unfold part
    rw [bind_run ha]
    simp [hc, pure, Sem.run]

theorem inRange {i : Int} {n : Nat} (h : (Nat.blt i.toNat n && seenNat i) = true) : 0 ≤ i ∧ i < n := by
  simp only [Bool.and_eq_true, Nat.blt_eq] at h
  have := seenNat_spec h.2
  omega
theorem pval_run {P : Program} {Γ : Env P} {n : FrN} {ρ : Fr} {o : Oper} {v : Value} (h : pval Γ n ρ o.op = some v) (w : World) :
    (execOp (ev n ρ) o).run P w = .ok (.value v) w := by
  unfold pval at h
  unfold execOp
  cases ho : o.op <;> rw [ho] at h <;> simp only [reduceCtorEq] at h ⊢
  case move x => rw [force_eq h]; rfl
  case assign x => rw [force_eq h]; rfl
  case pick c a b =>
    unfold ppick at h
    split at h
    · rename_i hc; rw [hc, ← force_eq h]; rfl
    · rename_i hc; rw [hc, ← force_eq h]; rfl
    · cases h
  case binOp op t x y yt => exact run_value (pbin_run h P t x y w)
  case unOp op t x => exact run_value (pnot_run h P w)
  case nilCheck x =>
    unfold pnil at h
    split at h <;> first | (rename_i hx; rw [hx]; cases h; rfl) | cases h
  case convert s d x =>
    unfold pconv at h
    split at h
    · rename_i rs rd hs hd hx
      split at h
      · rename_i hk
        cases h
        rw [hx]
        obtain ⟨ds, hds, _⟩ := (Γ.is hs).d
        refine run_value ?_
        simp only [convert]
        rw [bind_run (underlying_run hds w), bind_run (underlying_run (tk_int (Γ.is hd) hk) w)]
        cases ds <;> rfl
      · cases h
    · rename_i rs rd hs hd hx
      split at h
      · rename_i hk
        cases h
        rw [hx]
        obtain ⟨ds, hds, _⟩ := (Γ.is hs).d
        refine run_value ?_
        simp only [convert]
        rw [bind_run (underlying_run hds w), bind_run (underlying_run (tk_string (Γ.is hd) hk) w)]
        cases ds <;> rfl
      · cases h
    · cases h
  case fieldAddr s x f =>
    unfold pfieldAddr at h
    split at h
    · rename_i r b o hr hx
      split at h
      · rename_i fs hk
        split at h
        · rename_i off sz ag hf
          split at h
          · cases h
          · rename_i hsz
            cases h
            rw [hx]
            obtain ⟨fl, hfl, hm⟩ := tk_struct (Γ.is hr) hk
            subst hm
            rw [List.getElem?_map] at hf
            obtain ⟨fd, hfd, he⟩ := Option.map_eq_some_iff.1 hf
            simp only [Prod.mk.injEq] at he
            obtain ⟨rfl, hs2, _⟩ := he
            refine run_value ?_
            simp only [Instr.fieldAt]
            rw [bind_run (underlying_run hfl w)]
            simp only
            rw [Array.getElem?_toList] at hfd
            rw [hfd]
            simp only [Instr.sureAddr]
            show (((pure _ : Sem Addr) >>= _) : Sem Value).run P w = _
            have hsz' : sz ≠ 0 := fun e => by subst e; simp at hsz
            have : (sizeOf fd.type).run P w = .ok sz w := by
              unfold sizeT at hs2
              cases hi : P.info? fd.type with
              | none => rw [hi] at hs2; exact absurd hs2.symm hsz'
              | some i =>
                rw [hi] at hs2
                simp [sizeOf, typeInfo, program, bind, Sem.bind, Sem.run, hi, pure, hs2]
            show ((fieldPlace ⟨b, o, none⟩ fd).bind _).run P w = _
            rw [run_bind]
            have hp : (fieldPlace ⟨b, o, none⟩ fd).run P w = .ok ⟨b, o + fd.offset, none⟩ w := by
              unfold fieldPlace
              rw [bind_run this, if_neg hsz', add_off]; rfl
            rw [hp]; rfl
        · cases h
      · cases h
    · cases h
  case field s x f =>
    unfold pfield at h
    split at h
    · rename_i r cs hr hx
      split at h
      · rename_i fs hk
        split at h
        · rename_i off sz ag hf
          obtain ⟨fl, hfl, hm⟩ := tk_struct (Γ.is hr) hk
          subst hm
          rw [List.getElem?_map] at hf
          obtain ⟨fd, hfd, he⟩ := Option.map_eq_some_iff.1 hf
          simp only [Prod.mk.injEq] at he
          obtain ⟨rfl, hs2, hag⟩ := he
          rw [Array.getElem?_toList] at hfd
          rw [hx]
          refine run_value ?_
          simp only [Instr.field]
          rw [bind_run (underlying_run hfl w)]
          simp only [hfd, asAgg]
          show (((pure _ : Sem (Array Value)) >>= fun cs => part fd.type cs fd.offset) : Sem Value).run P w = _
          show (part fd.type ⟨cs⟩ fd.offset).run P w = _
          split at h
          · cases h
            rw [run_part_agg hag hs2, extract_list]
          · split at h
            · rename_i v' hv'
              have := force_eq h
              subst this
              exact run_part_one hag (by simpa using hv') w
            · cases h
          · cases h
        · cases h
      · cases h
    · cases h
  case indexAddr t x i =>
    unfold pidx at h
    split at h
    · rename_i r b o k i' hr hx hi
      split at h
      · rename_i len e hk
        split at h
        · rename_i re hre
          split at h
          · rename_i hd
            cases h
            have hd' : 0 ≤ i' ∧ i' < len := inRange hd
            refine run_value ?_
            rw [hx, hi]
            simp only [Instr.indexAt, asIntOf]
            show (((pure _ : Sem (IntKind × Int)) >>= _) : Sem Value).run P w = _
            have h1 := underlying_run (tk_array (Γ.is hr) hk) w
            have h2 := size_run (Γ.is hre) w
            simp only [bind, Sem.bind, pure, run_bind, h1, h2, Instr.sureAddr, hd', if_true, and_self, Sem.run, add_off]
          · cases h
        · cases h
      · cases h
    · rename_i r b o l c k i' hr hx hi
      split at h
      · rename_i e hk
        split at h
        · rename_i re hre
          split at h
          · rename_i hd
            cases h
            have hd' : 0 ≤ i' ∧ i' < l := inRange hd
            refine run_value ?_
            rw [hx, hi]
            simp only [Instr.indexAt, asIntOf]
            show (((pure _ : Sem (IntKind × Int)) >>= _) : Sem Value).run P w = _
            have h1 := underlying_run (tk_slice (Γ.is hr) hk) w
            have h2 := size_run (Γ.is hre) w
            simp only [bind, Sem.bind, pure, run_bind, h1, h2, hd', if_true, and_self, Sem.run, add_off]
          · cases h
        · cases h
      · cases h
    · cases h
  case makeFunc fn first cap =>
    cases h
    refine run_value ?_
    simp only [Instr.makeFunc, map_args]; rfl
  case makeInterface t x =>
    unfold pmi at h
    split at h
    · rename_i r hr
      obtain ⟨d, hd, hk⟩ := (Γ.is hr).d
      refine run_value ?_
      unfold Instr.makeInterface
      rw [bind_run (underlying_run hd w)]
      split at h
      · cases h
      · rename_i hne
        cases h
        cases d <;> first | rfl | (simp [tkOf] at hk; exact absurd hk.symm hne)
    · cases h
  case extract x i =>
    unfold pext at h
    split at h
    · rename_i vs hx
      split at h
      · rename_i v' hv
        rw [hx]
        refine run_value ?_
        simp only [Instr.extract]
        rw [Array.getElem?_toList] at hv
        rw [hv, force_eq h]; rfl
      · cases h
    · cases h
  case call c =>
    split at h
    · rename_i b hb
      unfold resolve
      rw [hb]
      simp only [map_args]
      exact pcall_run h _ _ w
    · cases h
end Go.SX
namespace Go.SX
open Go Go.RowKit

/-! ### Judgements -/
def lift (n : FrN) (w0 : World) (K : List Nat) (Q : Exit → Fr → HL → Prop) : Exit → Act → World → Prop :=
  fun e a w => e ≠ .outgrown ∧ ∃ ρ L, a = mkA n ρ ∧ Own w0 K L w ∧ Q e ρ L
structure XC (P : Program) (n : FrN) (w0 : World) (K : List Nat) (c : Code) (Q : Exit → Fr → HL → Prop) (ρ : Fr) (L : HL) : Prop where
  out : ∀ w, Own w0 K L w → c.wp P (lift n w0 K Q) (mkA n ρ) w
structure XL {P : Program} (_Γ : Env P) (n : FrN) (w0 : World) (K : List Nat) (ops : List Oper) (Q : Exit → Fr → HL → Prop) (rest : List Oper) (ρ : Fr) (L : HL) : Prop where
  out : ∀ w, Own w0 K L w → wpList P ops.toArray (lift n w0 K Q) rest (mkA n ρ) w
def thenX (N : Fr → HL → Prop) (Q : Exit → Fr → HL → Prop) : Exit → Fr → HL → Prop
  | .normal, ρ, L => N ρ L
  | e, ρ, L => Q e ρ L
def blockX (id : Nat) (Q : Exit → Fr → HL → Prop) : Exit → Fr → HL → Prop
  | .exit id', ρ, L => match Nat.beq id' id with | true => Q .normal ρ L | false => Q (.exit id') ρ L
  | e, ρ, L => Q e ρ L

section
variable {P : Program} {Γ : Env P} {n : FrN} {w0 : World} {K : List Nat} {Q : Exit → Fr → HL → Prop} {ρ : Fr} {L : HL} {ops rest : List Oper} {o : Oper}

theorem XC.mono {c : Code} {Q' : Exit → Fr → HL → Prop} (h : XC P n w0 K c Q ρ L) (hq : ∀ e ρ L, Q e ρ L → Q' e ρ L) : XC P n w0 K c Q' ρ L :=
  ⟨fun w o => Go.wp_mono (h.out w o) fun _ _ _ ⟨h1, ρ, L, h2, h3, h4⟩ => ⟨h1, ρ, L, h2, h3, hq _ _ _ h4⟩⟩
theorem XC.sub {c : Code} {L' : HL} (h : XC P n w0 K c Q ρ L') (s : ∀ x ∈ L', x ∈ L) (nd : (keys L).Nodup → (keys L').Nodup) : XC P n w0 K c Q ρ L :=
  ⟨fun w o => h.out w (o.sub s (nd o.nodup))⟩
theorem XC.perm {c : Code} {L' : HL} (h : XC P n w0 K c Q ρ L') (p : L.Perm L') : XC P n w0 K c Q ρ L := ⟨fun w o => h.out w (o.perm p)⟩
theorem XL.perm {L' : HL} (h : XL Γ n w0 K ops Q rest ρ L') (p : L.Perm L') : XL Γ n w0 K ops Q rest ρ L := ⟨fun w o => h.out w (o.perm p)⟩

theorem XC.skip (h : Q .normal ρ L) : XC P n w0 K .skip Q ρ L := ⟨fun _ o => wp_skip ⟨by simp, ρ, L, rfl, o, h⟩⟩
theorem XC.ret (h : Q .ret ρ L) : XC P n w0 K .ret Q ρ L := ⟨fun _ o => wp_ret ⟨by simp, ρ, L, rfl, o, h⟩⟩
theorem XC.exit {id : Nat} (h : Q (.exit id) ρ L) : XC P n w0 K (.exit id) Q ρ L := ⟨fun _ o => wp_exit ⟨by simp, ρ, L, rfl, o, h⟩⟩
theorem XC.seq {x y : Code} (h : XC P n w0 K x (thenX (fun ρ L => XC P n w0 K y Q ρ L) Q) ρ L) : XC P n w0 K (.seq x y) Q ρ L :=
  ⟨fun w o => wp_seq (Go.wp_mono (h.out w o) fun e a w ⟨h1, ρ, L, h2, h3, h4⟩ => by
    cases e <;> first | (subst h2; exact h4.out w h3) | exact ⟨h1, ρ, L, h2, h3, h4⟩)⟩
theorem XC.block {id : Nat} {c : Code} (h : XC P n w0 K c (blockX id Q) ρ L) : XC P n w0 K (.block id c) Q ρ L :=
  ⟨fun w o => wp_block (Go.wp_mono (h.out w o) fun e a w ⟨h1, ρ, L, h2, h3, h4⟩ => by
    cases e with
    | exit id' =>
      simp only [blockX] at h4
      simp only [Exit.inBlock]
      cases hb : Nat.beq id' id with
      | true =>
        rw [hb] at h4
        rw [if_pos (Nat.eq_of_beq_eq_true hb)]
        exact ⟨by simp, ρ, L, h2, h3, h4⟩
      | false =>
        rw [hb] at h4
        rw [if_neg (fun e => by subst e; simp at hb)]
        exact ⟨by simp, ρ, L, h2, h3, h4⟩
    | _ => exact ⟨h1, ρ, L, h2, h3, h4⟩)⟩
theorem XC.condT {c : Operand} {x y : Code} (hc : ev n ρ c = .bool true) (h : XC P n w0 K x Q ρ L) : XC P n w0 K (.cond c x y) Q ρ L :=
  ⟨fun w o => wp_cond_true (by rw [mkA_eval]; exact hc) (h.out w o)⟩
theorem XC.condF {c : Operand} {x y : Code} (hc : ev n ρ c = .bool false) (h : XC P n w0 K y Q ρ L) : XC P n w0 K (.cond c x y) Q ρ L :=
  ⟨fun w o => wp_cond_false (by rw [mkA_eval]; exact hc) (h.out w o)⟩
theorem XC.cond {c : Operand} {x y : Code} {b : Bool} (hc : ev n ρ c = .bool b) (ht : b = true → XC P n w0 K x Q ρ L) (hf : b = false → XC P n w0 K y Q ρ L) :
    XC P n w0 K (.cond c x y) Q ρ L :=
  ⟨fun w o => wp_cond_split (by rw [mkA_eval]; exact hc) (fun e => (ht e).out w o) (fun e => (hf e).out w o)⟩
/-- A loop: the invariant bears a number that every round lowers. -/
theorem XC.loop {c : Code} (I : Nat → Fr → HL → Prop) (k : Nat) (h0 : I k ρ L)
    (round : ∀ k ρ L, I k ρ L → XC P n w0 K c (thenX (fun ρ' L' => ∃ k', k' < k ∧ I k' ρ' L') Q) ρ L) : XC P n w0 K (.loop c) Q ρ L :=
  ⟨fun w o => wp_loop_ghost (fun k a w => ∃ ρ L, a = mkA n ρ ∧ Own w0 K L w ∧ I k ρ L) k ⟨ρ, L, rfl, o, h0⟩ fun k a w ⟨ρ, L, ha, o, hI⟩ => by
    subst ha
    refine Go.wp_mono ((round k ρ L hI).out w o) fun e a w ⟨h1, ρ, L, h2, h3, h4⟩ => ?_
    cases e <;> first
      | (obtain ⟨k', hk, hi⟩ := h4; exact ⟨k', hk, ρ, L, h2, h3, hi⟩)
      | exact ⟨h1, ρ, L, h2, h3, h4⟩⟩
theorem XC.subl {c : Code} {L' : HL} (hs : L'.Sublist L) (h : XC P n w0 K c Q ρ L') : XC P n w0 K c Q ρ L := h.sub (fun x hx => hs.subset hx) (fun nd => (hs.map _).nodup nd)
/-- What a way out must give, told step by step. -/
structure XQ (Q : Exit → Fr → HL → Prop) (e : Exit) (ρ : Fr) (L : HL) : Prop where
  out : Q e ρ L
theorem XQ.skip (h : XQ Q .normal ρ L) : XC P n w0 K .skip Q ρ L := .skip h.out
theorem XQ.ret (h : XQ Q .ret ρ L) : XC P n w0 K .ret Q ρ L := .ret h.out
theorem XQ.exit {id : Nat} (h : XQ Q (.exit id) ρ L) : XC P n w0 K (.exit id) Q ρ L := .exit h.out
theorem XQ.nt {N : Fr → HL → Prop} (h : N ρ L) : XQ (thenX N Q) .normal ρ L := ⟨h⟩
theorem XQ.nb {id : Nat} (h : XQ Q .normal ρ L) : XQ (blockX id Q) .normal ρ L := ⟨h.out⟩
theorem XQ.rt {N : Fr → HL → Prop} (h : XQ Q .ret ρ L) : XQ (thenX N Q) .ret ρ L := ⟨h.out⟩
theorem XQ.rb {id : Nat} (h : XQ Q .ret ρ L) : XQ (blockX id Q) .ret ρ L := ⟨h.out⟩
theorem XQ.et {N : Fr → HL → Prop} {id : Nat} (h : XQ Q (.exit id) ρ L) : XQ (thenX N Q) (.exit id) ρ L := ⟨h.out⟩
theorem XQ.eb {id id' : Nat} (hb : Nat.beq id' id = true) (h : XQ Q .normal ρ L) : XQ (blockX id Q) (.exit id') ρ L := ⟨by simp only [blockX]; rw [hb]; exact h.out⟩
/-- What holds at a point, put down in one's own words. -/
theorem XC.cut {c : Code} (M : Fr → HL → Prop) (N : Fr → HL → Prop) (h : XC P n w0 K c (thenX M Q) ρ L) (hm : ∀ ρ L, M ρ L → N ρ L) : XC P n w0 K c (thenX N Q) ρ L :=
  h.mono fun e ρ L hq => by cases e <;> first | exact hm _ _ hq | exact hq

def Slots (ρ : Fr) : List (Nat × Value) → Prop
  | [] => True
  | (d, v) :: l => ρ d = v ∧ Slots ρ l
def updL (ρ : Fr) : List (Nat × Value) → Fr
  | [] => ρ
  | (d, v) :: l => upd (updL ρ l) d v
theorem updL_same : ∀ (l : List (Nat × Value)) (ρ : Fr), Slots ρ l → updL ρ l = ρ
  | [], _, _ => rfl
  | (d, v) :: l, ρ, h => by
    show upd (updL ρ l) d v = ρ
    rw [updL_same l ρ h.2, upd_same ρ d v h.1]
theorem XC.slots {c : Code} (l : List (Nat × Value)) (hs : Slots ρ l) (h : XC P n w0 K c Q (updL ρ l) L) : XC P n w0 K c Q ρ L := by
  rw [updL_same l ρ hs] at h; exact h

/-! ### Regions -/
theorem XC.region {id : Nat} {l : List Oper} (h : XL Γ n w0 K l Q l ρ L) : XC P n w0 K (.region id l.toArray false) Q ρ L :=
  ⟨fun w o => wp_region_lit (h.out w o)⟩
theorem XL.nilQ (h : XQ Q .normal ρ L) : XL Γ n w0 K ops Q [] ρ L := ⟨fun _ o => ⟨by simp, ρ, L, rfl, o, h.out⟩⟩
theorem XL.nilT {N : Fr → HL → Prop} (h : N ρ L) : XL Γ n w0 K ops (thenX N Q) [] ρ L := ⟨fun _ o => ⟨by simp, ρ, L, rfl, o, h⟩⟩
theorem XL.nil (h : Q .normal ρ L) : XL Γ n w0 K ops Q [] ρ L := ⟨fun _ o => ⟨by simp, ρ, L, rfl, o, h⟩⟩

def gval (n : FrN) (ρ : Fr) (ops : List Oper) (g : Option (Nat × Bool)) : Option Bool :=
  match g with
  | none => some true
  | some (j, want) => match ops[j]? with
    | some oj => match oj.dst with
      | some d => match Nat.blt d n.sz with
        | true => match ρ d with
          | .bool b => match b, want with
            | true, true => some true
            | false, false => some true
            | true, false => some false
            | false, true => some false
          | .tuple _ => some false
          | _ => none
        | false => none
      | none => none
    | none => none

theorem yielded_mkA {j d : Nat} {oj : Oper} (hj : ops[j]? = some oj) (hd : oj.dst = some d) (hn : Nat.blt d n.sz = true) :
    yielded ops.toArray (mkA n ρ).tmps j = (match ρ d with | .bool b => some b | _ => none) := by
  unfold yielded
  have hd' : d < n.sz := by rw [Nat.blt_eq] at hn; exact hn
  simp [hj, hd, mkA, hd']
  cases ρ d <;> rfl

theorem gval_spec {b : Bool} (h : gval n ρ ops o.guard = some b) : Region.wanted o (yielded ops.toArray (mkA n ρ).tmps) = b := by
  unfold gval at h
  unfold Region.wanted
  split at h
  · rename_i hg; rw [hg]; cases h; rfl
  · rename_i j want hg
    rw [hg]
    split at h
    · rename_i oj hj
      split at h
      · rename_i d hd
        split at h
        · rename_i hn
          simp only
          rw [yielded_mkA hj hd hn]
          split at h
          · rename_i b' hb
            rw [hb]
            cases b' <;> cases want <;> simp at h <;> subst h <;> rfl
          · rename_i vs hb
            rw [hb]
            cases h; cases want <;> rfl
          · cases h
        · cases h
      · cases h
    · cases h

/-- One operation: whatever it does, N holds behind it. -/
structure XOp {P : Program} (_Γ : Env P) (n : FrN) (w0 : World) (K : List Nat) (ops : List Oper) (o : Oper) (N : Fr → HL → Prop) (ρ : Fr) (L : HL) : Prop where
  out : ∀ (Q' : Exit → Act → World → Prop) w, Own w0 K L w →
    if Region.wanted o (yielded ops.toArray (mkA n ρ).tmps) then o.wp P (mkA n ρ) w (fun a' w' => ∃ ρ' L', a' = mkA n ρ' ∧ Own w0 K L' w' ∧ N ρ' L') Q'
    else N (updO ρ o.dst undef) L
theorem XL.op (h : XOp Γ n w0 K ops o (fun ρ L => XL Γ n w0 K ops Q rest ρ L) ρ L) : XL Γ n w0 K ops Q (o :: rest) ρ L := by
  refine ⟨fun w ow => ?_⟩
  have := h.out (lift n w0 K Q) w ow
  unfold wpList
  split
  · rename_i hw
    rw [if_pos hw] at this
    refine .inl (Oper.wp_mono (fun a w ⟨ρ', L', ha, ho, hk⟩ => ?_) this)
    subst ha; exact hk.out w ho
  · rename_i hw
    rw [if_neg hw] at this
    rw [mkA_put]; exact this.out w ow
variable {N : Fr → HL → Prop}
/-- An operation that comes to a value. -/
theorem XOp.val {L : HL} (hg : gval n ρ ops o.guard = some true)
    (h : ∀ w, Own w0 K L w → ∃ v w' L', (execOp (ev n ρ) o).run P w = .ok (.value v) w' ∧ Own w0 K L' w' ∧ N (updO ρ o.dst v) L') :
    XOp Γ n w0 K ops o N ρ L := by
  refine ⟨fun Q' w ow => ?_⟩
  obtain ⟨v, w', L', hr, ow', hk⟩ := h w ow
  rw [if_pos (gval_spec hg)]
  unfold Oper.wp
  rw [mkA_eval, hr]
  show ∃ ρ' L', (mkA n ρ).put o.dst v = mkA n ρ' ∧ _
  exact ⟨_, L', mkA_put .., ow', hk⟩
/-- One that comes to none. -/
theorem XOp.noval {L : HL} (hg : gval n ρ ops o.guard = some true)
    (h : ∀ w, Own w0 K L w → ∃ w' L', (execOp (ev n ρ) o).run P w = .ok .skip w' ∧ Own w0 K L' w' ∧ N (updO ρ o.dst undef) L') :
    XOp Γ n w0 K ops o N ρ L := by
  refine ⟨fun Q' w ow => ?_⟩
  obtain ⟨w', L', hr, ow', hk⟩ := h w ow
  rw [if_pos (gval_spec hg)]
  unfold Oper.wp
  rw [mkA_eval, hr]
  show ∃ ρ' L', (mkA n ρ).put o.dst undef = mkA n ρ' ∧ _
  exact ⟨_, L', mkA_put .., ow', hk⟩
theorem XOp.skip (hg : gval n ρ ops o.guard = some false) (h : N (updO ρ o.dst undef) L) : XOp Γ n w0 K ops o N ρ L := by
  refine ⟨fun Q' w ow => ?_⟩
  rw [if_neg (by rw [gval_spec hg]; simp)]
  exact h
theorem XOp.p1 {d : Nat} {op : Op} {ty : Nat} {pos : String} {af : Array Edge} {g : Option (Nat × Bool)} {v : Value} (hg : gval n ρ ops g = some true) (hv : pval Γ n ρ op = some v)
    (h : N (upd ρ d v) L) : XOp Γ n w0 K ops { dst := some d, op := op, type := ty, pos := pos, after := af, guard := g } N ρ L :=
  XOp.val hg fun w ow => ⟨v, w, L, pval_run hv w, ow, h⟩
theorem XOp.p0 {d : Nat} {op : Op} {ty : Nat} {pos : String} {af : Array Edge} {g : Option (Nat × Bool)} (hg : gval n ρ ops g = some false)
    (h : N (upd ρ d undef) L) : XOp Γ n w0 K ops { dst := some d, op := op, type := ty, pos := pos, after := af, guard := g } N ρ L :=
  XOp.skip hg h
/-- A guard that is not known: two ways; in each it is. -/
theorem XOp.split {j d : Nat} {want b : Bool} {oj : Oper} (hg : o.guard = some (j, want)) (hj : ops[j]? = some oj) (hd : oj.dst = some d) (hb : ρ d = .bool b)
    (ht : b = true → XOp Γ n w0 K ops o N (upd ρ d (.bool true)) L) (hf : b = false → XOp Γ n w0 K ops o N (upd ρ d (.bool false)) L) :
    XOp Γ n w0 K ops o N ρ L := by
  cases b with
  | true => have := ht rfl; rw [upd_same ρ d _ hb] at this; exact this
  | false => have := hf rfl; rw [upd_same ρ d _ hb] at this; exact this

/-! ### Memory -/
def cellv (h : HV) (a : Addr) : Option Value :=
  match h a.block with
  | some (.cells c _ _) => if a.spot.isSome then none else c[a.off]?
  | _ => none
theorem cellv_hv (w : World) (a : Addr) : cellv (hv w) a = w.cell? a := rfl
/-- The cells vs lie from a place on. -/
def rowv (h : HV) (b off : Nat) (vs : List Value) : Prop := ∀ i v, vs[i]? = some v → cellv h ⟨b, off + i, none⟩ = some v

theorem own_cell {i b : Nat} {cs : List Value} {t : Nat} {fz : Nat × Nat} {off : Nat} {v : Value} (hi : L[i]? = some (b, .cells ⟨cs⟩ t fz)) (hc : cs[off]? = some v) :
    Known w0 K L (fun h => cellv h ⟨b, off, none⟩ = some v) := fun h e => by
  have := e.1 _ (List.mem_of_getElem? hi)
  simp only at this
  simp [cellv, this, hc]
theorem own_row {i b : Nat} {cs : List Value} {t : Nat} {fz : Nat × Nat} {off m : Nat} {vs : List Value} (hi : L[i]? = some (b, .cells ⟨cs⟩ t fz)) (hc : (cs.drop off).take m = vs) :
    Known w0 K L (fun h => rowv h b off vs) := fun h e => by
  intro j v hj
  have := e.1 _ (List.mem_of_getElem? hi)
  simp only at this
  subst hc
  rw [List.getElem?_take] at hj
  split at hj
  · rw [List.getElem?_drop] at hj
    simp [cellv, this, hj]
  · cases hj

def takeF : Nat → List Value → Option (List Value)
  | 0, _ => some []
  | m + 1, x :: l => match takeF m l with | some r => some (x :: r) | none => none
  | _ + 1, [] => none
def grab : List Value → Nat → Nat → Option (List Value)
  | l, 0, m => takeF m l
  | _ :: l, k + 1, m => grab l k m
  | [], _ + 1, _ => none
theorem takeF_eq : ∀ {m : Nat} {l r : List Value}, takeF m l = some r → l.take m = r ∧ r.length = m
  | 0, l, r, h => by cases h; simp
  | m + 1, x :: l, r, h => by
    unfold takeF at h
    split at h
    · rename_i r' hr
      cases h
      have := takeF_eq hr
      simp [this.1, this.2]
    · cases h
  | m + 1, [], r, h => by cases h
theorem grab_eq : ∀ {l : List Value} {k m : Nat} {r : List Value}, grab l k m = some r → (l.drop k).take m = r ∧ r.length = m
  | l, 0, m, r, h => takeF_eq (by unfold grab at h; exact h)
  | _ :: l, k + 1, m, r, h => grab_eq (l := l) (k := k) (m := m) (r := r) h
  | [], k + 1, m, r, h => by cases h
theorem own_grab {i b : Nat} {cs : List Value} {t : Nat} {fz : Nat × Nat} {off m : Nat} {vs : List Value} (hi : L[i]? = some (b, .cells ⟨cs⟩ t fz)) (hc : grab cs off m = some vs) :
    Known w0 K L (fun h => rowv h b off vs) := own_row hi (grab_eq hc).1

theorem load_run {t : Nat} {r : TR} (ht : TypeIs P t r) (hk : isAggT P t = 1) {a : Addr} {v : Value} {w : World} (hc : w.cell? a = some v) : (loadVar t a).run P w = .ok v w := by
  unfold loadVar
  rw [bind_run (isAgg_run ht w), hk]
  simp [load, Sem.run, hc]

theorem loadCells_run {b off : Nat} {w : World} : ∀ (vs : List Value) (i : Nat) (acc : Array Value), (∀ j v, vs[j]? = some v → w.cell? ⟨b, off + (i + j), none⟩ = some v) →
    (loadCellsFrom ⟨b, off, none⟩ i vs.length acc).run P w = .ok (acc ++ vs.toArray) w
  | [], i, acc, _ => by simp [loadCellsFrom, pure, Sem.run]
  | v :: vs, i, acc, h => by
    simp only [List.length_cons, loadCellsFrom, add_off]
    have h0 : w.cell? ⟨b, off + i, none⟩ = some v := h 0 v rfl
    show ((load _).bind _).run P w = _
    simp only [load, Sem.bind, Sem.run, h0]
    rw [loadCells_run vs (i + 1) (acc.push v) (fun j v' hj => by have := h (j + 1) v' hj; rw [show i + 1 + j = i + (j + 1) by omega]; exact this)]
    simp

theorem loadN_run {t : Nat} {r : TR} (ht : TypeIs P t r) (hk : isAggT P t = 2) {b off : Nat} {vs : List Value} {w : World} (hl : vs.length = r.sz) (hc : rowv (hv w) b off vs) :
    (loadVar t ⟨b, off, none⟩).run P w = .ok (.agg ⟨vs⟩) w := by
  unfold loadVar
  rw [bind_run (isAgg_run ht w), hk]
  simp only [beq_self_eq_true, if_true, bind_run (size_run ht w), loadCells, ← hl]
  have := loadCells_run (P := P) (b := b) (off := off) (w := w) vs 0 #[] (fun j v hj => by have := hc j v hj; rw [cellv_hv] at this; simpa using this)
  rw [bind_run this]
  simp [pure, Sem.run]

def aggK : TK → Nat | .struct _ => 2 | .array _ _ => 2 | _ => 1

/-- A load of one cell. -/
theorem XOp.load {d : Nat} {t ty b off : Nat} {x : Operand} {pos : String} {af : Array Edge} {g : Option (Nat × Bool)} {r : TR} {v : Value}
    (hg : gval n ρ ops g = some true) (ht : Γ.get t = some r) (hk : aggK r.k = 1) (hx : ev n ρ x = .pointer (some ⟨b, off, none⟩))
    (hc : Known w0 K L (fun h => cellv h ⟨b, off, none⟩ = some v)) (h : N (upd ρ d v) L) :
    XOp Γ n w0 K ops { dst := some d, op := .load t x, type := ty, pos := pos, after := af, guard := g } N ρ L :=
  XOp.val hg fun w ow => ⟨v, w, L, by
    refine run_value ?_
    simp only [Instr.loadAt, hx, Instr.sureAddr]
    show (loadVar t ⟨b, off, none⟩).run P w = _
    exact load_run (Γ.is ht) ((tk_agg (Γ.is ht)).trans (by rw [← hk]; cases r.k <;> rfl)) (hc.at ow), ow, h⟩
/-- A load of a struct or an array. -/
theorem XOp.loadN {d : Nat} {t ty b off : Nat} {x : Operand} {pos : String} {af : Array Edge} {g : Option (Nat × Bool)} {r : TR} {vs : List Value}
    (hg : gval n ρ ops g = some true) (ht : Γ.get t = some r) (hk : aggK r.k = 2) (hx : ev n ρ x = .pointer (some ⟨b, off, none⟩)) (hl : vs.length = r.sz)
    (hc : Known w0 K L (fun h => rowv h b off vs)) (h : N (upd ρ d (.agg ⟨vs⟩)) L) :
    XOp Γ n w0 K ops { dst := some d, op := .load t x, type := ty, pos := pos, after := af, guard := g } N ρ L :=
  XOp.val hg fun w ow => ⟨_, w, L, by
    refine run_value ?_
    simp only [Instr.loadAt, hx, Instr.sureAddr]
    show (loadVar t ⟨b, off, none⟩).run P w = _
    exact loadN_run (Γ.is ht) ((tk_agg (Γ.is ht)).trans (by rw [← hk]; cases r.k <;> rfl)) hl (hc.at ow), ow, h⟩

/-- The same, out of a block that is held. -/
theorem XOp.loadO {d : Nat} {t ty i b off te : Nat} {fz : Nat × Nat} {x : Operand} {pos : String} {af : Array Edge} {g : Option (Nat × Bool)} {r : TR} {cs vs : List Value}
    (hg : gval n ρ ops g = some true) (ht : Γ.get t = some r) (hk : aggK r.k = 2) (hx : ev n ρ x = .pointer (some ⟨b, off, none⟩)) (hi : L[i]? = some (b, .cells ⟨cs⟩ te fz)) (hc : grab cs off r.sz = some vs)
    (h : N (upd ρ d (.agg ⟨vs⟩)) L) :
    XOp Γ n w0 K ops { dst := some d, op := .load t x, type := ty, pos := pos, after := af, guard := g } N ρ L :=
  XOp.loadN hg ht hk hx (grab_eq hc).2 (own_grab hi hc) h
def cellsO (v : Value) : Option (List Value) :=
  match v with
  | .agg ⟨l⟩ => some l
  | v => match force v with | some v' => some [v'] | none => none
theorem cellsO_eq {v : Value} {l : List Value} (h : cellsO v = some l) : cellsL v = l := by
  unfold cellsO at h
  split at h
  · cases h; rfl
  · rename_i v' hne
    split at h
    · rename_i u hu
      cases h
      rw [← force_eq hu]
      unfold cellsL
      split
      · exact (hne _ rfl).elim
      · rfl
    · cases h
theorem cellsL_eq (v : Value) : v.cells = ⟨cellsL v⟩ := by
  cases v <;> rfl
/-- A new variable that holds a value. -/
theorem XOp.box {d : Nat} {t ty : Nat} {x : Operand} {pos : String} {af : Array Edge} {g : Option (Nat × Bool)} {cs : List Value}
    (hg : gval n ρ ops g = some true) (hx' : cellsO (ev n ρ x) = some cs)
    (h : ∀ b, N (upd ρ d (.pointer (some ⟨b, 0, none⟩))) ((b, .cells ⟨cs⟩ t (0, 0)) :: L)) :
    XOp Γ n w0 K ops { dst := some d, op := .box t x, type := ty, pos := pos, after := af, guard := g } N ρ L :=
  XOp.val hg fun w ow => ⟨.pointer (some ⟨w.heap.size, 0, none⟩), w.alloc (.cells ⟨cs⟩ t (0, 0)), (w.heap.size, .cells ⟨cs⟩ t (0, 0)) :: L, by
    have hx := cellsO_eq hx'
    refine run_value ?_
    simp only [Instr.box, newVar, newRow, newObj, cellsL_eq, hx, bind, Sem.bind, pure, Sem.run]
    rfl, ow.new _, h w.heap.size⟩
/-- A new variable that holds its type's zero. -/
theorem XOp.alloc {d : Nat} {t ty : Nat} {pos : String} {af : Array Edge} {g : Option (Nat × Bool)} {r : TR} {cs : List Value}
    (hg : gval n ρ ops g = some true) (ht : Γ.get t = some r) (hx' : cellsO r.z = some cs)
    (h : ∀ b, N (upd ρ d (.pointer (some ⟨b, 0, none⟩))) ((b, .cells ⟨cs⟩ t (0, 0)) :: L)) :
    XOp Γ n w0 K ops { dst := some d, op := .alloc t, type := ty, pos := pos, after := af, guard := g } N ρ L :=
  XOp.val hg fun w ow => ⟨.pointer (some ⟨w.heap.size, 0, none⟩), w.alloc (.cells ⟨cs⟩ t (0, 0)), (w.heap.size, .cells ⟨cs⟩ t (0, 0)) :: L, by
    have hx := cellsO_eq hx'
    refine run_value ?_
    have hz := zero_run (Γ.is ht) w
    simp only [Instr.alloc]
    rw [bind_run hz]
    simp only [newVar, newRow, newObj, cellsL_eq, hx, bind, Sem.bind, pure, Sem.run]
    rfl, ow.new _, h w.heap.size⟩

theorem getElem_set_ne {α : Type} {a : Array α} {i j : Nat} {x : α} (h : ¬ i = j) (h1 : j < (a.setIfInBounds i x).size) (h2 : j < a.size) : (a.setIfInBounds i x)[j] = a[j] := by
  have := Array.getElem?_setIfInBounds_ne (xs := a) (i := i) (j := j) (a := x) h
  rw [Array.getElem?_eq_getElem h1, Array.getElem?_eq_getElem h2] at this
  exact Option.some.inj this
/-- The world with one block put in another's place. -/
def putB (w : World) (b : Nat) (ob : Obj) : World := { w with heap := w.heap.setIfInBounds b ob }
def lset : List Value → Nat → Value → Option (List Value)
  | [], _, _ => none
  | _ :: l, 0, v => some (v :: l)
  | x :: l, i + 1, v => match lset l i v with | some l' => some (x :: l') | none => none
theorem lset_eq : ∀ {l : List Value} {i : Nat} {v : Value} {l' : List Value}, lset l i v = some l' → l' = l.set i v ∧ i < l.length
  | [], _, _, _, h => by simp [lset] at h
  | _ :: l, 0, v, l', h => by simp [lset] at h; subst h; simp
  | x :: l, i + 1, v, l', h => by
    unfold lset at h
    split at h
    · rename_i l2 h2
      cases h
      have := lset_eq h2
      refine ⟨by rw [this.1]; rfl, ?_⟩
      have := this.2
      simp; omega
    · cases h
/-- Several cells one behind the other. -/
def lsetN : List Value → Nat → List Value → Option (List Value)
  | l, _, [] => some l
  | l, i, v :: vs => match lset l i v with | some l' => lsetN l' (i + 1) vs | none => none
def aset : HL → Nat → Nat × Obj → Option HL
  | [], _, _ => none
  | _ :: l, 0, v => some (v :: l)
  | x :: l, i + 1, v => match aset l i v with | some l' => some (x :: l') | none => none
theorem aset_eq : ∀ {l : HL} {i : Nat} {v : Nat × Obj} {l' : HL}, aset l i v = some l' → l' = l.set i v
  | [], _, _, _, h => by simp [aset] at h
  | _ :: l, 0, v, l', h => by simp [aset] at h; subst h; simp
  | x :: l, i + 1, v, l', h => by
    unfold aset at h
    split at h
    · rename_i l2 h2
      cases h
      rw [aset_eq h2]; rfl
    · cases h

theorem store_one {b t : Nat} {cs : List Value} {off : Nat} {v : Value} {w : World} (hh : w.heap[b]? = some (.cells ⟨cs⟩ t (0, 0))) (ho : off < cs.length) (hv : v.oneCell' = true) :
    (store ⟨b, off, none⟩ v).run P w = .ok () (putB w b (.cells ⟨cs.set off v⟩ t (0, 0))) := by
  have hc : w.cell? ⟨b, off, none⟩ = some cs[off] := by simp [World.cell?, hh, ho]
  have hf : w.frozen? ⟨b, off, none⟩ = false := by simp [World.frozen?, hh]
  have hw : w.setCell ⟨b, off, none⟩ v = putB w b (.cells ⟨cs.set off v⟩ t (0, 0)) := by
    unfold World.setCell putB
    congr 1
    have hb := (Array.getElem?_eq_some_iff.1 hh)
    obtain ⟨hb, he⟩ := hb
    refine Array.ext (by simp) fun j h1 h2 => ?_
    rw [Array.getElem_modify]
    by_cases hj : b = j
    · subst hj
      simp [he]
    · rw [if_neg hj, getElem_set_ne hj]
  cases v <;> simp [Value.oneCell'] at hv <;> simp [store, Sem.run, hc, hf, hw]
theorem putB_putB (w : World) (b : Nat) (x y : Obj) : putB (putB w b x) b y = putB w b y := by
  unfold putB; simp
theorem putB_heap {w : World} {b : Nat} {x : Obj} (h : b < w.heap.size) : (putB w b x).heap[b]? = some x := by
  unfold putB; simp [h]

theorem Own.put {i b : Nat} {ob ob' : Obj} {L' : HL} {w : World} (ow : Own w0 K L w) (hi : L[i]? = some (b, ob)) (hs : aset L i (b, ob') = some L') : Own w0 K L' (putB w b ob') := by
  rw [aset_eq hs]
  exact ow.set hi ob' rfl rfl rfl rfl

/-- A store of one cell into a block that is held. -/
theorem XOp.store {d : Option Nat} {t ty i b off : Nat} {x y : Operand} {pos : String} {af : Array Edge} {g : Option (Nat × Bool)} {r : TR} {v : Value} {cs cs' : List Value} {te : Nat} {L' : HL}
    (hg : gval n ρ ops g = some true) (ht : Γ.get t = some r) (hk : r.sz = 1) (hx : ev n ρ x = .pointer (some ⟨b, off, none⟩)) (hv : force (ev n ρ y) = some v) (h1 : v.oneCell' = true)
    (hi : L[i]? = some (b, .cells ⟨cs⟩ te (0, 0))) (hs : lset cs off v = some cs') (ha : aset L i (b, .cells ⟨cs'⟩ te (0, 0)) = some L')
    (h : N (updO ρ d undef) L') :
    XOp Γ n w0 K ops { dst := d, op := .store t x y, type := ty, pos := pos, after := af, guard := g } N ρ L :=
  XOp.noval hg fun w ow => by
    have hv := force_eq hv
    obtain ⟨rfl, ho⟩ := lset_eq hs
    refine ⟨putB w b (.cells ⟨cs.set off v⟩ te (0, 0)), L', ?_, ow.put hi ha, h⟩
    have hh := ow.has _ (List.mem_of_getElem? hi)
    have hc : v.cells = #[v] := by cases v <;> simp [Value.oneCell'] at h1 <;> rfl
    have hrun : (Instr.storeAt t (ev n ρ x) (ev n ρ y)).run P w = .ok () (putB w b (.cells ⟨cs.set off v⟩ te (0, 0))) := by
      rw [hx, hv]
      show (storeVar t ⟨b, off, none⟩ v).run P w = _
      unfold storeVar
      rw [hc, bind_run (size_run (Γ.is ht) w), hk]
      show ((Go.store ((Addr.mk b off none).add 0) v).bind _).run P w = _
      rw [add_off, run_bind, Nat.add_zero, store_one hh ho h1]; rfl
    show ((Instr.storeAt t (ev n ρ x) (ev n ρ y)).bind _).run P w = _
    rw [run_bind, hrun]; rfl

theorem storeN_run {b te : Nat} : ∀ (vs : List Value) (cs cs' : List Value) (off i : Nat) (w : World), w.heap[b]? = some (.cells ⟨cs⟩ te (0, 0)) → lsetN cs (off + i) vs = some cs' →
    (∀ v ∈ vs, v.oneCell' = true) → (storeCells ⟨b, off, none⟩ vs i).run P w = .ok () (putB w b (.cells ⟨cs'⟩ te (0, 0)))
  | [], cs, cs', off, i, w, hh, hs, _ => by
    cases hs
    have : putB w b (.cells ⟨cs⟩ te (0, 0)) = w := by
      unfold putB
      obtain ⟨hb, he⟩ := Array.getElem?_eq_some_iff.1 hh
      rw [show w.heap.setIfInBounds b (.cells ⟨cs⟩ te (0, 0)) = w.heap from by
        refine Array.ext (by simp) fun j h1 h2 => ?_
        by_cases hj : b = j
        · subst hj; simp [he]
        · exact getElem_set_ne hj _ _]
    rw [this]; rfl
  | v :: vs, cs, cs', off, i, w, hh, hs, h1 => by
    unfold lsetN at hs
    split at hs
    · rename_i l' hl
      obtain ⟨rfl, ho⟩ := lset_eq hl
      have hb : b < w.heap.size := (Array.getElem?_eq_some_iff.1 hh).1
      simp only [storeCells]
      show ((Go.store ((Addr.mk b off none).add i) v).bind _).run P w = _
      rw [add_off, run_bind, store_one hh ho (h1 v (by simp))]
      show (storeCells ⟨b, off, none⟩ vs (i + 1)).run P _ = _
      rw [storeN_run vs _ cs' off (i + 1) _ (putB_heap hb) (by rw [show off + (i + 1) = off + i + 1 by omega]; exact hs) (fun v hv => h1 v (by simp [hv])), putB_putB]
    · cases hs
/-- A store of a struct or an array. -/
theorem XOp.storeN {d : Option Nat} {t ty i b off : Nat} {x y : Operand} {pos : String} {af : Array Edge} {g : Option (Nat × Bool)} {r : TR} {vs : List Value} {cs cs' : List Value} {te : Nat} {L' : HL}
    (hg : gval n ρ ops g = some true) (ht : Γ.get t = some r) (hx : ev n ρ x = .pointer (some ⟨b, off, none⟩)) (hv' : cellsO (ev n ρ y) = some vs) (hk : vs.length = r.sz) (h1 : vs.all (·.oneCell') = true)
    (hi : L[i]? = some (b, .cells ⟨cs⟩ te (0, 0))) (hs : lsetN cs off vs = some cs') (ha : aset L i (b, .cells ⟨cs'⟩ te (0, 0)) = some L')
    (h : N (updO ρ d undef) L') :
    XOp Γ n w0 K ops { dst := d, op := .store t x y, type := ty, pos := pos, after := af, guard := g } N ρ L :=
  XOp.noval hg fun w ow => by
    refine ⟨putB w b (.cells ⟨cs'⟩ te (0, 0)), L', ?_, ow.put hi ha, h⟩
    have hv := cellsO_eq hv'
    have hh := ow.has _ (List.mem_of_getElem? hi)
    have hrun : (Instr.storeAt t (ev n ρ x) (ev n ρ y)).run P w = .ok () (putB w b (.cells ⟨cs'⟩ te (0, 0))) := by
      rw [hx]
      show (storeVar t ⟨b, off, none⟩ (ev n ρ y)).run P w = _
      unfold storeVar
      rw [cellsL_eq, hv, bind_run (size_run (Γ.is ht) w), ← hk]
      rw [if_neg (by simp)]
      exact storeN_run vs cs cs' off 0 w hh (by simpa using hs) (fun v hv => List.all_eq_true.1 h1 v hv)
    show ((Instr.storeAt t (ev n ρ x) (ev n ρ y)).bind _).run P w = _
    rw [run_bind, hrun]; rfl

end

/-! ### Functions -/
def isFn (P : Program) (f : Nat) : Bool := match P.funcs[f]? with | some fn => fn.body.isSome && !(fn.name == "runtime.NumGoroutine") | none => false
def oldv (w : World) (S : List Nat) : HV := fun b => if b ∈ S then none else w.heap[b]?
/-- What a function does: it is handed the blocks L0 (which it may write), knows A of what is read, and hands back a value and blocks. -/
def FC (P : Program) (f : Nat) (as : List Value) (L0 : HL) (A : HV → Prop) (Post : Value → HL → Prop) : Prop :=
  isFn P f = true ∧ ∀ w, (∀ x ∈ L0, w.heap[x.1]? = some x.2) → (keys L0).Nodup → (∀ h : HV, (∀ b o, oldv w (keys L0) b = some o → h b = some o) → A h) →
    Calls P f as.toArray w (fun e w' => ∃ v L', e = .returned v ∧ Own w (keys L0) L' w' ∧ Post v L')

theorem FC.mono {P f as L0 A Post} {Post' : Value → HL → Prop} (h : FC P f as L0 A Post) (hp : ∀ v L, Post v L → Post' v L) : FC P f as L0 A Post' :=
  ⟨h.1, fun w h1 h2 h3 => (h.2 w h1 h2 h3).mono fun _ _ ⟨v, L', he, ho, hq⟩ => ⟨v, L', he, ho, hp _ _ hq⟩⟩

/-- What a call hands back is no longer looked at. -/
theorem FC.drop {P f as L0 A Post} (h : FC P f as L0 A Post) : FC P f as L0 A (fun v L => L = [] ∧ ∃ L', Post v L') :=
  ⟨h.1, fun w h1 h2 h3 => (h.2 w h1 h2 h3).mono fun _ _ ⟨v, L', he, ho, hq⟩ => ⟨v, [], he, ho.sub (by simp) (by simp [keys]), rfl, L', hq⟩⟩

section
variable {P : Program} {Γ : Env P} {n : FrN} {w0 : World} {K : List Nat} {Q : Exit → Fr → HL → Prop} {ρ : Fr} {L : HL} {ops rest : List Oper} {o : Oper}

variable {N : Fr → HL → Prop}
theorem isFn_run {f : Nat} (h : isFn P f = true) (as : Array Value) (w : World) : (callFunc f as).run P w = .ok (.enter f as) w := by
  unfold isFn at h
  split at h
  · rename_i fn hf
    simp only [Bool.and_eq_true, Bool.not_eq_true'] at h
    unfold callFunc
    simp only [program, bind, Sem.bind, Sem.run, hf, h.2]
    have : fn.body.isNone = false := by cases hb : fn.body <;> simp_all
    simp [this, pure]
  · cases h

/-- A call, by its contract: it is handed L0; R stays. -/
theorem XOp.call {d : Option Nat} {ty f : Nat} {c : Operand} {xs : Array Operand} {ts : Array Nat} {pos : String} {af : Array Edge} {g : Option (Nat × Bool)}
    {as : List Value} {first cap : Array Value} {L0 R : HL} {A : HV → Prop} {Post : Value → HL → Prop}
    (hF : FC P f as L0 A Post)
    (hg : gval n ρ ops g = some true) (hc : ev n ρ c = .func (.func f) first cap) (ha : first.toList ++ args n ρ xs ++ cap.toList = as)
    (hL : L = L0 ++ R) (hA : Known w0 K R A)
    (h : ∀ v L', Post v L' → N (updO ρ d v) (L' ++ R)) :
    XOp Γ n w0 K ops { dst := d, op := .call { callee := .value c, args := xs, argTypes := ts }, type := ty, pos := pos, after := af, guard := g } N ρ L := by
  refine ⟨fun Q' w ow => ?_⟩
  subst hL
  rw [if_pos (gval_spec hg)]
  unfold Oper.wp
  rw [mkA_eval]
  have hrun : (execOp (ev n ρ) { dst := d, op := .call { callee := .value c, args := xs, argTypes := ts }, type := ty, pos := pos, after := af, guard := g }).run P w = .ok (.enter f as.toArray) w := by
    have e : (first ++ (args n ρ xs).toArray) ++ cap = as.toArray := by
      subst ha
      refine Array.ext' ?_
      simp
    show ((resolve (ev n ρ) { callee := .value c, args := xs, argTypes := ts } ty).bind _).run P w = _
    have h1 : (resolve (ev n ρ) { callee := .value c, args := xs, argTypes := ts } ty).run P w = .ok { target := .fn (.func f) cap, args := first ++ (args n ρ xs).toArray } w := by
      simp only [resolve, hc, map_args, Deferred.ofValue]; rfl
    rw [run_bind, h1]
    show (callFunc f ((first ++ (args n ρ xs).toArray) ++ cap)).run P w = _
    rw [e]
    exact isFn_run hF.1 _ _
  rw [hrun]
  show Calls P f as.toArray w _
  have hnd : (keys L0).Nodup ∧ (keys R).Nodup ∧ ∀ a ∈ keys L0, ∀ b ∈ keys R, a ≠ b := by
    have hnd := ow.nodup
    unfold keys at hnd; rw [List.map_append, List.nodup_append] at hnd; exact hnd
  refine (hF.2 w (fun x hx => ow.has x (List.mem_append_left _ hx)) hnd.1 ?_).mono ?_
  · intro h hh
    refine hA h ⟨fun x hx => ?_, fun b hb hk => ?_⟩
    · refine hh _ _ ?_
      unfold oldv
      rw [if_neg (fun hm => hnd.2.2 _ hm _ (List.mem_map.2 ⟨x, hx, rfl⟩) rfl)]
      exact ow.has x (List.mem_append_right _ hx)
    · have hb' : b < w.heap.size := Nat.lt_of_lt_of_le hb ow.size
      have h1 : oldv w (keys L0) b = some w.heap[b] := by
        unfold oldv
        rw [if_neg (fun hm => by
          obtain ⟨x, hx, rfl⟩ := List.mem_map.1 hm
          exact hk (ow.mine x (List.mem_append_left _ hx) hb))]
        simp [hb']
      rw [hh _ _ h1, ← ow.old b hb hk]; simp [hb']
  · rintro e w' ⟨v, L', rfl, ow', hp⟩
    show ∃ ρ' L'', (mkA n ρ).put d v = mkA n ρ' ∧ _
    exact ⟨_, _, mkA_put .., ow.call ow', h v L' hp⟩

/-! ### Entering a function, and leaving it -/
def argF : List Value → Fr
  | [], _ => undef
  | v :: _, 0 => v
  | _ :: l, t + 1 => argF l t
theorem argF_get : ∀ (l : List Value) (t : Nat), argF l t = (l[t]?).getD undef
  | [], t => by simp [argF]
  | v :: l, 0 => by simp [argF]
  | v :: l, t + 1 => by simp [argF, argF_get l t]

/-- What a function's results are read out of. -/
inductive Res (P : Program) (n : FrN) (ρ : Fr) (w0 : World) (K : List Nat) (L : HL) : List ResultVar → List Value → Prop where
  | nil : Res P n ρ w0 K L [] []
  | tmp {t l v vs} (h : ev n ρ (.tmp t) = v) (r : Res P n ρ w0 K L l vs) : Res P n ρ w0 K L (.tmp t :: l) (v :: vs)
  | cell {a t b off l v vs} (h : ev n ρ (.tmp a) = .pointer (some ⟨b, off, none⟩)) (hk : isAggT P t = 1) (hd : (P.info? t).isSome = true)
      (hc : Known w0 K L (fun h => cellv h ⟨b, off, none⟩ = some v)) (r : Res P n ρ w0 K L l vs) : Res P n ρ w0 K L (.cell a t :: l) (v :: vs)
  | row {a t b off l us vs} (h : ev n ρ (.tmp a) = .pointer (some ⟨b, off, none⟩)) (hk : isAggT P t = 2) (hs : sizeT P t = us.length)
      (hc : Known w0 K L (fun h => rowv h b off us)) (r : Res P n ρ w0 K L l vs) : Res P n ρ w0 K L (.cell a t :: l) (.agg ⟨us⟩ :: vs)

theorem Res.t {t l v vs} (h : force (ev n ρ (.tmp t)) = some v) (r : Res P n ρ w0 K L l vs) : Res P n ρ w0 K L (.tmp t :: l) (v :: vs) := .tmp (force_eq h) r
def resV : List Value → Value
  | [v] => v
  | vs => .tuple ⟨vs⟩

theorem load_size {t : Nat} {b off : Nat} {vs : List Value} {w : World} (hk : isAggT P t = 2) (hs : sizeT P t = vs.length) (hc : rowv (hv w) b off vs) :
    (loadVar t ⟨b, off, none⟩).run P w = .ok (.agg ⟨vs⟩) w := by
  unfold isAggT at hk
  cases hu : P.underlying t with
  | none => rw [hu] at hk; cases hk
  | some d =>
    have hi : ∃ i, P.info? t = some i ∧ i.size = vs.length := by
      unfold sizeT at hs
      cases hi : P.info? t with
      | none => simp [Program.underlying, hi] at hu
      | some i => rw [hi] at hs; exact ⟨i, rfl, hs⟩
    obtain ⟨i, hi, his⟩ := hi
    rw [hu] at hk
    have ha : (isAgg t).run P w = .ok true w := by
      show ((underlying t).bind _).run P w = _
      rw [run_bind, underlying_run hu]
      cases d <;> first | rfl | cases hk
    have hsz : (sizeOf t).run P w = .ok vs.length w := by
      simp [sizeOf, typeInfo, program, bind, Sem.bind, Sem.run, hi, pure, his]
    unfold loadVar
    rw [bind_run ha, if_pos rfl, bind_run hsz, loadCells]
    have := loadCells_run (P := P) (b := b) (off := off) (w := w) vs 0 #[] (fun j v hj => by have := hc j v hj; rw [cellv_hv] at this; simpa using this)
    rw [bind_run this]
    simp [pure, Sem.run]
theorem load_plain {t : Nat} {a : Addr} {v : Value} {w : World} (hk : isAggT P t = 1) (hc : w.cell? a = some v) : (loadVar t a).run P w = .ok v w := by
  unfold isAggT at hk
  cases hu : P.underlying t with
  | none => rw [hu] at hk; cases hk
  | some d =>
    rw [hu] at hk
    have ha : (isAgg t).run P w = .ok false w := by
      show ((underlying t).bind _).run P w = _
      rw [run_bind, underlying_run hu]
      cases d <;> first | rfl | cases hk
    unfold loadVar
    rw [bind_run ha]
    simp [load, Sem.run, hc]

inductive F2 {α β : Type} (R : α → β → Prop) : List α → List β → Prop where
  | nil : F2 R [] []
  | cons {a b l m} (h : R a b) (t : F2 R l m) : F2 R (a :: l) (b :: m)
theorem mapM_run {α : Type} (f : ResultVar → Sem α) {w : World} : ∀ (l : List ResultVar) (vs : List α), F2 (fun r v => (f r).run P w = .ok v w) l vs → (l.mapM f).run P w = .ok vs w
  | [], _, h => by cases h; rfl
  | r :: l, _, h => by
    cases h with
    | cons h1 h2 =>
      rw [List.mapM_cons, bind_run h1, bind_run (mapM_run f l _ h2)]; rfl

def resF (n : FrN) (ρ : Fr) : ResultVar → Sem Value
  | .tmp t => pure (ev n ρ (.tmp t))
  | .cell a t => do loadVar t (← asAddr (ev n ρ (.tmp a)))
theorem Res.run {l : List ResultVar} {vs : List Value} (r : Res P n ρ w0 K L l vs) {w : World} (ow : Own w0 K L w) :
    F2 (fun r v => (resF n ρ r).run P w = .ok v w) l vs := by
  induction r with
  | nil => exact .nil
  | tmp h _ ih => exact .cons (by simp only [resF, h]; rfl) ih
  | cell h hk hd hc _ ih =>
    refine .cons ?_ ih
    simp only [resF, h]
    exact load_plain hk (hc.at ow)
  | row h hk hs hc _ ih =>
    refine .cons ?_ ih
    simp only [resF, h]
    exact load_size hk hs (hc.at ow)

theorem resV_eq (vs : List Value) : (if h : vs.toArray.size = 1 then vs.toArray[0] else Value.tuple vs.toArray) = resV vs := by
  unfold resV
  split
  · rename_i h; split
    · rfl
    · rename_i hne
      exfalso
      simp at h
      match vs, h with
      | [v], _ => exact hne v rfl
  · rename_i h; split
    · exact absurd rfl h
    · rfl

theorem results_run {fn : Func} {vs : List Value} (r : Res P n ρ w0 K L fn.results.toList vs) {w : World} (ow : Own w0 K L w) :
    (results fn (mkA n ρ).tmps).run P w = .ok (resV vs) w := by
  have h1 := mapM_run (P := P) _ _ _ (r.run ow)
  have key : ∀ g : ResultVar → Sem Value, (∀ r, g r = resF n ρ r) →
      ((fn.results.mapM g >>= fun vs => pure (if h : vs.size = 1 then vs[0] else .tuple vs)) : Sem Value).run P w = .ok (resV vs) w := by
    intro g hg
    obtain rfl : g = resF n ρ := funext hg
    rw [← Array.toArray_toList (xs := fn.results), List.mapM_toArray]
    have h2 : ((List.toArray <$> List.mapM (resF n ρ) fn.results.toList) : Sem (Array Value)).run P w = .ok vs.toArray w := by
      show ((List.mapM (resF n ρ) fn.results.toList).bind _).run P w = _
      rw [run_bind, h1]; rfl
    rw [bind_run h2, resV_eq]; rfl
  unfold results
  refine key _ fun r => ?_
  have he : ∀ t, (mkA n ρ).tmps.getD t undef = ev n ρ (.tmp t) := fun t => by rw [← mkA_eval]; rfl
  cases r with
  | tmp t => simp only [he]; rfl
  | cell a t => simp only [he]; rfl

/-- What a function's end must give. -/
def retX (P : Program) (rs : List ResultVar) (n : FrN) (w0 : World) (K : List Nat) (Post : Value → HL → Prop) : Exit → Fr → HL → Prop
  | .normal, ρ, L => ∃ vs, Res P n ρ w0 K L rs vs ∧ Post (resV vs) L
  | .ret, ρ, L => ∃ vs, Res P n ρ w0 K L rs vs ∧ Post (resV vs) L
  | _, _, _ => False

theorem XQ.retE {rs : List ResultVar} {vs : List Value} {Post : Value → HL → Prop} (hr : Res P n ρ w0 K L rs vs) (hp : Post (resV vs) L) : XQ (retX P rs n w0 K Post) .ret ρ L := ⟨⟨vs, hr, hp⟩⟩
theorem XQ.norE {rs : List ResultVar} {vs : List Value} {Post : Value → HL → Prop} (hr : Res P n ρ w0 K L rs vs) (hp : Post (resV vs) L) : XQ (retX P rs n w0 K Post) .normal ρ L := ⟨⟨vs, hr, hp⟩⟩
theorem FC.intro {f : Nat} {fn : Func} {c : Code} {as : List Value} {L0 : HL} {A : HV → Prop} {Post : Value → HL → Prop}
    (hf : P.funcs[f]? = some fn) (hb : fn.body = some c) (hr : isFn P f = true) (n : Nat) (rs : List ResultVar) (hnt : fn.ntmps = n) (hrs : fn.results = rs.toArray) (hn' : Nat.ble as.length n = true)
    (h : ∀ w0, A (oldv w0 (keys L0)) → XC P ⟨n, []⟩ w0 (keys L0) c (retX P rs ⟨n, []⟩ w0 (keys L0) Post) (argF as) L0) : FC P f as L0 A Post := by
  subst hnt
  refine ⟨hr, fun w h1 h2 h3 => ?_⟩
  have hn := Nat.le_of_ble_eq_true hn'
  have hk : A (oldv w (keys L0)) := h3 _ fun b o ho => ho
  have ht : as.toArray ++ Array.replicate (fn.ntmps - as.toArray.size) undef = (mkA ⟨fn.ntmps, []⟩ (argF as)).tmps := by
    refine Array.ext (by simp [mkA]; omega) fun i h1 h2 => ?_
    simp only [mkA, Array.getElem_ofFn, argF_get]
    rw [Array.getElem_append]
    split
    · rename_i hi
      simp at hi
      simp [hi]
    · rename_i hi
      simp at hi
      simp [hi]
  refine calls_of_wp hf hb ?_
  rw [ht]
  refine Go.wp_mono ((h w hk).out w (Own.refl h1 h2)) ?_
  rintro e a w' ⟨h0, ρ, L, rfl, ow, hq⟩
  cases e with
  | normal => obtain ⟨vs, hres, hp⟩ := hq; exact ⟨rfl, _, results_run (by rw [hrs]; exact hres) ow, _, _, rfl, ow, hp⟩
  | ret => obtain ⟨vs, hres, hp⟩ := hq; exact ⟨rfl, _, results_run (by rw [hrs]; exact hres) ow, _, _, rfl, ow, hp⟩
  | outgrown => exact absurd rfl h0
  | exit id => exact hq.elim
  | goto l => exact hq.elim
  | panic c => exact hq.elim

end
end Go.SX
/- What an argument reads as, turned into typed facts on memory. -/
namespace Go.SX
open Go Go.RowKit
theorem reach_val : reachBytes = 140737488351232 := by decide

/-- How a value of a Lean type lies in memory: its cells, and what they lead to. -/
structure Kd (α : Type) where
  sz : Nat
  enc : HV → α → List Value → Prop
  len : ∀ {h x cs}, enc h x cs → cs.length = sz
  mono : ∀ {h h' : HV} {x cs}, (∀ b o, h b = some o → h' b = some o) → enc h x cs → enc h' x cs

def inK (k : IntKind) (x : Int) : Prop := (Lit.int k x).wf = true
def Kd.int (k : IntKind) : Kd Int := ⟨1, fun _ x cs => cs = [.int k x] ∧ inK k x, fun h => by rw [h.1]; rfl, fun _ h => h⟩
def Kd.bool : Kd Bool := ⟨1, fun _ x cs => cs = [.bool x], fun h => by rw [h]; rfl, fun _ h => h⟩
def Kd.str : Kd ByteArray := ⟨1, fun _ x cs => cs = [.string x] ∧ x.size ≤ reachBytes, fun h => by rw [h.1]; rfl, fun _ h => h⟩

theorem cellv_mono {h h' : HV} (s : ∀ b o, h b = some o → h' b = some o) {a : Addr} {v : Value} (hc : cellv h a = some v) : cellv h' a = some v := by
  unfold cellv at hc ⊢
  split at hc
  · rename_i c t f hb; rw [s _ _ hb]; exact hc
  · cases hc
theorem rowv_mono {h h' : HV} (s : ∀ b o, h b = some o → h' b = some o) {b off : Nat} {vs : List Value} (hc : rowv h b off vs) : rowv h' b off vs :=
  fun i v hv => cellv_mono s (hc i v hv)

def ablk (a : Option Addr) : Nat := match a with | some x => x.block | none => 0
def aoff (a : Option Addr) : Nat := match a with | some x => x.off | none => 0
/-- What a slice over a's place, of that capacity, leads to. -/
structure SlA {α : Type} (d : Kd α) (by_ : Nat) (h : HV) (xs : List α) (a : Option Addr) (cap : Nat) : Prop where
  le : xs.length ≤ cap
  bytes : xs.length * by_ ≤ 140737488355328
  nil : a = none → cap = 0
  at_ : 0 < xs.length → a = some ⟨ablk a, aoff a, none⟩
  row : ∀ i x, xs[i]? = some x → ∃ c, d.enc h x c ∧ rowv h (ablk a) (aoff a + i * d.sz) c
/-- A slice's value and its elements. -/
def slEnc {α : Type} (d : Kd α) (by_ : Nat) (h : HV) (xs : List α) (v : Value) : Prop := ∃ a cap, v = .slice a xs.length cap ∧ SlA d by_ h xs a cap ∧ cap * by_ ≤ reachBytes
theorem SlA.mono {α : Type} {d : Kd α} {by_ : Nat} {h h' : HV} (s : ∀ b o, h b = some o → h' b = some o) {xs : List α} {a : Option Addr} {cap : Nat} (e : SlA d by_ h xs a cap) : SlA d by_ h' xs a cap :=
  ⟨e.le, e.bytes, e.nil, e.at_, fun i x hx => by obtain ⟨c, hc, hr⟩ := e.row i x hx; exact ⟨c, d.mono s hc, rowv_mono s hr⟩⟩
theorem slEnc_mono {α : Type} {d : Kd α} {by_ : Nat} {h h' : HV} (s : ∀ b o, h b = some o → h' b = some o) {xs : List α} {v : Value} (e : slEnc d by_ h xs v) : slEnc d by_ h' xs v := by
  obtain ⟨a, cap, h1, h2, h3⟩ := e
  exact ⟨a, cap, h1, h2.mono s, h3⟩
def Kd.slice {α : Type} (d : Kd α) (by_ : Nat) : Kd (List α) :=
  ⟨1, fun h xs cs => ∃ v, cs = [v] ∧ slEnc d by_ h xs v, fun ⟨_, h, _⟩ => by rw [h]; rfl, fun s ⟨v, h, e⟩ => ⟨v, h, slEnc_mono s e⟩⟩

section
variable {H : Type} {enc : TypeId × Value → H} {P : Program} {W : World}
/-- What is read at a type reads as K says. -/
def Rdr {α : Type} (enc : TypeId × Value → H) (P : Program) (W : World) (t : Nat) (K : Kd α) : Prop :=
  ∀ fuel cs (x : DataW H × List MemPlace), DataW.trod enc P W 0 (fun _ => true) true fuel t cs = some x → (∀ n ∈ x.1.weights P t, n ≤ reachBytes) → ∃ y, K.enc (hv W) y cs

theorem rdr_int {t : Nat} {k : IntKind} (hu : P.underlying t = some (.int k)) : Rdr enc P W t (Kd.int k) := fun fuel cs x h _ => by
  obtain ⟨n, rfl, _, hw⟩ := DataW.trod_int hu h
  exact ⟨n, rfl, hw⟩
theorem rdr_str {t : Nat} (hu : P.underlying t = some .string) : Rdr enc P W t Kd.str := fun fuel cs x h hw => by
  obtain ⟨s, rfl, hx, _⟩ := DataW.trod_string hu h
  refine ⟨s, rfl, ?_⟩
  rw [hx] at hw
  have := hw s.data.toList.length (by simp [DataW.weights])
  simpa using this
theorem weights_all_mem {e : Nat} : ∀ {l : List (DataW H)} {d : DataW H}, d ∈ l → ∀ n ∈ d.weights P e, n ∈ DataW.weightsAll P e l
  | a :: l, d, hm, n, hn => by
    simp only [DataW.weightsAll, List.mem_append]
    rcases List.mem_cons.1 hm with rfl | h
    · exact .inl hn
    · exact .inr (weights_all_mem h n hn)
theorem bind_some_iff {α β : Type} {a : Option α} {f : α → Option β} {b : β} (h : a.bind f = some b) : ∃ x, a = some x ∧ f x = some b := Option.bind_eq_some_iff.1 h

theorem rdr_slice {α : Type} {t e sz by_ : Nat} {K : Kd α} (hu : P.underlying t = some (.slice e)) (hs : P.cellsOf e = sz) (hb : P.bytesOf e = by_) (hk : K.sz = sz) (hsz : 0 < sz) (r : Rdr enc P W e K) :
    Rdr enc P W t (K.slice by_) := fun fuel cs x h hw => by
  rcases DataW.trod_slice hu h with ⟨rfl, hx⟩ | ⟨a, len, cap, elems, rest, n, _, rfl, hx, _, hl, hc, hel, hat, hr, _⟩
  · exact ⟨[], _, rfl, none, 0, rfl, ⟨by simp, by simp, fun _ => rfl, fun h => absurd h (by simp), fun i x h => by simp at h⟩, by simp⟩
  · obtain ⟨hr1, _⟩ := hr rfl
    rw [hx] at hw
    simp only [DataW.weights, hu, List.length_map, hel, hr1] at hw
    have hcap : cap * by_ ≤ reachBytes := by
      have := hw ((len + (cap - len)) * P.bytesOf e) (by simp)
      rw [hb] at this
      rw [show len + (cap - len) = cap by omega] at this; exact this
    have hall : ∀ i, i < len → ∃ y c, K.enc (hv W) y c ∧ c.length = sz ∧ ∀ j, j < sz → W.cell? ((a.add (i * sz)).add j) = c[j]? := by
      intro i hi
      have h1 := hat i hi
      have h2 : i < elems.length := by omega
      rw [List.getElem?_eq_getElem h2] at h1
      obtain ⟨c, hc1, hc2⟩ := bind_some_iff h1
      obtain ⟨_, hc3, hc4⟩ := World.cells?_some hc1
      obtain ⟨y, hy⟩ := r n c elems[i] hc2 (fun m hm => hw m (by
        simp only [List.mem_cons, List.mem_append]
        exact .inr (.inl (weights_all_mem (List.mem_map.2 ⟨elems[i], List.getElem_mem h2, rfl⟩) m hm))))
      rw [hs] at hc3 hc4
      exact ⟨y, c, hy, hc3, fun j hj => hc4 j hj⟩
    by_cases h0 : len = 0
    · subst h0
      exact ⟨[], _, rfl, some a, cap, rfl, ⟨by simp, by simp, (fun h => by cases h), fun h => absurd h (by simp), fun i x h => by simp at h⟩, hcap⟩
    · have hspot : a.spot = none := by
        obtain ⟨y, c, _, hc1, hc2⟩ := hall 0 (by omega)
        have h3 := hc2 0 hsz
        have h4 : 0 < c.length := by omega
        rw [Nat.zero_mul, List.getElem?_eq_getElem h4] at h3
        have e0 : ∀ a : Addr, a.add 0 = a := fun a => by simp [Addr.add]
        rw [e0, e0] at h3
        unfold World.cell? at h3
        split at h3
        · split at h3
          · cases h3
          · rename_i hs; cases hsp : a.spot <;> simp_all
        · cases h3
      obtain ⟨b, off, sp⟩ := a
      simp only at hspot
      subst hspot
      have hex : ∀ i : Nat, ∃ y, i < len → ∃ c, K.enc (hv W) y c ∧ rowv (hv W) b (off + i * sz) c := by
        intro i
        by_cases hi : i < len
        · obtain ⟨y, c, hy, hc1, hc2⟩ := hall i hi
          refine ⟨y, fun _ => ⟨c, hy, fun j v hj => ?_⟩⟩
          have hjl : j < sz := by have := (List.getElem?_eq_some_iff.1 hj).1; omega
          have := hc2 j hjl
          rw [add_off, add_off] at this
          rw [cellv_hv, this, hj]
        · obtain ⟨y, _⟩ := hall 0 (by omega)
          exact ⟨y, fun h => absurd h hi⟩
      have hlen : len * by_ ≤ 140737488355328 := Nat.le_trans (Nat.mul_le_mul_right _ hl) (Nat.le_trans hcap (by rw [reach_val]; omega))
      refine ⟨(List.range len).map (fun i => (hex i).choose), _, rfl, some ⟨b, off, none⟩, cap, by simp, ⟨by simpa using hl, by simpa using hlen, (fun h => by cases h), fun _ => rfl, ?_⟩, hcap⟩
      intro i x hx
      rw [List.getElem?_map] at hx
      obtain ⟨j, hj, rfl⟩ := Option.map_eq_some_iff.1 hx
      have hjl := (List.getElem?_eq_some_iff.1 hj)
      obtain ⟨hjl, he⟩ := hjl
      simp only [List.getElem_range] at he
      subst he
      rw [hk]
      exact (hex i).choose_spec (by simpa using hjl)

/-- A field of a struct. -/
theorem rdr_field {α : Type} {t : Nat} {fs : Array Field} {fuel : Nat} {cs : List Value} {x : DataW H × List MemPlace} (hu : P.underlying t = some (.struct fs))
    (h : DataW.trod enc P W 0 (fun _ => true) true fuel t cs = some x) (hw : ∀ n ∈ x.1.weights P t, n ≤ reachBytes) {i : Nat} {f : Field} (hf : fs[i]? = some f) {K : Kd α}
    (r : Rdr enc P W f.type K) {off sz : Nat} (ho : f.offset = off) (hz : P.cellsOf f.type = sz) : ∃ y, K.enc (hv W) y ((cs.drop off).take sz) := by
  subst ho; subst hz
  obtain ⟨xs, n, _, hx, _, hl, hat⟩ := DataW.trod_struct hu h
  have h1 := hat i f hf
  have hi : i < xs.length := by have := (Array.getElem?_eq_some_iff.1 hf).1; omega
  rw [List.getElem?_eq_getElem hi] at h1
  refine r n _ xs[i] h1 fun m hm => hw m ?_
  rw [hx]
  simp only [DataW.weights, hu]
  refine DataW.weights_mem_each (j := i) (t := f.type) (d := xs[i].1) ?_ ?_ m hm
  · rw [List.getElem?_map, Array.getElem?_toList, hf]; rfl
  · rw [List.getElem?_map, List.getElem?_eq_getElem hi]; rfl
theorem rdr_struct_len {t : Nat} {fs : Array Field} {fuel : Nat} {cs : List Value} {x : DataW H × List MemPlace} (hu : P.underlying t = some (.struct fs))
    (h : DataW.trod enc P W 0 (fun _ => true) true fuel t cs = some x) : cs.length = P.cellsOf t := by
  obtain ⟨xs, n, _, hx, hl, _⟩ := DataW.trod_struct hu h
  exact hl

end

theorem len2 {α : Type} {l : List α} (h : l.length = 2) : ∃ a b, l = [a, b] := by match l, h with | [a, b], _ => exact ⟨a, b, rfl⟩
theorem len3 {α : Type} {l : List α} (h : l.length = 3) : ∃ a b c, l = [a, b, c] := by match l, h with | [a, b, c], _ => exact ⟨a, b, c, rfl⟩
theorem len5 {α : Type} {l : List α} (h : l.length = 5) : ∃ a b c d e, l = [a, b, c, d, e] := by match l, h with | [a, b, c, d, e], _ => exact ⟨a, b, c, d, e, rfl⟩
/-- A value of one cell; a struct or an array by its cells. -/
def one {α : Type} (K : Kd α) (h : HV) (x : α) (v : Value) : Prop := K.enc h x [v]
def agg {α : Type} (K : Kd α) (h : HV) (x : α) (v : Value) : Prop := ∃ cs, v = .agg ⟨cs⟩ ∧ K.enc h x cs
theorem one_of {H : Type} {enc : TypeId × Value → H} {P : Program} {W : World} {α : Type} {t : Nat} {K : Kd α} {v : Value} {d : DataW H} {p : List MemPlace}
    (rd : Rdr enc P W t K) (hw : ∀ n ∈ d.weights P t, n ≤ reachBytes) (h : DataW.Trod enc P W 0 (fun _ => true) true t v d p) (hv : v.cells = #[v]) : ∃ x, one K (Go.SX.hv W) x v := by
  obtain ⟨fuel, hf⟩ := h
  obtain ⟨x, hx⟩ := rd fuel _ _ hf hw
  refine ⟨x, ?_⟩
  rw [hv] at hx; exact hx
theorem agg_of {H : Type} {enc : TypeId × Value → H} {P : Program} {W : World} {α : Type} {t : Nat} {K : Kd α} {v : Value} {d : DataW H} {p : List MemPlace}
    (rd : Rdr enc P W t K) (hw : ∀ n ∈ d.weights P t, n ≤ reachBytes) (h : DataW.Trod enc P W 0 (fun _ => true) true t v d p) (hv : ∃ cs, v = .agg cs) : ∃ x, agg K (Go.SX.hv W) x v := by
  obtain ⟨fuel, hf⟩ := h
  obtain ⟨x, hx⟩ := rd fuel _ _ hf hw
  obtain ⟨⟨cs⟩, rfl⟩ := hv
  exact ⟨x, cs, rfl, hx⟩
/-! ### Facts on a view, and what is known of the state -/
def Mono (B : HV → Prop) : Prop := ∀ h h' : HV, (∀ b o, h b = some o → h' b = some o) → B h → B h'
theorem Known.of_old {w0 : World} {K : List Nat} {L : HL} {B : HV → Prop} (hb : B (oldv w0 K)) (m : Mono B) : Known w0 K L B := fun h e => by
  refine m _ _ (fun b o ho => ?_) hb
  unfold oldv at ho
  split at ho
  · cases ho
  · rename_i hk
    have hlt : b < w0.heap.size := (Array.getElem?_eq_some_iff.1 ho).1
    rw [e.2 b hlt hk]; exact ho
/-- The view that some blocks are by themselves. -/
def fv (F : HL) : HV := fun b => (F.find? (fun x => x.1 == b)).map (·.2)
theorem Known.of_frag {w0 : World} {K : List Nat} {L F : HL} {B : HV → Prop} (hb : B (fv F)) (m : Mono B) (s : ∀ x ∈ F, x ∈ L) : Known w0 K L B := fun h e => by
  refine m _ _ (fun b o ho => ?_) hb
  unfold fv at ho
  obtain ⟨x, hx, rfl⟩ := Option.map_eq_some_iff.1 ho
  have h1 := List.mem_of_find?_eq_some hx
  have h2 : x.1 = b := by simpa using List.find?_some hx
  rw [← h2]; exact e.1 x (s x h1)
theorem Mono.cell (a : Addr) (v : Value) : Mono (fun h => cellv h a = some v) := fun _ _ s hc => cellv_mono s hc
theorem Mono.row (b off : Nat) (vs : List Value) : Mono (fun h => rowv h b off vs) := fun _ _ s hc => rowv_mono s hc
theorem Mono.sl {α : Type} (d : Kd α) (by_ : Nat) (xs : List α) (a : Option Addr) (cap : Nat) : Mono (fun h => SlA d by_ h xs a cap) := fun _ _ s hc => hc.mono s
theorem Mono.and {A B : HV → Prop} (a : Mono A) (b : Mono B) : Mono (fun h => A h ∧ B h) := fun h h' s ⟨x, y⟩ => ⟨a h h' s x, b h h' s y⟩
theorem Mono.const (p : Prop) : Mono (fun _ => p) := fun _ _ _ h => h
theorem SlA.int {k : IntKind} {by_ : Nat} {h : HV} {xs : List Int} {a : Option Addr} {cap : Nat} (s : SlA (Kd.int k) by_ h xs a cap) (i : Nat) (hi : i < xs.length) :
    cellv h ⟨ablk a, aoff a + i * 1, none⟩ = some (.int k (xs[i]?.getD 0)) ∧ inK k (xs[i]?.getD 0) := by
  have hx : xs[i]? = some xs[i] := List.getElem?_eq_getElem hi
  obtain ⟨c, ⟨rfl, hk⟩, hr⟩ := s.row i _ hx
  rw [hx]
  exact ⟨by have := hr 0 _ rfl; exact this, hk⟩

/-- From a law's contract to its call. -/
theorem FC.law {P : Program} {f : Nat} {as : List Value} {A : HV → Prop} (hF : FC P f as [] A (fun v _ => v = .bool true)) {W : World}
    (hA : ∀ h : HV, (∀ b o, hv W b = some o → h b = some o) → A h) : Calls P f as.toArray W (fun e W' => e = .returned (.bool true) ∧ Below W.heap.size W W') := by
  refine (hF.2 W (by simp) (by simp [keys]) fun h hh => hA h fun b o hb => hh b o (by unfold oldv; simp [keys]; exact hb)).mono ?_
  rintro e W' ⟨v, L', rfl, ow, rfl⟩
  exact ⟨rfl, ow.below⟩
end Go.SX
/- Small facts on numbers of Go's kinds. -/
namespace Go.SX
open Go Go.RowKit
theorem inK_i64 {x : Int} : inK .i64 x ↔ -9223372036854775808 ≤ x ∧ x ≤ 9223372036854775807 := by
  simp [inK, Lit.wf, IntKind.min, IntKind.max, IntKind.signed, IntKind.bits]
theorem inK_i8 {x : Int} : inK .i8 x ↔ -128 ≤ x ∧ x ≤ 127 := by
  simp [inK, Lit.wf, IntKind.min, IntKind.max, IntKind.signed, IntKind.bits]
theorem wrap_of {k : IntKind} {x : Int} (h : inK k x) : k.wrap x = x := by
  cases k <;> simp [inK, Lit.wf, IntKind.min, IntKind.max, IntKind.signed, IntKind.bits] at h <;> simp [IntKind.wrap, IntKind.signed, IntKind.bits] <;> (try split) <;> omega
theorem wrap64_of {x : Int} (h1 : -9223372036854775808 ≤ x) (h2 : x ≤ 9223372036854775807) : IntKind.i64.wrap x = x := wrap_of (inK_i64.2 ⟨h1, h2⟩)
theorem wrapS {i m : Nat} (h : i < m) (hm : m ≤ 140737488355328) : IntKind.i64.wrap ((i : Int) + 1) = ((i + 1 : Nat) : Int) := by
  rw [wrap64_of (by omega) (by omega)]; omega
theorem intS {i m : Nat} (h : i < m) (hm : m ≤ 140737488355328) : Value.int .i64 (IntKind.i64.wrap ((i : Int) + 1)) = .int .i64 ((i + 1 : Nat) : Int) := by rw [wrapS h hm]
theorem SlA.small {α : Type} {d : Kd α} {by_ : Nat} {h : HV} {xs : List α} {a : Option Addr} {cap : Nat} (s : SlA d by_ h xs a cap) (hb : 0 < by_) : xs.length ≤ 140737488355328 := by
  have h1 := s.bytes
  have : xs.length * 1 ≤ xs.length * by_ := Nat.mul_le_mul_left _ hb
  omega
theorem pdt {p : Prop} (h : p) : pd p = true := pd_true.2 h
theorem pdf {p : Prop} (h : ¬ p) : pd p = false := pd_false.2 h
end Go.SX
/- Regions whose order is open: operations that only read are taken first; those of ds (which write what others read) come up behind all that is taken. -/
namespace Go.SX
open Go Go.RowKit

section
variable {P : Program} {ops : Array Oper} {Q : Exit → Act → World → Prop} {md : Region.Mode} {S : World → Prop} {ds : List Nat}

/-- Operation d waits for operation i, by a chain of at most so many edges. -/
def waitsB (md : Region.Mode) (ops : Array Oper) (i : Nat) : Nat → Nat → Bool
  | 0, _ => false
  | fuel + 1, d => match ops[d]? with
    | some o => o.after.any fun e => Region.binds md e && (e.on == i || waitsB md ops i fuel e.on)
    | none => false
/-- What is listed is closed under the edges. -/
def shutB (md : Region.Mode) (ops : Array Oper) (listed : Array Bool) : Bool :=
  (List.range ops.size).all fun j => !listed.getD j false || match ops[j]? with
    | some o => o.after.all fun e => !Region.binds md e || listed.getD e.on false
    | none => true
def Shut (md : Region.Mode) (ops : Array Oper) (listed : Array Bool) : Prop :=
  ∀ j oj, ops[j]? = some oj → listed.getD j false = true → ∀ e ∈ oj.after, Region.binds md e = true → listed.getD e.on false = true
theorem shutB_spec {listed : Array Bool} (h : shutB md ops listed = true) : Shut md ops listed := by
  intro j oj hj hl e he hb
  have hlt : j < ops.size := (Array.getElem?_eq_some_iff.1 hj).1
  have h1 := List.all_eq_true.1 h j (List.mem_range.2 hlt)
  simp only [hl, hj, Bool.not_true, Bool.false_or] at h1
  have h2 := Array.all_eq_true_iff_forall_mem.1 h1 e he
  simpa [hb] using h2
theorem Shut.set {listed : Array Bool} {i : Nat} (h : Shut md ops listed) (hi : i ∈ Region.ready md ops listed) : Shut md ops (listed.setIfInBounds i true) := by
  obtain ⟨_, oi, hoi, hall⟩ := mem_ready.1 hi
  intro j oj hj hl e he hb
  by_cases hij : i = j
  · subst hij
    have : oj = oi := Option.some.inj (hj.symm.trans hoi)
    subst this
    exact getD_set_true (hall e he hb)
  · rw [getD_set_ne false hij] at hl
    exact getD_set_true (h j oj hj hl e he hb)
theorem waits_listed {listed : Array Bool} {i : Nat} (hc : Shut md ops listed) : ∀ (fuel d : Nat), waitsB md ops i fuel d = true → listed.getD d false = true → listed.getD i false = true
  | 0, _, h, _ => by simp [waitsB] at h
  | fuel + 1, d, h, hl => by
    unfold waitsB at h
    cases ho : ops[d]? with
    | none => rw [ho] at h; simp at h
    | some o =>
      rw [ho] at h
      obtain ⟨e, he, h1⟩ := Array.any_eq_true'.1 h
      simp only [Bool.and_eq_true, Bool.or_eq_true, beq_iff_eq] at h1
      have hle := hc d o ho hl e he h1.1
      rcases h1.2 with h2 | h2
      · rw [← h2]; exact hle
      · exact waits_listed hc fuel e.on h2 hle
theorem both_listed {listed : Array Bool} {i : Nat} (h0 : listed.getD i true = false) (h1 : listed.getD i false = true) : False := by
  rcases Nat.lt_or_ge i listed.size with h' | h'
  · simp [h'] at h0 h1; rw [h0] at h1; cases h1
  · simp [Array.getElem?_eq_none h'] at h0
theorem waits_not_ready {listed : Array Bool} {i d fuel : Nat} (hc : Shut md ops listed) (hr : waitsB md ops i fuel d = true) (hun : listed.getD i true = false) : d ∉ Region.ready md ops listed := by
  intro hd
  obtain ⟨_, o, ho, hall⟩ := mem_ready.1 hd
  cases fuel with
  | zero => simp [waitsB] at hr
  | succ n =>
    unfold waitsB at hr
    rw [ho] at hr
    obtain ⟨e, he, h1⟩ := Array.any_eq_true'.1 hr
    simp only [Bool.and_eq_true, Bool.or_eq_true, beq_iff_eq] at h1
    have hle := hall e he h1.1
    rcases h1.2 with h2 | h2
    · exact both_listed hun (h2 ▸ hle)
    · exact both_listed hun (waits_listed hc n e.on h2 hle)

/-- Whatever order is picked from here on; S holds behind every operation that is not one of ds. -/
def anyD (P : Program) (md : Region.Mode) (ops : Array Oper) (Q : Exit → Act → World → Prop) (S : World → Prop) (ds : List Nat) : Nat → Array Bool → Act → World → Prop
  | 0, listed, a, w => Region.ready md ops listed = [] ∧ Q .normal a w
  | fuel + 1, listed, a, w =>
    (Region.ready md ops listed = [] → Q .normal a w) ∧
    ∀ i ∈ Region.ready md ops listed, wpOp P ops Q i (fun a' w' => (i ∉ ds → S w → S w') ∧ anyD P md ops Q S ds fuel (listed.setIfInBounds i true) a' w') a w
theorem wpAny_of_anyD : ∀ (fuel : Nat) (listed : Array Bool) (a : Act) (w : World), anyD P md ops Q S ds fuel listed a w → wpAny P md ops Q fuel listed a w
  | 0, _, _, _, h => h
  | fuel + 1, _, _, _, h => ⟨h.1, fun i hi => wpOp_mono (fun a' w' h' => wpAny_of_anyD fuel _ a' w' h'.2) (h.2 i hi)⟩

theorem anyD_first {i : Nat} {oi : Oper} {v : Value} (hi : ops[i]? = some oi) (hsel : ∀ (j : Nat) (o : Oper) cs b, ops[j]? = some o → o.op ≠ .select cs b)
    (hQ : ∀ c a w, Q (.panic c) (a.put oi.dst v) w → Q (.panic c) a w) (n : Nat) :
    ∀ (fuel : Nat) (listed : Array Bool) (a : Act) (w : World),
      (∀ j oj, ops[j]? = some oj → j ≠ i → listed.getD j true = false → (∀ e ∈ oj.after, Region.binds md e = true → e.on ≠ i) → oi.apart ops oj = true) →
      Shut md ops listed → (∀ d ∈ ds, listed.getD d true = false → waitsB md ops i n d = true) →
      i ∈ Region.ready md ops listed → YieldsIf P ops S oi v a → S w →
      anyD P md ops Q S ds fuel (listed.setIfInBounds i true) (a.put oi.dst v) w → anyD P md ops Q S ds (fuel + 1) listed a w := by
  intro fuel
  induction fuel with
  | zero =>
    intro listed a w _ _ _ hr hy hS H
    refine ⟨fun h => (by rw [h] at hr; cases hr), fun j hj => ?_⟩
    by_cases hji : j = i
    · subst hji; exact hy.wpOp hi hS ⟨fun _ h => h, H⟩
    · have := ready_mono hj hji
      rw [H.1] at this
      cases this
  | succ fuel ih =>
    intro listed a w hfree hc hd hr hy hS H
    refine ⟨fun h => (by rw [h] at hr; cases hr), fun j hj => ?_⟩
    by_cases hji : j = i
    · subst hji; exact hy.wpOp hi hS ⟨fun _ h => h, H⟩
    · have h1 := H.2 j (ready_mono hj hji)
      obtain ⟨hjun, oj, hoj, hall⟩ := mem_ready.1 hj
      have hiun := (mem_ready.1 hr).1
      have hnot : ∀ e ∈ oj.after, Region.binds md e = true → e.on ≠ i := fun e he hb heq => both_listed hiun (heq ▸ hall e he hb)
      have hjd : j ∉ ds := fun hm => waits_not_ready hc (hd j hm hjun) hiun hj
      have h2 := wpOp_putIf hoj (hfree j oj hoj hji hjun hnot) (fun cs b => hsel i oi cs b hi) (fun cs b => hsel j oj cs b hoj) hQ hy h1
      have hfree' : ∀ k ok, ops[k]? = some ok → k ≠ i → (listed.setIfInBounds j true).getD k true = false →
          (∀ e ∈ ok.after, Region.binds md e = true → e.on ≠ i) → oi.apart ops ok = true := fun k ok hk hki hun hno => by
        refine hfree k ok hk hki ?_ hno
        by_cases hjk : j = k
        · subst hjk; exact hjun
        · rw [getD_set_ne true hjk] at hun; exact hun
      have hd' : ∀ d ∈ ds, (listed.setIfInBounds j true).getD d true = false → waitsB md ops i n d = true := fun d hm hun => by
        refine hd d hm ?_
        by_cases hjk : j = d
        · subst hjk; exact absurd hm hjd
        · rw [getD_set_ne true hjk] at hun; exact hun
      refine wpOp_mono (fun a' w' h3 => ⟨fun hn hs => h3.2.1 hn hs, ih (listed.setIfInBounds j true) a' w' hfree' (hc.set hj) hd' (ready_mono hr (Ne.symm hji)) h3.1 (h3.2.1 hjd hS) ?_⟩) h2
      rw [Array.setIfInBounds_comm _ _ hji]
      exact h3.2.2
end

/-! ### A plan: what is taken first, what comes up alone or beside others -/
inductive Pl where
  | done
  | q (i : Nat) (p : Pl)
  | e (i : Nat) (p : Pl)
  | b (l : List (Nat × Pl))
mutual
def Pl.chk (ops : Array Oper) (ds : List Nat) : Nat → Array Bool → Pl → Bool
  | _, listed, .done => (Region.ready .any ops listed).isEmpty
  | 0, _, _ => false
  | fuel + 1, listed, .q i p => (Region.ready .any ops listed).contains i && Region.free .any ops listed i && shutB .any ops listed &&
      (ds.all fun d => listed.getD d true || waitsB .any ops i ops.size d) && Pl.chk ops ds fuel (listed.setIfInBounds i true) p
  | fuel + 1, listed, .e i p => Region.ready .any ops listed == [i] && Pl.chk ops ds fuel (listed.setIfInBounds i true) p
  | fuel + 1, listed, .b l => Region.ready .any ops listed == l.map (·.1) && !l.isEmpty && Pl.chkAll ops ds fuel listed l
def Pl.chkAll (ops : Array Oper) (ds : List Nat) : Nat → Array Bool → List (Nat × Pl) → Bool
  | _, _, [] => true
  | fuel, listed, x :: l => Pl.chk ops ds fuel (listed.setIfInBounds x.1 true) x.2 && Pl.chkAll ops ds fuel listed l
end
theorem Pl.chkAll_mem {ops : Array Oper} {ds : List Nat} {fuel : Nat} {listed : Array Bool} : ∀ {l : List (Nat × Pl)}, Pl.chkAll ops ds fuel listed l = true → ∀ x ∈ l, x.2.chk ops ds fuel (listed.setIfInBounds x.1 true) = true
  | x :: l, h, y, hy => by
    unfold Pl.chkAll at h
    simp only [Bool.and_eq_true] at h
    rcases List.mem_cons.1 hy with rfl | hy
    · exact h.1
    · exact Pl.chkAll_mem h.2 y hy

/-- Those entries that a mask keeps; what the mask does not reach is kept. -/
def sel : List Bool → HL → HL
  | true :: m, x :: l => x :: sel m l
  | false :: m, _ :: l => sel m l
  | _, l => l
theorem sel_sub : ∀ (m : List Bool) (l : HL), (sel m l).Sublist l
  | [], l => by cases l <;> exact List.Sublist.refl _
  | true :: m, [] => List.Sublist.refl _
  | false :: m, [] => List.Sublist.refl _
  | true :: m, x :: l => (sel_sub m l).cons_cons x
  | false :: m, x :: l => (sel_sub m l).cons x

section
variable {P : Program} {Γ : Env P} {n : FrN} {w0 : World} {K : List Nat} {Q : Exit → Fr → HL → Prop} {ρ : Fr} {L Lb : HL} {ops : List Oper} {o : Oper} {ds : List Nat} {p : Pl} {i : Nat} {lv : Bool}

structure XP {P : Program} (_Γ : Env P) (n : FrN) (w0 : World) (K : List Nat) (ops : List Oper) (Q : Exit → Fr → HL → Prop) (Lb : HL) (ds : List Nat) (lv : Bool) (p : Pl) (ρ : Fr) (L : HL) : Prop where
  out : ∀ w, Own w0 K L w → (lv = true → Own w0 K Lb w) → ∀ fuel listed, p.chk ops.toArray ds fuel listed = true → Region.noSelect ops.toArray = true →
    anyD P .any ops.toArray (NoPanic (lift n w0 K Q)) (fun w => Own w0 K Lb w) ds fuel listed (mkA n ρ) w

theorem XP.done (h : XQ Q .normal ρ L) : XP Γ n w0 K ops Q Lb ds lv .done ρ L := by
  refine ⟨fun w ow _ fuel listed hc _ => ?_⟩
  have hr : Region.ready .any ops.toArray listed = [] := by cases fuel <;> simpa [Pl.chk] using hc
  have hq : NoPanic (lift n w0 K Q) .normal (mkA n ρ) w := ⟨by simp, ρ, L, rfl, ow, h.out⟩
  cases fuel with
  | zero => exact ⟨hr, hq⟩
  | succ k => exact ⟨fun _ => hq, by rw [hr]; simp⟩

theorem XP.quiet {v : Value} (ho : ops[i]? = some o)
    (hy : YieldsIf P ops.toArray (fun w => Own w0 K Lb w) o v (mkA n ρ)) (h : XP Γ n w0 K ops Q Lb ds true p (updO ρ o.dst v) L) : XP Γ n w0 K ops Q Lb ds true (.q i p) ρ L := by
  refine ⟨fun w ow ob' fuel listed hc hs => ?_⟩
  have ob := ob' rfl
  cases fuel with
  | zero => simp [Pl.chk] at hc
  | succ k =>
    simp only [Pl.chk, Bool.and_eq_true] at hc
    obtain ⟨⟨⟨⟨h1, h2⟩, h3⟩, h4⟩, h5⟩ := hc
    have hoi : ops.toArray[i]? = some o := by simpa using ho
    refine anyD_first hoi (Region.noSelect_spec hs) (fun _ _ _ h => h.elim) ops.toArray.size k listed (mkA n ρ) w (Region.free_spec hoi h2) (shutB_spec h3) ?_ (by simpa using h1) hy ob ?_
    · intro d hd hun
      have := List.all_eq_true.1 h4 d hd
      simpa [hun] using this
    · rw [mkA_put]; exact h.out w ow ob' k _ h5 hs

theorem XP.q1 {v : Value} (ho : ops[i]? = some o) (hg : gval n ρ ops o.guard = some true)
    (hr : ∀ w, Own w0 K Lb w → (execOp (ev n ρ) o).run P w = .ok (.value v) w) (h : XP Γ n w0 K ops Q Lb ds true p (updO ρ o.dst v) L) : XP Γ n w0 K ops Q Lb ds true (.q i p) ρ L :=
  XP.quiet ho (.inl ⟨gval_spec hg, fun w ow => by rw [mkA_eval]; exact hr w ow⟩) h
theorem XP.p1 {d : Nat} {op : Op} {ty : Nat} {pos : String} {af : Array Edge} {g : Option (Nat × Bool)} {v : Value} (ho : ops[i]? = some { dst := some d, op := op, type := ty, pos := pos, after := af, guard := g })
    (hg : gval n ρ ops g = some true) (hv : pval Γ n ρ op = some v) (h : XP Γ n w0 K ops Q Lb ds true p (upd ρ d v) L) : XP Γ n w0 K ops Q Lb ds true (.q i p) ρ L :=
  XP.q1 ho hg (fun w _ => pval_run hv w) h
theorem XP.p0 {d : Nat} {op : Op} {ty : Nat} {pos : String} {af : Array Edge} {g : Option (Nat × Bool)} (ho : ops[i]? = some { dst := some d, op := op, type := ty, pos := pos, after := af, guard := g })
    (hg : gval n ρ ops g = some false) (h : XP Γ n w0 K ops Q Lb ds true p (upd ρ d undef) L) : XP Γ n w0 K ops Q Lb ds true (.q i p) ρ L :=
  XP.quiet ho (.inr ⟨gval_spec hg, rfl⟩) h
theorem XP.load {d : Nat} {t ty b off : Nat} {x : Operand} {pos : String} {af : Array Edge} {g : Option (Nat × Bool)} {r : TR} {v : Value} (ho : ops[i]? = some { dst := some d, op := .load t x, type := ty, pos := pos, after := af, guard := g })
    (hg : gval n ρ ops g = some true) (ht : Γ.get t = some r) (hk : aggK r.k = 1) (hx : ev n ρ x = .pointer (some ⟨b, off, none⟩))
    (hc : Known w0 K Lb (fun h => cellv h ⟨b, off, none⟩ = some v)) (h : XP Γ n w0 K ops Q Lb ds true p (upd ρ d v) L) : XP Γ n w0 K ops Q Lb ds true (.q i p) ρ L :=
  XP.q1 ho hg (fun w ow => by
    refine run_value ?_
    simp only [Instr.loadAt, hx, Instr.sureAddr]
    show (loadVar t ⟨b, off, none⟩).run P w = _
    exact load_run (Γ.is ht) ((tk_agg (Γ.is ht)).trans (by rw [← hk]; cases r.k <;> rfl)) (hc.at ow)) h
theorem XP.loadN {d : Nat} {t ty b off : Nat} {x : Operand} {pos : String} {af : Array Edge} {g : Option (Nat × Bool)} {r : TR} {vs : List Value} (ho : ops[i]? = some { dst := some d, op := .load t x, type := ty, pos := pos, after := af, guard := g })
    (hg : gval n ρ ops g = some true) (ht : Γ.get t = some r) (hk : aggK r.k = 2) (hx : ev n ρ x = .pointer (some ⟨b, off, none⟩)) (hl : vs.length = r.sz)
    (hc : Known w0 K Lb (fun h => rowv h b off vs)) (h : XP Γ n w0 K ops Q Lb ds true p (upd ρ d (.agg ⟨vs⟩)) L) : XP Γ n w0 K ops Q Lb ds true (.q i p) ρ L :=
  XP.q1 ho hg (fun w ow => by
    refine run_value ?_
    simp only [Instr.loadAt, hx, Instr.sureAddr]
    show (loadVar t ⟨b, off, none⟩).run P w = _
    exact loadN_run (Γ.is ht) ((tk_agg (Γ.is ht)).trans (by rw [← hk]; cases r.k <;> rfl)) hl (hc.at ow)) h
theorem XP.loadO {d : Nat} {t ty j b off te : Nat} {fz : Nat × Nat} {x : Operand} {pos : String} {af : Array Edge} {g : Option (Nat × Bool)} {r : TR} {cs vs : List Value} (ho : ops[i]? = some { dst := some d, op := .load t x, type := ty, pos := pos, after := af, guard := g })
    (hg : gval n ρ ops g = some true) (ht : Γ.get t = some r) (hk : aggK r.k = 2) (hx : ev n ρ x = .pointer (some ⟨b, off, none⟩)) (hi : Lb[j]? = some (b, .cells ⟨cs⟩ te fz)) (hc : grab cs off r.sz = some vs)
    (h : XP Γ n w0 K ops Q Lb ds true p (upd ρ d (.agg ⟨vs⟩)) L) : XP Γ n w0 K ops Q Lb ds true (.q i p) ρ L :=
  XP.loadN ho hg ht hk hx (grab_eq hc).2 (own_grab hi hc) h

theorem XP.step {N : Fr → HL → Prop} {J : Act → World → Prop} {Q' : Exit → Act → World → Prop} (ho : ops.toArray[i]? = some o) (h : XOp Γ n w0 K ops o N ρ L) (hJ : ∀ ρ' L' w', N ρ' L' → Own w0 K L' w' → J (mkA n ρ') w')
    (w : World) (ow : Own w0 K L w) : wpOp P ops.toArray Q' i J (mkA n ρ) w := by
  have := h.out Q' w ow
  unfold wpOp
  simp only [ho]
  split
  · rename_i hw
    rw [if_pos hw] at this
    refine .inl (Oper.wp_mono (fun a w ⟨ρ', L', ha, ho, hk⟩ => ?_) this)
    subst ha; exact hJ _ _ _ hk ho
  · rename_i hw
    rw [if_neg hw] at this
    rw [mkA_put]; exact hJ _ _ _ this ow
/-- An operation that comes up: either nothing of what is taken first is lost by it, or it is one of ds: then nothing is taken first behind it. -/
structure XE {P : Program} (_Γ : Env P) (n : FrN) (w0 : World) (K : List Nat) (ops : List Oper) (Q : Exit → Fr → HL → Prop) (Lb : HL) (ds : List Nat) (lv : Bool) (i : Nat) (p : Pl) (ρ : Fr) (L : HL) : Prop where
  out : ∃ o, ops[i]? = some o ∧ (XOp _Γ n w0 K ops o (fun ρ' L' => (∀ x ∈ Lb, x ∈ L') ∧ XP _Γ n w0 K ops Q Lb ds lv p ρ' L') ρ L ∨
    ds.contains i = true ∧ XOp _Γ n w0 K ops o (fun ρ' L' => XP _Γ n w0 K ops Q Lb ds false p ρ' L') ρ L)
theorem XE.e (ho : ops[i]? = some o) (h : XOp Γ n w0 K ops o (fun ρ' L' => (∀ x ∈ Lb, x ∈ L') ∧ XP Γ n w0 K ops Q Lb ds lv p ρ' L') ρ L) : XE Γ n w0 K ops Q Lb ds lv i p ρ L := ⟨o, ho, .inl h⟩
theorem XE.d (ho : ops[i]? = some o) (hd : ds.contains i = true) (h : XOp Γ n w0 K ops o (fun ρ' L' => XP Γ n w0 K ops Q Lb ds false p ρ' L') ρ L) : XE Γ n w0 K ops Q Lb ds lv i p ρ L := ⟨o, ho, .inr ⟨hd, h⟩⟩
theorem XE.any (h : XE Γ n w0 K ops Q Lb ds lv i p ρ L) {w : World} (ow : Own w0 K L w) (ob : lv = true → Own w0 K Lb w) {k : Nat} {listed : Array Bool}
    (hc : Pl.chk ops.toArray ds k (listed.setIfInBounds i true) p = true) (hs : Region.noSelect ops.toArray = true) :
    wpOp P ops.toArray (NoPanic (lift n w0 K Q)) i (fun a' w' => (i ∉ ds → Own w0 K Lb w → Own w0 K Lb w') ∧
      anyD P .any ops.toArray (NoPanic (lift n w0 K Q)) (fun w => Own w0 K Lb w) ds k (listed.setIfInBounds i true) a' w') (mkA n ρ) w := by
  obtain ⟨o, ho, h⟩ := h.out
  have hoi : ops.toArray[i]? = some o := by simpa using ho
  rcases h with h | ⟨hd, h⟩
  · exact XP.step hoi h (fun ρ' L' w' hN ow' => ⟨fun _ hS => ow'.sub hN.1 hS.nodup, hN.2.out w' ow' (fun hl => ow'.sub hN.1 (ob hl).nodup) k _ hc hs⟩) w ow
  · exact XP.step hoi h (fun ρ' L' w' hN ow' => ⟨fun hn _ => absurd (by simpa using hd) hn, hN.out w' ow' (by simp) k _ hc hs⟩) w ow
/-- The one operation that may come up now. -/
theorem XP.e (h : XE Γ n w0 K ops Q Lb ds lv i p ρ L) : XP Γ n w0 K ops Q Lb ds lv (.e i p) ρ L := by
  refine ⟨fun w ow ob fuel listed hc hs => ?_⟩
  cases fuel with
  | zero => simp [Pl.chk] at hc
  | succ k =>
    simp only [Pl.chk, Bool.and_eq_true, beq_iff_eq] at hc
    refine ⟨fun h0 => (by rw [hc.1] at h0; cases h0), fun j hj => ?_⟩
    rw [hc.1] at hj
    obtain rfl : j = i := by simpa using hj
    exact h.any ow ob hc.2 hs
theorem sel_in {m : List Bool} {l : HL} {x : Nat × Obj} (h : x ∈ sel m l) : x ∈ l := (sel_sub m l).subset h
theorem XP.keep (hk : ∀ x ∈ Lb, x ∈ L) (h : XP Γ n w0 K ops Q Lb ds lv p ρ L) : (∀ x ∈ Lb, x ∈ L) ∧ XP Γ n w0 K ops Q Lb ds lv p ρ L := ⟨hk, h⟩
/-- Any of several may come up. -/
structure XB {P : Program} (_Γ : Env P) (n : FrN) (w0 : World) (K : List Nat) (ops : List Oper) (Q : Exit → Fr → HL → Prop) (Lb : HL) (ds : List Nat) (lv : Bool) (l : List (Nat × Pl)) (ρ : Fr) (L : HL) : Prop where
  out : ∀ x ∈ l, XE _Γ n w0 K ops Q Lb ds lv x.1 x.2 ρ L
theorem XB.nil : XB Γ n w0 K ops Q Lb ds lv [] ρ L := ⟨by simp⟩
theorem XB.cons {l : List (Nat × Pl)} (h : XE Γ n w0 K ops Q Lb ds lv i p ρ L) (t : XB Γ n w0 K ops Q Lb ds lv l ρ L) : XB Γ n w0 K ops Q Lb ds lv ((i, p) :: l) ρ L :=
  ⟨fun x hx => by rcases List.mem_cons.1 hx with rfl | hx; exact h; exact t.out x hx⟩
theorem XP.b {l : List (Nat × Pl)} (h : XB Γ n w0 K ops Q Lb ds lv l ρ L) : XP Γ n w0 K ops Q Lb ds lv (.b l) ρ L := by
  refine ⟨fun w ow ob fuel listed hc hs => ?_⟩
  cases fuel with
  | zero => simp [Pl.chk] at hc
  | succ k =>
    simp only [Pl.chk, Bool.and_eq_true, beq_iff_eq] at hc
    obtain ⟨⟨h1, h2⟩, h3⟩ := hc
    refine ⟨fun h0 => (by rw [h1] at h0; cases l <;> simp at h0 h2), fun j hj => ?_⟩
    rw [h1] at hj
    obtain ⟨x, hx, rfl⟩ := List.mem_map.1 hj
    exact (h.out x hx).any ow ob (Pl.chkAll_mem h3 x hx) hs
/-- A guard that is not known. -/
theorem XP.split {j d : Nat} {want b : Bool} {oj : Oper} (ho : ops[i]? = some o) (hg : o.guard = some (j, want)) (hj : ops[j]? = some oj) (hd : oj.dst = some d) (hb : ρ d = .bool b)
    (ht : b = true → XP Γ n w0 K ops Q Lb ds lv (.q i p) (upd ρ d (.bool true)) L) (hf : b = false → XP Γ n w0 K ops Q Lb ds lv (.q i p) (upd ρ d (.bool false)) L) :
    XP Γ n w0 K ops Q Lb ds lv (.q i p) ρ L := by
  cases b with
  | true => have := ht rfl; rw [upd_same ρ d _ hb] at this; exact this
  | false => have := hf rfl; rw [upd_same ρ d _ hb] at this; exact this

theorem XC.regionL {id : Nat} (mixed : P.follows .mixedOrders = true) (p : Pl) (ds : List Nat) (Lb : HL) (hc : (p.chk ops.toArray ds ops.length (Array.replicate ops.length false) && Region.noSelect ops.toArray) = true)
    (hs : Lb.Sublist L) (h : XP Γ n w0 K ops Q Lb ds true p ρ L) : XC P n w0 K (.region id ops.toArray true) Q ρ L := by
  simp only [Bool.and_eq_true] at hc
  refine ⟨fun w ow => ?_⟩
  have ow' : Own w0 K L { w with drawn := w.drawn + 1 } := ow.drew
  refine wp_region_noPanic (wp_region_any mixed (wpAny_of_anyD (S := fun w => Own w0 K Lb w) (ds := ds) _ _ _ _ ?_))
  have := h.out _ ow' (fun _ => ow'.sub (fun x hx => hs.subset hx) ((hs.map _).nodup ow'.nodup)) ops.length _ hc.1 hc.2
  simpa using this
theorem XC.regionD {id : Nat} (mixed : P.follows .mixedOrders = true) (p : Pl) (ds : List Nat) (m : List Bool) (hc : (p.chk ops.toArray ds ops.length (Array.replicate ops.length false) && Region.noSelect ops.toArray) = true)
    (h : XP Γ n w0 K ops Q (sel m L) ds true p ρ L) : XC P n w0 K (.region id ops.toArray true) Q ρ L := by
  simp only [Bool.and_eq_true] at hc
  refine ⟨fun w ow => ?_⟩
  have ow' : Own w0 K L { w with drawn := w.drawn + 1 } := ow.drew
  refine wp_region_noPanic (wp_region_any mixed (wpAny_of_anyD (S := fun w => Own w0 K (sel m L) w) (ds := ds) _ _ _ _ ?_))
  have := h.out _ ow' (fun _ => ow'.sub (fun x hx => (sel_sub m L).subset hx) (((sel_sub m L).map _).nodup ow'.nodup)) ops.length _ hc.1 hc.2
  simpa using this
end
end Go.SX
/- What is read, at places that are reckoned; slices; blocks that grow. -/
namespace Go.SX
open Go Go.RowKit

/-- An operation that comes to a value and leaves the world alone, where L is held. -/
structure PR {P : Program} (_Γ : Env P) (n : FrN) (w0 : World) (K : List Nat) (ρ : Fr) (L : HL) (op : Op) (v : Value) : Prop where
  out : ∀ o : Oper, o.op = op → ∀ w, Own w0 K L w → (execOp (ev n ρ) o).run P w = .ok (.value v) w

section
variable {P : Program} {Γ : Env P} {n : FrN} {w0 : World} {K : List Nat} {Q : Exit → Fr → HL → Prop} {ρ : Fr} {L Lb : HL} {ops : List Oper} {o : Oper} {ds : List Nat} {p : Pl} {i : Nat} {lv : Bool} {N : Fr → HL → Prop}

theorem XOp.pr {d : Nat} {op : Op} {ty : Nat} {pos : String} {af : Array Edge} {g : Option (Nat × Bool)} {v : Value} (hg : gval n ρ ops g = some true) (hr : PR Γ n w0 K ρ L op v) (h : N (upd ρ d v) L) :
    XOp Γ n w0 K ops { dst := some d, op := op, type := ty, pos := pos, after := af, guard := g } N ρ L :=
  XOp.val hg fun w ow => ⟨v, w, L, hr.out _ rfl w ow, ow, h⟩
theorem XP.pr {d : Nat} {op : Op} {ty : Nat} {pos : String} {af : Array Edge} {g : Option (Nat × Bool)} {v : Value} (ho : ops[i]? = some { dst := some d, op := op, type := ty, pos := pos, after := af, guard := g })
    (hg : gval n ρ ops g = some true) (hr : PR Γ n w0 K ρ Lb op v) (h : XP Γ n w0 K ops Q Lb ds true p (upd ρ d v) L) : XP Γ n w0 K ops Q Lb ds true (.q i p) ρ L :=
  XP.q1 ho hg (fun w ow => hr.out _ rfl w ow) h

theorem PR.of {op : Op} {v : Value} (f : ∀ w, Own w0 K L w → (execOp (ev n ρ) { (default : Oper) with op := op }).run P w = .ok (.value v) w) (hl : ∀ o : Oper, o.op = op → execOp (ev n ρ) o = execOp (ev n ρ) { (default : Oper) with op := op }) : PR Γ n w0 K ρ L op v :=
  ⟨fun o ho w ow => by rw [hl o ho]; exact f w ow⟩

theorem PR.load {t b off : Nat} {x : Operand} {r : TR} {v : Value} (ht : Γ.get t = some r) (hk : aggK r.k = 1) (hx : ev n ρ x = .pointer (some ⟨b, off, none⟩))
    (hc : Known w0 K L (fun h => cellv h ⟨b, off, none⟩ = some v)) : PR Γ n w0 K ρ L (.load t x) v := ⟨fun o ho w ow => by
  unfold execOp; rw [ho]
  refine run_value ?_
  rw [hx]
  show (loadVar t ⟨b, off, none⟩).run P w = _
  exact load_run (Γ.is ht) ((tk_agg (Γ.is ht)).trans (by rw [← hk]; cases r.k <;> rfl)) (hc.at ow)⟩
theorem PR.loadN {t b off : Nat} {x : Operand} {r : TR} {vs : List Value} (ht : Γ.get t = some r) (hk : aggK r.k = 2) (hx : ev n ρ x = .pointer (some ⟨b, off, none⟩)) (hl : vs.length = r.sz)
    (hc : Known w0 K L (fun h => rowv h b off vs)) : PR Γ n w0 K ρ L (.load t x) (.agg ⟨vs⟩) := ⟨fun o ho w ow => by
  unfold execOp; rw [ho]
  refine run_value ?_
  rw [hx]
  show (loadVar t ⟨b, off, none⟩).run P w = _
  exact loadN_run (Γ.is ht) ((tk_agg (Γ.is ht)).trans (by rw [← hk]; cases r.k <;> rfl)) hl (hc.at ow)⟩

/-- A slice's element's place. -/
theorem PR.idx {t e b off l c : Nat} {x ix : Operand} {r re : TR} {k : IntKind} {j : Int} (ht : Γ.get t = some r) (hk : r.k = .slice e) (he : Γ.get e = some re)
    (hx : ev n ρ x = .slice (some ⟨b, off, none⟩) l c) (hi : ev n ρ ix = .int k j) (hr : 0 ≤ j ∧ j < l) : PR Γ n w0 K ρ L (.indexAddr t x ix) (.pointer (some ⟨b, off + j.toNat * re.sz, none⟩)) := ⟨fun o ho w ow => by
  unfold execOp; rw [ho]
  refine run_value ?_
  rw [hx, hi]
  simp only [Instr.indexAt, asIntOf]
  show (((pure _ : Sem (IntKind × Int)) >>= _) : Sem Value).run P w = _
  have h1 := underlying_run (tk_slice (Γ.is ht) hk) w
  have h2 := size_run (Γ.is he) w
  simp only [bind, Sem.bind, pure, run_bind, h1, h2, hr, if_true, and_self, Sem.run, add_off]⟩
theorem PR.idxA {t e l c : Nat} {a : Option Addr} {x ix : Operand} {r re : TR} {k : IntKind} {j : Int} (ht : Γ.get t = some r) (hk : r.k = .slice e) (he : Γ.get e = some re)
    (hx : ev n ρ x = .slice a l c) (hi : ev n ρ ix = .int k j) (hr : 0 ≤ j ∧ j < l) (ha : 0 < l → a = some ⟨ablk a, aoff a, none⟩) :
    PR Γ n w0 K ρ L (.indexAddr t x ix) (.pointer (some ⟨ablk a, aoff a + j.toNat * re.sz, none⟩)) :=
  PR.idx ht hk he (by rw [hx, ← ha (by omega)]) hi hr
theorem PR.quo {t ty : Nat} {x y : Operand} {k : IntKind} {a b : Int} (hx : ev n ρ x = .int k a) (hy : ev n ρ y = .int k b) (hr : b ≠ 0) : PR Γ n w0 K ρ L (.binOp .quo t x y ty) (.int k (k.wrap (a.tdiv b))) := ⟨fun o ho w ow => by
  unfold execOp; rw [ho]
  refine run_value ?_
  rw [hx, hy, eqGuard_at_int]
  show (binOp .quo t (.int k a) (.int k b)).run P w = _
  simp [binOp, Op.intDiv, hr, pure]⟩
theorem PR.rem {t ty : Nat} {x y : Operand} {k : IntKind} {a b : Int} (hx : ev n ρ x = .int k a) (hy : ev n ρ y = .int k b) (hr : b ≠ 0) : PR Γ n w0 K ρ L (.binOp .rem t x y ty) (.int k (a.tmod b)) := ⟨fun o ho w ow => by
  unfold execOp; rw [ho]
  refine run_value ?_
  rw [hx, hy, eqGuard_at_int]
  show (binOp .rem t (.int k a) (.int k b)).run P w = _
  simp [binOp, Op.intDiv, hr, pure]⟩
/-- A byte of a string. -/
def byteAt (s : ByteArray) (i : Nat) : Int := (((s.data.toList[i]?).getD 0).toNat : Int)
/-! ### Slicing -/
theorem bound_run {v : Value} {k : IntKind} {j : Int} {y : Nat} {c : BoundsCode} (hv : v = .int k j) (h : 0 ≤ j ∧ j ≤ y) (w : World) : (Instr.sliceBound v y c).run P w = .ok j.toNat w := by
  subst hv
  simp only [Instr.sliceBound, asIntOf]
  show (((pure _ : Sem (IntKind × Int)) >>= _) : Sem Nat).run P w = _
  simp only [bind, Sem.bind, pure, h, and_self, if_true, Sem.run]
theorem bounds_run {sl : Bool} {len cap lo hi : Nat} {vl vh : Option Value}
    (hl : match vl with | none => lo = 0 | some y => ∃ k j, y = .int k j ∧ 0 ≤ j ∧ j.toNat = lo)
    (hh : match vh with | none => hi = len | some y => ∃ k j, y = .int k j ∧ 0 ≤ j ∧ j.toNat = hi) (hb : lo ≤ hi ∧ hi ≤ cap) (w : World) :
    (Instr.sliceBounds sl len cap vl vh none).run P w = .ok (lo, hi, cap) w := by
  cases vl with
  | none =>
    simp only at hl; subst hl
    cases vh with
    | none => simp only at hh; subst hh; rfl
    | some y =>
      obtain ⟨k, j, h3, h4, h5⟩ := hh
      show ((Instr.sliceBound y cap (if sl then .sliceAcap else .sliceAlen)) >>= fun h => pure (0, h, cap)).run P w = _
      rw [bind_run (bound_run h3 ⟨h4, by omega⟩ w), h5]; rfl
  | some x =>
    obtain ⟨k, j, h3, h4, h5⟩ := hl
    cases vh with
    | none =>
      simp only at hh; subst hh
      show ((Instr.sliceBound x hi .sliceB) >>= fun l => pure (l, hi, cap)).run P w = _
      rw [bind_run (bound_run h3 ⟨h4, by omega⟩ w), h5]; rfl
    | some y =>
      obtain ⟨k', j', h3', h4', h5'⟩ := hh
      show ((Instr.sliceBound y cap (if sl then .sliceAcap else .sliceAlen)) >>= fun h => (Instr.sliceBound x h .sliceB) >>= fun l => pure (l, h, cap)).run P w = _
      rw [bind_run (bound_run h3' ⟨h4', by omega⟩ w), h5', bind_run (bound_run h3 ⟨h4, by omega⟩ w), h5]; rfl
theorem optv {n : FrN} {ρ : Fr} {o : Option Operand} {d m : Nat} (h : match o with | none => m = d | some y => ∃ k j, ev n ρ y = .int k j ∧ 0 ≤ j ∧ j.toNat = m) :
    match o.map (ev n ρ) with | none => m = d | some y => ∃ k j, y = .int k j ∧ 0 ≤ j ∧ j.toNat = m := by cases o <;> exact h
/-- x[l:h], x[l:], x[:h], x[:] of a slice. -/
theorem PR.slice {t e l c lo hi : Nat} {a : Option Addr} {x : Operand} {ol oh : Option Operand} {r re : TR} (ht : Γ.get t = some r) (hk : r.k = .slice e) (he : Γ.get e = some re) (hx : ev n ρ x = .slice a l c)
    (hl : match ol with | none => lo = 0 | some y => ∃ k j, ev n ρ y = .int k j ∧ 0 ≤ j ∧ j.toNat = lo)
    (hh : match oh with | none => hi = l | some y => ∃ k j, ev n ρ y = .int k j ∧ 0 ≤ j ∧ j.toNat = hi) (hb : lo ≤ hi ∧ hi ≤ c) :
    PR Γ n w0 K ρ L (.slice t x ol oh none) (.slice (if c = lo then a else a.map (·.add (lo * re.sz))) (hi - lo) (c - lo)) := ⟨fun o ho w ow => by
  unfold execOp; rw [ho]
  refine run_value ?_
  rw [hx]
  have h1 := underlying_run (tk_slice (Γ.is ht) hk) w
  have h2 := size_run (Γ.is he) w
  have hbs := bounds_run (P := P) (sl := true) (optv hl) (optv hh) hb w
  simp only [Instr.sliceAt]
  rw [bind_run h1]
  simp only [Instr.slice, Option.map_none]
  rw [bind_run h1]
  simp only
  rw [bind_run hbs]
  simp only
  rw [bind_run h2]; rfl⟩
end
end Go.SX
/- Slices that a call makes and lets grow; stores at reckoned places. -/
namespace Go.SX
open Go Go.RowKit

/-- A slice of the call's own: its value, how many elements, their cells; F: the block that it has. -/
def OwnS (e sz : Nat) (v : Value) (m : Nat) (xs : List Value) (F : HL) : Prop :=
  xs.length = m * sz ∧ ((v = .slice none 0 0 ∧ m = 0 ∧ F = []) ∨
    ∃ g cap sp, v = .slice (some ⟨g, 0, none⟩) m cap ∧ F = [(g, .cells ⟨xs ++ sp⟩ e (0, 0))] ∧ m ≤ cap ∧ cap ≤ maxLen ∧ (xs ++ sp).length = cap * sz)
theorem OwnS.val {e sz : Nat} {v : Value} {m : Nat} {xs : List Value} {F : HL} (h : OwnS e sz v m xs F) : ∃ a c, v = .slice a m c := by
  rcases h.2 with ⟨rfl, rfl, _⟩ | ⟨g, cap, sp, rfl, _⟩
  · exact ⟨_, _, rfl⟩
  · exact ⟨_, _, rfl⟩
theorem OwnS.conv {e sz : Nat} {v : Value} {m m' : Nat} {xs xs' : List Value} {F : HL} (h : OwnS e sz v m xs F) (hm : m = m') (hx : xs = xs') : OwnS e sz v m' xs' F := by subst hm; subst hx; exact h
theorem OwnS.nil (e sz : Nat) : OwnS e sz (.slice none 0 0) 0 [] [] := ⟨by simp, .inl ⟨rfl, rfl, rfl⟩⟩

section
variable {P : Program} {Γ : Env P} {n : FrN} {w0 : World} {K : List Nat} {Q : Exit → Fr → HL → Prop} {ρ : Fr} {L R F : HL} {ops : List Oper} {N : Fr → HL → Prop}

theorem setRow_putB {w : World} {g : Nat} {cs : Array Value} {t : Nat} (hg : w.heap[g]? = some (.cells cs t (0, 0))) (cs' : Array Value) : w.setRow g cs' = putB w g (.cells cs' t (0, 0)) := by
  unfold World.setRow putB
  obtain ⟨hb, he⟩ := Array.getElem?_eq_some_iff.1 hg
  congr 1
  refine Array.ext (by simp) fun j h1 h2 => ?_
  rw [Array.getElem_modify]
  by_cases hj : g = j
  · subst hj; simp [he]
  · rw [if_neg hj, getElem_set_ne hj]

theorem Own.tail {x : Nat × Obj} {w : World} (o : Own w0 K (x :: L) w) : Own w0 K L w :=
  o.sub (fun y hy => List.mem_cons_of_mem _ hy) (List.nodup_cons.1 o.nodup).2
theorem Own.right {w : World} (o : Own w0 K (F ++ R) w) : Own w0 K R w := by
  refine o.sub (fun y hy => List.mem_append_right _ hy) ?_
  have := o.nodup
  unfold keys at this; rw [List.map_append, List.nodup_append] at this; exact this.2.1
theorem Own.new' {w : World} (o : Own w0 K L w) (ob : Obj) : Own w0 K ((w.heap.size, ob) :: L) (w.drew.alloc ob) := by
  have h1 : Own w0 K L w.drew := o.drew
  exact h1.new ob

theorem call_builtin {b : Builtin} {ts : Array Nat} {xs : Array Operand} {o : Oper} (ho : o.op = .call { callee := .builtin b, args := xs, argTypes := ts }) (w : World) :
    ∃ cs, (execOp (ev n ρ) o).run P w = (builtin b ts o.type cs (args n ρ xs).toArray).run P w := by
  unfold execOp; rw [ho]
  simp only [resolve, map_args]
  exact ⟨_, rfl⟩

/-- append(s, x..), x lying in a block that was made for it. -/
theorem XOp.append1 {d b k c te t e m : Nat} {fz : Nat × Nat} {ty : Nat} {s x : Operand} {pos : String} {af : Array Edge} {g : Option (Nat × Bool)} {r re : TR} {v : Value} {xs news : List Value}
    (hg : gval n ρ ops g = some true) (ht : Γ.get t = some r) (hk : r.k = .slice e) (he : Γ.get e = some re) (hs : ev n ρ s = v) (hx : ev n ρ x = .slice (some ⟨b, 0, none⟩) k c)
    (hown : OwnS e re.sz v m xs F) (hL : L = (b, .cells ⟨news⟩ te fz) :: (F ++ R)) (hl : news.length = k * re.sz) (h1 : news.all (·.oneCell') = true)
    (hz : (cellsL re.z).length = re.sz) (hsz : 0 < re.sz) (h63 : m + k ≤ maxLen) (hb : (m + k) * re.by_ ≤ 140737488355328) (hk0 : 0 < k)
    (h : ∀ v' F', OwnS e re.sz v' (m + k) (xs ++ news) F' → N (upd ρ d v') (F' ++ R)) :
    XOp Γ n w0 K ops { dst := some d, op := .call { callee := .builtin .append, args := #[s, x], argTypes := #[t, t] }, type := ty, pos := pos, after := af, guard := g } N ρ L := by
  refine XOp.val hg fun w ow => ?_
  subst hL
  have hbt := tk_slice (Γ.is ht) hk
  obtain ⟨i, hi, his, hib, hiz⟩ := (Γ.is he).i
  obtain ⟨cs, hrun⟩ := call_builtin (P := P) (n := n) (ρ := ρ) (b := .append) (ts := #[t, t]) (xs := #[s, x])
    (o := { dst := some d, op := .call { callee := .builtin .append, args := #[s, x], argTypes := #[t, t] }, type := ty, pos := pos, after := af, guard := g }) rfl w
  rw [hrun]
  have hargs : (args n ρ #[s, x]).toArray = #[v, .slice (some ⟨b, 0, none⟩) k c] := by simp [args, hs, hx]
  rw [hargs]
  have hblk := ow.has _ (List.mem_cons_self ..)
  have hnews : ∀ j u, news[j]? = some u → w.cell? ((⟨b, 0, none⟩ : Addr).add j) = some u := fun j u hj => by
    rw [add_off]; simp only at hblk; simp [World.cell?, hblk, hj]
  have hsm : m + k ≤ 9223372036854775807 := by simp only [maxLen] at h63; omega
  have hv : ∀ {v' w'}, (Builtin.append_ #[t, t] ty #[v, .slice (some ⟨b, 0, none⟩) k c]).run P w = .ok v' w' →
      (builtin .append #[t, t] ty cs #[v, .slice (some ⟨b, 0, none⟩) k c]).run P w = .ok (.value v') w' := fun h => run_value h
  have otl := ow.tail
  have orr := otl.right
  have hall : ∀ u ∈ news, u.oneCell' = true := fun u hu => List.all_eq_true.1 h1 u hu
  have grown : ∀ (old : Nat), old < m + k → OwnS e re.sz (.slice (some ⟨w.heap.size, 0, none⟩) (m + k) (grownCap w (m + k) old e)) (m + k) (xs ++ news)
      [(w.heap.size, .cells ⟨(xs ++ news) ++ (Builtin.zeroCells i.zero.get!.cells (grownCap w (m + k) old e - (m + k))).toList⟩ e (0, 0))] := by
    intro old ho
    have hge := grownCap_ge w (m + k) old e
    have hcm : grownCap w (m + k) old e ≤ maxLen := grownCap_le_maxLen w (m + k) old e h63
    have hlen : (xs ++ news).length = (m + k) * re.sz := by rw [List.length_append, hown.1, hl, Nat.add_mul]
    refine ⟨hlen, .inr ⟨_, _, _, rfl, rfl, hge, hcm, ?_⟩⟩
    rw [List.length_append, hlen, Array.length_toList, size_zeroCells, hiz]
    simp only [Option.get!_some, cellsL_eq, List.size_toArray, hz, ← Nat.add_mul]
    congr 1; omega
  rcases hown.2 with ⟨rfl, rfl, rfl⟩ | ⟨gb, cap, sp, rfl, rfl, hnc, hcm, hcs⟩
  · have hx0 : xs = [] := List.eq_nil_of_length_eq_zero (by simpa using hown.1)
    subst hx0
    have hr := run_append_nil (P := P) w t ty e i re.z hbt hi hiz ⟨b, 0, none⟩ k c news (by rw [hl, his]) hnews hk0 (by omega) (by rw [hib]; simp only [Nat.zero_add] at hb; omega)
    have hg0 := grown 0 (by omega)
    simp only [Nat.zero_add, List.nil_append] at hg0 ⊢ hr
    refine ⟨_, _, _, hv hr, ?_, h _ _ (by simpa using hg0)⟩
    have := orr.new' (.cells (news.toArray ++ Builtin.zeroCells re.z.cells (grownCap w k 0 e - k)) e (0, 0))
    have e1 : (news.toArray ++ Builtin.zeroCells re.z.cells (grownCap w k 0 e - k)) = ⟨news ++ (Builtin.zeroCells i.zero.get!.cells (grownCap w k 0 e - k)).toList⟩ := by
      refine Array.ext' ?_; simp [hiz]
    rw [e1] at this ⊢
    exact this
  · by_cases hroom : m + k ≤ cap
    · have hgb := otl.has _ (List.mem_append_left _ (List.mem_singleton.2 rfl))
      have hfit : m * i.size + news.length ≤ (Array.mk (xs ++ sp)).size := by
        rw [his, hl, List.size_toArray, hcs, ← Nat.add_mul]; exact Nat.mul_le_mul_right _ hroom
      have hr := run_append_room (P := P) w t ty e i hbt hi gb m cap ⟨xs ++ sp⟩ hgb ⟨b, 0, none⟩ k c news (by rw [hl, his]) hnews hall hroom hfit
      rw [setRow_putB hgb] at hr
      have hxl : xs.length = m * i.size := by rw [hown.1, his]
      have e1 : ((xs ++ sp).take (m * i.size) ++ news ++ (xs ++ sp).drop (m * i.size + news.length)) = (xs ++ news) ++ sp.drop news.length := by
        rw [← hxl, List.take_left, List.drop_append, List.drop_of_length_le (by omega)]
        simp
      rw [e1] at hr
      refine ⟨_, _, [(gb, .cells ⟨(xs ++ news) ++ sp.drop news.length⟩ e (0, 0))] ++ R, hv hr, ?_, h _ _ ⟨by rw [List.length_append, hown.1, hl, Nat.add_mul], .inr ⟨gb, cap, _, rfl, rfl, hroom, hcm, ?_⟩⟩⟩
      · exact otl.put (i := 0) (b := gb) (ob := .cells ⟨xs ++ sp⟩ e (0, 0)) rfl rfl
      · rw [← hcs]
        simp only [List.length_append, List.length_drop]
        rw [his] at hfit
        simp only [List.size_toArray, List.length_append] at hfit
        have := hown.1
        omega
    · have hgb := otl.has _ (List.mem_append_left _ (List.mem_singleton.2 rfl))
      have holds : ∀ j u, xs[j]? = some u → w.cell? ((⟨gb, 0, none⟩ : Addr).add j) = some u := fun j u hj => by
        rw [add_off]; simp only at hgb
        have hj' := (List.getElem?_eq_some_iff.1 hj).1
        simp [World.cell?, hgb, List.getElem?_append_left hj', hj]
      have hr := run_append_grow (P := P) w t ty e i re.z hbt hi hiz ⟨gb, 0, none⟩ m cap xs (by rw [hown.1, his]) holds ⟨b, 0, none⟩ k c news (by rw [hl, his]) hnews (by omega) (by omega) (growslice_fits (by omega) (by rw [hib]; exact hb))
      refine ⟨_, _, _, hv hr, ?_, h _ _ (grown cap (by omega))⟩
      have := orr.new' (.cells (xs.toArray ++ news.toArray ++ Builtin.zeroCells re.z.cells (grownCap w (m + k) cap e - (m + k))) e (0, 0))
      have e1 : (xs.toArray ++ news.toArray ++ Builtin.zeroCells re.z.cells (grownCap w (m + k) cap e - (m + k))) = ⟨(xs ++ news) ++ (Builtin.zeroCells i.zero.get!.cells (grownCap w (m + k) cap e - (m + k))).toList⟩ := by
        refine Array.ext' ?_; simp [hiz]
      rw [e1] at this ⊢
      exact this
end
end Go.SX
/- Composites that are built; slices that are made. -/
namespace Go.SX
open Go Go.RowKit

def fillL (place : Nat → Option (Nat × Nat)) : List Value → List (Nat × Value) → Option (List Value)
  | cells, [] => some cells
  | cells, (i, v) :: rest => match place i with
    | none => none
    | some (off, size) => match cellsO v with
      | some vs => match Nat.beq vs.length size && Nat.blt 0 size with
        | true => match lsetN cells off vs with
          | some c => fillL place c rest
          | none => none
        | false => none
      | none => none

theorem lsetN_fold : ∀ (vs : List Value) (cells cells' : List Value) (off k : Nat), lsetN cells (off + k) vs = some cells' →
    (vs.zipIdx k).foldl (fun (cs : Array Value) (x : Value × Nat) => cs.setIfInBounds (off + x.2) x.1) ⟨cells⟩ = ⟨cells'⟩ ∧ cells'.length = cells.length ∧ (vs ≠ [] → off + k + vs.length ≤ cells.length)
  | [], cells, cells', off, k, h => by cases h; exact ⟨rfl, rfl, fun h => absurd rfl h⟩
  | v :: vs, cells, cells', off, k, h => by
    unfold lsetN at h
    split at h
    · rename_i l' hl
      obtain ⟨rfl, ho⟩ := lset_eq hl
      have ih := lsetN_fold vs (cells.set (off + k) v) cells' off (k + 1) (by rw [show off + (k + 1) = off + k + 1 by omega]; exact h)
      refine ⟨?_, by rw [ih.2.1]; simp, fun _ => ?_⟩
      · rw [List.zipIdx_cons, List.foldl_cons]
        have e : (Array.mk cells).setIfInBounds (off + k) v = ⟨cells.set (off + k) v⟩ := by
          refine Array.ext' ?_; simp
        simp only
        rw [e]; exact ih.1
      · by_cases hv : vs = []
        · subst hv; simp; omega
        · have := ih.2.2 hv; simp at this ⊢; omega
    · cases h

theorem fillL_eq {place : Nat → Option (Nat × Nat)} : ∀ {parts : List (Nat × Value)} {cells cells' : List Value}, fillL place cells parts = some cells' → Instr.fill place ⟨cells⟩ parts = some ⟨cells'⟩
  | [], cells, cells', h => by cases h; rfl
  | (i, v) :: rest, cells, cells', h => by
    unfold fillL at h
    unfold Instr.fill
    split at h
    · cases h
    · rename_i off size hp
      rw [hp]
      split at h
      · rename_i vs hv
        split at h
        · rename_i hb
          rw [Bool.and_eq_true] at hb
          have hsz := Nat.eq_of_beq_eq_true hb.1
          have hpos : 0 < size := by have := hb.2; rwa [Nat.blt_eq] at this
          split at h
          · rename_i c hc
            have hcv := cellsO_eq hv
            have hf := lsetN_fold vs cells c off 0 hc
            simp only [cellsL_eq, hcv, List.size_toArray, hsz]
            rw [if_neg (by
              simp only [ne_eq, not_true_eq_false, decide_false, Bool.false_or, decide_eq_true_eq]
              have h0 : vs ≠ [] := fun e => by subst e; simp at hsz; omega
              have := hf.2.2 h0
              simp only [decide_eq_true_eq, Nat.not_lt]; omega)]
            have e : (Array.mk vs).zipIdx.foldl (fun (cs : Array Value) (x : Value × Nat) => cs.setIfInBounds (off + x.2) x.1) ⟨cells⟩ = ⟨c⟩ := by
              rw [← hf.1, ← Array.foldl_toList]; simp
            rw [e]
            exact fillL_eq h
          · cases h
        · cases h
      · cases h

section
variable {P : Program} {Γ : Env P} {n : FrN} {w0 : World} {K : List Nat} {Q : Exit → Fr → HL → Prop} {ρ : Fr} {L R F : HL} {ops : List Oper} {N : Fr → HL → Prop}

def parts (n : FrN) (ρ : Fr) (ps : Array (Nat × Operand)) : List (Nat × Value) := ps.toList.map fun x => (x.1, ev n ρ x.2)
def placeS (fs : List (Nat × Nat × Nat)) (i : Nat) : Option (Nat × Nat) := (fs[i]?).map fun x => (x.1, x.2.1)

theorem places_run {fs : List Field} (h : ∀ f ∈ fs, isAggT P f.type ≠ 0) (w : World) :
    (fs.mapM fun f => do pure (f.offset, ← sizeOf f.type) : Sem (List (Nat × Nat))).run P w = .ok (fs.map fun f => (f.offset, sizeT P f.type)) w := by
  induction fs with
  | nil => rfl
  | cons f fs ih =>
    rw [List.mapM_cons]
    have hs : (sizeOf f.type).run P w = .ok (sizeT P f.type) w := by
      have := h f (by simp)
      unfold isAggT at this
      cases hu : P.underlying f.type with
      | none => rw [hu] at this; exact absurd rfl this
      | some d =>
        cases hi : P.info? f.type with
        | none => simp [Program.underlying, hi] at hu
        | some i => simp [sizeOf, typeInfo, program, bind, Sem.bind, Sem.run, hi, pure, sizeT]
    have h1 : (do pure (f.offset, ← sizeOf f.type) : Sem (Nat × Nat)).run P w = .ok (f.offset, sizeT P f.type) w := by
      rw [bind_run hs]; rfl
    rw [bind_run h1, bind_run (ih fun g hg => h g (by simp [hg]))]; rfl

/-- A struct's literal. -/
theorem PR.build {t : Nat} {ps : Array (Nat × Operand)} {r : TR} {fs : List (Nat × Nat × Nat)} {zs cs : List Value} (ht : Γ.get t = some r) (hk : r.k = .struct fs) (hok : fs.all (fun x => !Nat.beq x.2.2 0) = true)
    (hz : cellsO r.z = some zs) (hf : fillL (placeS fs) zs (parts n ρ ps) = some cs) : PR Γ n w0 K ρ L (.build t ps) (.agg ⟨cs⟩) := ⟨fun o ho w ow => by
  unfold execOp; rw [ho]
  refine run_value ?_
  obtain ⟨fl, hfl, hm⟩ := tk_struct (Γ.is ht) hk
  unfold Instr.build
  rw [bind_run (zero_run (Γ.is ht) w), bind_run (underlying_run hfl w)]
  simp only
  have hpl : ((fl.mapM fun f => do pure (f.offset, ← sizeOf f.type)) : Sem (Array (Nat × Nat))).run P w = .ok (fl.toList.map fun f => (f.offset, sizeT P f.type)).toArray w := by
    rw [← Array.toArray_toList (xs := fl), List.mapM_toArray]
    show ((List.mapM (fun f : Field => (do pure (f.offset, ← sizeOf f.type) : Sem (Nat × Nat))) fl.toList).bind _).run P w = _
    rw [run_bind, places_run (fun f hf' => ?_)]
    · rfl
    · subst hm
      have := List.all_eq_true.1 hok (f.offset, sizeT P f.type, isAggT P f.type) (List.mem_map.2 ⟨f, hf', rfl⟩)
      intro e
      simp only at this
      rw [e] at this; cases this
  rw [bind_run hpl]
  have hplace : (fun i => (fl.toList.map fun f => (f.offset, sizeT P f.type)).toArray[i]?) = placeS fs := by
    funext i
    subst hm
    simp only [placeS, List.getElem?_toArray, List.getElem?_map, Option.map_map]
    rfl
  have hparts : (ps.map fun x => (x.1, ev n ρ x.2)).toList = parts n ρ ps := by simp [parts]
  have hfill := fillL_eq hf
  rw [cellsL_eq, cellsO_eq hz]
  have e2 : Instr.fill (fun i => (fl.toList.map fun f => (f.offset, sizeT P f.type)).toArray[i]?) ⟨zs⟩ (ps.map fun x => (x.1, ev n ρ x.2)).toList = some ⟨cs⟩ := by
    rw [hplace, hparts]; exact hfill
  simp only [e2]; rfl⟩

/-- So many zeros one behind the other. -/
def zerosL (zs : List Value) : Nat → List Value
  | 0 => []
  | k + 1 => zs ++ zerosL zs k
theorem zerosL_length (zs : List Value) : ∀ k, (zerosL zs k).length = k * zs.length
  | 0 => by simp [zerosL]
  | k + 1 => by simp [zerosL, zerosL_length zs k, Nat.add_mul]; omega
theorem zerosL_get (zs : List Value) (hz : 0 < zs.length) : ∀ (k i : Nat), i < k * zs.length → (zerosL zs k)[i]? = zs[i % zs.length]?
  | 0, i, h => by simp at h
  | k + 1, i, h => by
    unfold zerosL
    by_cases hi : i < zs.length
    · rw [List.getElem?_append_left hi, Nat.mod_eq_of_lt hi]
    · rw [List.getElem?_append_right (by omega), zerosL_get zs hz k (i - zs.length) (by rw [Nat.add_mul] at h; omega)]
      rw [← Nat.mod_eq_sub_mod (by omega)]
theorem zerosL_eq (zs : List Value) (hz : 0 < zs.length) (k : Nat) : (Array.range (k * zs.length)).map (fun i => (Array.mk zs)[i % (Array.mk zs).size]!) = ⟨zerosL zs k⟩ := by
  refine Array.ext' (List.ext_getElem? fun i => ?_)
  simp only [Array.toList_map, Array.toList_range, List.getElem?_map, List.size_toArray]
  by_cases hi : i < k * zs.length
  · rw [List.getElem?_range hi, zerosL_get zs hz k i hi]
    have hm : i % zs.length < zs.length := Nat.mod_lt _ hz
    simp [hm]
  · rw [List.getElem?_eq_none (by simpa using Nat.le_of_not_lt hi), List.getElem?_eq_none (by rw [zerosL_length]; omega)]; rfl

/-- []T{..}. -/
theorem XOp.buildSlice {d t e k : Nat} {ty : Nat} {ps : Array (Nat × Operand)} {pos : String} {af : Array Edge} {g : Option (Nat × Bool)} {r re : TR} {zs cs : List Value}
    (hg : gval n ρ ops g = some true) (ht : Γ.get t = some r) (hk : r.k = .slice e) (he : Γ.get e = some re) (hz : cellsO re.z = some zs) (hzl : (Nat.beq zs.length re.sz && Nat.blt 0 re.sz && Nat.blt (k * re.sz) 16777216 && Nat.blt 0 k) = true)
    (hf : fillL (fun i => some (i * re.sz, re.sz)) (zerosL zs k) (parts n ρ ps) = some cs)
    (h : ∀ b, N (upd ρ d (.slice (some ⟨b, 0, none⟩) k k)) ((b, .cells ⟨cs⟩ e (0, 0)) :: L)) :
    XOp Γ n w0 K ops { dst := some d, op := .buildSlice t k ps, type := ty, pos := pos, after := af, guard := g } N ρ L := by
  simp only [Bool.and_eq_true, Nat.blt_eq] at hzl
  obtain ⟨⟨⟨hz1, hz2⟩, hz3⟩, hz4⟩ := hzl
  have hz1 := Nat.eq_of_beq_eq_true hz1
  refine XOp.val hg fun w ow => ⟨.slice (some ⟨w.heap.size, 0, none⟩) k k, w.alloc (.cells ⟨cs⟩ e (0, 0)), _, ?_, ow.new _, h w.heap.size⟩
  refine run_value ?_
  unfold Instr.buildSlice
  rw [bind_run (underlying_run (tk_slice (Γ.is ht) hk) w)]
  simp only
  rw [bind_run (size_run (Γ.is he) w)]
  have hne : ¬ k * re.sz = 0 := Nat.pos_iff_ne_zero.1 (Nat.mul_pos hz4 hz2)
  rw [if_neg (by omega), if_neg hne]
  rw [bind_run (zero_run (Γ.is he) w)]
  show ((pure re.z.cells : Sem (Array Value)) >>= _).run P w = _
  rw [bind_run (show (pure re.z.cells : Sem (Array Value)).run P w = .ok ⟨zs⟩ w by rw [cellsL_eq, cellsO_eq hz]; rfl)]
  have hparts : (ps.map fun x => (x.1, ev n ρ x.2)).toList = parts n ρ ps := by simp [parts]
  have e1 : Instr.fill (fun i => some (i * re.sz, re.sz)) ((Array.range (k * re.sz)).map (fun i => (Array.mk zs)[i % (Array.mk zs).size]!)) (ps.map fun x => (x.1, ev n ρ x.2)).toList = some ⟨cs⟩ := by
    rw [← hz1, zerosL_eq zs (by omega), hz1, hparts]; exact fillL_eq hf
  simp only [e1]; rfl

/-- make([]T, k). -/
theorem XOp.make {d t e k c : Nat} {ty : Nat} {x y : Operand} {pos : String} {af : Array Edge} {g : Option (Nat × Bool)} {r re : TR} {zs : List Value}
    (hg : gval n ρ ops g = some true) (ht : Γ.get t = some r) (hk : r.k = .slice e) (he : Γ.get e = some re) (hz : cellsO re.z = some zs) (hzl : (Nat.beq zs.length re.sz && Nat.blt 0 re.sz) = true)
    (hx : ev n ρ x = .int .i64 (k : Int)) (hy : ev n ρ y = .int .i64 (c : Int)) (hkc : k ≤ c) (hb : (c : Int) * re.by_ ≤ 281474976710656) (h63 : (c : Int) ≤ 9223372036854775807)
    (h : ∀ b, N (upd ρ d (.slice (some ⟨b, 0, none⟩) k c)) ((b, .cells ⟨zerosL zs c⟩ e (0, 0)) :: L)) :
    XOp Γ n w0 K ops { dst := some d, op := .makeSlice t x y, type := ty, pos := pos, after := af, guard := g } N ρ L := by
  simp only [Bool.and_eq_true, Nat.blt_eq] at hzl
  have hz1 := Nat.eq_of_beq_eq_true hzl.1
  obtain ⟨i, hi, his, hib, hiz⟩ := (Γ.is he).i
  refine XOp.val hg fun w ow => ⟨.slice (some ⟨w.heap.size, 0, none⟩) k c, w.alloc (.cells ⟨zerosL zs c⟩ e (0, 0)), _, ?_, ow.new _, h w.heap.size⟩
  refine run_value ?_
  have hr := run_make (P := P) w t e i re.z (tk_slice (Γ.is ht) hk) hi hiz .i64 .i64 (k : Int) (c : Int) (Int.natCast_nonneg k) (Int.ofNat_le.2 hkc) (by rw [hib, Int.mul_comm]; exact hb) h63
  rw [hx, hy, hr]
  have e1 : madeCells re.z.cells ((c : Int).toNat * i.size) = ⟨zerosL zs c⟩ := by
    unfold madeCells
    rw [cellsL_eq, cellsO_eq hz, his, ← hz1, Int.toNat_natCast]
    exact zerosL_eq zs (by omega) c
  rw [e1]; rfl

/-- A store of one cell at a place that is reckoned. -/
theorem XOp.storeAt {d : Option Nat} {t ty i b off : Nat} {x y : Operand} {pos : String} {af : Array Edge} {g : Option (Nat × Bool)} {r : TR} {v : Value} {cs : List Value} {te : Nat} {L' : HL}
    (hg : gval n ρ ops g = some true) (ht : Γ.get t = some r) (hk : r.sz = 1) (hx : ev n ρ x = .pointer (some ⟨b, off, none⟩)) (hv' : force (ev n ρ y) = some v) (h1 : v.oneCell' = true)
    (hi : L[i]? = some (b, .cells ⟨cs⟩ te (0, 0))) (hoff : off < cs.length) (ha : aset L i (b, .cells ⟨cs.set off v⟩ te (0, 0)) = some L')
    (h : N (updO ρ d undef) L') :
    XOp Γ n w0 K ops { dst := d, op := .store t x y, type := ty, pos := pos, after := af, guard := g } N ρ L :=
  XOp.noval hg fun w ow => by
    have hv := force_eq hv'
    refine ⟨putB w b (.cells ⟨cs.set off v⟩ te (0, 0)), L', ?_, ow.put hi ha, h⟩
    have hh := ow.has _ (List.mem_of_getElem? hi)
    have hc : v.cells = #[v] := by cases v <;> simp [Value.oneCell'] at h1 <;> rfl
    have hrun : (Instr.storeAt t (ev n ρ x) (ev n ρ y)).run P w = .ok () (putB w b (.cells ⟨cs.set off v⟩ te (0, 0))) := by
      rw [hx, hv]
      show (storeVar t ⟨b, off, none⟩ v).run P w = _
      unfold storeVar
      rw [hc, bind_run (size_run (Γ.is ht) w), hk]
      show ((Go.store ((Addr.mk b off none).add 0) v).bind _).run P w = _
      rw [add_off, run_bind, Nat.add_zero, store_one hh hoff h1]; rfl
    show ((Instr.storeAt t (ev n ρ x) (ev n ρ y)).bind _).run P w = _
    rw [run_bind, hrun]; rfl
end
end Go.SX
/- Maps of int to int that a call makes. -/
namespace Go.SX
open Go Go.RowKit

def encE (x : Int × Int × Nat) : MapEntry := { key := .int .i64 x.1, val := .int .i64 x.2.1, born := x.2.2 }
def mget (l : List (Int × Int × Nat)) (k : Int) : Option Int := (l.find? (fun x => x.1 == k)).map (·.2.1)
/-- A map's object reads as m. -/
def MapIs (ob : Obj) (m : Int → Option Int) : Prop := ∃ l clock, ob = .map ⟨l.map encE⟩ clock ∧ (l.map (·.1)).Nodup ∧ ∀ k, mget l k = m k

theorem findNow_eq (k : Int) : ∀ (l : List (Int × Int × Nat)) (i : Nat), Instr.findNow (.int .i64) (.int .i64 k) (l.map encE) i =
    some ((l.findIdx? (fun x => x.1 == k)).bind fun j => (l[j]?).map fun x => (i + j, Value.int .i64 x.2.1))
  | [], i => by simp [Instr.findNow]
  | x :: l, i => by
    simp only [List.map_cons, Instr.findNow, encE, Instr.sameNow, if_true]
    by_cases h : k = x.1
    · subst h; simp [List.findIdx?_cons]
    · have h' : (k == x.1) = false := by simpa using h
      have h2 : (x.1 == k) = false := by simpa using fun e => h e.symm
      simp only [h']
      rw [findNow_eq k l (i + 1), List.findIdx?_cons, h2]
      cases hf : l.findIdx? (fun x => x.1 == k) with
      | none => simp
      | some j => simp; cases l[j]? <;> simp; omega

section
variable {P : Program} {Γ : Env P} {n : FrN} {w0 : World} {K : List Nat} {Q : Exit → Fr → HL → Prop} {ρ : Fr} {L R F : HL} {ops : List Oper} {N : Fr → HL → Prop}

theorem checkKey_int {t : Nat} {b : Bool} {v : Value} {k : IntKind} (hu : P.underlying t = some (.int k)) (w : World) (m : Nat) : (Instr.checkKey b (m + 1) t v).run P w = .ok () w := by
  unfold Instr.checkKey
  rw [bind_run (underlying_run hu w)]; cases v <;> rfl
theorem findKey_int {t : Nat} (hu : P.underlying t = some (.int .i64)) (k : Int) (l : List (Int × Int × Nat)) (w : World) : (Instr.findKey t (.int .i64 k) (l.map encE)).run P w =
    .ok ((l.findIdx? (fun x => x.1 == k)).bind fun j => (l[j]?).map fun x => (j, Value.int .i64 x.2.1)) w := by
  unfold Instr.findKey
  rw [bind_run (underlying_run hu w), findNow_eq]
  simp only [Nat.zero_add]; rfl
theorem find_of_idx (l : List (Int × Int × Nat)) (k : Int) : ((l.findIdx? (fun x => x.1 == k)).bind fun j => l[j]?) = l.find? (fun x => x.1 == k) := by
  induction l with
  | nil => rfl
  | cons x l ih =>
    rw [List.findIdx?_cons, List.find?_cons]
    cases h : (x.1 == k) with
    | true => simp
    | false =>
      simp only [Bool.false_eq_true, if_false]
      rw [← ih]
      cases l.findIdx? (fun x => x.1 == k) <;> simp

theorem mget_set : ∀ (l : List (Int × Int × Nat)) (j bn : Nat) (v k k' : Int) (hj : j < l.length), l[j].1 = k → (∀ q (hq : q < j), l[q].1 ≠ k) → mget (l.set j (k, v, bn)) k' = if k' = k then some v else mget l k'
  | x :: l, 0, bn, v, k, k', _, hk, _ => by
    simp only [List.getElem_cons_zero] at hk
    unfold mget
    simp only [List.set_cons_zero, List.find?_cons]
    by_cases h : k' = k
    · subst h; simp
    · have h1 : (k == k') = false := by simpa using fun e => h e.symm
      simp only [hk, h1, if_neg h]
  | x :: l, j + 1, bn, v, k, k', hj, hk, hf => by
    simp only [List.getElem_cons_succ] at hk
    have h0 : x.1 ≠ k := hf 0 (by omega)
    have ih := mget_set l j bn v k k' (by simpa using hj) hk (fun q hq => hf (q + 1) (by omega))
    unfold mget at ih ⊢
    simp only [List.set_cons_succ, List.find?_cons]
    by_cases hx : x.1 = k'
    · subst hx; simp [h0]
    · have h1 : (x.1 == k') = false := by simpa using hx
      simp only [h1]
      exact ih
theorem getObj_run {w : World} {b : Nat} {es : Array MapEntry} {c : Nat} (h : w.heap[b]? = some (.map es c)) : (getObj b).run P w = .ok (.map es c) w := by
  simp [getObj, Sem.run, h]

/-- m[k]. -/
theorem PR.lookup {t e i b : Nat} {te : Nat} {x ix : Operand} {r re rt : TR} {k : Int} {ob : Obj} {m : Int → Option Int} (ht : Γ.get t = some r) (hk : r.k = .map te e) (hte : Γ.get te = some rt) (hkt : rt.k = .int .i64)
    (he : Γ.get e = some re) (hz : force re.z = some (.int .i64 0)) (hx : ev n ρ x = .map (some b)) (hi : ev n ρ ix = .int .i64 k) (hL : L[i]? = some (b, ob)) (hm : MapIs ob m) :
    PR Γ n w0 K ρ L (.lookup t x ix false) (.int .i64 ((m k).getD 0)) := ⟨fun o ho w ow => by
  unfold execOp; rw [ho]
  refine run_value ?_
  obtain ⟨l, clock, rfl, hnd, hg⟩ := hm
  have hh := ow.has _ (List.mem_of_getElem? hL)
  rw [hx, hi]
  unfold Instr.lookup
  rw [bind_run (underlying_run (tk_map (Γ.is ht) hk) w)]
  simp only
  rw [bind_run (getObj_run hh)]
  simp only
  have h1 : (pure (⟨l.map encE⟩ : Array MapEntry) : Sem (Array MapEntry)).run P w = .ok ⟨l.map encE⟩ w := rfl
  rw [bind_run h1, bind_run (checkKey_int (tk_int (Γ.is hte) hkt) w 9999), bind_run (findKey_int (tk_int (Γ.is hte) hkt) k l w)]
  have h2 := find_of_idx l k
  have h3 := hg k
  unfold mget at h3
  rw [← h2] at h3
  cases hf : l.findIdx? (fun x => x.1 == k) with
  | none =>
    rw [hf] at h3
    simp only [Option.bind_none, Option.map_none] at h3 ⊢
    have hzr := zero_run (Γ.is he) w
    rw [force_eq hz] at hzr
    rw [bind_run hzr, ← h3]; rfl
  | some j =>
    rw [hf] at h3
    simp only [Option.bind_some] at h3 ⊢
    cases hj : l[j]? with
    | none => exfalso; have := (List.findIdx?_eq_some_iff_getElem.1 hf).1; rw [List.getElem?_eq_getElem this] at hj; cases hj
    | some x =>
      rw [hj] at h3
      simp only [Option.map_some] at h3 ⊢
      rw [← h3]; rfl⟩

/-- make(map[int]int). -/
theorem XOp.makeMap {d t ty : Nat} {pos : String} {af : Array Edge} {g : Option (Nat × Bool)} (hg : gval n ρ ops g = some true)
    (h : ∀ b ob, MapIs ob (fun _ => none) → N (upd ρ d (.map (some b))) ((b, ob) :: L)) :
    XOp Γ n w0 K ops { dst := some d, op := .makeMap t none, type := ty, pos := pos, after := af, guard := g } N ρ L :=
  XOp.val hg fun w ow => ⟨.map (some w.heap.size), w.alloc (.map #[] 0), _, by
    refine run_value ?_
    rfl, ow.new _, h w.heap.size _ ⟨[], 0, rfl, by simp, fun _ => rfl⟩⟩

theorem setObj_run {w : World} {b : Nat} {es : Array MapEntry} {c : Nat} (h : w.heap[b]? = some (.map es c)) (ob : Obj) : (setObj b ob).run P w = .ok () (putB w b ob) := by
  simp [setObj, Sem.run, h, putB]

/-- m[k] = v. -/
theorem XOp.mapUpdate {d : Option Nat} {t e i b te ty : Nat} {x y z : Operand} {pos : String} {af : Array Edge} {g : Option (Nat × Bool)} {r rt : TR} {k v : Int} {ob : Obj} {m : Int → Option Int} (hg : gval n ρ ops g = some true)
    (ht : Γ.get t = some r) (hk : r.k = .map te e) (hte : Γ.get te = some rt) (hkt : rt.k = .int .i64)
    (hx : ev n ρ x = .map (some b)) (hy : ev n ρ y = .int .i64 k) (hz : ev n ρ z = .int .i64 v) (hL : L[i]? = some (b, ob)) (hm : MapIs ob m)
    (h : ∀ ob', MapIs ob' (fun k' => if k' = k then some v else m k') → N (updO ρ d undef) (L.set i (b, ob'))) :
    XOp Γ n w0 K ops { dst := d, op := .mapUpdate t x y z, type := ty, pos := pos, after := af, guard := g } N ρ L := by
  refine XOp.noval hg fun w ow => ?_
  obtain ⟨l, clock, rfl, hnd, hgt⟩ := hm
  have hh := ow.has _ (List.mem_of_getElem? hL)
  simp only at hh
  have hres : ∃ ob', (Instr.mapUpdate t (ev n ρ x) (ev n ρ y) (ev n ρ z)).run P w = .ok () (putB w b ob') ∧ MapIs ob' (fun k' => if k' = k then some v else m k') := by
    rw [hx, hy, hz]
    unfold Instr.mapUpdate
    rw [bind_run (underlying_run (tk_map (Γ.is ht) hk) w)]
    simp only
    rw [bind_run (getObj_run hh)]
    simp only
    rw [bind_run (checkKey_int (tk_int (Γ.is hte) hkt) w 9999), bind_run (findKey_int (tk_int (Γ.is hte) hkt) k l w)]
    cases hf : l.findIdx? (fun x => x.1 == k) with
    | none =>
      simp only [Option.bind_none]
      rw [setObj_run hh]
      refine ⟨_, rfl, l ++ [(k, v, clock)], clock + 1, by simp [encE], ?_, fun k' => ?_⟩
      · rw [List.map_append, List.nodup_append]
        refine ⟨hnd, by simp, ?_⟩
        intro a ha b' hb' e
        simp only [List.map_cons, List.map_nil, List.mem_singleton] at hb'
        subst hb'; subst e
        obtain ⟨y', hy', he⟩ := List.mem_map.1 ha
        have := List.findIdx?_eq_none_iff.1 hf y' hy'
        simp at this
        exact this he
      · show mget _ k' = if k' = k then some v else m k'
        unfold mget
        rw [List.find?_append]
        have hn : l.find? (fun x => x.1 == k) = none := by rw [← find_of_idx, hf]; rfl
        by_cases hkk : k' = k
        · subst hkk; rw [hn]; simp
        · rw [if_neg hkk, ← hgt k']
          unfold mget
          have : ((k == k') : Bool) = false := by simpa using fun e => hkk e.symm
          cases l.find? (fun x => x.1 == k') <;> simp [this]
    | some j =>
      obtain ⟨hjl, hjk, hjm⟩ := List.findIdx?_eq_some_iff_getElem.1 hf
      have hj : l[j]? = some l[j] := List.getElem?_eq_getElem hjl
      simp only [Option.bind_some, hj, Option.map_some]
      have hkey : l[j].1 = k := by simpa using hjk
      have hstay : (Instr.keyThatStays (((Array.mk (l.map encE))[j]?.map (·.key)).getD (.int .i64 k)) (.int .i64 k)).run P w = .ok (.int .i64 k) w := by
        have e1 : (((Array.mk (l.map encE))[j]?.map (·.key)).getD (.int .i64 k)) = .int .i64 k := by
          simp [hj, encE, hkey]
        rw [e1]
        have e2 : Instr.sameBits 10000 (.int .i64 k) (.int .i64 k) = true := by
          show Instr.sameBits (9999 + 1) (.int .i64 k) (.int .i64 k) = true
          simp [Instr.sameBits]
        unfold Instr.keyThatStays
        rw [if_pos e2]; rfl
      rw [bind_run hstay, setObj_run hh]
      have e3 : (Array.mk (l.map encE)).modify j (fun e => { e with key := .int .i64 k, val := .int .i64 v }) = ⟨(l.set j (k, v, l[j].2.2)).map encE⟩ := by
        refine Array.ext' (List.ext_getElem? fun q => ?_)
        simp only [Array.toList_modify, List.getElem?_map, List.getElem?_modify, List.getElem?_set]
        by_cases hq : j = q
        · subst hq; simp [hjl, encE]
        · simp [hq]
      rw [e3]
      refine ⟨_, rfl, l.set j (k, v, l[j].2.2), clock, rfl, ?_, fun k' => ?_⟩
      · rw [List.map_set]
        have : (l.map (·.1)).set j k = l.map (·.1) := by
          refine List.ext_getElem? fun q => ?_
          rw [List.getElem?_set]
          by_cases hq : j = q
          · subst hq; simp [hjl, hkey]
          · simp [hq]
        rw [this]; exact hnd
      · show mget _ k' = if k' = k then some v else m k'
        rw [← hgt k']
        exact mget_set l j (l[j].2.2) v k k' hjl hkey (fun q hq => by simpa using hjm q hq)
  obtain ⟨ob', hr, hm'⟩ := hres
  refine ⟨putB w b ob', _, ?_, ow.set hL ob' rfl rfl rfl rfl, h ob' hm'⟩
  show ((Instr.mapUpdate t (ev n ρ x) (ev n ρ y) (ev n ρ z)).bind _).run P w = _
  rw [run_bind, hr]; rfl
end
end Go.SX
/- Bytes and strings; what a slice of the call's own leads to. -/
namespace Go.SX
open Go Go.RowKit

/-- A string's bytes, as numbers; the string of some numbers. -/
def numsOf (s : ByteArray) : List Int := s.data.toList.map fun b => (b.toNat : Int)
def strOf (xs : List Int) : ByteArray := ⟨(xs.map fun n => UInt8.ofNat n.toNat).toArray⟩

section
variable {P : Program} {Γ : Env P} {n : FrN} {w0 : World} {K : List Nat} {Q : Exit → Fr → HL → Prop} {ρ : Fr} {L R F : HL} {ops : List Oper} {N : Fr → HL → Prop}

theorem SlA.loadCells {k : IntKind} {by_ : Nat} {w : World} {xs : List Int} {x : Addr} {cap : Nat} (s : SlA (Kd.int k) by_ (hv w) xs (some x) cap) :
    (Go.loadCells x xs.length).run P w = .ok (xs.map (Value.int k)).toArray w := by
  by_cases h0 : xs.length = 0
  · obtain rfl := List.eq_nil_of_length_eq_zero h0
    rfl
  · have hx := s.at_ (by omega)
    rw [Option.some.injEq] at hx
    rw [hx]
    have := loadCells_run (P := P) (b := ablk (some x)) (off := aoff (some x)) (w := w) (xs.map (Value.int k)) 0 #[] (fun j v hj => by
      rw [List.getElem?_map] at hj
      obtain ⟨y, hy, rfl⟩ := Option.map_eq_some_iff.1 hj
      have hl := (List.getElem?_eq_some_iff.1 hy).1
      have h1 := (s.int j hl).1
      rw [hy, cellv_hv] at h1
      simpa using h1)
    unfold Go.loadCells
    rw [List.length_map] at this
    rw [this]
    simp

/-- A call that hands nothing over and keeps nothing. -/
theorem XOp.callQ {d : Option Nat} {ty f : Nat} {c : Operand} {xs : Array Operand} {ts : Array Nat} {pos : String} {af : Array Edge} {g : Option (Nat × Bool)}
    {as : List Value} {first cap : Array Value} {A : HV → Prop} {B : Value → Prop}
    (hF : FC P f as [] A (fun v L => B v ∧ L = []))
    (hg : gval n ρ ops g = some true) (hc : ev n ρ c = .func (.func f) first cap) (ha : first.toList ++ args n ρ xs ++ cap.toList = as)
    (hA : Known w0 K L A) (h : ∀ v, B v → N (updO ρ d v) L) :
    XOp Γ n w0 K ops { dst := d, op := .call { callee := .value c, args := xs, argTypes := ts }, type := ty, pos := pos, after := af, guard := g } N ρ L :=
  XOp.call hF hg hc ha (List.nil_append _).symm hA (fun v L' ⟨hb, e⟩ => by subst e; exact h v hb)
theorem XQ.slots {e : Exit} (l : List (Nat × Value)) (hs : Slots ρ l) (h : XQ Q e (updL ρ l) L) : XQ Q e ρ L := by
  rw [updL_same l ρ hs] at h; exact h
theorem FC.subl {f : Nat} {vs : List Value} {L0 : HL} {A : HV → Prop} {Post : Value → HL → Prop} (h : FC P f vs L0 A (fun v L => ∃ L'', L''.Sublist L ∧ Post v L'')) : FC P f vs L0 A Post :=
  ⟨h.1, fun w h1 h2 h3 => (h.2 w h1 h2 h3).mono fun _ _ ⟨v, L', he, ho, L'', hs, hq⟩ => ⟨v, L'', he, ho.sub (fun x hx => hs.subset hx) ((hs.map _).nodup ho.nodup), hq⟩⟩
theorem SlA.okAll {k : IntKind} {by_ : Nat} {h : HV} {xs : List Int} {a : Option Addr} {cap : Nat} (s : SlA (Kd.int k) by_ h xs a cap) : ∀ x ∈ xs, inK k x := by
  intro x hx
  obtain ⟨i, hi⟩ := List.getElem?_of_mem hx
  have := (s.int i (List.getElem?_eq_some_iff.1 hi).1).2
  rw [hi] at this; exact this
theorem FC.nil {f : Nat} {as : List Value} {L0 : HL} {A : HV → Prop} {B : Value → Prop} (h : FC P f as L0 A (fun v _ => B v)) : FC P f as L0 A (fun v L => B v ∧ L = []) :=
  h.drop.mono fun _ _ ⟨h1, _, h2⟩ => ⟨h2, h1⟩
theorem MapIs.conv {ob : Obj} {m m' : Int → Option Int} (h : MapIs ob m) (e : m = m') : MapIs ob m' := e ▸ h
theorem take_map_snoc {α : Type} {β : Type} (f : α → β) (xs : List α) (i : Nat) (d : α) (h : i < xs.length) : (xs.take (i + 1)).map f = (xs.take i).map f ++ [f (xs[i]?.getD d)] := by
  rw [List.take_add_one, List.map_append, List.getElem?_eq_getElem h]; rfl
/-- What a slice of the call's own leads to. -/
theorem OwnS.slA {k : IntKind} {by_ e m : Nat} {v : Value} {xs : List Int} {F : HL} (h : OwnS e 1 v m (xs.map (.int k)) F) (hk : ∀ x ∈ xs, inK k x) (hb : xs.length * by_ ≤ 140737488355328) :
    ∃ a cap, v = .slice a xs.length cap ∧ m = xs.length ∧ SlA (Kd.int k) by_ (fv F) xs a cap := by
  obtain ⟨h1, h2⟩ := h
  have hm : m = xs.length := by rw [List.length_map] at h1; omega
  rcases h2 with ⟨rfl, rfl, rfl⟩ | ⟨g, cap, sp, rfl, rfl, hle, hmx, hcs⟩
  · have : xs = [] := List.eq_nil_of_length_eq_zero (by omega)
    subst this
    exact ⟨none, 0, rfl, rfl, by simp, by simp, fun _ => rfl, fun h => absurd h (by simp), fun i x h => by simp at h⟩
  · refine ⟨some ⟨g, 0, none⟩, cap, by rw [hm], hm, by omega, hb, (fun h => by cases h), fun _ => rfl, fun i x hx => ?_⟩
    refine ⟨[.int k x], ⟨rfl, hk x (List.mem_of_getElem? hx)⟩, fun j v hj => ?_⟩
    have hi := (List.getElem?_eq_some_iff.1 hx).1
    match j, hj with
    | 0, hj =>
      obtain rfl : Value.int k x = v := by simpa using hj
      simp only [cellv, fv, ablk, aoff, Kd.int, Nat.zero_add, Nat.mul_one, Nat.add_zero, List.find?_cons, beq_self_eq_true, Option.map_some]
      simp only [Option.isSome_none, Bool.false_eq_true, if_false, List.getElem?_toArray]
      rw [List.getElem?_append_left (by simpa using hi), List.getElem?_map, hx]; rfl
    | j + 1, hj => simp at hj

/-- A part of a slice, from its beginning. -/
theorem SlA.takeS {α : Type} {d : Kd α} {by_ : Nat} {h : HV} {xs : List α} {a : Option Addr} {cap : Nat} (s : SlA d by_ h xs a cap) (m : Nat) : SlA d by_ h (xs.take m) a cap :=
  ⟨by have := s.le; rw [List.length_take]; omega, Nat.le_trans (Nat.mul_le_mul_right _ (by rw [List.length_take]; omega)) s.bytes, s.nil, fun hp => s.at_ (by rw [List.length_take] at hp; omega), fun i x hx => by
    rw [List.getElem?_take] at hx
    split at hx
    · exact s.row i x hx
    · cases hx⟩

end
end Go.SX
/- Scopes through which no goto goes. -/
namespace Go.SX
open Go Go.RowKit
theorem XOp.perm {P : Program} {Γ : Env P} {n : FrN} {w0 : World} {K : List Nat} {ρ : Fr} {L L' : HL} {ops : List Oper} {o : Oper} {N : Fr → HL → Prop} (hg : gval n ρ ops o.guard = some true) (h : XOp Γ n w0 K ops o N ρ L') (p : L.Perm L') : XOp Γ n w0 K ops o N ρ L :=
  ⟨fun Q' w ow => by have := h.out Q' w (ow.perm p); rw [if_pos (gval_spec hg)] at this ⊢; exact this⟩
/-- Some of these blocks, in whatever order. -/
def Sub2 (L' L : HL) : Prop := ∃ P, L.Perm P ∧ L'.Sublist P
theorem Sub2.of {L' L : HL} (h : L'.Sublist L) : Sub2 L' L := ⟨L, List.Perm.refl _, h⟩
theorem Sub2.perm {L' L : HL} (h : L.Perm L') : Sub2 L' L := ⟨L', h, List.Sublist.refl _⟩
theorem Sub2.trans {L1 L2 L3 : HL} (a : Sub2 L1 L2) (b : Sub2 L2 L3) : Sub2 L1 L3 := by
  obtain ⟨P, p, s⟩ := a
  obtain ⟨R, q, t⟩ := b
  obtain ⟨M, hM⟩ := t.exists_perm_append
  exact ⟨P ++ M, q.trans (hM.trans (p.append_right M)), s.trans (List.sublist_append_left _ _)⟩
section
variable {P : Program} {Γ : Env P} {n : FrN} {w0 : World} {K : List Nat} {Q : Exit → Fr → HL → Prop} {ρ : Fr} {L L' : HL}
theorem XC.sub2 {c : Code} (s : Sub2 L' L) (h : XC P n w0 K c Q ρ L') : XC P n w0 K c Q ρ L := by
  obtain ⟨R, p, t⟩ := s
  exact XC.perm (XC.subl t h) p
theorem XC.loopP {c : Code} (I : Nat → Fr → HL → Prop) (k : Nat) (h0 : I k ρ L)
    (round : ∀ k ρ L, I k ρ L → XC P n w0 K c (thenX (fun ρ' L' => ∃ k', k' < k ∧ ∃ L'', Sub2 L'' L' ∧ I k' ρ' L'') Q) ρ L) : XC P n w0 K (.loop c) Q ρ L :=
  XC.loop (fun k ρ L => ∃ L'', Sub2 L'' L ∧ I k ρ L'') k ⟨L, .of (List.Sublist.refl _), h0⟩ fun k ρ _ ⟨L'', hs, hi⟩ => XC.sub2 hs (round k ρ L'' hi)
theorem FC.sub2 {f : Nat} {vs : List Value} {L0 : HL} {A : HV → Prop} {Post : Value → HL → Prop} (h : FC P f vs L0 A (fun v L => ∃ L'', Sub2 L'' L ∧ Post v L'')) : FC P f vs L0 A Post :=
  ⟨h.1, fun w h1 h2 h3 => (h.2 w h1 h2 h3).mono fun _ _ ⟨v, L', he, ho, L'', ⟨R, p, t⟩, hq⟩ => ⟨v, L'', he, (ho.perm p).sub (fun x hx => t.subset hx) ((t.map _).nodup (ho.perm p).nodup), hq⟩⟩
end
end Go.SX
/- Comparisons with nil; appending what lies elsewhere; an empty literal. -/
namespace Go.SX
open Go Go.RowKit
section
variable {P : Program} {Γ : Env P} {n : FrN} {w0 : World} {K : List Nat} {Q : Exit → Fr → HL → Prop} {ρ : Fr} {L R F : HL} {ops : List Oper} {N : Fr → HL → Prop}

theorem guard_slice (op : BinOp) (t : Nat) (x y : Operand) (a : Option Addr) (l c : Nat) (v : Value) (w : World) : (eqGuard op t x y (.slice a l c) v).run P w = .ok () w := by
  unfold eqGuard; cases op <;> first | rfl | (cases v <;> rfl)
/-- x == nil of a slice. -/
theorem PR.eqNilS {t ty e l c : Nat} {a : Option Addr} {x y : Operand} {r : TR} (ht : Γ.get t = some r) (hk : r.k = .slice e) (hx : ev n ρ x = .slice a l c) (hy : ev n ρ y = .slice none 0 0) :
    PR Γ n w0 K ρ L (.binOp .eql t x y ty) (.bool a.isNone) := ⟨fun o ho w ow => by
  unfold execOp; rw [ho]
  refine run_value ?_
  rw [hx, hy, bind_run (guard_slice _ _ _ _ _ _ _ _ w)]
  show (((Op.equal t (.slice a l c) (.slice none 0 0)) >>= fun b => pure (Value.bool b)) : Sem Value).run P w = _
  rw [bind_run (run_equal_slice_nil w t e a l c (tk_slice (Γ.is ht) hk))]; rfl⟩
/-- []T{}. -/
theorem XOp.buildSlice0 {d t e : Nat} {ty : Nat} {pos : String} {af : Array Edge} {g : Option (Nat × Bool)} {r re : TR} (hg : gval n ρ ops g = some true) (ht : Γ.get t = some r) (hk : r.k = .slice e) (he : Γ.get e = some re)
    (h : ∀ b, N (upd ρ d (.slice (some ⟨b, 0, none⟩) 0 0)) ((b, .cells ⟨[]⟩ e (0, 0)) :: L)) :
    XOp Γ n w0 K ops { dst := some d, op := .buildSlice t 0 #[], type := ty, pos := pos, after := af, guard := g } N ρ L := by
  refine XOp.val hg fun w ow => ⟨.slice (some ⟨w.heap.size, 0, none⟩) 0 0, w.alloc (.cells ⟨[]⟩ e (0, 0)), _, ?_, ow.new _, h w.heap.size⟩
  refine run_value ?_
  unfold Instr.buildSlice
  rw [bind_run (underlying_run (tk_slice (Γ.is ht) hk) w)]
  simp only
  rw [bind_run (size_run (Γ.is he) w)]
  simp only [Nat.zero_mul]
  rw [if_neg (by decide), if_pos trivial]
  have e0 : (Array.map (fun x => (#[] : Array Value)[x % (#[] : Array Value).size]!) (Array.range 0)) = #[] := by simp
  have e1 : (Array.map (fun x : Nat × Operand => (x.fst, ev n ρ x.snd)) #[]).toList = [] := by simp
  rw [bind_run (show (pure #[] : Sem (Array Value)).run P w = .ok #[] w from rfl), e0, e1]
  rfl
theorem OwnS.empty {b e sz : Nat} : OwnS e sz (.slice (some ⟨b, 0, none⟩) 0 0) 0 [] [(b, .cells ⟨[]⟩ e (0, 0))] := ⟨by simp, .inr ⟨b, 0, [], rfl, rfl, Nat.le_refl _, Nat.zero_le _, by simp⟩⟩

/-- append(s, x..), x lying anywhere. -/
theorem XOp.appendG {d k c t e m : Nat} {ty : Nat} {s x : Operand} {pos : String} {af : Array Edge} {g : Option (Nat × Bool)} {a : Option Addr} {r re : TR} {v : Value} {xs news : List Value}
    (hg : gval n ρ ops g = some true) (ht : Γ.get t = some r) (hk : r.k = .slice e) (he : Γ.get e = some re) (hs : ev n ρ s = v) (hx : ev n ρ x = .slice a k c)
    (hown : OwnS e re.sz v m xs F) (hL : L = F ++ R) (ha : 0 < k → a = some ⟨ablk a, aoff a, none⟩) (hc : 0 < k → Known w0 K L (fun h => rowv h (ablk a) (aoff a) news)) (hl : news.length = k * re.sz) (h1 : news.all (·.oneCell') = true)
    (hz : (cellsL re.z).length = re.sz) (hsz : 0 < re.sz) (h63 : m + k ≤ maxLen) (hb : (m + k) * re.by_ ≤ 140737488355328)
    (h : ∀ v' F', OwnS e re.sz v' (m + k) (xs ++ news) F' → N (upd ρ d v') (F' ++ R)) :
    XOp Γ n w0 K ops { dst := some d, op := .call { callee := .builtin .append, args := #[s, x], argTypes := #[t, t] }, type := ty, pos := pos, after := af, guard := g } N ρ L := by
  refine XOp.val hg fun w ow => ?_
  subst hL
  have hbt := tk_slice (Γ.is ht) hk
  obtain ⟨i, hi, his, hib, hiz⟩ := (Γ.is he).i
  obtain ⟨cs, hrun⟩ := call_builtin (P := P) (n := n) (ρ := ρ) (b := .append) (ts := #[t, t]) (xs := #[s, x])
    (o := { dst := some d, op := .call { callee := .builtin .append, args := #[s, x], argTypes := #[t, t] }, type := ty, pos := pos, after := af, guard := g }) rfl w
  rw [hrun]
  have hargs : (args n ρ #[s, x]).toArray = #[v, .slice a k c] := by simp [args, hs, hx]
  rw [hargs]
  have hsm : m + k ≤ 9223372036854775807 := by simp only [maxLen] at h63; omega
  have hv : ∀ {v' w'}, (Builtin.append_ #[t, t] ty #[v, .slice a k c]).run P w = .ok v' w' →
      (builtin .append #[t, t] ty cs #[v, .slice a k c]).run P w = .ok (.value v') w' := fun h => run_value h
  have orr := ow.right
  by_cases hk0 : k = 0
  · subst hk0
    have hn : news = [] := List.eq_nil_of_length_eq_zero (by simpa using hl)
    subst hn
    refine ⟨v, w, F ++ R, hv ?_, ow, h _ _ (hown.conv rfl (by simp))⟩
    obtain ⟨a', c', rfl⟩ := hown.val
    have hmc : m ≤ c' := by
      rcases hown.2 with ⟨e1, e2, _⟩ | ⟨g, cap, sp, e1, _, hle, _⟩
      · omega
      · simp only [Value.slice.injEq] at e1; omega
    cases a <;> cases a' <;> simp [Builtin.append_, run_underlying hbt, sizeOf, typeInfo, hi, Builtin.lenOf, Builtin.firstCells, loadCells, loadCellsFrom, hmc, storeCells]
  have hax := ha (by omega)
  have hnews : ∀ j u, news[j]? = some u → w.cell? ((⟨ablk a, aoff a, none⟩ : Addr).add j) = some u := fun j u hj => by
    rw [add_off]; exact (hc (by omega)).at ow j u hj
  rw [hax] at hv
  have hall : ∀ u ∈ news, u.oneCell' = true := fun u hu => List.all_eq_true.1 h1 u hu
  have grown : ∀ (old : Nat), old < m + k → OwnS e re.sz (.slice (some ⟨w.heap.size, 0, none⟩) (m + k) (grownCap w (m + k) old e)) (m + k) (xs ++ news)
      [(w.heap.size, .cells ⟨(xs ++ news) ++ (Builtin.zeroCells i.zero.get!.cells (grownCap w (m + k) old e - (m + k))).toList⟩ e (0, 0))] := by
    intro old ho
    have hge := grownCap_ge w (m + k) old e
    have hcm : grownCap w (m + k) old e ≤ maxLen := grownCap_le_maxLen w (m + k) old e h63
    have hlen : (xs ++ news).length = (m + k) * re.sz := by rw [List.length_append, hown.1, hl, Nat.add_mul]
    refine ⟨hlen, .inr ⟨_, _, _, rfl, rfl, hge, hcm, ?_⟩⟩
    rw [List.length_append, hlen, Array.length_toList, size_zeroCells, hiz]
    simp only [Option.get!_some, cellsL_eq, List.size_toArray, hz, ← Nat.add_mul]
    congr 1; omega
  rw [hax]
  rcases hown.2 with ⟨rfl, rfl, rfl⟩ | ⟨gb, cap, sp, rfl, rfl, hnc, hcm, hcs⟩
  · have hx0 : xs = [] := List.eq_nil_of_length_eq_zero (by simpa using hown.1)
    subst hx0
    have hr := run_append_nil (P := P) w t ty e i re.z hbt hi hiz ⟨ablk a, aoff a, none⟩ k c news (by rw [hl, his]) hnews (by omega) (by omega) (by rw [hib]; simp only [Nat.zero_add] at hb; omega)
    have hg0 := grown 0 (by omega)
    simp only [Nat.zero_add, List.nil_append] at hg0 ⊢ hr
    refine ⟨_, _, _, hv hr, ?_, h _ _ (by simpa using hg0)⟩
    have := orr.new' (.cells (news.toArray ++ Builtin.zeroCells re.z.cells (grownCap w k 0 e - k)) e (0, 0))
    have e1 : (news.toArray ++ Builtin.zeroCells re.z.cells (grownCap w k 0 e - k)) = ⟨news ++ (Builtin.zeroCells i.zero.get!.cells (grownCap w k 0 e - k)).toList⟩ := by
      refine Array.ext' ?_; simp [hiz]
    rw [e1] at this ⊢
    exact this
  · by_cases hroom : m + k ≤ cap
    · have hgb := ow.has _ (List.mem_append_left _ (List.mem_singleton.2 rfl))
      have hfit : m * i.size + news.length ≤ (Array.mk (xs ++ sp)).size := by
        rw [his, hl, List.size_toArray, hcs, ← Nat.add_mul]; exact Nat.mul_le_mul_right _ hroom
      have hr := run_append_room (P := P) w t ty e i hbt hi gb m cap ⟨xs ++ sp⟩ hgb ⟨ablk a, aoff a, none⟩ k c news (by rw [hl, his]) hnews hall hroom hfit
      rw [setRow_putB hgb] at hr
      have hxl : xs.length = m * i.size := by rw [hown.1, his]
      have e1 : ((xs ++ sp).take (m * i.size) ++ news ++ (xs ++ sp).drop (m * i.size + news.length)) = (xs ++ news) ++ sp.drop news.length := by
        rw [← hxl, List.take_left, List.drop_append, List.drop_of_length_le (by omega)]
        simp
      rw [e1] at hr
      refine ⟨_, _, [(gb, .cells ⟨(xs ++ news) ++ sp.drop news.length⟩ e (0, 0))] ++ R, hv hr, ?_, h _ _ ⟨by rw [List.length_append, hown.1, hl, Nat.add_mul], .inr ⟨gb, cap, _, rfl, rfl, hroom, hcm, ?_⟩⟩⟩
      · exact ow.put (i := 0) (b := gb) (ob := .cells ⟨xs ++ sp⟩ e (0, 0)) rfl rfl
      · rw [← hcs]
        simp only [List.length_append, List.length_drop]
        rw [his] at hfit
        simp only [List.size_toArray, List.length_append] at hfit
        have := hown.1
        omega
    · have hgb := ow.has _ (List.mem_append_left _ (List.mem_singleton.2 rfl))
      have holds : ∀ j u, xs[j]? = some u → w.cell? ((⟨gb, 0, none⟩ : Addr).add j) = some u := fun j u hj => by
        rw [add_off]; simp only at hgb
        have hj' := (List.getElem?_eq_some_iff.1 hj).1
        simp [World.cell?, hgb, List.getElem?_append_left hj', hj]
      have hr := run_append_grow (P := P) w t ty e i re.z hbt hi hiz ⟨gb, 0, none⟩ m cap xs (by rw [hown.1, his]) holds ⟨ablk a, aoff a, none⟩ k c news (by rw [hl, his]) hnews (by omega) (by omega) (growslice_fits (by omega) (by rw [hib]; exact hb))
      refine ⟨_, _, _, hv hr, ?_, h _ _ (grown cap (by omega))⟩
      have := orr.new' (.cells (xs.toArray ++ news.toArray ++ Builtin.zeroCells re.z.cells (grownCap w (m + k) cap e - (m + k))) e (0, 0))
      have e1 : (xs.toArray ++ news.toArray ++ Builtin.zeroCells re.z.cells (grownCap w (m + k) cap e - (m + k))) = ⟨(xs ++ news) ++ (Builtin.zeroCells i.zero.get!.cells (grownCap w (m + k) cap e - (m + k))).toList⟩ := by
        refine Array.ext' ?_; simp [hiz]
      rw [e1] at this ⊢
      exact this
end
end Go.SX
/- Rows of elements of several cells; blocks in whatever order. -/
namespace Go.SX
open Go Go.RowKit
theorem flat_len {α : Type} (f : α → List Value) (k : Nat) (hk : ∀ x, (f x).length = k) : ∀ l : List α, (l.flatMap f).length = l.length * k
  | [] => by simp
  | x :: l => by rw [List.flatMap_cons, List.length_append, hk, flat_len f k hk l, List.length_cons, Nat.add_mul]; omega
theorem flat_get {α : Type} (f : α → List Value) (k : Nat) (hk : ∀ x, (f x).length = k) (sp : List Value) : ∀ (l : List α) (i j : Nat) (x : α), l[i]? = some x → j < k → (l.flatMap f ++ sp)[i * k + j]? = (f x)[j]?
  | [], _, _, _, h, _ => by simp at h
  | y :: l, 0, j, x, h, hj => by
    simp only [List.getElem?_cons_zero, Option.some.injEq] at h
    subst h
    rw [List.flatMap_cons, List.append_assoc, Nat.zero_mul, Nat.zero_add, List.getElem?_append_left (by rw [hk]; exact hj)]
  | y :: l, i + 1, j, x, h, hj => by
    simp only [List.getElem?_cons_succ] at h
    rw [List.flatMap_cons, List.append_assoc, List.getElem?_append_right (by rw [hk, Nat.add_mul]; omega), hk, show (i + 1) * k + j - k = i * k + j by rw [Nat.add_mul]; omega]
    exact flat_get f k hk sp l i j x h hj
theorem rows_flat {α : Type} (f : α → List Value) (k : Nat) (hk : ∀ x, (f x).length = k) {h : HV} {b : Nat} : ∀ (l : List α) (off : Nat), (∀ i x, l[i]? = some x → rowv h b (off + i * k) (f x)) → rowv h b off (l.flatMap f)
  | [], _, _ => fun i v hv => by simp at hv
  | x :: l, off, hr => fun i v hv => by
    rw [List.flatMap_cons] at hv
    by_cases hi : i < k
    · rw [List.getElem?_append_left (by rw [hk]; exact hi)] at hv
      have := hr 0 x rfl i v hv
      rwa [Nat.zero_mul, Nat.add_zero] at this
    · rw [List.getElem?_append_right (by rw [hk]; omega), hk] at hv
      have := rows_flat f k hk l (off + k) (fun j y hy => by
        have := hr (j + 1) y hy
        rwa [show off + (j + 1) * k = off + k + j * k by rw [Nat.add_mul]; omega] at this) (i - k) v hv
      rwa [show off + k + (i - k) = off + i by omega] at this

/-- Elements by their cells alone. -/
def Kd.raw {α : Type} (f : α → List Value) (k : Nat) (hk : ∀ x, (f x).length = k) : Kd α := ⟨k, fun _ x cs => cs = f x, fun {_ x _} h => by rw [h]; exact hk x, fun _ h => h⟩
theorem fv_one {b : Nat} {o : Obj} : fv [(b, o)] b = some o := by simp [fv]
/-- What a slice of the call's own leads to, element by element. -/
theorem OwnS.raw {α : Type} {f : α → List Value} {k by_ e m : Nat} {hk : ∀ x, (f x).length = k} {v : Value} {l : List α} {F : HL} (h : OwnS e k v m (l.flatMap f) F) (hm : m = l.length) (hb : l.length * by_ ≤ 140737488355328) :
    ∃ a cap, v = .slice a l.length cap ∧ SlA (Kd.raw f k hk) by_ (fv F) l a cap := by
  subst hm
  rcases h.2 with ⟨rfl, h0, rfl⟩ | ⟨g, cap, sp, rfl, rfl, hle, hmx, hcs⟩
  · have : l = [] := List.eq_nil_of_length_eq_zero h0
    subst this
    exact ⟨none, 0, rfl, by simp, by simp, fun _ => rfl, fun h => absurd h (by simp), fun i x h => by simp at h⟩
  · refine ⟨some ⟨g, 0, none⟩, cap, rfl, hle, hb, (fun h => by cases h), fun _ => rfl, fun i x hx => ⟨f x, rfl, fun j v hj => ?_⟩⟩
    have hjk : j < k := by have := (List.getElem?_eq_some_iff.1 hj).1; rwa [hk] at this
    have := flat_get f k hk sp l i j x hx hjk
    simp only [cellv, fv_one, ablk, aoff, Nat.zero_add, Option.isSome_none, Bool.false_eq_true, if_false, List.getElem?_toArray]
    show (l.flatMap f ++ sp)[i * k + j]? = some v
    rw [this, hj]
theorem SlA.rawAt {α : Type} {f : α → List Value} {k by_ : Nat} {hk : ∀ x, (f x).length = k} {h : HV} {l : List α} {a : Option Addr} {cap : Nat} (s : SlA (Kd.raw f k hk) by_ h l a cap) {i : Nat} {x : α} (hi : l[i]? = some x) : rowv h (ablk a) (aoff a + i * k) (f x) := by
  obtain ⟨c, rfl, hr⟩ := s.row i x hi
  exact hr
theorem perm_of_cnt {l m : HL} (h : ∀ p : (Nat × Obj) → Bool, l.countP p = m.countP p) : l.Perm m := by
  letI : DecidableEq (Nat × Obj) := fun a b => Classical.propDecidable (a = b)
  rw [List.perm_iff_count]
  intro a
  exact h _
end Go.SX
/- The model's file in plain Lean: its bytes, and how they are read. -/
namespace Go.SX
open Go

/-- A number's n bytes, the lowest first. -/
def numB (x : Int) : Nat → List Int
  | 0 => []
  | n + 1 => x % 256 :: numB (x / 256) n
def valB : List Int → Int
  | [] => 0
  | b :: l => b + 256 * valB l
def isB (l : List Int) : Prop := ∀ x ∈ l, 0 ≤ x ∧ x ≤ 255
def isN (l : List Int) : Prop := ∀ x ∈ l, -128 ≤ x ∧ x ≤ 127
/-- A number of 8 bits as a byte, and back. -/
def toB (x : Int) : Int := x % 256
def toN (b : Int) : Int := if 128 ≤ b then b - 256 else b
theorem toB_toN {b : Int} (h : 0 ≤ b ∧ b ≤ 255) : toB (toN b) = b := by unfold toN toB; split <;> omega
theorem mapB {l : List Int} (h : isB l) : (l.map toN).map toB = l := by
  rw [List.map_map]; conv => rhs; rw [← List.map_id l]
  exact List.map_congr_left fun x hx => toB_toN (h x hx)
/-- A section. -/
def secB (letter : Int) (body : List Int) : List Int := letter :: (numB body.length 4 ++ body)

/-- A reader: what is left, and whether something did not fit. -/
structure RS where
  rest : List Int
  bad : Bool
def takeS (r : RS) (n : Nat) : List Int × RS := if r.bad = true ∨ r.rest.length < n then (List.replicate n 0, ⟨r.rest, true⟩) else (r.rest.take n, ⟨r.rest.drop n, false⟩)
/-- The head of a section. -/
def openS (r : RS) (letter n : Int) : RS :=
  if (takeS r 5).1.headD 0 = letter ∧ valB ((takeS r 5).1.drop 1) = n then (takeS r 5).2 else ⟨(takeS r 5).2.rest, true⟩
/-- n numbers of 8 bits. -/
def narrowS (r : RS) (n : Nat) : List Int × RS := ((takeS r n).1.map toN, (takeS r n).2)
end Go.SX
/- The model's file in plain Lean: weights, their bytes, and the reading of them. -/
namespace Go.SX
open Go

structure Cfg where
  (Vocab Width Heads KV Layers Hidden Len Medusa : Int)
def Cfg.may (c : Cfg) : Prop :=
  (2 ≤ c.Vocab ∧ c.Vocab ≤ 64) ∧ (2 ≤ c.Width ∧ c.Width ≤ 32) ∧ (1 ≤ c.Heads ∧ c.Heads ≤ 4) ∧ (1 ≤ c.Layers ∧ c.Layers ≤ 4) ∧ (1 ≤ c.Hidden ∧ c.Hidden ≤ 64) ∧
  (1 ≤ c.Len ∧ c.Len ≤ 64) ∧ (0 ≤ c.Medusa ∧ c.Medusa ≤ 4) ∧ c.Width % (2 * c.Heads) = 0 ∧ (1 ≤ c.KV ∧ c.KV ≤ c.Heads) ∧ c.Heads % c.KV = 0
def Cfg.head (c : Cfg) : Int := c.Width / c.Heads
def Cfg.keys (c : Cfg) : Int := c.KV * c.head
structure Mat where
  (Rows Cols : Int)
  Data : List Int
structure Lay where
  (Norm1 Norm2 : List Int)
  (Q K V O G U D : Mat)
  By : List Int
structure Wts where
  C : Cfg
  Embed : Mat
  Turns : List (Int × Int)
  Layers : List Lay
  Final : List Int
  Head : Mat
  Medusa : List Mat

/-! ### What fits -/
def isM (m : Mat) (r c : Int) : Prop := m.Rows = r ∧ m.Cols = c ∧ 1 ≤ r ∧ 1 ≤ c ∧ (m.Data.length : Int) = r * c ∧ ∀ x ∈ m.Data, -127 ≤ x ∧ x ≤ 127
def gainsS (l : List Int) (n : Int) : Prop := (l.length : Int) = n ∧ ∀ x ∈ l, -127 ≤ x ∧ x ≤ 127
def byS (l : List Int) : Prop := l.length = 7 ∧ ∀ x ∈ l, 0 ≤ x ∧ x ≤ 24
structure okL (l : Lay) (c : Cfg) : Prop where
  n1 : gainsS l.Norm1 c.Width
  n2 : gainsS l.Norm2 c.Width
  q : isM l.Q c.Width c.Width
  k : isM l.K c.keys c.Width
  v : isM l.V c.keys c.Width
  o : isM l.O c.Width c.Width
  g : isM l.G c.Hidden c.Width
  u : isM l.U c.Hidden c.Width
  d : isM l.D c.Width c.Hidden
  by_ : byS l.By
structure okW (w : Wts) : Prop where
  c : w.C.may
  e : isM w.Embed w.C.Vocab w.C.Width
  t : (w.Turns.length : Int) = w.C.head / 2 ∧ ∀ x ∈ w.Turns, (-16384 ≤ x.1 ∧ x.1 ≤ 16384) ∧ (-16384 ≤ x.2 ∧ x.2 ≤ 16384)
  l : (w.Layers.length : Int) = w.C.Layers ∧ ∀ l ∈ w.Layers, okL l w.C
  f : gainsS w.Final w.C.Width
  h : isM w.Head w.C.Vocab w.C.Width
  m : (w.Medusa.length : Int) = w.C.Medusa ∧ ∀ m ∈ w.Medusa, isM m w.C.Vocab w.C.Width

/-! ### The bytes -/
def Mat.bytes (m : Mat) : List Int := m.Data.map toB
def layBody (l : Lay) : List Int := l.Norm1.map toB ++ (l.Norm2.map toB ++ (l.Q.bytes ++ (l.K.bytes ++ (l.V.bytes ++ (l.O.bytes ++ (l.G.bytes ++ (l.U.bytes ++ (l.D.bytes ++ l.By.map toB))))))))
def turnB (x : Int × Int) : List Int := numB (x.1 % 65536) 2 ++ numB (x.2 % 65536) 2
def Cfg.list (c : Cfg) : List Int := [c.Vocab, c.Width, c.Heads, c.KV, c.Layers, c.Hidden, c.Len, c.Medusa]
def beginB : List Int := [0x61, 0x75, 0x67, 0x75, 0x72, 1]
def wtsB (w : Wts) : List Int :=
  secB 69 w.Embed.bytes ++ (secB 84 (w.Turns.flatMap turnB) ++ (w.Layers.flatMap (fun l => secB 76 (layBody l)) ++ (secB 70 (w.Final.map toB) ++ (secB 72 w.Head.bytes ++ w.Medusa.flatMap (fun m => secB 77 m.bytes)))))
def fileB (w : Wts) : List Int := beginB ++ (secB 67 (w.C.list.map toB) ++ wtsB w)
/-- D: the digest of bytes. -/
def fileOf (D : List Int → Int) (w : Wts) : List Int := fileB w ++ secB 90 (numB (D (fileB w)) 8)

/-! ### Reading -/
def matS (r : RS) (rows cols : Int) : Mat × RS := (⟨rows, cols, (narrowS r (rows * cols).toNat).1⟩, (narrowS r (rows * cols).toNat).2)
def iterS {α : Type} (f : RS → α × RS) : Nat → RS → List α × RS
  | 0, r => ([], r)
  | n + 1, r => let p := f r; let q := iterS f n p.2; (p.1 :: q.1, q.2)
def s16 (x : Int) : Int := if 32768 ≤ x then x - 65536 else x
def turnS (r : RS) : (Int × Int) × RS := ((s16 (valB ((takeS r 4).1.take 2)), s16 (valB ((takeS r 4).1.drop 2))), (takeS r 4).2)
/-- What a step reads is what it writes. -/
structure Reads {α : Type} (f : RS → α × RS) (enc : α → List Int) : Prop where
  isB : ∀ r, isB r.rest → isB (f r).2.rest
  sound : ∀ r, Go.SX.isB r.rest → (f r).2.bad = false → r.bad = false ∧ r.rest = enc (f r).1 ++ (f r).2.rest
end Go.SX
/- The model's file in plain Lean: the whole file. -/
namespace Go.SX
open Go

/-- A section that is read. -/
def secS {α : Type} (f : RS → α × RS) (letter n : Int) (r : RS) : α × RS := f (openS r letter n)
theorem Reads.pair {α β γ : Type} {f : RS → α × RS} {g : RS → β × RS} {ea : α → List Int} {eb : β → List Int} (hf : Reads f ea) (hg : Reads g eb) (mk : α → β → γ) (ec : γ → List Int) (he : ∀ a b, ec (mk a b) = ea a ++ eb b) :
    Reads (fun r => (mk (f r).1 (g (f r).2).1, (g (f r).2).2)) ec := by
  refine ⟨fun r hr => hg.isB _ (hf.isB _ hr), fun r hr hb => ?_⟩
  obtain ⟨h1, h2⟩ := hg.sound _ (hf.isB r hr) hb
  obtain ⟨h3, h4⟩ := hf.sound r hr h1
  exact ⟨h3, by rw [h4, h2, he, List.append_assoc]⟩
def layN (c : Cfg) : Int := 2 * c.Width + 7 + c.Width * c.Width + c.keys * c.Width + c.keys * c.Width + c.Width * c.Width + c.Hidden * c.Width + c.Hidden * c.Width + c.Width * c.Hidden
def layF (c : Cfg) (r : RS) : Lay × RS :=
  let a := narrowS r c.Width.toNat
  let b := narrowS a.2 c.Width.toNat
  let q := matS b.2 c.Width c.Width
  let k := matS q.2 c.keys c.Width
  let v := matS k.2 c.keys c.Width
  let o := matS v.2 c.Width c.Width
  let g := matS o.2 c.Hidden c.Width
  let u := matS g.2 c.Hidden c.Width
  let d := matS u.2 c.Width c.Hidden
  let y := takeS d.2 7
  (⟨a.1, b.1, q.1, k.1, v.1, o.1, g.1, u.1, d.1, y.1⟩, y.2)
theorem may_nn {c : Cfg} (h : c.may) : 0 ≤ c.head ∧ c.head ≤ 32 ∧ 0 ≤ c.keys ∧ c.keys ≤ 128 := by
  obtain ⟨h1, h2, h3, h4, h5, h6, h7, h8, h9, h10⟩ := h
  have hd : 0 ≤ c.head ∧ c.head ≤ 32 := by
    unfold Cfg.head
    rcases (by omega : c.Heads = 1 ∨ c.Heads = 2 ∨ c.Heads = 3 ∨ c.Heads = 4) with e | e | e | e <;> rw [e] <;> omega
  refine ⟨hd.1, hd.2, ?_⟩
  unfold Cfg.keys
  rcases (by omega : c.KV = 1 ∨ c.KV = 2 ∨ c.KV = 3 ∨ c.KV = 4) with e | e | e | e <;> rw [e] <;> omega
def weightsS (c : Cfg) (r : RS) : Wts × RS :=
  let e := secS (fun r => matS r c.Vocab c.Width) 69 (c.Vocab * c.Width) r
  let t := secS (iterS turnS (c.head / 2).toNat) 84 (2 * c.head) e.2
  let l := iterS (secS (layF c) 76 (layN c)) c.Layers.toNat t.2
  let f := secS (fun r => narrowS r c.Width.toNat) 70 c.Width l.2
  let h := secS (fun r => matS r c.Vocab c.Width) 72 (c.Vocab * c.Width) f.2
  let m := iterS (secS (fun r => matS r c.Vocab c.Width) 77 (c.Vocab * c.Width)) c.Medusa.toNat h.2
  (⟨c, e.1, t.1, l.1, f.1, h.1, m.1⟩, m.2)
end Go.SX
/- The model's file in plain Lean: there and back. -/
namespace Go.SX
open Go

def cfgOf : List Int → Cfg
  | [a, b, c, d, e, f, g, h] => ⟨a, b, c, d, e, f, g, h⟩
  | _ => ⟨0, 0, 0, 0, 0, 0, 0, 0⟩
open Classical in
/-- The weights that bytes are, if they are a file. D: the digest. -/
noncomputable def decS (D : List Int → Int) (b : List Int) : Option Wts :=
  let t := takeS ⟨b, false⟩ 6
  if t.1 ≠ beginB then none else
  let m := takeS (openS t.2 67 8) 8
  let c := cfgOf m.1
  if m.2.bad = true ∨ ¬ c.may then none else
  let w := weightsS c m.2
  let z := takeS (openS w.2 90 8) 8
  if valB z.1 ≠ D (b.take (b.length - w.2.rest.length)) ∨ z.2.bad = true ∨ z.2.rest ≠ [] ∨ ¬ okW w.1 then none else some w.1
end Go.SX
/- Structs of numbers, held against one another. -/
namespace Go.SX
open Go Go.RowKit

/-- Fields that are all of Go's int, one behind the other. -/
def intFieldsB (P : Program) : List Field → Nat → Bool
  | [], _ => true
  | f :: fs, i => decide (f.name ≠ "_") && Nat.beq f.offset i && (match P.underlying f.type with | some (.int k) => kEq k .i64 | _ => false) && intFieldsB P fs (i + 1)
theorem part_int {P : Program} {t : Nat} {k : IntKind} (h : P.underlying t = some (.int k)) {cs : Array Value} {off : Nat} {v : Value} (hc : cs[off]? = some v) (w : World) : (part t cs off).run P w = .ok v w := by
  refine run_part_one ?_ hc w
  unfold isAggT; rw [h]; rfl
section
variable {P : Program} {Γ : Env P} {n : FrN} {w0 : World} {K : List Nat} {ρ : Fr} {L : HL}
end
end Go.SX
/- The plan, said plainly: no program in sight. -/
namespace Go.SX
structure Seat where
  (Id Known Cached Want : Int)
  Held : List Int
structure Slc where
  (Id Prefill Nodes : Int)
structure Srv where
  (Blocks Block Budget Chunk Tree : Int)

def needI (n b : Int) : Int := (n + b - 1) / b
def Srv.okS (c : Srv) (l : Int) : Prop :=
  (1 ≤ l ∧ l ≤ 64) ∧ (1 ≤ c.Blocks ∧ c.Blocks ≤ 256) ∧ (1 ≤ c.Block ∧ c.Block ≤ 16) ∧ l ≤ c.Blocks * c.Block ∧ 1 ≤ c.Chunk ∧ (c.Chunk ≤ c.Budget ∧ c.Budget ≤ 1024) ∧ (1 ≤ c.Tree ∧ c.Tree ≤ 32)
def heldOk (c : Srv) (l : List Int) : Prop := (∀ b ∈ l, 0 ≤ b ∧ b < c.Blocks) ∧ l.Nodup
def seatOk (c : Srv) (s : Seat) : Prop :=
  (1 ≤ s.Known ∧ s.Known ≤ 64) ∧ (0 ≤ s.Cached ∧ s.Cached < s.Known) ∧ needI s.Cached c.Block ≤ s.Held.length ∧ heldOk c s.Held
def seatsOk (c : Srv) (l : List Seat) : Prop := l.length ≤ 16 ∧ (∀ s ∈ l, seatOk c s) ∧ (l.map (·.Id)).Nodup

/-- Does a seat that is not out hold the block? -/
def holds (T : List Seat) (out : List Int) (b : Int) : Bool := T.any fun s => !out.contains s.Id && s.Held.contains b
def used (c : Srv) (T : List Seat) (out : List Int) : Nat := ((List.range c.Blocks.toNat).filter fun b => holds T out (b : Nat)).length
def freeS (c : Srv) (T : List Seat) (out : List Int) (given : Int) : Int := c.Blocks - given - used c T out
def beyondS (c : Srv) (s : Seat) (x : Int) : Int := max 0 (needI (s.Cached + x) c.Block - s.Held.length)
/-- May a seat be put out for one of that Id? -/
def canGo (id : Int) (out : List Int) (z : Seat) : Bool := decide (id < z.Id) && !z.Held.isEmpty && !out.contains z.Id
/-- The youngest of those (T rises by Id). -/
def cand (T : List Seat) (id : Int) (out : List Int) : Option Seat := T.reverse.find? (canGo id out)
def made (c : Srv) (T : List Seat) (given : Int) (s : Seat) (x : Int) : Nat → List Int → Option (List Int)
  | 0, _ => none
  | f + 1, out => if beyondS c s x ≤ freeS c T out given then some out else match cand T s.Id out with
    | none => none
    | some y => made c T given s x f (out ++ [y.Id])
def fitN (c : Srv) (s : Seat) (free : Int) : Nat → Nat
  | 0 => 0
  | a + 1 => if beyondS c s ((a + 1 : Nat) : Int) ≤ free then a + 1 else fitN c s free a
structure St where
  out : List Int
  (given left : Int)
  sl : List Slc
def restS (s : Seat) : Int := s.Known - 1 - s.Cached
/-- What serving a seat comes to: who is out then, how many positions, the part of the step. -/
def servedS (c : Srv) (T : List Seat) (out : List Int) (given left : Int) (s : Seat) : Option (List Int × Int × Slc) :=
  if 0 < restS s then
    match made c T given s (min (min (restS s) c.Chunk) left) (T.length + 1) out with
    | none => none
    | some o => some (o, min (min (restS s) c.Chunk) left, ⟨s.Id, min (min (restS s) c.Chunk) left, 0⟩)
  else
    match made c T given s 1 (T.length + 1) out with
    | none => none
    | some o => some (o, (fitN c s (freeS c T o given) (min (min (max s.Want 1) c.Tree) left).toNat : Nat), ⟨s.Id, 0, (fitN c s (freeS c T o given) (min (min (max s.Want 1) c.Tree) left).toNat : Nat)⟩)
def serveS (c : Srv) (T : List Seat) (st : St) (s : Seat) : St :=
  match servedS c T st.out st.given st.left s with
  | none => st
  | some (o, a, x) => ⟨o, st.given + beyondS c s a, st.left - a, st.sl ++ [x]⟩
def turn (c : Srv) (T : List Seat) (picks : List Int) (st : St) (s : Seat) : St :=
  if 0 < st.left ∧ s.Id ∉ st.out ∧ s.Id ∈ picks then serveS c T st s else st
def planS (c : Srv) (T : List Seat) (picks : List Int) : St := T.foldl (turn c T picks) ⟨[], 0, c.Budget, []⟩
/-- Seats rising by Id. -/
def Rising (T : List Seat) : Prop := T.Pairwise (fun a b => a.Id < b.Id)

/-- The youngest that may go. -/
def IsYng (T : List Seat) (id : Int) (out : List Int) (y : Seat) : Prop := y ∈ T ∧ canGo id out y = true ∧ ∀ z ∈ T, canGo id out z = true → z.Id ≤ y.Id
theorem Rising.get {T : List Seat} (h : Rising T) {i j : Nat} {x y : Seat} (hi : T[i]? = some x) (hj : T[j]? = some y) (hij : i < j) : x.Id < y.Id := by
  obtain ⟨h1, rfl⟩ := List.getElem?_eq_some_iff.1 hi
  obtain ⟨h2, rfl⟩ := List.getElem?_eq_some_iff.1 hj
  exact List.pairwise_iff_getElem.1 h i j h1 h2 hij
theorem Rising.inj {T : List Seat} (h : Rising T) {x y : Seat} (hx : x ∈ T) (hy : y ∈ T) (e : x.Id = y.Id) : x = y := by
  obtain ⟨i, hi⟩ := List.getElem?_of_mem hx
  obtain ⟨j, hj⟩ := List.getElem?_of_mem hy
  rcases Nat.lt_trichotomy i j with hl | rfl | hl
  · have := h.get hi hj hl; omega
  · rw [hi] at hj; exact Option.some.inj hj
  · have := h.get hj hi hl; omega
theorem IsYng.perm {T U : List Seat} {id : Int} {out : List Int} {y : Seat} (p : T.Perm U) (h : IsYng T id out y) : IsYng U id out y :=
  ⟨p.mem_iff.1 h.1, h.2.1, fun z hz => h.2.2 z (p.mem_iff.2 hz)⟩
def goers (T : List Seat) (id : Int) (out : List Int) : Nat := (T.filter (canGo id out)).length
end Go.SX
/- Vocabularies: when the bytes and pairs are one (plain; no program). -/
namespace Go.SX
/-- A vocabulary: its bytes, its pairs of tokens. -/
structure Voc where
  Base : List Int
  Pairs : List (Int × Int)
/-- The lengths of the tokens' pieces, as far as they go. -/
def szs (nb : Nat) : List (Int × Int) → List Nat
  | [] => 0 :: List.replicate nb 1
  | p :: ps => szs nb ps ++ [((szs nb ps)[p.1.toNat]?.getD 0) + ((szs nb ps)[p.2.toNat]?.getD 0)]
/-- The pairs in order, the last first: each of earlier tokens, none twice, none too long. -/
def pairsOk (nb mx : Nat) : List (Int × Int) → Prop
  | [] => True
  | p :: ps => pairsOk nb mx ps ∧ p ∉ ps ∧ (1 ≤ p.1 ∧ p.1 < nb + 1 + ps.length) ∧ (1 ≤ p.2 ∧ p.2 < nb + 1 + ps.length) ∧ ((szs nb ps)[p.1.toNat]?.getD 0) + ((szs nb ps)[p.2.toNat]?.getD 0) ≤ mx
theorem szs_len (nb : Nat) : ∀ ps, (szs nb ps).length = nb + 1 + ps.length
  | [] => by simp [szs]
  | p :: ps => by simp only [szs, List.length_append, szs_len nb ps, List.length_cons, List.length_nil]; omega
def vocOk (v : Voc) : Prop := 1 ≤ v.Base.length ∧ v.Base.length ≤ 48 ∧ 1 + v.Base.length + v.Pairs.length ≤ 64 ∧ v.Base.Nodup ∧ pairsOk v.Base.length 16 v.Pairs.reverse
/-- The pairs before the one at j. -/
def pre (ps : List (Int × Int)) (j : Nat) : List (Int × Int) := (ps.take j).reverse
def pairAt (nb mx : Nat) (ps : List (Int × Int)) (j : Nat) (p : Int × Int) : Prop :=
  p ∉ ps.take j ∧ (1 ≤ p.1 ∧ p.1 < nb + 1 + j) ∧ (1 ≤ p.2 ∧ p.2 < nb + 1 + j) ∧ ((szs nb (pre ps j))[p.1.toNat]?.getD 0) + ((szs nb (pre ps j))[p.2.toNat]?.getD 0) ≤ mx
theorem pre_succ {ps : List (Int × Int)} {j : Nat} {p : Int × Int} (h : ps[j]? = some p) : pre ps (j + 1) = p :: pre ps j := by
  unfold pre
  rw [List.take_add_one, h, List.reverse_append]; rfl
theorem pre_len {ps : List (Int × Int)} {j : Nat} (h : j ≤ ps.length) : (pre ps j).length = j := by
  unfold pre
  rw [List.length_reverse, List.length_take]; omega
theorem pairs_succ {nb mx : Nat} {ps : List (Int × Int)} {j : Nat} {p : Int × Int} (h : ps[j]? = some p) : pairsOk nb mx (pre ps (j + 1)) ↔ pairsOk nb mx (pre ps j) ∧ pairAt nb mx ps j p := by
  have hj := (List.getElem?_eq_some_iff.1 h).1
  rw [pre_succ h]
  simp only [pairsOk, pairAt, pre_len (Nat.le_of_lt hj)]
  rw [show (p ∉ pre ps j) ↔ p ∉ ps.take j by unfold pre; rw [List.mem_reverse]]
theorem pairs_mono {nb mx : Nat} {ps : List (Int × Int)} {i j : Nat} (hij : i ≤ j) (hj : j ≤ ps.length) (h : pairsOk nb mx (pre ps j)) : pairsOk nb mx (pre ps i) := by
  induction j with
  | zero => obtain rfl : i = 0 := by omega
            exact h
  | succ j ih =>
    rcases Nat.lt_or_ge i (j + 1) with h1 | h1
    · exact ih (by omega) (by omega) ((pairs_succ (List.getElem?_eq_getElem (by omega))).1 h).1
    · obtain rfl : i = j + 1 := by omega
      exact h
end Go.SX
/- Vocabularies: the tokens' pieces (plain; no program). -/
namespace Go.SX
/-- The tokens' pieces, as far as they go. -/
def pcs (B : List Int) : List (Int × Int) → List (List Int)
  | [] => [] :: B.map (fun b => [b])
  | p :: ps => pcs B ps ++ [((pcs B ps)[p.1.toNat]?.getD []) ++ ((pcs B ps)[p.2.toNat]?.getD [])]
theorem getD_map_len (l : List (List Int)) (k : Nat) : (l[k]?.getD []).length = (l.map List.length)[k]?.getD 0 := by
  rw [List.getElem?_map]; cases l[k]? <;> rfl
theorem pcs_szs (B : List Int) : ∀ ps, (pcs B ps).map List.length = szs B.length ps
  | [] => by simp [pcs, szs, Function.comp_def, List.map_const']
  | p :: ps => by
    simp only [pcs, szs, List.map_append, List.map_cons, List.map_nil, pcs_szs B ps, List.length_append, getD_map_len]
theorem pcs_len (B : List Int) (ps : List (Int × Int)) : (pcs B ps).length = B.length + 1 + ps.length := by
  have := congrArg List.length (pcs_szs B ps)
  rw [List.length_map, szs_len] at this; exact this
theorem pcs_at (B : List Int) (ps : List (Int × Int)) (k : Nat) : ((pcs B ps)[k]?.getD []).length = (szs B.length ps)[k]?.getD 0 := by
  rw [getD_map_len, pcs_szs]
theorem pcs_succ {B : List Int} {ps : List (Int × Int)} {j : Nat} {p : Int × Int} (h : ps[j]? = some p) :
    pcs B (pre ps (j + 1)) = pcs B (pre ps j) ++ [((pcs B (pre ps j))[p.1.toNat]?.getD []) ++ ((pcs B (pre ps j))[p.2.toNat]?.getD [])] := by
  rw [pre_succ h]; rfl
theorem szs_small {nb mx : Nat} (hm : 1 ≤ mx) : ∀ {ps}, pairsOk nb mx ps → ∀ s ∈ szs nb ps, s ≤ mx
  | [], _, s, hs => by
    simp only [szs, List.mem_cons] at hs
    rcases hs with rfl | hs
    · omega
    · have := (List.mem_replicate.1 hs).2; omega
  | p :: ps, h, s, hs => by
    simp only [szs, List.mem_append, List.mem_singleton] at hs
    rcases hs with hs | rfl
    · exact szs_small hm h.1 s hs
    · exact h.2.2.2.2
theorem szs_at_small {nb mx : Nat} (hm : 1 ≤ mx) {ps : List (Int × Int)} (h : pairsOk nb mx ps) (k : Nat) : (szs nb ps)[k]?.getD 0 ≤ mx := by
  cases hk : (szs nb ps)[k]? with
  | none => exact Nat.zero_le _
  | some s => exact szs_small hm h s (List.mem_of_getElem? hk)
theorem pre_all (ps : List (Int × Int)) : pre ps ps.length = ps.reverse := by unfold pre; rw [List.take_length]
theorem nodup_take_succ {α : Type} {l : List α} {i : Nat} {x : α} (h : l[i]? = some x) : (l.take (i + 1)).Nodup ↔ (l.take i).Nodup ∧ x ∉ l.take i := by
  rw [List.take_add_one, h]
  simp only [Option.toList_some, List.nodup_append, List.mem_singleton]
  constructor
  · rintro ⟨h1, _, h3⟩; exact ⟨h1, fun hx => h3 x hx x rfl rfl⟩
  · rintro ⟨h1, h2⟩; exact ⟨h1, by simp, fun a ha b hb e => h2 (by rw [← hb, ← e]; exact ha)⟩
theorem nodup_take {α : Type} {l : List α} (h : l.Nodup) (i : Nat) : (l.take i).Nodup := h.sublist (List.take_sublist _ _)
/-- A vocabulary's size. -/
def Voc.size (v : Voc) : Nat := 1 + v.Base.length + v.Pairs.length
open Classical in
noncomputable def errV (v : Voc) : Int := if vocOk v then 0 else 50
open Classical in
noncomputable def sizeV (v : Voc) : Nat := if vocOk v then v.size else 0
theorem errV_ok {v : Voc} (h : vocOk v) : errV v = 0 := by unfold errV; rw [if_pos h]
theorem errV_no {v : Voc} (h : ¬ vocOk v) : errV v = 50 := by unfold errV; rw [if_neg h]
theorem sizeV_ok {v : Voc} (h : vocOk v) : sizeV v = v.size := by unfold sizeV; rw [if_pos h]
theorem sizeV_no {v : Voc} (h : ¬ vocOk v) : sizeV v = 0 := by unfold sizeV; rw [if_neg h]
end Go.SX
/- Rules for calls and appends over memory whose fixed blocks stand in front: L = R ++ F. -/
namespace Go.SX
open Go Go.RowKit
section
variable {P : Program} {Γ : Env P} {n : FrN} {w0 : World} {K : List Nat} {ρ : Fr} {L L' F R : HL} {ops : List Oper} {o : Oper} {N : Fr → HL → Prop}
theorem XOp.outP (hg : gval n ρ ops o.guard = some true) (h : XOp Γ n w0 K ops o (fun ρ' L' => ∃ L'', L'.Perm L'' ∧ N ρ' L'') ρ L) : XOp Γ n w0 K ops o N ρ L :=
  ⟨fun Q' w ow => by
    have := h.out Q' w ow
    rw [if_pos (gval_spec hg)] at this ⊢
    refine Oper.wp_mono ?_ this
    rintro a w' ⟨ρ', L', rfl, ow', L'', hp, hN⟩
    exact ⟨ρ', L'', rfl, ow'.perm hp, hN⟩⟩
/-- A call that is handed F; R stays, and stands in front. -/
theorem XOp.callR {d : Option Nat} {ty f : Nat} {c : Operand} {xs : Array Operand} {ts : Array Nat} {pos : String} {af : Array Edge} {g : Option (Nat × Bool)}
    {as : List Value} {first cap : Array Value} {A : HV → Prop} {Post : Value → HL → Prop}
    (hF : FC P f as F A Post)
    (hg : gval n ρ ops g = some true) (hc : ev n ρ c = .func (.func f) first cap) (ha : first.toList ++ args n ρ xs ++ cap.toList = as)
    (hL : L = R ++ F) (hA : Known w0 K R A)
    (h : ∀ v L', Post v L' → N (updO ρ d v) (R ++ L')) :
    XOp Γ n w0 K ops { dst := d, op := .call { callee := .value c, args := xs, argTypes := ts }, type := ty, pos := pos, after := af, guard := g } N ρ L := by
  subst hL
  refine XOp.perm hg (L' := F ++ R) ?_ List.perm_append_comm
  refine XOp.outP hg (XOp.call hF hg hc ha rfl hA fun v L' hp => ⟨R ++ L', List.perm_append_comm, h v L' hp⟩)
/-- A call that is handed nothing; what it makes stands behind all. -/
theorem XOp.callN {d : Option Nat} {ty f : Nat} {c : Operand} {xs : Array Operand} {ts : Array Nat} {pos : String} {af : Array Edge} {g : Option (Nat × Bool)}
    {as : List Value} {first cap : Array Value} {A : HV → Prop} {Post : Value → HL → Prop}
    (hF : FC P f as [] A Post)
    (hg : gval n ρ ops g = some true) (hc : ev n ρ c = .func (.func f) first cap) (ha : first.toList ++ args n ρ xs ++ cap.toList = as)
    (hA : Known w0 K L A)
    (h : ∀ v L', Post v L' → N (updO ρ d v) (L ++ L')) :
    XOp Γ n w0 K ops { dst := d, op := .call { callee := .value c, args := xs, argTypes := ts }, type := ty, pos := pos, after := af, guard := g } N ρ L :=
  XOp.callR (R := L) hF hg hc ha (List.append_nil _).symm hA h
/-- append(s, x..): x in a block of its own, that stands first. -/
theorem XOp.append1R {d b k c te t e m : Nat} {fz : Nat × Nat} {ty : Nat} {s x : Operand} {pos : String} {af : Array Edge} {g : Option (Nat × Bool)} {r re : TR} {v : Value} {xs news : List Value}
    (hg : gval n ρ ops g = some true) (ht : Γ.get t = some r) (hk : r.k = .slice e) (he : Γ.get e = some re) (hs : ev n ρ s = v) (hx : ev n ρ x = .slice (some ⟨b, 0, none⟩) k c)
    (hown : OwnS e re.sz v m xs F) (hL : L = (b, .cells ⟨news⟩ te fz) :: (R ++ F)) (hl : news.length = k * re.sz) (h1 : news.all (·.oneCell') = true)
    (hz : (cellsL re.z).length = re.sz) (hsz : 0 < re.sz) (h63 : m + k ≤ maxLen) (hb : (m + k) * re.by_ ≤ 140737488355328) (hk0 : 0 < k)
    (h : ∀ v' F', OwnS e re.sz v' (m + k) (xs ++ news) F' → N (upd ρ d v') (R ++ F')) :
    XOp Γ n w0 K ops { dst := some d, op := .call { callee := .builtin .append, args := #[s, x], argTypes := #[t, t] }, type := ty, pos := pos, after := af, guard := g } N ρ L := by
  subst hL
  refine XOp.perm hg (L' := (b, .cells ⟨news⟩ te fz) :: (F ++ R)) ?_ (List.Perm.cons _ List.perm_append_comm)
  exact XOp.outP hg (XOp.append1 hg ht hk he hs hx hown rfl hl h1 hz hsz h63 hb hk0 fun v' F' h' => ⟨R ++ F', List.perm_append_comm, h v' F' h'⟩)
theorem XOp.subl (hg : gval n ρ ops o.guard = some true) (h : XOp Γ n w0 K ops o N ρ L') (s : L'.Sublist L) : XOp Γ n w0 K ops o N ρ L :=
  ⟨fun Q' w ow => by
    have := h.out Q' w (ow.sub (fun x hx => s.subset hx) ((s.map _).nodup ow.nodup))
    rw [if_pos (gval_spec hg)] at this ⊢
    exact this⟩
end
end Go.SX
/- An element of an array's value; sub-rows. -/
namespace Go.SX
open Go Go.RowKit
section
variable {P : Program} {Γ : Env P} {n : FrN} {w0 : World} {K : List Nat} {ρ : Fr} {L : HL}
theorem PR.arr {t e len : Nat} {x ix : Operand} {r re : TR} {k : IntKind} {j : Int} {cs : List Value} {v : Value} (ht : Γ.get t = some r) (hk : r.k = .array len e) (he : Γ.get e = some re) (hag : aggK re.k = 1) (hs : re.sz = 1)
    (hx : ev n ρ x = .agg ⟨cs⟩) (hi : ev n ρ ix = .int k j) (hr : 0 ≤ j ∧ j < len) (hc : cs[j.toNat]? = some v) : PR Γ n w0 K ρ L (.index t x ix) v := ⟨fun o ho w ow => by
  unfold execOp; rw [ho]
  refine run_value ?_
  rw [hx, hi]
  simp only [Instr.index, asIntOf]
  show (((pure _ : Sem (IntKind × Int)) >>= _) : Sem Value).run P w = _
  have h1 := underlying_run (tk_array (Γ.is ht) hk) w
  have h2 := size_run (Γ.is he) w
  have hag' : isAggT P e = 1 := by rw [tk_agg (Γ.is he)]; exact hag
  have h3 : (part e ⟨cs⟩ (j.toNat * re.sz)).run P w = .ok v w := run_part_one hag' (by rw [hs, Nat.mul_one]; simpa using hc) w
  simp only [bind, Sem.bind, pure, run_bind, h1, h2, h3, hr, if_true, and_self, Sem.run]⟩
end
theorem rowv_sub {h : HV} {b off : Nat} {vs : List Value} (r : rowv h b off vs) (k m : Nat) : rowv h b (off + k) ((vs.drop k).take m) := fun i v hv => by
  have hi : i < m := by
    have := (List.getElem?_eq_some_iff.1 hv).1
    rw [List.length_take] at this; omega
  rw [List.getElem?_take_of_lt hi, List.getElem?_drop] at hv
  have := r (k + i) v hv
  rwa [show off + k + i = off + (k + i) by omega]
end Go.SX
namespace Go.SX
open Go Go.RowKit
section
variable {P : Program} {Γ : Env P} {n : FrN} {w0 : World} {K : List Nat} {ρ : Fr} {L R : HL} {ops : List Oper} {N : Fr → HL → Prop}
end
end Go.SX
/- Arrays of numbers: are they the same? -/
namespace Go.SX
open Go Go.RowKit

theorem eqItems_ints {P : Program} (d : Nat) (w : World) {e : Nat} (he : P.underlying e = some (.int .i64)) (xs ys : List Int) : ∀ is : List Nat, (∀ i ∈ is, i < xs.length ∧ i < ys.length) →
    (Op.eqItems (d + 1) e 1 ⟨xs.map (Value.int .i64)⟩ ⟨ys.map (Value.int .i64)⟩ is).run P w = .ok (pd (∀ i ∈ is, xs[i]? = ys[i]?)) w
  | [], _ => by
    show Result.ok true w = _
    rw [pd_true.2 (by simp)]
  | i :: is, h => by
    obtain ⟨h1, h2⟩ := h i (by simp)
    have ih := eqItems_ints d w he xs ys is fun j hj => h j (by simp [hj])
    have p1 : (part e ⟨xs.map (Value.int .i64)⟩ (i * 1)).run P w = .ok (.int .i64 xs[i]) w := part_int he (by simp [h1]) w
    have p2 : (part e ⟨ys.map (Value.int .i64)⟩ (i * 1)).run P w = .ok (.int .i64 ys[i]) w := part_int he (by simp [h2]) w
    have p3 := run_equalIn_int (P := P) w d e .i64 .i64 xs[i] ys[i] he
    unfold Op.eqItems
    rw [bind_run p1, bind_run p2, bind_run p3]
    by_cases hxy : xs[i] = ys[i]
    · rw [if_neg (by simp [hxy]), ih]
      congr 1
      rw [Bool.eq_iff_iff, pd_true, pd_true]
      simp [h1, h2, hxy]
    · rw [if_pos (by simp [hxy])]
      show Result.ok false w = _
      rw [pd_false.2 (fun hh => hxy (by have := hh i (by simp); simpa [h1, h2] using this))]
section
variable {P : Program} {Γ : Env P} {n : FrN} {w0 : World} {K : List Nat} {ρ : Fr} {L : HL}
theorem equalArr_run {t e len : Nat} {xs ys : List Int} {r re : TR} (ht : Γ.get t = some r) (hk : r.k = .array len e) (he : Γ.get e = some re) (hek : re.k = .int .i64) (hes : re.sz = 1)
    (hl : xs.length = len ∧ ys.length = len) (w : World) : (Op.equalIn 10000 t (.agg ⟨xs.map (Value.int .i64)⟩) (.agg ⟨ys.map (Value.int .i64)⟩)).run P w = .ok (pd (xs = ys)) w := by
  obtain ⟨i, hi, his, _⟩ := (Γ.is he).i
  rw [run_equalIn_array (P := P) (w := w) 9999 _ _ (tk_array (Γ.is ht) hk) hi]
  have hc : P.cellsOf e = 1 := by unfold Program.cellsOf; rw [hi]; simp [his, hes]
  rw [hc, eqItems_ints 9998 w (tk_int (Γ.is he) hek) xs ys _ (fun j hj => by have := List.mem_range.1 hj; omega)]
  congr 1
  rw [Bool.eq_iff_iff, pd_true, pd_true]
  constructor
  · intro h
    refine List.ext_getElem? fun j => ?_
    by_cases hj : j < len
    · exact h j (List.mem_range.2 hj)
    · rw [List.getElem?_eq_none (by omega), List.getElem?_eq_none (by omega)]
  · rintro rfl _ _; rfl
end
end Go.SX
/- Maps whose keys are of any kind. -/
namespace Go.SX
open Go Go.RowKit

def encG {κ : Type} (kv : κ → Value) (x : κ × Value × Nat) : MapEntry := { key := kv x.1, val := x.2.1, born := x.2.2 }
/-- A kind of keys: they are looked up as they are. -/
structure Keys (P : Program) (t : Nat) {κ : Type} (kv : κ → Value) : Prop where
  chk : ∀ b k w, (Instr.checkKey b 10000 t (kv k)).run P w = .ok () w
  fnd : ∀ (k : κ) (l : List (κ × Value × Nat)) (w : World), ((∀ x ∈ l, x.1 ≠ k) ∧ (Instr.findKey t (kv k) (l.map (encG kv))).run P w = .ok none w) ∨
    ∃ i x, l[i]? = some x ∧ x.1 = k ∧ (Instr.findKey t (kv k) (l.map (encG kv))).run P w = .ok (some (i, x.2.1)) w
/-- A map's object holds m. -/
def MapV {κ : Type} (kv : κ → Value) (ob : Obj) (m : κ → Option Value) : Prop := ∃ (l : List (κ × Value × Nat)) (clock : Nat), ob = .map ⟨l.map (encG kv)⟩ clock ∧ (l.map (·.1)).Nodup ∧ ∀ k v, m k = some v ↔ ∃ b, (k, v, b) ∈ l
theorem MapV.nil {κ : Type} (kv : κ → Value) : MapV kv (.map #[] 0) (fun _ => none) := ⟨[], 0, rfl, by simp, by simp⟩

theorem Keys.int {P : Program} {t : Nat} {kd : IntKind} (hu : P.underlying t = some (.int kd)) : Keys P t (κ := Int) (Value.int kd) := ⟨fun b k w => by
  show (Instr.checkKey b (9999 + 1) t _).run P w = _
  unfold Instr.checkKey
  rw [bind_run (underlying_run hu w)]; rfl, fun k l w => by
  have core : ∀ (l : List (Int × Value × Nat)) (j : Nat), ((∀ x ∈ l, x.1 ≠ k) ∧ Instr.findNow (.int kd) (.int kd k) (l.map (encG (Value.int kd))) j = some none) ∨
      ∃ i x, l[i]? = some x ∧ x.1 = k ∧ Instr.findNow (.int kd) (.int kd k) (l.map (encG (Value.int kd))) j = some (some (j + i, x.2.1)) := by
    intro l
    induction l with
    | nil => exact fun j => .inl ⟨by simp, rfl⟩
    | cons x l ih =>
      intro j
      simp only [List.map_cons, Instr.findNow, encG, Instr.sameNow, if_true]
      by_cases h : k = x.1
      · subst h
        exact .inr ⟨0, x, rfl, rfl, by simp⟩
      · have h' : (k == x.1) = false := by simpa using h
        simp only [h']
        rcases ih (j + 1) with ⟨h1, h2⟩ | ⟨i, y, h1, h2, h3⟩
        · exact .inl ⟨by
            intro y hy
            rcases List.mem_cons.1 hy with rfl | hy
            · exact fun e => h e.symm
            · exact h1 y hy, h2⟩
        · exact .inr ⟨i + 1, y, by simpa using h1, h2, by rw [← show j + 1 + i = j + (i + 1) by omega]; exact h3⟩
  unfold Instr.findKey
  rw [bind_run (underlying_run hu w)]
  rcases core l 0 with ⟨h1, h2⟩ | ⟨i, x, h1, h2, h3⟩
  · rw [h2]; exact .inl ⟨h1, rfl⟩
  · rw [h3]; exact .inr ⟨i, x, h1, h2, by rw [Nat.zero_add]; rfl⟩⟩
def pairV (p : Int × Int) : Value := .agg ⟨[.int .i64 p.1, .int .i64 p.2]⟩
theorem Keys.pair {P : Program} {Γ : Env P} {t e : Nat} {r re : TR} (ht : Γ.get t = some r) (hk : r.k = .array 2 e) (he : Γ.get e = some re) (hek : re.k = .int .i64) (hes : re.sz = 1) : Keys P t pairV := ⟨fun b p w => by
  show (Instr.checkKey b (9999 + 1) t _).run P w = _
  unfold Instr.checkKey
  rw [bind_run (underlying_run (tk_array (Γ.is ht) hk) w)]
  have hu := tk_int (Γ.is he) hek
  have h1 : ∀ (i : Nat) (v : Value), [Value.int .i64 p.1, Value.int .i64 p.2][i]? = some v → (part e ⟨[.int .i64 p.1, .int .i64 p.2]⟩ (i * re.sz)).run P w = .ok v w := fun i v hv => by
    rw [hes, Nat.mul_one]
    exact run_part_one (by rw [tk_agg (Γ.is he), hek]) (by simpa using hv) w
  have h2 : ∀ (x : Int), (Instr.checkKey b 9999 e (.int .i64 x)).run P w = .ok () w := fun x => by
    show (Instr.checkKey b (9998 + 1) e _).run P w = _
    unfold Instr.checkKey
    rw [bind_run (underlying_run hu w)]; rfl
  have hs := size_run (Γ.is he) w
  simp only [pairV]
  have h10 := h1 0 _ rfl
  have h11 := h1 1 _ rfl
  rw [Nat.zero_mul] at h10
  rw [Nat.one_mul] at h11
  simp [Std.Legacy.Range.forIn_eq_forIn_range', List.range', Std.Legacy.Range.size, bind_run, run_bind, hs, h10, h11, h2, Result.andThen], fun k l w => by
  rw [run_findKey_eq w (by rw [tk_array (Γ.is ht) hk])]
  have core : ∀ (l : List ((Int × Int) × Value × Nat)) (j : Nat), ((∀ x ∈ l, x.1 ≠ k) ∧ (Instr.findAsking t (pairV k) (l.map (encG pairV)) j).run P w = .ok none w) ∨
      ∃ i x, l[i]? = some x ∧ x.1 = k ∧ (Instr.findAsking t (pairV k) (l.map (encG pairV)) j).run P w = .ok (some (j + i, x.2.1)) w := by
    intro l
    induction l with
    | nil => exact fun j => .inl ⟨by simp, rfl⟩
    | cons x l ih =>
      intro j
      have heq : (Op.equal t (pairV k) (pairV x.1)).run P w = .ok (pd ([k.1, k.2] = [x.1.1, x.1.2])) w :=
        equalArr_run (Γ := Γ) (t := t) (e := e) (len := 2) (xs := [k.1, k.2]) (ys := [x.1.1, x.1.2]) ht hk he hek hes ⟨rfl, rfl⟩ w
      simp only [List.map_cons, Instr.findAsking, encG]
      rw [bind_run heq]
      by_cases h : x.1 = k
      · rw [pd_true.2 (by rw [h])]
        exact .inr ⟨0, x, rfl, h, rfl⟩
      · rw [pd_false.2 (by
          intro e; simp only [List.cons.injEq, and_true] at e
          exact h (Prod.ext e.1.symm e.2.symm))]
        rcases ih (j + 1) with ⟨h1, h2⟩ | ⟨i, y, h1, h2, h3⟩
        · exact .inl ⟨by
            intro y hy
            rcases List.mem_cons.1 hy with rfl | hy
            · exact h
            · exact h1 y hy, h2⟩
        · exact .inr ⟨i + 1, y, by simpa using h1, h2, by rw [← show j + 1 + i = j + (i + 1) by omega]; exact h3⟩
  rcases core l 0 with ⟨h1, h2⟩ | ⟨i, x, h1, h2, h3⟩
  · exact .inl ⟨h1, h2⟩
  · exact .inr ⟨i, x, h1, h2, by rw [Nat.zero_add] at h3; exact h3⟩⟩

section
variable {P : Program} {Γ : Env P} {n : FrN} {w0 : World} {K : List Nat} {Q : Exit → Fr → HL → Prop} {ρ : Fr} {L R F : HL} {ops : List Oper} {N : Fr → HL → Prop}
/-- An array's literal. -/
theorem PR.buildA {t e len : Nat} {ps : Array (Nat × Operand)} {r re : TR} {zs cs : List Value} (ht : Γ.get t = some r) (hk : r.k = .array len e) (he : Γ.get e = some re)
    (hz : cellsO r.z = some zs) (hf : fillL (fun i => some (i * re.sz, re.sz)) zs (parts n ρ ps) = some cs) : PR Γ n w0 K ρ L (.build t ps) (.agg ⟨cs⟩) := ⟨fun o ho w ow => by
  unfold execOp; rw [ho]
  refine run_value ?_
  unfold Instr.build
  rw [bind_run (zero_run (Γ.is ht) w), bind_run (underlying_run (tk_array (Γ.is ht) hk) w)]
  simp only
  rw [bind_run (size_run (Γ.is he) w)]
  have hparts : (ps.map fun x => (x.1, ev n ρ x.2)).toList = parts n ρ ps := by simp [parts]
  have e2 : Instr.fill (fun i => some (i * re.sz, re.sz)) ⟨zs⟩ (ps.map fun x => (x.1, ev n ρ x.2)).toList = some ⟨cs⟩ := by
    rw [hparts]; exact fillL_eq hf
  rw [cellsL_eq, cellsO_eq hz]
  simp only [e2]; rfl⟩
/-- _, ok := m[k]. -/
theorem PR.lookupV {κ : Type} {kv : κ → Value} {k : κ} {t te e i b : Nat} {x ix : Operand} {r re : TR} {zv : Value} {ob : Obj} {m : κ → Option Value} (ht : Γ.get t = some r) (hk : r.k = .map te e) (hK : Keys P te kv)
    (he : Γ.get e = some re) (hz : force re.z = some zv) (hx : ev n ρ x = .map (some b)) (hi : ev n ρ ix = kv k) (hL : L[i]? = some (b, ob)) (hm : MapV kv ob m) :
    PR Γ n w0 K ρ L (.lookup t x ix true) (.tuple #[(m k).getD zv, .bool (pd (m k ≠ none))]) := ⟨fun o ho w ow => by
  unfold execOp; rw [ho]
  refine run_value ?_
  obtain ⟨l, clock, rfl, hnd, hg⟩ := hm
  have hh := ow.has _ (List.mem_of_getElem? hL)
  rw [hx, hi]
  unfold Instr.lookup
  rw [bind_run (underlying_run (tk_map (Γ.is ht) hk) w)]
  simp only
  rw [bind_run (getObj_run hh)]
  simp only
  have h1 : (pure (⟨l.map (encG kv)⟩ : Array MapEntry) : Sem (Array MapEntry)).run P w = .ok ⟨l.map (encG kv)⟩ w := rfl
  rw [bind_run h1, bind_run (hK.chk _ k w)]
  rcases hK.fnd k l w with ⟨hn, hr⟩ | ⟨j, x, hj, hjk, hr⟩
  · rw [bind_run hr]
    have hmk : m k = none := by
      cases h : m k with
      | none => rfl
      | some v => obtain ⟨b', hb'⟩ := (hg k v).1 h; exact absurd rfl (hn _ hb')
    have hzr := zero_run (Γ.is he) w
    rw [force_eq hz] at hzr
    simp only
    rw [bind_run hzr, hmk, pd_false.2 (by simp)]; rfl
  · rw [bind_run hr]
    have hmk : m k = some x.2.1 := (hg k _).2 ⟨x.2.2, by rw [← hjk]; exact List.mem_of_getElem? hj⟩
    rw [hmk, pd_true.2 (by simp)]; rfl⟩
/-- make(map[K]V). -/
theorem XOp.makeMapV {κ : Type} (kv : κ → Value) {d t ty : Nat} {pos : String} {af : Array Edge} {g : Option (Nat × Bool)} (hg : gval n ρ ops g = some true)
    (h : ∀ b ob, MapV kv ob (fun _ => none) → N (upd ρ d (.map (some b))) ((b, ob) :: L)) :
    XOp Γ n w0 K ops { dst := some d, op := .makeMap t none, type := ty, pos := pos, after := af, guard := g } N ρ L :=
  XOp.val hg fun w ow => ⟨.map (some w.heap.size), w.alloc (.map #[] 0), _, by
    refine run_value ?_
    rfl, ow.new _, h w.heap.size _ (MapV.nil kv)⟩
/-- m[k] = v of a new key. -/
theorem XOp.mapNewV {κ : Type} [DecidableEq κ] {kv : κ → Value} {k : κ} {d : Option Nat} {t te e i b ty : Nat} {x y z : Operand} {pos : String} {af : Array Edge} {g : Option (Nat × Bool)} {r : TR} {v : Value} {ob : Obj} {m : κ → Option Value} (hg : gval n ρ ops g = some true)
    (ht : Γ.get t = some r) (hk : r.k = .map te e) (hK : Keys P te kv)
    (hx : ev n ρ x = .map (some b)) (hy : ev n ρ y = kv k) (hz : ev n ρ z = v) (hL : L[i]? = some (b, ob)) (hm : MapV kv ob m) (hn : m k = none)
    (h : ∀ ob', MapV kv ob' (fun k' => if k' = k then some v else m k') → N (updO ρ d undef) (L.set i (b, ob'))) :
    XOp Γ n w0 K ops { dst := d, op := .mapUpdate t x y z, type := ty, pos := pos, after := af, guard := g } N ρ L := by
  refine XOp.noval hg fun w ow => ?_
  obtain ⟨l, clock, rfl, hnd, hgt⟩ := hm
  have hh := ow.has _ (List.mem_of_getElem? hL)
  simp only at hh
  have hno : ∀ x ∈ l, x.1 ≠ k := fun x hx e => by
    have := (hgt k x.2.1).2 ⟨x.2.2, by rw [← e]; exact hx⟩
    rw [hn] at this; cases this
  refine ⟨putB w b (.map ⟨(l ++ [(k, v, clock)]).map (encG kv)⟩ (clock + 1)), _, ?_, ow.set hL _ rfl rfl rfl rfl, h _ ⟨l ++ [(k, v, clock)], clock + 1, rfl, ?_, ?_⟩⟩
  · show ((Instr.mapUpdate t (ev n ρ x) (ev n ρ y) (ev n ρ z)).bind _).run P w = _
    rw [hx, hy, hz, run_bind]
    have : (Instr.mapUpdate t (.map (some b)) (kv k) v).run P w = .ok () (putB w b (.map ⟨(l ++ [(k, v, clock)]).map (encG kv)⟩ (clock + 1))) := by
      unfold Instr.mapUpdate
      rw [bind_run (underlying_run (tk_map (Γ.is ht) hk) w)]
      simp only
      rw [bind_run (getObj_run hh)]
      simp only
      rw [bind_run (hK.chk _ k w)]
      rcases hK.fnd k l w with ⟨_, hr⟩ | ⟨j, x, hj, hjk, _⟩
      · rw [bind_run hr]
        simp only
        rw [setObj_run hh]
        simp [encG]
      · exact absurd hjk (hno x (List.mem_of_getElem? hj))
    rw [this]; rfl
  · rw [List.map_append, List.nodup_append]
    refine ⟨hnd, by simp, ?_⟩
    intro a ha b' hb' e
    simp only [List.map_cons, List.map_nil, List.mem_singleton] at hb'
    subst hb'; subst e
    obtain ⟨y', hy', he⟩ := List.mem_map.1 ha
    exact hno y' hy' he
  · intro k' v'
    simp only [List.mem_append, List.mem_singleton, Prod.mk.injEq]
    by_cases hkk : k' = k
    · subst hkk
      rw [if_pos rfl]
      constructor
      · intro e; cases e; exact ⟨clock, .inr ⟨rfl, rfl, rfl⟩⟩
      · rintro ⟨b', hb' | ⟨_, rfl, _⟩⟩
        · exact absurd rfl (hno _ hb')
        · rfl
    · rw [if_neg hkk, hgt]
      constructor
      · rintro ⟨b', hb'⟩; exact ⟨b', .inl hb'⟩
      · rintro ⟨b', hb' | ⟨e, _⟩⟩
        · exact ⟨b', hb'⟩
        · exact absurd e hkk
/-- The same of a map that holds numbers. -/
def MapG {κ : Type} (kv : κ → Value) (ob : Obj) (m : κ → Option Int) : Prop := MapV kv ob (fun k => (m k).map (Value.int .i64))
theorem PR.lookupG {κ : Type} {kv : κ → Value} {k : κ} {t te e i b : Nat} {x ix : Operand} {r re : TR} {ob : Obj} {m : κ → Option Int} (ht : Γ.get t = some r) (hk : r.k = .map te e) (hK : Keys P te kv)
    (he : Γ.get e = some re) (hz : force re.z = some (.int .i64 0)) (hx : ev n ρ x = .map (some b)) (hi : ev n ρ ix = kv k) (hL : L[i]? = some (b, ob)) (hm : MapG kv ob m) :
    PR Γ n w0 K ρ L (.lookup t x ix true) (.tuple #[.int .i64 ((m k).getD 0), .bool (pd (m k ≠ none))]) := by
  have h := PR.lookupV (n := n) (w0 := w0) (K := K) (ρ := ρ) ht hk hK he hz hx hi hL hm
  have e1 : ((m k).map (Value.int .i64)).getD (.int .i64 0) = .int .i64 ((m k).getD 0) := by cases m k <;> rfl
  have e2 : pd ((m k).map (Value.int .i64) ≠ none) = pd (m k ≠ none) := by
    cases m k with
    | none => rw [pd_false.2 (by simp), pd_false.2 (by simp)]
    | some v => rw [pd_true.2 (by simp), pd_true.2 (by simp)]
  rw [e1, e2] at h
  exact h
theorem XOp.makeMapG {κ : Type} (kv : κ → Value) {d t ty : Nat} {pos : String} {af : Array Edge} {g : Option (Nat × Bool)} (hg : gval n ρ ops g = some true)
    (h : ∀ b ob, MapG kv ob (fun _ => none) → N (upd ρ d (.map (some b))) ((b, ob) :: L)) :
    XOp Γ n w0 K ops { dst := some d, op := .makeMap t none, type := ty, pos := pos, after := af, guard := g } N ρ L := XOp.makeMapV kv hg h
theorem XOp.mapNewG {κ : Type} [DecidableEq κ] {kv : κ → Value} {k : κ} {d : Option Nat} {t te e i b ty : Nat} {x y z : Operand} {pos : String} {af : Array Edge} {g : Option (Nat × Bool)} {r : TR} {v : Int} {ob : Obj} {m : κ → Option Int} (hg : gval n ρ ops g = some true)
    (ht : Γ.get t = some r) (hk : r.k = .map te e) (hK : Keys P te kv)
    (hx : ev n ρ x = .map (some b)) (hy : ev n ρ y = kv k) (hz : ev n ρ z = .int .i64 v) (hL : L[i]? = some (b, ob)) (hm : MapG kv ob m) (hn : m k = none)
    (h : ∀ ob', MapG kv ob' (fun k' => if k' = k then some v else m k') → N (updO ρ d undef) (L.set i (b, ob'))) :
    XOp Γ n w0 K ops { dst := d, op := .mapUpdate t x y z, type := ty, pos := pos, after := af, guard := g } N ρ L :=
  XOp.mapNewV hg ht hk hK hx hy hz hL hm (by rw [hn]; rfl) fun ob' ho => h ob' (by
    have : (fun k' => if k' = k then some (Value.int .i64 v) else (m k').map (Value.int .i64)) = fun k' => (if k' = k then some v else m k').map (Value.int .i64) := by
      funext k'; split <;> rfl
    rw [this] at ho
    exact ho)
end
end Go.SX
/- Pointers beside nil. -/
namespace Go.SX
open Go Go.RowKit
section
variable {P : Program} {Γ : Env P} {n : FrN} {w0 : World} {K : List Nat} {ρ : Fr} {L : HL}
theorem guard_ptr (op : BinOp) (t : Nat) (x y : Operand) (a : Option Addr) (v : Value) (w : World) : (eqGuard op t x y (.pointer a) v).run P w = .ok () w := by
  unfold eqGuard; cases op <;> first | rfl | (cases v <;> rfl)
theorem pointee_of {t e : Nat} (h : P.underlying t = some (.pointer e)) : P.underlying t = some (.pointer (P.pointee t)) := by
  unfold Program.pointee; rw [h]
theorem PR.eqNilP {t ty e : Nat} {a : Option Addr} {x y : Operand} {r : TR} (ht : Γ.get t = some r) (hk : r.k = .ptr e) (hx : ev n ρ x = .pointer a) (hy : ev n ρ y = .pointer none) :
    PR Γ n w0 K ρ L (.binOp .eql t x y ty) (.bool a.isNone) := ⟨fun o ho w ow => by
  unfold execOp; rw [ho]
  refine run_value ?_
  rw [hx, hy, bind_run (guard_ptr _ _ _ _ _ _ w)]
  show (((Op.equal t (.pointer a) (.pointer none)) >>= fun b => pure (Value.bool b)) : Sem Value).run P w = _
  rw [bind_run (run_equal_pointer_nil w t a (pointee_of (tk_ptr (Γ.is ht) hk)))]; rfl⟩
theorem PR.neNilP {t ty e : Nat} {a : Option Addr} {x y : Operand} {r : TR} (ht : Γ.get t = some r) (hk : r.k = .ptr e) (hx : ev n ρ x = .pointer a) (hy : ev n ρ y = .pointer none) :
    PR Γ n w0 K ρ L (.binOp .neq t x y ty) (.bool (!a.isNone)) := ⟨fun o ho w ow => by
  unfold execOp; rw [ho]
  refine run_value ?_
  rw [hx, hy, bind_run (guard_ptr _ _ _ _ _ _ w)]
  show (((Op.equal t (.pointer a) (.pointer none)) >>= fun b => pure (Value.bool (!b))) : Sem Value).run P w = _
  rw [bind_run (run_equal_pointer_nil w t a (pointee_of (tk_ptr (Γ.is ht) hk)))]; rfl⟩
end
end Go.SX
/- Bools beside bools. -/
namespace Go.SX
open Go Go.RowKit
section
variable {P : Program} {Γ : Env P} {n : FrN} {w0 : World} {K : List Nat} {ρ : Fr} {L : HL}
theorem guard_bool (op : BinOp) (t : Nat) (x y : Operand) (a : Bool) (v : Value) (w : World) : (eqGuard op t x y (.bool a) v).run P w = .ok () w := by
  unfold eqGuard; cases op <;> first | rfl | (cases v <;> rfl)
theorem PR.eqBB {t ty : Nat} {a b : Bool} {x y : Operand} {r : TR} (ht : Γ.get t = some r) (hk : r.k = .bool) (hx : ev n ρ x = .bool a) (hy : ev n ρ y = .bool b) :
    PR Γ n w0 K ρ L (.binOp .eql t x y ty) (.bool (a == b)) := ⟨fun o ho w ow => by
  unfold execOp; rw [ho]
  refine run_value ?_
  rw [hx, hy, bind_run (guard_bool _ _ _ _ _ _ w)]
  show (((Op.equal t (.bool a) (.bool b)) >>= fun b => pure (Value.bool b)) : Sem Value).run P w = _
  rw [bind_run (run_equal_bool w t a b (tk_bool (Γ.is ht) hk))]; rfl⟩
theorem PR.neBB {t ty : Nat} {a b : Bool} {x y : Operand} {r : TR} (ht : Γ.get t = some r) (hk : r.k = .bool) (hx : ev n ρ x = .bool a) (hy : ev n ρ y = .bool b) :
    PR Γ n w0 K ρ L (.binOp .neq t x y ty) (.bool (!(a == b))) := ⟨fun o ho w ow => by
  unfold execOp; rw [ho]
  refine run_value ?_
  rw [hx, hy, bind_run (guard_bool _ _ _ _ _ _ w)]
  show (((Op.equal t (.bool a) (.bool b)) >>= fun b => pure (Value.bool (!b))) : Sem Value).run P w = _
  rw [bind_run (run_equal_bool w t a b (tk_bool (Γ.is ht) hk))]; rfl⟩
end
end Go.SX
/- A call that is deferred, and that leaves all as it was where nothing panics. -/
namespace Go.SX
open Go Go.RowKit

/-- A deferred call that, where nothing panics, leaves all as it was. -/
def Idle (P : Program) (d : Deferred) : Prop := ∃ fv cap f args, d.target = .fn fv cap ∧ (∀ w, (invoke d.target d.args).run P w = .ok (.enter f args) w) ∧
  ∀ w, CallsD P f args .returning w (fun e u' w' => (∃ v, e = .returned v) ∧ u' = .returning ∧ w' = w)
section
variable {P : Program} {Γ : Env P} {n : Nat} {w0 : World} {K : List Nat} {ρ : Fr} {L : HL} {Q : Exit → FrN → Fr → HL → Prop}
theorem leaves_idle {fn : Func} {tmps : Array Value} {R : Ending → World → Prop} {v : Value} {w : World} (hr : (results fn tmps).run P w = .ok v w) (hR : R (.returned v) w) :
    ∀ ds : List Deferred, (∀ d ∈ ds, Idle P d) → Leaves P fn tmps R ds .returning w
  | [], _ => ⟨v, hr, hR⟩
  | d :: ds, h => by
    obtain ⟨fv, cap, f, args, ht, hi, hc⟩ := h d (List.mem_cons_self ..)
    refine ⟨by simp, fv, cap, f, args, ht, hi w, (hc w).mono ?_⟩
    rintro e u' w' ⟨⟨v', rfl⟩, rfl, rfl⟩
    exact leaves_idle hr hR ds fun d hd => h d (List.mem_cons_of_mem _ hd)
/-- Code of a function that may defer. -/
structure XCD (P : Program) (n : Nat) (w0 : World) (K : List Nat) (c : Code) (Q : Exit → FrN → Fr → HL → Prop) (ρ : Fr) (L : HL) : Prop where
  out : ∀ w, Own w0 K L w → c.wp P (fun e a w => e ≠ .outgrown ∧ ∃ m ρ L, m.sz = n ∧ a = mkA m ρ ∧ Own w0 K L w ∧ Q e m ρ L) (mkA ⟨n, []⟩ ρ) w
theorem XCD.of {c : Code} (h : XC P ⟨n, []⟩ w0 K c (fun e ρ L => Q e ⟨n, []⟩ ρ L) ρ L) : XCD P n w0 K c Q ρ L :=
  ⟨fun w o => Go.wp_mono (h.out w o) fun _ _ _ ⟨h1, ρ, L, h2, h3, h4⟩ => ⟨h1, _, ρ, L, rfl, h2, h3, h4⟩⟩
theorem XCD.seq {x y : Code} (h : XC P ⟨n, []⟩ w0 K x (thenX (fun ρ L => XCD P n w0 K y Q ρ L) (fun e ρ L => Q e ⟨n, []⟩ ρ L)) ρ L) : XCD P n w0 K (.seq x y) Q ρ L :=
  ⟨fun w o => wp_seq (Go.wp_mono (h.out w o) fun e a w ⟨h1, ρ, L, h2, h3, h4⟩ => by
    cases e <;> first | (subst h2; exact h4.out w h3) | exact ⟨h1, _, ρ, L, rfl, h2, h3, h4⟩)⟩
/-- A closure is made and its call is deferred; then the rest. -/
theorem XCD.seqDefer {id t f : Nat} {d1 ty1 ty2 : Nat} {pos1 pos2 : String} {af1 af2 : Array Edge} {y : Code} {vs : Array Value} {op1 : Op}
    (h1 : pval Γ ⟨n, []⟩ ρ op1 = some (.func (.func f) #[] vs)) (ht : Nat.beq t d1 = true) (hn : Nat.blt t n = true)
    (h : XC P ⟨n, [{ target := .fn (.func f) vs, args := #[] }]⟩ w0 K y (fun e ρ L => Q e ⟨n, [{ target := .fn (.func f) vs, args := #[] }]⟩ ρ L) (upd ρ d1 (.func (.func f) #[] vs)) L) :
    XCD P n w0 K (.seq (.region id #[{ dst := some d1, op := op1, type := ty1, pos := pos1, after := af1, guard := none },
      { dst := none, op := .defer { callee := .value (.tmp t), args := #[], argTypes := #[] }, type := ty2, pos := pos2, after := af2, guard := none }] false) y) Q ρ L := by
  obtain rfl := Nat.eq_of_beq_eq_true ht
  refine ⟨fun w o => wp_seq ?_⟩
  refine wp_region_lit (l := [_, _]) ?_
  unfold wpList
  rw [if_pos (by rfl)]
  refine .inl ?_
  unfold Oper.wp
  rw [mkA_eval, pval_run h1 w]
  show wpList _ _ _ _ ((mkA ⟨n, []⟩ ρ).put (some t) _) w
  rw [mkA_put]
  unfold wpList
  rw [if_pos (by rfl)]
  refine .inl ?_
  unfold Oper.wp
  rw [mkA_eval]
  have hev : ev ⟨n, []⟩ (updO ρ (some t) (.func (.func f) #[] vs)) (.tmp t) = .func (.func f) #[] vs := by
    simp only [ev, hn, updO, upd, Nat.beq_refl]
  have hres : (execOp (ev ⟨n, []⟩ (updO ρ (some t) (.func (.func f) #[] vs))) { dst := none, op := .defer { callee := .value (.tmp t), args := #[], argTypes := #[] }, type := ty2, pos := pos2, after := af2, guard := none }).run P w
      = .ok (.defer { target := .fn (.func f) vs, args := #[] }) w := by
    show ((resolve _ { callee := .value (.tmp t), args := #[], argTypes := #[] } ty2).bind _).run P w = _
    have h2 : (resolve (ev ⟨n, []⟩ (updO ρ (some t) (.func (.func f) #[] vs))) { callee := .value (.tmp t), args := #[], argTypes := #[] } ty2).run P w = .ok { target := .fn (.func f) vs, args := #[] } w := by
      simp [resolve, hev, Deferred.ofValue, pure, Sem.run]
    rw [run_bind, h2]; rfl
  rw [hres]
  show wpList _ _ _ _ (({ mkA ⟨n, []⟩ (updO ρ (some t) (.func (.func f) #[] vs)) with defers := [{ target := .fn (.func f) vs, args := #[] }] } : Act).put none undef) w
  have e : ({ mkA ⟨n, []⟩ (updO ρ (some t) (.func (.func f) #[] vs)) with defers := [{ target := .fn (.func f) vs, args := #[] }] } : Act) = mkA ⟨n, [{ target := .fn (.func f) vs, args := #[] }]⟩ (upd ρ t (.func (.func f) #[] vs)) := rfl
  rw [e, mkA_put]
  unfold wpList
  show y.wp _ _ _ _
  refine Go.wp_mono (h.out w o) fun e a w ⟨h1, ρ, L, h2, h3, h4⟩ => ⟨h1, _, ρ, L, rfl, h2, h3, h4⟩
/-- What a function's end must give. -/
def retD (P : Program) (rs : List ResultVar) (w0 : World) (K : List Nat) (Post : Value → HL → Prop) (e : Exit) (m : FrN) (ρ : Fr) (L : HL) : Prop :=
  (∀ d ∈ m.ds, Idle P d) ∧ retX P rs m w0 K Post e ρ L
theorem FC.introD {f : Nat} {fn : Func} {c : Code} {as : List Value} {L0 : HL} {A : HV → Prop} {Post : Value → HL → Prop}
    (hf : P.funcs[f]? = some fn) (hb : fn.body = some c) (hr : isFn P f = true) (n : Nat) (rs : List ResultVar) (hnt : fn.ntmps = n) (hrs : fn.results = rs.toArray) (hn' : Nat.ble as.length n = true)
    (h : ∀ w0, A (oldv w0 (keys L0)) → XCD P n w0 (keys L0) c (retD P rs w0 (keys L0) Post) (argF as) L0) : FC P f as L0 A Post := by
  subst hnt
  refine ⟨hr, fun w h1 h2 h3 => ?_⟩
  have hn := Nat.le_of_ble_eq_true hn'
  have hk : A (oldv w (keys L0)) := h3 _ fun b o ho => ho
  have ht : as.toArray ++ Array.replicate (fn.ntmps - as.toArray.size) undef = (mkA ⟨fn.ntmps, []⟩ (argF as)).tmps := by
    refine Array.ext (by simp [mkA]; omega) fun i h1 h2 => ?_
    simp only [mkA, Array.getElem_ofFn, argF_get]
    rw [Array.getElem_append]
    split
    · rename_i hi
      simp at hi
      simp [hi]
    · rename_i hi
      simp at hi
      simp [hi]
  refine calls_of_wp_defers hf hb ?_
  rw [ht]
  refine Go.wp_mono ((h w hk).out w (Own.refl h1 h2)) ?_
  rintro e a w' ⟨h0, m, ρ, L, hm, rfl, ow, hd, hq⟩
  cases e with
  | normal => obtain ⟨vs, hres, hp⟩ := hq; exact leaves_idle (results_run (by rw [hrs]; exact hres) ow) ⟨_, _, rfl, ow, hp⟩ _ hd
  | ret => obtain ⟨vs, hres, hp⟩ := hq; exact leaves_idle (results_run (by rw [hrs]; exact hres) ow) ⟨_, _, rfl, ow, hp⟩ _ hd
  | outgrown => exact absurd rfl h0
  | exit id => exact hq.elim
  | goto l => exact hq.elim
  | panic c => exact hq.elim
theorem tk_ifc {P : Program} {t : Nat} {r : TR} (h : TypeIs P t r) (hk : r.k = .iface) : ∃ ms, P.underlying t = some (.interface ms) := by
  obtain ⟨d, hd, he⟩ := h.d; rw [hk] at he; cases d <;> simp [tkOf] at he; exact ⟨_, hd⟩
theorem ev_self {n : Nat} {ds : List Deferred} {ρ : Fr} {t : Nat} {v : Value} (h : Nat.blt t n = true) : ev ⟨n, ds⟩ (upd ρ t v) (.tmp t) = v := by simp only [ev, h, upd, Nat.beq_refl]
theorem wpOpsS_rec {ops : Array Oper} {i : Nat} {o : Oper} {rest : List Nat} {a : Act} {cs : List Frame} {w : World} {Q : Exit → Act → List Frame → World → Prop} (ho : ops[i]? = some o) (hg : o.guard = none)
    (h1 : (execOp a.eval o).run P w = .ok .recover w) (h2 : recoverD cs = none) (h : wpOpsS P ops Q rest (a.put o.dst .nilIface) cs w) : wpOpsS P ops Q (i :: rest) a cs w := by
  have hw : Region.wanted o (yielded ops a.tmps) = true := by unfold Region.wanted; rw [hg]
  simp only [wpOpsS, ho, hw, if_true, h1, h2]; exact h
theorem wpOpsS_val {ops : Array Oper} {i : Nat} {o : Oper} {rest : List Nat} {a : Act} {cs : List Frame} {w : World} {Q : Exit → Act → List Frame → World → Prop} {v : Value} (ho : ops[i]? = some o) (hg : o.guard = none)
    (h1 : (execOp a.eval o).run P w = .ok (.value v) w) (h : wpOpsS P ops Q rest (a.put o.dst v) cs w) : wpOpsS P ops Q (i :: rest) a cs w := by
  have hw : Region.wanted o (yielded ops a.tmps) = true := by unfold Region.wanted; rw [hg]
  simp only [wpOpsS, ho, hw, if_true, h1]; exact h
/-- A closure that asks recover first and does what it does where something was told: nothing, where nothing panics. -/
theorem idle_recover {f : Nat} {fn : Func} {id s t ty0 ty1 ty2 te m : Nat} {x : Code} {vs : List Value} {pos1 pos2 : String} {af1 af2 : Array Edge} {ci : Array Nat} {r : TR}
    (hf : P.funcs[f]? = some fn) (hr : isFn P f = true)
    (hb : fn.body = some (.seq (.region id #[{ dst := some s, op := .call { callee := .builtin .recover, args := #[], argTypes := ci }, type := ty0, pos := pos1, after := af1, guard := none },
      { dst := some t, op := .binOp .neq te (.tmp s) (.const .nilIface) ty1, type := ty2, pos := pos2, after := af2, guard := none }] false) (.cond (.tmp t) x .skip)))
    (hm : fn.ntmps = m) (hs : Nat.blt s m = true) (ht : Nat.blt t m = true) (hz : Nat.ble vs.length m = true) (hres : fn.results = #[]) (hte : Γ.get te = some r) (hk : r.k = .iface) :
    Idle P { target := .fn (.func f) vs.toArray, args := #[] } := by
  subst hm
  refine ⟨_, _, f, vs.toArray, rfl, fun w => ?_, fun w => ?_⟩
  · show (callFunc f (#[] ++ vs.toArray)).run P w = _
    rw [Array.empty_append]
    exact isFn_run hr _ _
  · have hn := Nat.le_of_ble_eq_true hz
    have hact : vs.toArray ++ Array.replicate (fn.ntmps - vs.toArray.size) undef = (mkA ⟨fn.ntmps, []⟩ (argF vs)).tmps := by
      refine Array.ext (by simp [mkA]; omega) fun i h1 h2 => ?_
      simp only [mkA, Array.getElem_ofFn, argF_get]
      rw [Array.getElem_append]
      split
      · rename_i hi
        simp at hi
        simp [hi]
      · rename_i hi
        simp at hi
        simp [hi]
    refine callsD_of_wpS hf hb fun c₀ cs hmode => ?_
    rw [hact]
    show Code.wpS P _ _ (mkA ⟨fn.ntmps, []⟩ (argF vs)) _ _
    refine wpS_seq (wpS_region ?_)
    show wpOpsS P _ _ [0, 1] _ _ _
    refine wpOpsS_rec rfl rfl rfl (by simp [recoverD, hmode]) ?_
    rw [mkA_put]
    have hev : ev ⟨fn.ntmps, []⟩ (updO (argF vs) (some s) .nilIface) (.tmp s) = .nilIface := by simp only [ev, hs, updO, upd, Nat.beq_refl]
    have h3 : (execOp (ev ⟨fn.ntmps, []⟩ (updO (argF vs) (some s) .nilIface)) { dst := some t, op := .binOp .neq te (.tmp s) (.const .nilIface) ty1, type := ty2, pos := pos2, after := af2, guard := none }).run P w = .ok (.value (.bool false)) w := by
      unfold execOp
      refine run_value ?_
      rw [hev, show ev ⟨fn.ntmps, []⟩ (updO (argF vs) (some s) .nilIface) (.const .nilIface) = .nilIface from rfl]
      obtain ⟨ms, hu⟩ := tk_ifc (Γ.is hte) hk
      have hg : (eqGuard .neq te (.tmp s) (.const .nilIface) .nilIface .nilIface).run P w = .ok () w := by rw [eqGuard_nil_constR]; rfl
      rw [bind_run hg]
      show (((Op.equal te .nilIface .nilIface) >>= fun b => pure (Value.bool (!b))) : Sem Value).run P w = _
      have he : ∀ d, (Op.equalIn (d + 1) te .nilIface .nilIface).run P w = .ok true w := fun d => by
        simp [Op.equalIn, run_underlying hu]
      rw [bind_run (show (Op.equal te .nilIface .nilIface).run P w = .ok true w from he 9999)]; rfl
    refine wpOpsS_val rfl rfl (by rw [mkA_eval]; exact h3) ?_
    rw [mkA_put]
    unfold wpOpsS
    refine wpS_cond (t := false) (by rw [mkA_eval]; exact ev_self ht) ?_
    refine wpS_of_wp (wp_skip ?_)
    refine ⟨rfl, .returning, by obtain ⟨⟩ := c₀; cases hmode; rfl, resV [], results_run (n := ⟨fn.ntmps, []⟩) (w0 := w) (K := []) (L := []) (by rw [hres]; exact .nil) (show Own w [] [] w from Own.refl (L := []) (by simp) (by simp [keys])), ⟨_, rfl⟩, rfl, rfl⟩
end
end Go.SX
