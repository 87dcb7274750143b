/- Symbolic execution with the world kept out of sight: a frame is a function, the memory that a call holds is a list of blocks. -/
import Derived.Tactics
import Derived.Below
import Derived.Deep.Quiet
import Derived.StillTail
import Derived.KernelRfl
set_option linter.unusedSimpArgs false
set_option linter.unusedVariables false
namespace Go.SX
open Go Go.RowKit

/-! ### Memory: blocks that are held, views -/
abbrev HL := List (Nat × Obj)
abbrev HV := Nat → Option Obj
def keys (L : HL) : List Nat := L.map (·.1)

/-- Since w0 nothing below its size has turned but the blocks of K; the blocks of L are as L says. -/
structure Own (w0 : World) (K : List Nat) (L : HL) (w : World) : Prop where
  size : w0.heap.size ≤ w.heap.size
  os : w.os = w0.os
  tape : w.tape = w0.tape
  output : w.output = w0.output
  has : ∀ x ∈ L, w.heap[x.1]? = some x.2
  nodup : (keys L).Nodup
  old : ∀ b, b < w0.heap.size → b ∉ K → w.heap[b]? = w0.heap[b]?
  mine : ∀ x ∈ L, x.1 < w0.heap.size → x.1 ∈ K

/-- What every state says that holds L: whatever view agrees with L and with what is old. -/
def Ext (w0 : World) (K : List Nat) (L : HL) (h : HV) : Prop :=
  (∀ x ∈ L, h x.1 = some x.2) ∧ ∀ b, b < w0.heap.size → b ∉ K → h b = w0.heap[b]?
def Known (w0 : World) (K : List Nat) (L : HL) (A : HV → Prop) : Prop := ∀ h, Ext w0 K L h → A h
def hv (w : World) : HV := fun b => w.heap[b]?

theorem Own.ext {w0 K L w} (h : Own w0 K L w) : Ext w0 K L (hv w) := ⟨h.has, h.old⟩
theorem Known.at {w0 K L A w} (h : Known w0 K L A) (o : Own w0 K L w) : A (hv w) := h _ o.ext

theorem Ext.sub {w0 K L L' h} (s : ∀ x ∈ L', x ∈ L) (e : Ext w0 K L h) : Ext w0 K L' h := ⟨fun x hx => e.1 x (s x hx), e.2⟩
theorem Known.sub {w0 K L L' A} (k : Known w0 K L' A) (s : ∀ x ∈ L', x ∈ L) : Known w0 K L A := fun h e => k h (e.sub s)
theorem Known.and {w0 K L A B} (a : Known w0 K L A) (b : Known w0 K L B) : Known w0 K L (fun h => A h ∧ B h) := fun h e => ⟨a h e, b h e⟩
theorem Known.imp {w0 K L} {A B : HV → Prop} (a : Known w0 K L A) (f : ∀ h, A h → B h) : Known w0 K L B := fun h e => f h (a h e)
/-- What is known where nothing is held holds of the world at hand. -/
theorem Known.now {w0 : World} {K : List Nat} {A : HV → Prop} (k : Known w0 K [] A) : A (hv w0) := k _ ⟨by simp, fun _ _ _ => rfl⟩
theorem Known.true {w0 K L} : Known w0 K L (fun _ => True) := fun _ _ => trivial

theorem Own.refl {w0 : World} {L : HL} (hh : ∀ x ∈ L, w0.heap[x.1]? = some x.2) (hn : (keys L).Nodup) : Own w0 (keys L) L w0 :=
  ⟨Nat.le_refl _, rfl, rfl, rfl, hh, hn, fun _ _ _ => rfl, fun x hx _ => List.mem_map.2 ⟨x, hx, rfl⟩⟩

theorem Own.sub {w0 K L L' w} (o : Own w0 K L w) (s : ∀ x ∈ L', x ∈ L) (n : (keys L').Nodup) : Own w0 K L' w :=
  ⟨o.size, o.os, o.tape, o.output, fun x hx => o.has x (s x hx), n, o.old, fun x hx => o.mine x (s x hx)⟩

theorem Own.perm {w0 K L L' w} (o : Own w0 K L w) (p : L.Perm L') : Own w0 K L' w :=
  o.sub (fun x hx => p.mem_iff.2 hx) ((p.map _).nodup_iff.1 o.nodup)

theorem Own.drew {w0 K L w} (o : Own w0 K L w) : Own w0 K L { w with drawn := w.drawn + 1 } :=
  ⟨o.size, o.os, o.tape, o.output, o.has, o.nodup, o.old, o.mine⟩

theorem Own.lt {w0 K L w} (o : Own w0 K L w) {x} (hx : x ∈ L) : x.1 < w.heap.size := by
  have := o.has x hx
  exact (Array.getElem?_eq_some_iff.1 this).1

/-- A new block. -/
theorem Own.new {w0 : World} {K : List Nat} {L : HL} {w : World} (o : Own w0 K L w) (ob : Obj) : Own w0 K ((w.heap.size, ob) :: L) (w.alloc ob) := by
  refine ⟨?_, o.os, o.tape, o.output, ?_, ?_, ?_, ?_⟩
  · have := o.size; show w0.heap.size ≤ (w.heap.push ob).size; simp; omega
  · intro x hx
    show (w.heap.push ob)[x.1]? = _
    rcases List.mem_cons.1 hx with rfl | hx
    · simp
    · have := o.lt hx
      rw [Array.getElem?_push, if_neg (by omega)]; exact o.has x hx
  · refine List.nodup_cons.2 ⟨fun hm => ?_, o.nodup⟩
    obtain ⟨x, hx, he⟩ := List.mem_map.1 hm
    have := o.lt hx; rw [he] at this; exact Nat.lt_irrefl _ this
  · intro b hb hk
    have := o.size
    show (w.heap.push ob)[b]? = _
    rw [Array.getElem?_push, if_neg (by omega)]; exact o.old b hb hk
  · intro x hx hlt
    rcases List.mem_cons.1 hx with rfl | hx
    · have := o.size; simp at hlt; omega
    · exact o.mine x hx hlt

/-- The block of one entry turns. -/
theorem Own.set {w0 K L w} (o : Own w0 K L w) {i b ob} (hi : L[i]? = some (b, ob)) (ob' : Obj) {w' : World}
    (hw : w'.heap = w.heap.setIfInBounds b ob') (h1 : w'.os = w.os) (h2 : w'.tape = w.tape) (h3 : w'.output = w.output) : Own w0 K (L.set i (b, ob')) w' := by
  have hm : (b, ob) ∈ L := List.mem_of_getElem? hi
  have hlt := o.lt hm
  have hk : keys (L.set i (b, ob')) = keys L := by
    unfold keys; rw [List.map_set]
    refine List.ext_getElem? fun j => ?_
    rw [List.getElem?_set]
    split
    · rename_i e; subst e
      have hl := (List.getElem?_eq_some_iff.1 hi).1
      simp [hl]
      have := List.getElem?_eq_some_iff.1 hi
      obtain ⟨_, e⟩ := this
      rw [e]
    · rfl
  have hnd : (keys (L.set i (b, ob'))).Nodup := by rw [hk]; exact o.nodup
  refine ⟨?_, h1.trans o.os, h2.trans o.tape, h3.trans o.output, ?_, hnd, ?_, ?_⟩
  · rw [hw]; simp; exact o.size
  · intro x hx
    rw [hw]
    by_cases hb : x.1 = b
    · have : x = (b, ob') := by
        obtain ⟨j, hj⟩ := List.mem_iff_getElem?.1 hx
        have hjk : (keys (L.set i (b, ob')))[j]? = some b := by unfold keys; rw [List.getElem?_map, hj]; simp [hb]
        have hil : i < L.length := (List.getElem?_eq_some_iff.1 hi).1
        have hik : (keys (L.set i (b, ob')))[i]? = some b := by rw [hk]; unfold keys; rw [List.getElem?_map, hi]; rfl
        have hji : j = i := by
          have hjl := (List.getElem?_eq_some_iff.1 hjk).1
          exact List.getElem?_inj hjl hnd |>.1 (hjk.trans hik.symm)
        subst hji
        rw [List.getElem?_set_self hil] at hj
        exact (Option.some.inj hj).symm
      subst this
      simp [hlt]
    · have hx' : x ∈ L := by
        rcases List.mem_or_eq_of_mem_set hx with h | h
        · exact h
        · subst h; exact absurd rfl hb
      rw [Array.getElem?_setIfInBounds_ne (fun e => hb e.symm)]; exact o.has x hx'
  · intro c hc hck
    rw [hw, Array.getElem?_setIfInBounds_ne]
    · exact o.old c hc hck
    · intro e; subst e
      exact hck (o.mine _ hm hc)
  · intro x hx hxl
    rcases List.mem_or_eq_of_mem_set hx with h | h
    · exact o.mine x h hxl
    · subst h; exact o.mine (b, ob) hm hxl

/-- Behind a call that was handed the blocks L0. -/
theorem Own.call {w0 K L0 R w L' w'} (o : Own w0 K (L0 ++ R) w) (c : Own w (keys L0) L' w') : Own w0 K (L' ++ R) w' := by
  have hnd := o.nodup
  unfold keys at hnd; rw [List.map_append, List.nodup_append] at hnd
  obtain ⟨_, n2, n3⟩ := hnd
  have hR : ∀ x ∈ R, x.1 < w.heap.size ∧ x.1 ∉ keys L0 := fun x hx =>
    ⟨o.lt (List.mem_append_right _ hx), fun hm => n3 _ hm _ (List.mem_map.2 ⟨x, hx, rfl⟩) rfl⟩
  refine ⟨Nat.le_trans o.size c.size, c.os.trans o.os, c.tape.trans o.tape, c.output.trans o.output, ?_, ?_, ?_, ?_⟩
  · intro x hx
    rcases List.mem_append.1 hx with h | h
    · exact c.has x h
    · rw [c.old _ (hR x h).1 (hR x h).2]; exact o.has x (List.mem_append_right _ h)
  · unfold keys; rw [List.map_append, List.nodup_append]
    refine ⟨c.nodup, n2, ?_⟩
    intro a ha b hb e
    subst e
    obtain ⟨x, hx, rfl⟩ := List.mem_map.1 ha
    obtain ⟨y, hy, he⟩ := List.mem_map.1 hb
    have h1 := hR y hy
    rw [he] at h1
    exact h1.2 (c.mine x hx h1.1)
  · intro b hb hk
    have h1 : b ∉ keys L0 := fun hm => by
      obtain ⟨x, hx, rfl⟩ := List.mem_map.1 hm
      exact hk (o.mine x (List.mem_append_left _ hx) hb)
    rw [c.old b (Nat.lt_of_lt_of_le hb o.size) h1]; exact o.old b hb hk
  · intro x hx hlt
    rcases List.mem_append.1 hx with h | h
    · have := c.mine x h (Nat.lt_of_lt_of_le hlt o.size)
      obtain ⟨y, hy, he⟩ := List.mem_map.1 this
      rw [← he] at hlt ⊢
      exact o.mine y (List.mem_append_left _ hy) hlt
    · exact o.mine x (List.mem_append_right _ h) hlt

theorem Own.below {w0 L w} (o : Own w0 [] L w) : Below w0.heap.size w0 w :=
  ⟨o.os, o.tape, o.output, o.size, fun k hk => o.old k hk (by simp)⟩

/-! ### Frames -/
abbrev Fr := Nat → Value
def upd (ρ : Fr) (d : Nat) (v : Value) : Fr := fun t => match Nat.beq t d with | true => v | false => ρ t
def mkA (n : Nat) (ρ : Fr) : Act := { tmps := Array.ofFn (n := n) (fun i => ρ i.val), defers := [] }
def ev (n : Nat) (ρ : Fr) : Operand → Value
  | .tmp t => match Nat.blt t n with | true => ρ t | false => undef
  | .const v => v
  | .global g => .pointer (some ⟨g, 0, none⟩)
  | .func f => .func (.func f) #[] #[]
def updO (ρ : Fr) (d : Option Nat) (v : Value) : Fr := match d with | some d => upd ρ d v | none => ρ

theorem blt_no {t n : Nat} (h : ¬ t < n) : Nat.blt t n = false := by
  rcases hb : Nat.blt t n with _ | _
  · rfl
  · rw [Nat.blt_eq] at hb; exact absurd hb h

theorem mkA_eval (n : Nat) (ρ : Fr) : (mkA n ρ).eval = ev n ρ := by
  funext x
  cases x with
  | tmp t =>
    simp only [Act.eval, mkA, ev]
    by_cases h : t < n
    · simp [h, Array.getD]
      rw [show Nat.blt t n = true from by simpa using h]
    · simp [h, Array.getD]
      rw [show Nat.blt t n = false from blt_no h]
  | _ => rfl

theorem upd_eq (ρ : Fr) (d : Nat) (v : Value) (t : Nat) : upd ρ d v t = if t = d then v else ρ t := by
  unfold upd
  by_cases h : t = d
  · subst h; simp
  · rw [if_neg h]; rcases hb : Nat.beq t d with _ | _
    · rfl
    · exact absurd (Nat.eq_of_beq_eq_true hb) h

theorem mkA_put (n : Nat) (ρ : Fr) (d : Option Nat) (v : Value) : (mkA n ρ).put d v = mkA n (updO ρ d v) := by
  cases d with
  | none => rfl
  | some d =>
    simp only [Act.put, mkA, updO]
    congr 1
    refine Array.ext (by simp) fun i h1 h2 => ?_
    by_cases h : d = i
    · subst h; simp [upd_eq]
    · rw [Array.getElem_setIfInBounds_ne (h := h) (hj := by simpa using h1)]
      simp only [Array.getElem_ofFn, upd_eq]
      rw [if_neg (fun e => h e.symm)]

theorem upd_same (ρ : Fr) (d : Nat) (v : Value) (h : ρ d = v) : upd ρ d v = ρ := by
  funext t; rw [upd_eq]; split
  · rename_i e; rw [e, h]
  · rfl

end Go.SX
