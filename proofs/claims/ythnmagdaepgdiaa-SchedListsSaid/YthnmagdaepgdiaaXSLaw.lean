/- What follows from the plan, in plain Lean. -/
import Derived.Test.YthnmagdaepgdiaaXSPlan2
set_option linter.unusedSimpArgs false
set_option linter.unusedVariables false
namespace Go.SX
def sumI {α : Type} (f : α → Int) : List α → Int
  | [] => 0
  | x :: l => f x + sumI f l
theorem sumI_append {α : Type} (f : α → Int) : ∀ (l m : List α), sumI f (l ++ m) = sumI f l + sumI f m
  | [], m => by simp [sumI]
  | x :: l, m => by simp [sumI, sumI_append f l m]; omega
theorem sumI_nonneg {α : Type} {f : α → Int} : ∀ (l : List α), (∀ x ∈ l, 0 ≤ f x) → 0 ≤ sumI f l
  | [], _ => by simp [sumI]
  | x :: l, h => by have := h x (by simp); have := sumI_nonneg l (fun y hy => h y (by simp [hy])); unfold sumI; omega
theorem sumI_perm {α : Type} (f : α → Int) {l m : List α} (h : l.Perm m) : sumI f l = sumI f m := by
  induction h with
  | nil => rfl
  | cons x _ ih => simp [sumI, ih]
  | swap x y l => simp [sumI]; omega
  | trans _ _ a b => exact a.trans b
def Slc.amt (x : Slc) : Int := x.Prefill + x.Nodes
/-- The seat of an Id. -/
def seatOf (l : List Seat) (id : Int) : Option Seat := l.find? fun s => s.Id == id
theorem seatOf_of {l : List Seat} (hn : (l.map (·.Id)).Nodup) {s : Seat} (hs : s ∈ l) : seatOf l s.Id = some s := by
  induction l with
  | nil => cases hs
  | cons x l ih =>
    rw [List.map_cons, List.nodup_cons] at hn
    unfold seatOf
    rw [List.find?_cons]
    rcases List.mem_cons.1 hs with rfl | h
    · simp
    · have : (x.Id == s.Id) = false := by
        simp only [beq_eq_false_iff_ne, ne_eq]
        intro e; exact hn.1 (e ▸ List.mem_map.2 ⟨s, h, rfl⟩)
      rw [this]; exact ih hn.2 h
theorem seatOf_none {l : List Seat} {id : Int} (h : ∀ s ∈ l, s.Id ≠ id) : seatOf l id = none := by
  unfold seatOf; rw [List.find?_eq_none]; intro s hs; simpa using h s hs
theorem seatOf_some {l : List Seat} {id : Int} {s : Seat} (h : seatOf l id = some s) : s ∈ l ∧ s.Id = id := by
  unfold seatOf at h
  exact ⟨List.mem_of_find?_eq_some h, by simpa using List.find?_some h⟩
/-- What a part of a step asks for beyond its seat's own blocks. -/
def givesOf (c : Srv) (l : List Seat) (x : Slc) : Int := match seatOf l x.Id with | some s => beyondS c s x.amt | none => 0
/-- Who is served does just one thing, no more than it may. -/
def did (c : Srv) (s : Seat) (x : Slc) : Prop :=
  (0 < restS s ∧ x.Nodes = 0 ∧ 1 ≤ x.Prefill ∧ x.Prefill ≤ restS s ∧ x.Prefill ≤ c.Chunk) ∨
  (restS s = 0 ∧ x.Prefill = 0 ∧ 1 ≤ x.Nodes ∧ x.Nodes ≤ c.Tree ∧ x.Nodes ≤ max s.Want 1)
structure OutOk (T : List Seat) (out : List Int) : Prop where
  from_ : ∀ o ∈ out, ∃ y ∈ T, y.Id = o ∧ 0 < y.Held.length
  nodup : out.Nodup
  up : ∀ o ∈ out, ∀ y ∈ T, 0 < y.Held.length → o < y.Id → y.Id ∈ out
theorem made_out {c : Srv} {T : List Seat} (hT : Rising T) {given : Int} {s : Seat} {x : Int} : ∀ {f : Nat} {out o : List Int}, OutOk T out → made c T given s x f out = some o →
    OutOk T o ∧ (∀ z ∈ out, z ∈ o) ∧ ∀ z ∈ o, z ∈ out ∨ s.Id < z
  | 0, _, _, _, h => by cases h
  | f + 1, out, o, ho, h => by
    unfold made at h
    split at h
    · cases h; exact ⟨ho, fun _ h => h, fun _ h => .inl h⟩
    · split at h
      · cases h
      · rename_i y hy
        obtain ⟨hyT, hyg, hym⟩ := cand_some hT hy
        rw [canGo_iff] at hyg
        have h1 : OutOk T (out ++ [y.Id]) := by
          refine ⟨fun z hz => ?_, ?_, fun z hz w hw hwl hlt => ?_⟩
          · rcases List.mem_append.1 hz with h | h
            · exact ho.from_ z h
            · rw [List.mem_singleton.1 h]; exact ⟨y, hyT, rfl, hyg.2.1⟩
          · rw [List.nodup_append]
            exact ⟨ho.nodup, by simp, fun a ha b hb e => hyg.2.2 (by rw [← List.mem_singleton.1 hb, ← e]; exact ha)⟩
          · rcases List.mem_append.1 hz with h | h
            · exact List.mem_append_left _ (ho.up z h w hw hwl hlt)
            · rw [List.mem_singleton.1 h] at hlt
              by_cases hwo : w.Id ∈ out
              · exact List.mem_append_left _ hwo
              · have := hym w hw (canGo_iff.2 ⟨by omega, hwl, hwo⟩); omega
        obtain ⟨h2, h3, h4⟩ := made_out hT h1 h
        refine ⟨h2, fun z hz => h3 z (List.mem_append_left _ hz), fun z hz => ?_⟩
        rcases h4 z hz with h | h
        · rcases List.mem_append.1 h with h | h
          · exact .inl h
          · rw [List.mem_singleton.1 h]; exact .inr hyg.1
        · exact .inr h
/-- What holds behind the seats of A. -/
structure Inv (c : Srv) (T : List Seat) (picks : List Int) (A : List Seat) (st : St) : Prop where
  ids : (st.sl.map (·.Id)).Pairwise (· < ·)
  from_ : ∀ x ∈ st.sl, ∃ s ∈ A, s.Id = x.Id ∧ x.Id ∈ picks ∧ did c s x
  sum : sumI Slc.amt st.sl + st.left = c.Budget
  left : 0 ≤ st.left
  room : 0 ≤ freeS c T st.out st.given
  given : st.given = sumI (givesOf c T) st.sl
  out : OutOk T st.out
  by_ : ∀ o ∈ st.out, ∃ x ∈ st.sl, x.Id < o
  apart : ∀ x ∈ st.sl, x.Id ∉ st.out
theorem served_did {c : Srv} (hc : c.okS 1) {T : List Seat} {out : List Int} {given left : Int} {s : Seat} (hs : seatOk c s) (hl : 1 ≤ left) {o : List Int} {n : Int} {x : Slc}
    (h : servedS c T out given left s = some (o, n, x)) : did c s x ∧ x.Id = s.Id ∧ x.amt = n ∧ n ≤ left ∧ beyondS c s n ≤ freeS c T o given ∧ ∃ y, made c T given s y (T.length + 1) out = some o := by
  have hch := hc.2.2.2.2.1
  have htr := hc.2.2.2.2.2.2
  have hkn := hs.1
  have hca := hs.2.1
  unfold servedS at h
  split at h
  · rename_i hr0
    split at h
    · cases h
    · rename_i o' ho
      simp only [Option.some.injEq, Prod.mk.injEq] at h
      obtain ⟨rfl, rfl, rfl⟩ := h
      exact ⟨.inl ⟨hr0, rfl, by simp only; omega, by simp only; omega, by simp only; omega⟩, rfl, by simp [Slc.amt], by omega, made_fits ho, _, ho⟩
  · rename_i hr0
    have hr1 : restS s = 0 := by unfold restS at hr0 ⊢; omega
    split at h
    · cases h
    · rename_i o' ho
      simp only [Option.some.injEq, Prod.mk.injEq] at h
      obtain ⟨rfl, rfl, rfl⟩ := h
      have h1 := fitN_pos (made_fits ho) (min (min (max s.Want 1) c.Tree) left).toNat (by omega)
      have h2 := fitN_le c s (freeS c T o' given) (min (min (max s.Want 1) c.Tree) left).toNat
      have h3 := fitN_fits (made_fits ho) (min (min (max s.Want 1) c.Tree) left).toNat (by omega)
      exact ⟨.inr ⟨hr1, rfl, by simp only; omega, by simp only; omega, by simp only; omega⟩, rfl, by simp [Slc.amt], by omega, h3, _, ho⟩
theorem Inv.skip {c : Srv} {T : List Seat} {picks : List Int} {A : List Seat} {st : St} (h : Inv c T picks A st) (s : Seat) : Inv c T picks (A ++ [s]) st :=
  ⟨h.ids, fun x hx => by obtain ⟨z, hz, h2⟩ := h.from_ x hx; exact ⟨z, List.mem_append_left _ hz, h2⟩, h.sum, h.left, h.room, h.given, h.out, h.by_, h.apart⟩
theorem Inv.turn {c : Srv} (hc : c.okS 1) {T : List Seat} (hT : Rising T) (hn : (T.map (·.Id)).Nodup) {picks : List Int} {A B : List Seat} {s : Seat} (hAB : T = A ++ s :: B) (hs : seatOk c s) {st : St} (h : Inv c T picks A st) : Inv c T picks (A ++ [s]) (turn c T picks st s) := by
  unfold SX.turn
  split
  · rename_i hl
    unfold serveS
    split
    · exact h.skip s
    · rename_i o n x hx
      obtain ⟨h1, h2, h3, h4, h5, y, h6⟩ := served_did hc hs (by omega) hx
      obtain ⟨ho1, ho2, ho3⟩ := made_out hT h.out h6
      have hsT : s ∈ T := by rw [hAB]; simp
      have hA : ∀ z ∈ A, z.Id < s.Id := fun z hz => by
        unfold Rising at hT
        rw [hAB, List.pairwise_append] at hT
        exact hT.2.2 z hz s (by simp)
      have hlt : ∀ z ∈ st.sl, z.Id < s.Id := fun z hz => by
        obtain ⟨w, hw, e, _⟩ := h.from_ z hz
        have := hA w hw; omega
      have hxs : seatOf T x.Id = some s := by rw [h2]; exact seatOf_of hn hsT
      refine ⟨?_, ?_, ?_, ?_, ?_, ?_, ho1, ?_, ?_⟩
      · simp only [List.map_append, List.map_cons, List.map_nil]
        rw [List.pairwise_append]
        refine ⟨h.ids, by simp, fun a ha b hb => ?_⟩
        obtain ⟨z, hz, rfl⟩ := List.mem_map.1 ha
        rw [List.mem_singleton.1 hb, h2]; exact hlt z hz
      · intro z hz
        rcases List.mem_append.1 hz with hz | hz
        · exact (h.skip s).from_ z hz
        · rw [List.mem_singleton.1 hz]; exact ⟨s, by simp, h2.symm, by rw [h2]; exact hl.2.2, h1⟩
      · have := h.sum
        simp only [sumI_append, sumI]; omega
      · simp only; omega
      · simp only
        unfold freeS at h5 ⊢; omega
      · simp only [sumI_append, sumI, ← h.given]
        unfold givesOf; rw [hxs]; simp only [h3]; omega
      · intro z hz
        rcases ho3 z hz with hz | hz
        · obtain ⟨w, hw, e⟩ := h.by_ z hz; exact ⟨w, List.mem_append_left _ hw, e⟩
        · exact ⟨x, by simp, by omega⟩
      · intro z hz hzo
        rcases List.mem_append.1 hz with hz | hz
        · rcases ho3 _ hzo with h9 | h9
          · exact h.apart z hz h9
          · have := hlt z hz; omega
        · rw [List.mem_singleton.1 hz, h2] at hzo
          rcases ho3 _ hzo with h9 | h9
          · exact hl.2.1 h9
          · omega
  · exact h.skip s
theorem Inv.fold {c : Srv} (hc : c.okS 1) {T : List Seat} (hT : Rising T) (hn : (T.map (·.Id)).Nodup) {picks : List Int} (hs : ∀ s ∈ T, seatOk c s) : ∀ (B A : List Seat) (st : St), T = A ++ B → Inv c T picks A st → Inv c T picks T (B.foldl (SX.turn c T picks) st)
  | [], A, st, e, h => by rw [List.append_nil] at e; subst e; exact h
  | s :: B, A, st, e, h => by
    rw [List.foldl_cons]
    exact Inv.fold hc hT hn hs B (A ++ [s]) _ (by rw [e]; simp) (h.turn hc hT hn e (hs s (by rw [e]; simp)))
theorem used_le (c : Srv) (T : List Seat) (out : List Int) : used c T out ≤ c.Blocks.toNat := by
  unfold used; have := List.length_filter_le (fun b : Nat => holds T out (b : Nat)) (List.range c.Blocks.toNat); rwa [List.length_range] at this
theorem plan_inv {c : Srv} (hc : c.okS 1) {T : List Seat} (hT : Rising T) (hn : (T.map (·.Id)).Nodup) {picks : List Int} (hs : ∀ s ∈ T, seatOk c s) : Inv c T picks T (planS c T picks) := by
  have hb := hc.2.1
  have hu := used_le c T []
  have := hc.2.2.2.2
  exact Inv.fold hc hT hn hs T [] _ rfl ⟨by simp, by simp, by simp [sumI], by simp only; omega, by simp only [freeS]; omega, by simp [sumI], ⟨by simp, by simp, by simp⟩, by simp, by simp⟩

/-! ### The oldest -/
theorem fold_sl {c : Srv} {T : List Seat} {picks : List Int} : ∀ (B : List Seat) (st : St), ∃ l, (B.foldl (SX.turn c T picks) st).sl = st.sl ++ l
  | [], st => ⟨[], by simp⟩
  | s :: B, st => by
    obtain ⟨l, h⟩ := fold_sl B (SX.turn c T picks st s)
    rw [List.foldl_cons, h]
    unfold SX.turn
    split
    · unfold serveS
      split
      · exact ⟨l, rfl⟩
      · exact ⟨_, List.append_assoc ..⟩
    · exact ⟨l, rfl⟩
theorem made_some {c : Srv} {T : List Seat} (hT : Rising T) {given : Int} {s : Seat} {x : Int} (hf : ∀ out, (∀ z ∈ T, canGo s.Id out z = false) → beyondS c s x ≤ freeS c T out given) :
    ∀ (f : Nat) (out : List Int), goers T s.Id out < f → ∃ o, made c T given s x f out = some o
  | 0, _, h => by omega
  | f + 1, out, h => by
    unfold made
    split
    · exact ⟨_, rfl⟩
    · rename_i hno
      split
      · rename_i hc
        exfalso
        refine hno (hf out fun z hz => ?_)
        unfold cand at hc
        rw [List.find?_eq_none] at hc
        have := hc z (List.mem_reverse.2 hz)
        simpa using this
      · rename_i y hy
        have := goers_lt (cand_some hT hy)
        exact made_some hT hf f _ (by omega)
theorem need_le {n b k : Int} (hb : 1 ≤ b) (h : n ≤ k * b) : needI n b ≤ k := by
  unfold needI
  have : n + b - 1 < (k + 1) * b := by rw [Int.add_mul]; omega
  have := Int.ediv_lt_of_lt_mul (by omega) this
  omega
theorem need_mono {n m b : Int} (hb : 1 ≤ b) (h : n ≤ m) : needI n b ≤ needI m b := Int.ediv_le_ediv (by omega) (by omega)
end Go.SX
