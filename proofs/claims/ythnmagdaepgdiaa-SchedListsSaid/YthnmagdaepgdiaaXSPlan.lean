/- The plan, said plainly: no program in sight. -/
set_option linter.unusedSimpArgs false
set_option linter.unusedVariables false
namespace Go.SX
structure Seat where
  (Id Known Cached Want : Int)
  Held : List Int
structure Slc where
  (Id Prefill Nodes : Int)
structure Srv where
  (Blocks Block Budget Chunk Tree : Int)

def needI (n b : Int) : Int := (n + b - 1) / b
def Srv.okS (c : Srv) (l : Int) : Prop :=
  (1 ≤ l ∧ l ≤ 64) ∧ (1 ≤ c.Blocks ∧ c.Blocks ≤ 256) ∧ (1 ≤ c.Block ∧ c.Block ≤ 16) ∧ l ≤ c.Blocks * c.Block ∧ 1 ≤ c.Chunk ∧ (c.Chunk ≤ c.Budget ∧ c.Budget ≤ 1024) ∧ (1 ≤ c.Tree ∧ c.Tree ≤ 32)
def heldOk (c : Srv) (l : List Int) : Prop := (∀ b ∈ l, 0 ≤ b ∧ b < c.Blocks) ∧ l.Nodup
def seatOk (c : Srv) (s : Seat) : Prop :=
  (1 ≤ s.Known ∧ s.Known ≤ 64) ∧ (0 ≤ s.Cached ∧ s.Cached < s.Known) ∧ needI s.Cached c.Block ≤ s.Held.length ∧ heldOk c s.Held
def seatsOk (c : Srv) (l : List Seat) : Prop := l.length ≤ 16 ∧ (∀ s ∈ l, seatOk c s) ∧ (l.map (·.Id)).Nodup

/-- Does a seat that is not out hold the block? -/
def holds (T : List Seat) (out : List Int) (b : Int) : Bool := T.any fun s => !out.contains s.Id && s.Held.contains b
def used (c : Srv) (T : List Seat) (out : List Int) : Nat := ((List.range c.Blocks.toNat).filter fun b => holds T out (b : Nat)).length
def freeS (c : Srv) (T : List Seat) (out : List Int) (given : Int) : Int := c.Blocks - given - used c T out
def beyondS (c : Srv) (s : Seat) (x : Int) : Int := max 0 (needI (s.Cached + x) c.Block - s.Held.length)
/-- May a seat be put out for one of that Id? -/
def canGo (id : Int) (out : List Int) (z : Seat) : Bool := decide (id < z.Id) && !z.Held.isEmpty && !out.contains z.Id
/-- The youngest of those (T rises by Id). -/
def cand (T : List Seat) (id : Int) (out : List Int) : Option Seat := T.reverse.find? (canGo id out)
def made (c : Srv) (T : List Seat) (given : Int) (s : Seat) (x : Int) : Nat → List Int → Option (List Int)
  | 0, _ => none
  | f + 1, out => if beyondS c s x ≤ freeS c T out given then some out else match cand T s.Id out with
    | none => none
    | some y => made c T given s x f (out ++ [y.Id])
def fitN (c : Srv) (s : Seat) (free : Int) : Nat → Nat
  | 0 => 0
  | a + 1 => if beyondS c s ((a + 1 : Nat) : Int) ≤ free then a + 1 else fitN c s free a
structure St where
  out : List Int
  (given left : Int)
  sl : List Slc
def restS (s : Seat) : Int := s.Known - 1 - s.Cached
/-- What serving a seat comes to: who is out then, how many positions, the part of the step. -/
def servedS (c : Srv) (T : List Seat) (out : List Int) (given left : Int) (s : Seat) : Option (List Int × Int × Slc) :=
  if 0 < restS s then
    match made c T given s (min (min (restS s) c.Chunk) left) (T.length + 1) out with
    | none => none
    | some o => some (o, min (min (restS s) c.Chunk) left, ⟨s.Id, min (min (restS s) c.Chunk) left, 0⟩)
  else
    match made c T given s 1 (T.length + 1) out with
    | none => none
    | some o => some (o, (fitN c s (freeS c T o given) (min (min (max s.Want 1) c.Tree) left).toNat : Nat), ⟨s.Id, 0, (fitN c s (freeS c T o given) (min (min (max s.Want 1) c.Tree) left).toNat : Nat)⟩)
def serveS (c : Srv) (T : List Seat) (st : St) (s : Seat) : St :=
  match servedS c T st.out st.given st.left s with
  | none => st
  | some (o, a, x) => ⟨o, st.given + beyondS c s a, st.left - a, st.sl ++ [x]⟩
def turn (c : Srv) (T : List Seat) (picks : List Int) (st : St) (s : Seat) : St :=
  if 0 < st.left ∧ s.Id ∉ st.out ∧ s.Id ∈ picks then serveS c T st s else st
def planS (c : Srv) (T : List Seat) (picks : List Int) : St := T.foldl (turn c T picks) ⟨[], 0, c.Budget, []⟩
/-- Seats rising by Id. -/
def Rising (T : List Seat) : Prop := T.Pairwise (fun a b => a.Id < b.Id)

theorem any_perm {p : Seat → Bool} {T U : List Seat} (h : T.Perm U) : T.any p = U.any p := by
  rw [Bool.eq_iff_iff, List.any_eq_true, List.any_eq_true]
  exact ⟨fun ⟨x, hx, hp⟩ => ⟨x, h.mem_iff.1 hx, hp⟩, fun ⟨x, hx, hp⟩ => ⟨x, h.mem_iff.2 hx, hp⟩⟩
theorem free_perm {c : Srv} {T U : List Seat} {out : List Int} {given : Int} (h : T.Perm U) : freeS c T out given = freeS c U out given := by
  unfold freeS used
  have : (fun b : Nat => holds T out (b : Int)) = fun b : Nat => holds U out (b : Int) := by funext b; exact any_perm h
  rw [this]
theorem canGo_iff {id : Int} {out : List Int} {z : Seat} : canGo id out z = true ↔ id < z.Id ∧ 0 < z.Held.length ∧ z.Id ∉ out := by
  unfold canGo
  cases hz : z.Held <;> simp
/-- The youngest that may go. -/
def IsYng (T : List Seat) (id : Int) (out : List Int) (y : Seat) : Prop := y ∈ T ∧ canGo id out y = true ∧ ∀ z ∈ T, canGo id out z = true → z.Id ≤ y.Id
theorem Rising.get {T : List Seat} (h : Rising T) {i j : Nat} {x y : Seat} (hi : T[i]? = some x) (hj : T[j]? = some y) (hij : i < j) : x.Id < y.Id := by
  obtain ⟨h1, rfl⟩ := List.getElem?_eq_some_iff.1 hi
  obtain ⟨h2, rfl⟩ := List.getElem?_eq_some_iff.1 hj
  exact List.pairwise_iff_getElem.1 h i j h1 h2 hij
theorem Rising.inj {T : List Seat} (h : Rising T) {x y : Seat} (hx : x ∈ T) (hy : y ∈ T) (e : x.Id = y.Id) : x = y := by
  obtain ⟨i, hi⟩ := List.getElem?_of_mem hx
  obtain ⟨j, hj⟩ := List.getElem?_of_mem hy
  rcases Nat.lt_trichotomy i j with hl | rfl | hl
  · have := h.get hi hj hl; omega
  · rw [hi] at hj; exact Option.some.inj hj
  · have := h.get hj hi hl; omega
theorem cand_none {T : List Seat} {id : Int} {out : List Int} (h : ∀ z ∈ T, canGo id out z = false) : cand T id out = none := by
  unfold cand; rw [List.find?_eq_none]
  intro z hz; rw [h z (List.mem_reverse.1 hz)]; simp
theorem cand_some {T : List Seat} {id : Int} {out : List Int} {y : Seat} (hT : Rising T) (h : cand T id out = some y) : IsYng T id out y := by
  unfold cand at h
  obtain ⟨hp, as, bs, hab, hno⟩ := List.find?_eq_some_iff_append.1 h
  have hm : y ∈ T := List.mem_reverse.1 (List.mem_of_find?_eq_some h)
  refine ⟨hm, hp, fun z hz hg => ?_⟩
  have hz' : z ∈ as ++ y :: bs := hab ▸ List.mem_reverse.2 hz
  rcases List.mem_append.1 hz' with h1 | h1
  · have := hno z h1; rw [hg] at this; cases this
  · rcases List.mem_cons.1 h1 with rfl | h1
    · omega
    · have hr : T = bs.reverse ++ y :: as.reverse := by
        have := congrArg List.reverse hab
        simpa using this
      unfold Rising at hT
      rw [hr, List.pairwise_append] at hT
      have := hT.2.2 z (List.mem_reverse.2 h1) y (by simp)
      omega
theorem cand_of {T : List Seat} {id : Int} {out : List Int} {y : Seat} (hT : Rising T) (h : IsYng T id out y) : cand T id out = some y := by
  cases hc : cand T id out with
  | none =>
    unfold cand at hc
    rw [List.find?_eq_none] at hc
    exact absurd h.2.1 (hc y (List.mem_reverse.2 h.1))
  | some z =>
    have hz := cand_some hT hc
    have h1 := hz.2.2 y h.1 h.2.1
    have h2 := h.2.2 z hz.1 hz.2.1
    rw [hT.inj hz.1 h.1 (by omega)]
theorem IsYng.perm {T U : List Seat} {id : Int} {out : List Int} {y : Seat} (p : T.Perm U) (h : IsYng T id out y) : IsYng U id out y :=
  ⟨p.mem_iff.1 h.1, h.2.1, fun z hz => h.2.2 z (p.mem_iff.2 hz)⟩
def goers (T : List Seat) (id : Int) (out : List Int) : Nat := (T.filter (canGo id out)).length
theorem filter_lt {T : List Seat} {p q : Seat → Bool} (hpq : ∀ z, q z = true → p z = true) {y : Seat} (hy : y ∈ T) (h1 : p y = true) (h2 : q y = false) : (T.filter q).length < (T.filter p).length := by
  induction T with
  | nil => cases hy
  | cons x T ih =>
    have hle : (T.filter q).length ≤ (T.filter p).length := by
      clear ih hy
      induction T with
      | nil => simp
      | cons z T ih =>
        cases hq : q z
        · rw [List.filter_cons_of_neg (by simp [hq])]
          cases hp : p z
          · rw [List.filter_cons_of_neg (by simp [hp])]; exact ih
          · rw [List.filter_cons_of_pos hp, List.length_cons]; omega
        · rw [List.filter_cons_of_pos hq, List.filter_cons_of_pos (hpq z hq), List.length_cons, List.length_cons]; omega
    rcases List.mem_cons.1 hy with rfl | hy
    · rw [List.filter_cons_of_neg (by simp [h2]), List.filter_cons_of_pos h1, List.length_cons]; omega
    · have := ih hy
      cases hq : q x
      · rw [List.filter_cons_of_neg (by simp [hq])]
        cases hp : p x
        · rw [List.filter_cons_of_neg (by simp [hp])]; exact this
        · rw [List.filter_cons_of_pos hp, List.length_cons]; omega
      · rw [List.filter_cons_of_pos hq, List.filter_cons_of_pos (hpq x hq), List.length_cons, List.length_cons]; omega
theorem goers_lt {T : List Seat} {id : Int} {out : List Int} {y : Seat} (h : IsYng T id out y) : goers T id (out ++ [y.Id]) < goers T id out :=
  filter_lt (fun z hz => by
    rw [canGo_iff] at hz ⊢
    exact ⟨hz.1, hz.2.1, fun hm => hz.2.2 (List.mem_append_left _ hm)⟩) h.1 h.2.1 (by
    rw [← Bool.not_eq_true, canGo_iff]; intro hz; exact hz.2.2 (by simp))
theorem goers_le (T : List Seat) (id : Int) (out : List Int) : goers T id out ≤ T.length := List.length_filter_le _ _
theorem made_fits {c : Srv} {T : List Seat} {given : Int} {s : Seat} {x : Int} : ∀ {f : Nat} {out o : List Int}, made c T given s x f out = some o → beyondS c s x ≤ freeS c T o given
  | 0, _, _, h => by cases h
  | f + 1, out, o, h => by
    unfold made at h
    split at h
    · cases h; assumption
    · split at h
      · cases h
      · exact made_fits h
theorem fitN_step {c : Srv} {s : Seat} {free : Int} {a : Nat} (h : ¬ beyondS c s ((a + 1 : Nat) : Int) ≤ free) : fitN c s free (a + 1) = fitN c s free a := by rw [fitN, if_neg h]
theorem fitN_stop {c : Srv} {s : Seat} {free : Int} {a : Nat} (h : beyondS c s (a : Int) ≤ free) : fitN c s free a = a := by
  cases a with
  | zero => rfl
  | succ a => rw [fitN, if_pos h]
theorem fitN_le (c : Srv) (s : Seat) (free : Int) : ∀ a, fitN c s free a ≤ a
  | 0 => Nat.le_refl _
  | a + 1 => by
    unfold fitN; split
    · exact Nat.le_refl _
    · have := fitN_le c s free a; omega
theorem fitN_pos {c : Srv} {s : Seat} {free : Int} (h : beyondS c s 1 ≤ free) : ∀ a, 1 ≤ a → 1 ≤ fitN c s free a
  | 0, h0 => by omega
  | 1, _ => by
    have h' : beyondS c s ((0 + 1 : Nat) : Int) ≤ free := h
    unfold fitN; rw [if_pos h']; omega
  | a + 2, _ => by
    unfold fitN; split
    · omega
    · exact fitN_pos h (a + 1) (by omega)
theorem fitN_fits {c : Srv} {s : Seat} {free : Int} (h : beyondS c s 1 ≤ free) : ∀ a, 1 ≤ a → beyondS c s (fitN c s free a : Nat) ≤ free
  | 0, h0 => by omega
  | 1, _ => by
    have h' : beyondS c s ((0 + 1 : Nat) : Int) ≤ free := h
    unfold fitN; rw [if_pos h']; exact h'
  | a + 2, _ => by
    unfold fitN; split
    · assumption
    · exact fitN_fits h (a + 1) (by omega)
theorem made_len {c : Srv} {T : List Seat} {given : Int} {s : Seat} {x : Int} : ∀ {f : Nat} {out o : List Int}, made c T given s x f out = some o → o.length ≤ out.length + f
  | 0, _, _, h => by cases h
  | f + 1, out, o, h => by
    unfold made at h
    split at h
    · cases h; omega
    · split at h
      · cases h
      · have := made_len h
        simp only [List.length_append, List.length_cons, List.length_nil] at this; omega
end Go.SX
