/- Operations that only compute: what they come to, as one function; types by a table. -/
import Derived.Test.YthnmagdaepgdiaaXCore
import Derived.Laws.Entries
import Derived.Laws.Strings
set_option linter.unusedSimpArgs false
set_option linter.unusedVariables false
namespace Go.SX
open Go Go.RowKit

/-! ### Types -/
inductive TK where
  | bool | int (k : IntKind) | string | ptr (e : Nat) | slice (e : Nat) | array (n e : Nat) | map (k e : Nat)
  | struct (fs : List (Nat × Nat × Nat)) | func | iface | tuple | other
structure TR where
  k : TK
  sz : Nat
  by_ : Nat
  z : Value
def aggOf : TypeDesc → Nat | .struct _ => 2 | .array _ _ => 2 | _ => 1
/-- 2: a struct or an array; 1: one cell; 0: no type. -/
def isAggT (P : Program) (t : Nat) : Nat := match P.underlying t with | some d => aggOf d | none => 0
def sizeT (P : Program) (t : Nat) : Nat := match P.info? t with | some i => i.size | none => 0
def tkOf (P : Program) : TypeDesc → TK
  | .bool => .bool | .int k => .int k | .string => .string | .pointer e => .ptr e | .slice e => .slice e | .array n e => .array n e
  | .map k e => .map k e | .struct fs => .struct (fs.toList.map fun f => (f.offset, sizeT P f.type, isAggT P f.type))
  | .func _ _ _ => .func | .interface _ => .iface | .tuple _ => .tuple | _ => .other
def look (P : Program) (t : Nat) : Option TR :=
  match P.underlying t, P.info? t with
  | some d, some i => match i.zero with
    | some z => some ⟨tkOf P d, i.size, i.bytes, z⟩
    | none => none
  | _, _ => none
def getT : List (Nat × TR) → Nat → Option TR
  | [], _ => none
  | (a, r) :: l, t => match Nat.beq a t with | true => some r | false => getT l t
structure Env (P : Program) where
  tab : List (Nat × TR)
  ok : tab.map (fun x => look P x.1) = tab.map (fun x => some x.2)
def Env.get {P : Program} (Γ : Env P) (t : Nat) : Option TR := getT Γ.tab t
theorem getT_look {P : Program} : ∀ (l : List (Nat × TR)), l.map (fun x => look P x.1) = l.map (fun x => some x.2) → ∀ t r, getT l t = some r → look P t = some r
  | [], _, _, _, h => by simp [getT] at h
  | (a, q) :: l, hl, t, r, h => by
    simp only [List.map_cons, List.cons.injEq] at hl
    unfold getT at h
    split at h
    · rename_i e
      have := Nat.eq_of_beq_eq_true e
      subst this
      rw [hl.1]; exact h
    · exact getT_look l hl.2 t r h
theorem Env.look {P : Program} (Γ : Env P) {t : Nat} {r : TR} (h : Γ.get t = some r) : SX.look P t = some r := getT_look _ Γ.ok t r h

structure TypeIs (P : Program) (t : Nat) (r : TR) : Prop where
  d : ∃ d, P.underlying t = some d ∧ tkOf P d = r.k
  i : ∃ i, P.info? t = some i ∧ i.size = r.sz ∧ i.bytes = r.by_ ∧ i.zero = some r.z
theorem Env.is {P : Program} (Γ : Env P) {t : Nat} {r : TR} (h : Γ.get t = some r) : TypeIs P t r := by
  have := Γ.look h
  unfold SX.look at this
  split at this
  · rename_i d i hd hi
    split at this
    · rename_i z hz
      simp only [Option.some.injEq] at this
      subst this
      exact ⟨⟨d, hd, rfl⟩, ⟨i, hi, rfl, rfl, hz⟩⟩
    · cases this
  · cases this

theorem tk_slice {P : Program} {t : Nat} {r : TR} {e : Nat} (h : TypeIs P t r) (hk : r.k = .slice e) : P.underlying t = some (.slice e) := by
  obtain ⟨d, hd, he⟩ := h.d; rw [hk] at he; cases d <;> simp [tkOf] at he; subst he; exact hd
theorem tk_int {P : Program} {t : Nat} {r : TR} {k : IntKind} (h : TypeIs P t r) (hk : r.k = .int k) : P.underlying t = some (.int k) := by
  obtain ⟨d, hd, he⟩ := h.d; rw [hk] at he; cases d <;> simp [tkOf] at he; subst he; exact hd
theorem tk_string {P : Program} {t : Nat} {r : TR} (h : TypeIs P t r) (hk : r.k = .string) : P.underlying t = some .string := by
  obtain ⟨d, hd, he⟩ := h.d; rw [hk] at he; cases d <;> simp [tkOf] at he; exact hd
theorem tk_bool {P : Program} {t : Nat} {r : TR} (h : TypeIs P t r) (hk : r.k = .bool) : P.underlying t = some .bool := by
  obtain ⟨d, hd, he⟩ := h.d; rw [hk] at he; cases d <;> simp [tkOf] at he; exact hd
theorem tk_ptr {P : Program} {t : Nat} {r : TR} {e : Nat} (h : TypeIs P t r) (hk : r.k = .ptr e) : P.underlying t = some (.pointer e) := by
  obtain ⟨d, hd, he⟩ := h.d; rw [hk] at he; cases d <;> simp [tkOf] at he; subst he; exact hd
theorem tk_array {P : Program} {t : Nat} {r : TR} {n e : Nat} (h : TypeIs P t r) (hk : r.k = .array n e) : P.underlying t = some (.array n e) := by
  obtain ⟨d, hd, he⟩ := h.d; rw [hk] at he; cases d <;> simp [tkOf] at he; obtain ⟨rfl, rfl⟩ := he; exact hd
theorem tk_map {P : Program} {t : Nat} {r : TR} {n e : Nat} (h : TypeIs P t r) (hk : r.k = .map n e) : P.underlying t = some (.map n e) := by
  obtain ⟨d, hd, he⟩ := h.d; rw [hk] at he; cases d <;> simp [tkOf] at he; obtain ⟨rfl, rfl⟩ := he; exact hd
theorem tk_struct {P : Program} {t : Nat} {r : TR} {l : List (Nat × Nat × Nat)} (h : TypeIs P t r) (hk : r.k = .struct l) :
    ∃ fs, P.underlying t = some (.struct fs) ∧ fs.toList.map (fun f => (f.offset, sizeT P f.type, isAggT P f.type)) = l := by
  obtain ⟨d, hd, he⟩ := h.d; rw [hk] at he; cases d <;> simp [tkOf] at he; exact ⟨_, hd, by simpa using he⟩
theorem tk_agg {P : Program} {t : Nat} {r : TR} (h : TypeIs P t r) : isAggT P t = (match r.k with | .struct _ => 2 | .array _ _ => 2 | _ => 1) := by
  obtain ⟨d, hd, he⟩ := h.d
  unfold isAggT; rw [hd, ← he]; cases d <;> rfl

/-! ### Values -/
def kEq (a b : IntKind) : Bool := Nat.beq a.ctorIdx b.ctorIdx
theorem kEq_eq {a b : IntKind} (h : kEq a b = true) : a = b := by
  cases a <;> cases b <;> first | rfl | (simp [kEq, IntKind.ctorIdx] at h)

def bitsV (op : BinOp) (k : IntKind) (x y : Int) : Int :=
  match op with
  | .and => k.wrap ((BitVec.ofInt k.bits x) &&& (BitVec.ofInt k.bits y)).toNat
  | .or => k.wrap ((BitVec.ofInt k.bits x) ||| (BitVec.ofInt k.bits y)).toNat
  | .xor => k.wrap ((BitVec.ofInt k.bits x) ^^^ (BitVec.ofInt k.bits y)).toNat
  | _ => k.wrap ((BitVec.ofInt k.bits x) &&& ~~~(BitVec.ofInt k.bits y)).toNat

/-- A proposition as a Bool that no evaluation opens. -/
noncomputable def pd (p : Prop) : Bool := @decide p (Classical.propDecidable p)
theorem pd_eq (p : Prop) [h : Decidable p] : pd p = decide p := by
  unfold pd; by_cases hp : p <;> simp [hp]
theorem pd_true {p : Prop} : pd p = true ↔ p := by
  unfold pd; exact @decide_eq_true_iff p (Classical.propDecidable p)
theorem pd_false {p : Prop} : pd p = false ↔ ¬ p := by
  unfold pd; exact @decide_eq_false_iff_not p (Classical.propDecidable p)
/-- A number that is seen to be above 0, or at least 0. -/
def seenPos : Int → Bool
  | .ofNat (_ + 1) => true
  | _ => false
def seenNat : Int → Bool
  | .ofNat _ => true
  | _ => false
theorem seenPos_spec {i : Int} (h : seenPos i = true) : ¬ i = 0 ∧ 0 < i := by
  unfold seenPos at h; split at h
  · rename_i m; exact ⟨by simp; omega, by simp⟩
  · cases h
theorem seenNat_spec {i : Int} (h : seenNat i = true) : ¬ i < 0 := by
  unfold seenNat at h; split at h
  · rename_i m; simp
  · cases h
theorem toList_inj {s t : ByteArray} (h : s.toList = t.toList) : s = t := by
  have hs : ∀ u : ByteArray, u.toList = u.data.toList := fun u => ByteArray.toList_eq u
  rw [hs, hs] at h
  cases s; cases t; simp at h; rw [h]

/-- A binary operation's value, where it is one without a question. -/
noncomputable def pbin (op : BinOp) (a b : Value) : Option Value :=
  match a, b with
  | .int k x, .int k' y =>
    match op with
    | .shl => match seenNat y with | false => none | true => some (.int k (k.wrap (x * 2 ^ (min y.toNat k.bits))))
    | .shr => match seenNat y with | false => none | true => some (.int k (x.fdiv (2 ^ (min y.toNat k.bits))))
    | op => match kEq k k' with
      | false => none
      | true =>
        match op with
        | .add => some (.int k (k.wrap (x + y)))
        | .sub => some (.int k (k.wrap (x - y)))
        | .mul => some (.int k (k.wrap (x * y)))
        | .quo => match seenPos y with | false => none | true => some (.int k (k.wrap (x.tdiv y)))
        | .rem => match seenPos y with | false => none | true => some (.int k (x.tmod y))
        | .and => some (.int k (bitsV .and k x y))
        | .or => some (.int k (bitsV .or k x y))
        | .xor => some (.int k (bitsV .xor k x y))
        | .andNot => some (.int k (bitsV .andNot k x y))
        | .eql => some (.bool (pd (x = y)))
        | .neq => some (.bool (!pd (x = y)))
        | .lss => some (.bool (pd (x < y)))
        | .leq => some (.bool (pd (x ≤ y)))
        | .gtr => some (.bool (pd (y < x)))
        | .geq => some (.bool (pd (y ≤ x)))
        | _ => none
  | .string s, .string t =>
    match op with
    | .eql => some (.bool (pd (s = t)))
    | .neq => some (.bool (!pd (s = t)))
    | _ => none
  | _, _ => none

theorem pbin_run {op : BinOp} {a b v : Value} (h : pbin op a b = some v) (P : Program) (t : Nat) (x y : Operand) (w : World) :
    (do eqGuard op t x y a b; binOp op t a b : Sem Value).run P w = .ok v w := by
  unfold pbin at h
  split at h
  · rename_i k x' k' y'
    rw [eqGuard_at_int]
    show (binOp op t _ _).run P w = _
    cases op
    case shl =>
      simp only at h
      split at h
      · cases h
      · rename_i hy
        have hy' := seenNat_spec hy
        simp only [Option.some.injEq] at h; subst h
        simp [binOp, Op.shift, pure, hy']
    case shr =>
      simp only at h
      split at h
      · cases h
      · rename_i hy
        have hy' := seenNat_spec hy
        simp only [Option.some.injEq] at h; subst h
        simp [binOp, Op.shift, pure, hy']
    all_goals
      simp only at h
      split at h
      · cases h
      · rename_i hk
        have := kEq_eq hk
        subst this
        first
        | (split at h
           · cases h
           · rename_i hy
             simp only [Option.some.injEq] at h; subst h
             have hy' := (seenPos_spec hy).1
             simp [binOp, Op.intDiv, hy', pure])
        | (simp only [Option.some.injEq] at h; subst h
           simp [binOp, Op.intArith, Op.intBits, bitsV, pure]; done)
        | (simp only [Option.some.injEq] at h; subst h
           simp [binOp, Op.intCmp, pure, pd_eq]; done)
        | (simp only [Option.some.injEq] at h; subst h
           simp [binOp, Op.intCmp, pure, pd_eq]; rfl)
        | (cases h; done)
  · rename_i s t'
    have e : (s.toList == t'.toList) = pd (s = t') := by
      rw [Bool.eq_iff_iff, pd_true, beq_iff_eq]; exact ⟨toList_inj, fun h => by rw [h]⟩
    cases op <;> simp at h <;> subst h <;> simp [binOp, Op.stringOp, eqGuard, bind, Sem.bind, pure, Sem.run, e]
  · cases h

def pnot (op : UnOp) (a : Value) : Option Value :=
  match op, a with
  | .neg, .int k n => some (.int k (k.wrap (0 - n)))
  | .not, .bool b => some (.bool (!b))
  | _, _ => none
theorem pnot_run {op : UnOp} {a v : Value} (h : pnot op a = some v) (P : Program) (w : World) : (Op.unary op a).run P w = .ok v w := by
  unfold pnot at h
  split at h <;> first | (simp only [Option.some.injEq] at h; subst h; rfl) | cases h

def pmm (mx : Bool) (k : IntKind) : Int → List Value → Option Int
  | a, [] => some a
  | a, .int _ b :: l => match mx with
    | true => pmm mx k (if b > a then b else a) l
    | false => pmm mx k (if b < a then b else a) l
  | _, _ => none
theorem pmm_max {k : IntKind} (P : Program) (w : World) : ∀ (l : List Value) (a r : Int), pmm true k a l = some r → (l.foldlM Builtin.max2 (.int k a)).run P w = .ok (.int k r) w
  | [], a, r, h => by simp [pmm] at h; subst h; rfl
  | v :: l, a, r, h => by
    cases v <;> simp [pmm] at h
    rw [List.foldlM_cons]
    exact pmm_max P w l _ r (by simpa using h)
theorem pmm_min {k : IntKind} (P : Program) (w : World) : ∀ (l : List Value) (a r : Int), pmm false k a l = some r → (l.foldlM Builtin.min2 (.int k a)).run P w = .ok (.int k r) w
  | [], a, r, h => by simp [pmm] at h; subst h; rfl
  | v :: l, a, r, h => by
    cases v <;> simp [pmm] at h
    rw [List.foldlM_cons]
    exact pmm_min P w l _ r (by simpa using h)

def args (n : Nat) (ρ : Fr) (xs : Array Operand) : List Value := xs.toList.map (ev n ρ)
theorem map_args (n : Nat) (ρ : Fr) (xs : Array Operand) : xs.map (ev n ρ) = (args n ρ xs).toArray := by
  unfold args; rw [← Array.toList_map]
def lenV : Value → Option Int
  | .slice _ n _ => some n
  | .string s => some s.size
  | _ => none

def pcall {P : Program} (Γ : Env P) (b : Builtin) (ts : Array Nat) (xs : List Value) : Option Value :=
  match b, ts.toList, xs with
  | .len, t :: _, x :: _ => match Γ.get t with
    | some r => match r.k, x with
      | .string, .string s => some (.int .i64 s.size)
      | .slice _, .slice _ n _ => some (.int .i64 n)
      | .array n _, _ => some (.int .i64 n)
      | _, _ => none
    | none => none
  | .cap, t :: _, x :: _ => match Γ.get t with
    | some r => match r.k, x with
      | .slice _, .slice _ _ n => some (.int .i64 n)
      | _, _ => none
    | none => none
  | .max, _, .int k a :: l => match pmm true k a l with | some r => some (.int k r) | none => none
  | .min, _, .int k a :: l => match pmm false k a l with | some r => some (.int k r) | none => none
  | _, _, _ => none

theorem run_bind {α β : Type} {P : Program} (s : Sem α) (f : α → Sem β) : ∀ w, (s.bind f).run P w = match s.run P w with | .ok a w' => (f a).run P w' | .halt h w' => .halt h w' := by
  induction s with
  | pure a => intro w; rfl
  | load m a k ih =>
    intro w; simp only [Sem.bind, Sem.run]; split
    · exact ih _ _
    · split
      · exact ih _ _
      · rfl
  | store m a v k ih =>
    intro w
    cases v <;> simp only [Sem.bind, Sem.run] <;> (split <;> (first | exact ih _ | (split <;> first | rfl | exact ih _)))
  | new o k ih => intro w; exact ih _ _
  | shape r k ih => intro w; exact ih _ _
  | freeze a n k ih => intro w; exact ih _
  | frozen a k ih => intro w; exact ih _ _
  | getObj r k ih => intro w; simp only [Sem.bind, Sem.run]; split <;> first | rfl | exact ih _ _
  | setObj r o k ih => intro w; simp only [Sem.bind, Sem.run]; split <;> first | rfl | exact ih _
  | choose q k ih => intro w; simp only [Sem.bind, Sem.run]; split <;> exact ih _ _
  | sys c k ih => intro w; exact ih _ _
  | program k ih => intro w; exact ih _ _
  | mark m k ih => intro w; exact ih _
  | halt h => intro w; rfl
theorem run_value {P : Program} {s : Sem Value} {v : Value} {w w' : World} (h : s.run P w = .ok v w') : (do pure (Next.value (← s)) : Sem Next).run P w = .ok (.value v) w' := by
  show (s.bind _).run P w = _
  rw [run_bind, h]; rfl
theorem pcall_run {P : Program} {Γ : Env P} {b : Builtin} {ts : Array Nat} {xs : List Value} {v : Value} (h : pcall Γ b ts xs = some v) (ty : Nat) (cs : Array Bool) (w : World) :
    (builtin b ts ty cs xs.toArray).run P w = .ok (.value v) w := by
  unfold pcall at h
  split at h
  · rename_i t tl x l hts
    split at h
    · rename_i r hr
      have ht := Γ.is hr
      have h0 : ts[0]? = some t := by rw [← Array.getElem?_toList, hts]; rfl
      split at h <;> simp only [Option.some.injEq, reduceCtorEq] at h <;> subst h
      · rename_i hk
        simp [builtin, Builtin.len_, h0, underlying, program, bind, Sem.bind, pure, Sem.run, tk_string ht hk, goInt]
      · rename_i hk
        simp [builtin, Builtin.len_, h0, underlying, program, bind, Sem.bind, pure, Sem.run, tk_slice ht hk, goInt]
      · rename_i hk
        simp [builtin, Builtin.len_, h0, underlying, program, bind, Sem.bind, pure, Sem.run, tk_array ht hk, goInt]
    · cases h
  · rename_i t tl x l hts
    split at h
    · rename_i r hr
      have ht := Γ.is hr
      have h0 : ts[0]? = some t := by rw [← Array.getElem?_toList, hts]; rfl
      split at h <;> simp only [Option.some.injEq, reduceCtorEq] at h <;> subst h
      rename_i hk
      simp [builtin, Builtin.cap_, h0, underlying, program, bind, Sem.bind, pure, Sem.run, tk_slice ht hk, goInt]
    · cases h
  · rename_i k a l
    split at h <;> simp only [Option.some.injEq, reduceCtorEq] at h
    subst h; rename_i r hr
    have := pmm_max P w l a r hr
    exact run_value this
  · rename_i k a l
    split at h <;> simp only [Option.some.injEq, reduceCtorEq] at h
    subst h; rename_i r hr
    have := pmm_min P w l a r hr
    exact run_value this
  · cases h
end Go.SX
