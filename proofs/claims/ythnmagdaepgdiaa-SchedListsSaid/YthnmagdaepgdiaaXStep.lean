/- The judgements: a region's operations (XL), code (XC), a function's contract (Fn); the rules for what only computes, and for control. -/
import Derived.Test.YthnmagdaepgdiaaXVal
import Derived.Deep.LoopGhost
set_option linter.unusedSimpArgs false
set_option linter.unusedVariables false
namespace Go.SX
open Go Go.RowKit

/-! ### What an operation that only computes comes to -/
def force : Value → Option Value
  | .bool b => some (.bool b)
  | .int k n => some (.int k n)
  | .string s => some (.string s)
  | .pointer (some ⟨b, o, s⟩) => some (.pointer (some ⟨b, o, s⟩))
  | .pointer none => some (.pointer none)
  | .slice a l c => some (.slice a l c)
  | .map r => some (.map r)
  | .func f a b => some (.func f a b)
  | .nilFunc => some .nilFunc
  | .iface t v => some (.iface t v)
  | .nilIface => some .nilIface
  | .agg cs => some (.agg cs)
  | .tuple vs => some (.tuple vs)
  | _ => none
theorem force_eq {a v : Value} (h : force a = some v) : a = v := by
  unfold force at h; split at h <;> first | (cases h; rfl) | cases h

def offs (b o n : Nat) : Value := .pointer (some ⟨b, o + n, none⟩)
theorem add_off (b o n : Nat) : (Addr.mk b o none).add n = ⟨b, o + n, none⟩ := by
  unfold Addr.add; split
  · rename_i h; subst h; rfl
  · rfl

def pfieldAddr {P : Program} (Γ : Env P) (s f : Nat) (x : Value) : Option Value :=
  match Γ.get s, x with
  | some r, .pointer (some ⟨b, o, none⟩) => match r.k with
    | .struct fs => match fs[f]? with
      | some (off, sz, _) => match Nat.beq sz 0 with | true => none | false => some (.pointer (some ⟨b, o + off, none⟩))
      | none => none
    | _ => none
  | _, _ => none
def pfield {P : Program} (Γ : Env P) (s f : Nat) (x : Value) : Option Value :=
  match Γ.get s, x with
  | some r, .agg ⟨cs⟩ => match r.k with
    | .struct fs => match fs[f]? with
      | some (off, sz, ag) => match ag with
        | 2 => some (.agg ⟨(cs.drop off).take sz⟩)
        | 1 => match cs[off]? with | some v => force v | none => none
        | _ => none
      | none => none
    | _ => none
  | _, _ => none
def pconv {P : Program} (Γ : Env P) (s d : Nat) (x : Value) : Option Value :=
  match Γ.get s, Γ.get d, x with
  | some _, some r, .int _ m => match r.k with | .int k => some (.int k (k.wrap m)) | _ => none
  | some _, some r, .string s => match r.k with | .string => some (.string s) | _ => none
  | _, _, _ => none
def pidx {P : Program} (Γ : Env P) (t : Nat) (x i : Value) : Option Value :=
  match Γ.get t, x, i with
  | some r, .pointer (some ⟨b, o, none⟩), .int _ i => match r.k with
    | .array n e => match Γ.get e with
      | some re => match Nat.blt i.toNat n && seenNat i with
        | true => some (.pointer (some ⟨b, o + i.toNat * re.sz, none⟩))
        | false => none
      | none => none
    | _ => none
  | some r, .slice (some ⟨b, o, none⟩) l _, .int _ i => match r.k with
    | .slice e => match Γ.get e with
      | some re => match Nat.blt i.toNat l && seenNat i with
        | true => some (.pointer (some ⟨b, o + i.toNat * re.sz, none⟩))
        | false => none
      | none => none
    | _ => none
  | _, _, _ => none
def pnil : Value → Option Value
  | .pointer (some ⟨b, o, s⟩) => some (.pointer (some ⟨b, o, s⟩))
  | .func (.func f) a b => some (.func (.func f) a b)
  | _ => none
def ppick : Value → Value → Value → Option Value
  | .bool true, a, _ => force a
  | .bool false, _, b => force b
  | _, _, _ => none
def pext : Value → Nat → Option Value
  | .tuple vs, i => match vs.toList[i]? with | some v => force v | none => none
  | _, _ => none
def pmi {P : Program} (Γ : Env P) (t : Nat) (x : Value) : Option Value :=
  match Γ.get t with
  | some r => match r.k with | .iface => none | _ => some (.iface t x)
  | none => none
/-- A composite's parts, laid into its cells. -/
def splice (cs : List Value) (off : Nat) (vs : List Value) : List Value := cs.take off ++ vs ++ cs.drop (off + vs.length)
def cellsL : Value → List Value
  | .agg ⟨l⟩ => l
  | v => [v]

noncomputable def pval {P : Program} (Γ : Env P) (n : Nat) (ρ : Fr) (op : Op) : Option Value :=
  match op with
  | .move x => force (ev n ρ x)
  | .assign x => force (ev n ρ x)
  | .pick c a b => ppick (ev n ρ c) (ev n ρ a) (ev n ρ b)
  | .binOp op _ x y _ => pbin op (ev n ρ x) (ev n ρ y)
  | .unOp op _ x => pnot op (ev n ρ x)
  | .nilCheck x => pnil (ev n ρ x)
  | .convert s d x => pconv Γ s d (ev n ρ x)
  | .fieldAddr s x f => pfieldAddr Γ s f (ev n ρ x)
  | .field s x f => pfield Γ s f (ev n ρ x)
  | .indexAddr t x i => pidx Γ t (ev n ρ x) (ev n ρ i)
  | .makeFunc fn first cap => some (.func fn (args n ρ first).toArray (args n ρ cap).toArray)
  | .makeInterface t x => pmi Γ t (ev n ρ x)
  | .extract x i => pext (ev n ρ x) i
  | .call c => match c.callee with | .builtin b => pcall Γ b c.argTypes (args n ρ c.args) | _ => none
  | _ => none

theorem underlying_run {P : Program} {t : Nat} {d : TypeDesc} (h : P.underlying t = some d) (w : World) : (underlying t).run P w = .ok d w := by
  simp [underlying, program, bind, Sem.bind, Sem.run, h, pure]
theorem info_run {P : Program} {t : Nat} {r : TR} (h : TypeIs P t r) (w : World) : ∃ i, (typeInfo t).run P w = .ok i w ∧ i.size = r.sz ∧ i.bytes = r.by_ ∧ i.zero = some r.z := by
  obtain ⟨i, hi, h1⟩ := h.i
  exact ⟨i, by simp [typeInfo, program, bind, Sem.bind, Sem.run, hi, pure], h1⟩
theorem size_run {P : Program} {t : Nat} {r : TR} (h : TypeIs P t r) (w : World) : (sizeOf t).run P w = .ok r.sz w := by
  obtain ⟨i, h1, h2, _⟩ := info_run h w
  show ((typeInfo t).bind _).run P w = _
  rw [run_bind, h1]; show Result.ok i.size w = _; rw [h2]
theorem zero_run {P : Program} {t : Nat} {r : TR} (h : TypeIs P t r) (w : World) : (zeroValue t).run P w = .ok r.z w := by
  obtain ⟨i, h1, _, _, h2⟩ := info_run h w
  show ((typeInfo t).bind _).run P w = _
  rw [run_bind, h1]; simp only [h2]; rfl
theorem isAgg_run {P : Program} {t : Nat} {r : TR} (h : TypeIs P t r) (w : World) : (isAgg t).run P w = .ok (isAggT P t == 2) w := by
  obtain ⟨d, hd, _⟩ := h.d
  show ((underlying t).bind _).run P w = _
  rw [run_bind, underlying_run hd]
  unfold isAggT; rw [hd]; cases d <;> rfl
theorem bind_run {α β : Type} {P : Program} {s : Sem α} {f : α → Sem β} {a : α} {w w1 : World} (h : s.run P w = .ok a w1) : (s >>= f).run P w = (f a).run P w1 := by
  show (s.bind f).run P w = _
  rw [run_bind, h]
theorem underlying_size {P : Program} (t : Nat) : ∀ {i}, P.info? t = some i → sizeT P t = i.size := fun h => by unfold sizeT; rw [h]

theorem extract_list (cs : List Value) (a n : Nat) : (Array.mk cs).extract a (a + n) = ⟨(cs.drop a).take n⟩ := by
  refine Array.ext' ?_
  simp [List.extract]
theorem run_part_agg {P : Program} {t sz : Nat} (h : isAggT P t = 2) (hs : sizeT P t = sz) {cs : Array Value} {off : Nat} {w : World} :
    (part t cs off).run P w = .ok (.agg (cs.extract off (off + sz))) w := by
  unfold isAggT at h
  cases hu : P.underlying t with
  | none => rw [hu] at h; cases h
  | some d =>
    have hi : ∃ i, P.info? t = some i ∧ i.size = sz := by
      unfold sizeT at hs
      cases hi : P.info? t with
      | none => simp [Program.underlying, hi] at hu
      | some i => rw [hi] at hs; exact ⟨i, rfl, hs⟩
    obtain ⟨i, hi, his⟩ := hi
    rw [hu] at h
    have ha : (isAgg t).run P w = .ok true w := by
      show ((underlying t).bind _).run P w = _
      rw [run_bind, underlying_run hu]
      cases d <;> first | rfl | cases h
    unfold part
    rw [bind_run ha]
    simp [sizeOf, typeInfo, program, bind, Sem.bind, Sem.run, hi, pure, his]
theorem run_part_one {P : Program} {t : Nat} (h : isAggT P t = 1) {cs : Array Value} {off : Nat} {v : Value} (hc : cs[off]? = some v) (w : World) :
    (part t cs off).run P w = .ok v w := by
  unfold isAggT at h
  cases hu : P.underlying t with
  | none => rw [hu] at h; cases h
  | some d =>
    rw [hu] at h
    have ha : (isAgg t).run P w = .ok false w := by
      show ((underlying t).bind _).run P w = _
      rw [run_bind, underlying_run hu]
      cases d <;> first | rfl | cases h
    unfold part
    rw [bind_run ha]
    simp [hc, pure, Sem.run]

theorem inRange {i : Int} {n : Nat} (h : (Nat.blt i.toNat n && seenNat i) = true) : 0 ≤ i ∧ i < n := by
  simp only [Bool.and_eq_true, Nat.blt_eq] at h
  have := seenNat_spec h.2
  omega
theorem pval_run {P : Program} {Γ : Env P} {n : Nat} {ρ : Fr} {o : Oper} {v : Value} (h : pval Γ n ρ o.op = some v) (w : World) :
    (execOp (ev n ρ) o).run P w = .ok (.value v) w := by
  unfold pval at h
  unfold execOp
  cases ho : o.op <;> rw [ho] at h <;> simp only [reduceCtorEq] at h ⊢
  case move x => rw [force_eq h]; rfl
  case assign x => rw [force_eq h]; rfl
  case pick c a b =>
    unfold ppick at h
    split at h
    · rename_i hc; rw [hc, ← force_eq h]; rfl
    · rename_i hc; rw [hc, ← force_eq h]; rfl
    · cases h
  case binOp op t x y yt => exact run_value (pbin_run h P t x y w)
  case unOp op t x => exact run_value (pnot_run h P w)
  case nilCheck x =>
    unfold pnil at h
    split at h <;> first | (rename_i hx; rw [hx]; cases h; rfl) | cases h
  case convert s d x =>
    unfold pconv at h
    split at h
    · rename_i rs rd hs hd hx
      split at h
      · rename_i hk
        cases h
        rw [hx]
        obtain ⟨ds, hds, _⟩ := (Γ.is hs).d
        refine run_value ?_
        simp only [convert]
        rw [bind_run (underlying_run hds w), bind_run (underlying_run (tk_int (Γ.is hd) hk) w)]
        cases ds <;> rfl
      · cases h
    · rename_i rs rd hs hd hx
      split at h
      · rename_i hk
        cases h
        rw [hx]
        obtain ⟨ds, hds, _⟩ := (Γ.is hs).d
        refine run_value ?_
        simp only [convert]
        rw [bind_run (underlying_run hds w), bind_run (underlying_run (tk_string (Γ.is hd) hk) w)]
        cases ds <;> rfl
      · cases h
    · cases h
  case fieldAddr s x f =>
    unfold pfieldAddr at h
    split at h
    · rename_i r b o hr hx
      split at h
      · rename_i fs hk
        split at h
        · rename_i off sz ag hf
          split at h
          · cases h
          · rename_i hsz
            cases h
            rw [hx]
            obtain ⟨fl, hfl, hm⟩ := tk_struct (Γ.is hr) hk
            subst hm
            rw [List.getElem?_map] at hf
            obtain ⟨fd, hfd, he⟩ := Option.map_eq_some_iff.1 hf
            simp only [Prod.mk.injEq] at he
            obtain ⟨rfl, hs2, _⟩ := he
            refine run_value ?_
            simp only [Instr.fieldAt]
            rw [bind_run (underlying_run hfl w)]
            simp only
            rw [Array.getElem?_toList] at hfd
            rw [hfd]
            simp only [Instr.sureAddr]
            show (((pure _ : Sem Addr) >>= _) : Sem Value).run P w = _
            have hsz' : sz ≠ 0 := fun e => by subst e; simp at hsz
            have : (sizeOf fd.type).run P w = .ok sz w := by
              unfold sizeT at hs2
              cases hi : P.info? fd.type with
              | none => rw [hi] at hs2; exact absurd hs2.symm hsz'
              | some i =>
                rw [hi] at hs2
                simp [sizeOf, typeInfo, program, bind, Sem.bind, Sem.run, hi, pure, hs2]
            show ((fieldPlace ⟨b, o, none⟩ fd).bind _).run P w = _
            rw [run_bind]
            have hp : (fieldPlace ⟨b, o, none⟩ fd).run P w = .ok ⟨b, o + fd.offset, none⟩ w := by
              unfold fieldPlace
              rw [bind_run this, if_neg hsz', add_off]; rfl
            rw [hp]; rfl
        · cases h
      · cases h
    · cases h
  case field s x f =>
    unfold pfield at h
    split at h
    · rename_i r cs hr hx
      split at h
      · rename_i fs hk
        split at h
        · rename_i off sz ag hf
          obtain ⟨fl, hfl, hm⟩ := tk_struct (Γ.is hr) hk
          subst hm
          rw [List.getElem?_map] at hf
          obtain ⟨fd, hfd, he⟩ := Option.map_eq_some_iff.1 hf
          simp only [Prod.mk.injEq] at he
          obtain ⟨rfl, hs2, hag⟩ := he
          rw [Array.getElem?_toList] at hfd
          rw [hx]
          refine run_value ?_
          simp only [Instr.field]
          rw [bind_run (underlying_run hfl w)]
          simp only [hfd, asAgg]
          show (((pure _ : Sem (Array Value)) >>= fun cs => part fd.type cs fd.offset) : Sem Value).run P w = _
          show (part fd.type ⟨cs⟩ fd.offset).run P w = _
          split at h
          · cases h
            rw [run_part_agg hag hs2, extract_list]
          · split at h
            · rename_i v' hv'
              have := force_eq h
              subst this
              exact run_part_one hag (by simpa using hv') w
            · cases h
          · cases h
        · cases h
      · cases h
    · cases h
  case indexAddr t x i =>
    unfold pidx at h
    split at h
    · rename_i r b o k i' hr hx hi
      split at h
      · rename_i len e hk
        split at h
        · rename_i re hre
          split at h
          · rename_i hd
            cases h
            have hd' : 0 ≤ i' ∧ i' < len := inRange hd
            refine run_value ?_
            rw [hx, hi]
            simp only [Instr.indexAt, asIntOf]
            show (((pure _ : Sem (IntKind × Int)) >>= _) : Sem Value).run P w = _
            have h1 := underlying_run (tk_array (Γ.is hr) hk) w
            have h2 := size_run (Γ.is hre) w
            simp only [bind, Sem.bind, pure, run_bind, h1, h2, Instr.sureAddr, hd', if_true, and_self, Sem.run, add_off]
          · cases h
        · cases h
      · cases h
    · rename_i r b o l c k i' hr hx hi
      split at h
      · rename_i e hk
        split at h
        · rename_i re hre
          split at h
          · rename_i hd
            cases h
            have hd' : 0 ≤ i' ∧ i' < l := inRange hd
            refine run_value ?_
            rw [hx, hi]
            simp only [Instr.indexAt, asIntOf]
            show (((pure _ : Sem (IntKind × Int)) >>= _) : Sem Value).run P w = _
            have h1 := underlying_run (tk_slice (Γ.is hr) hk) w
            have h2 := size_run (Γ.is hre) w
            simp only [bind, Sem.bind, pure, run_bind, h1, h2, hd', if_true, and_self, Sem.run, add_off]
          · cases h
        · cases h
      · cases h
    · cases h
  case makeFunc fn first cap =>
    cases h
    refine run_value ?_
    simp only [Instr.makeFunc, map_args]; rfl
  case makeInterface t x =>
    unfold pmi at h
    split at h
    · rename_i r hr
      obtain ⟨d, hd, hk⟩ := (Γ.is hr).d
      refine run_value ?_
      unfold Instr.makeInterface
      rw [bind_run (underlying_run hd w)]
      split at h
      · cases h
      · rename_i hne
        cases h
        cases d <;> first | rfl | (simp [tkOf] at hk; exact absurd hk.symm hne)
    · cases h
  case extract x i =>
    unfold pext at h
    split at h
    · rename_i vs hx
      split at h
      · rename_i v' hv
        rw [hx]
        refine run_value ?_
        simp only [Instr.extract]
        rw [Array.getElem?_toList] at hv
        rw [hv, force_eq h]; rfl
      · cases h
    · cases h
  case call c =>
    split at h
    · rename_i b hb
      unfold resolve
      rw [hb]
      simp only [map_args]
      exact pcall_run h _ _ w
    · cases h
end Go.SX
