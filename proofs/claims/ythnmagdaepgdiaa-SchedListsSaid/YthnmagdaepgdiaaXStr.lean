/- Bytes and strings; what a slice of the call's own leads to. -/
import Derived.Test.YthnmagdaepgdiaaXMaps
import Derived.Laws.BytesString
import Derived.Laws.BytesArg
import Derived.Laws.Concat
set_option linter.unusedSimpArgs false
set_option linter.unusedVariables false
namespace Go.SX
open Go Go.RowKit

/-- A string's bytes, as numbers; the string of some numbers. -/
def numsOf (s : ByteArray) : List Int := s.data.toList.map fun b => (b.toNat : Int)
def strOf (xs : List Int) : ByteArray := ⟨(xs.map fun n => UInt8.ofNat n.toNat).toArray⟩

section
variable {P : Program} {Γ : Env P} {n : Nat} {w0 : World} {K : List Nat} {Q : Exit → Fr → HL → Prop} {ρ : Fr} {L R F : HL} {ops : List Oper} {N : Fr → HL → Prop}

theorem SlA.loadCells {k : IntKind} {by_ : Nat} {w : World} {xs : List Int} {x : Addr} {cap : Nat} (s : SlA (Kd.int k) by_ (hv w) xs (some x) cap) :
    (Go.loadCells x xs.length).run P w = .ok (xs.map (Value.int k)).toArray w := by
  by_cases h0 : xs.length = 0
  · obtain rfl := List.eq_nil_of_length_eq_zero h0
    rfl
  · have hx := s.at_ (by omega)
    rw [Option.some.injEq] at hx
    rw [hx]
    have := loadCells_run (P := P) (b := ablk (some x)) (off := aoff (some x)) (w := w) (xs.map (Value.int k)) 0 #[] (fun j v hj => by
      rw [List.getElem?_map] at hj
      obtain ⟨y, hy, rfl⟩ := Option.map_eq_some_iff.1 hj
      have hl := (List.getElem?_eq_some_iff.1 hy).1
      have h1 := (s.int j hl).1
      rw [hy, cellv_hv] at h1
      simpa using h1)
    unfold Go.loadCells
    rw [List.length_map] at this
    rw [this]
    simp

/-- string(b). -/
theorem PR.toStr {src dst e l c : Nat} {x : Operand} {r re rd : TR} {a : Option Addr} {xs : List Int} (hs : Γ.get src = some r) (hk : r.k = .slice e) (he : Γ.get e = some re) (hek : re.k = .int .u8)
    (hd : Γ.get dst = some rd) (hdk : rd.k = .string) (hx : ev n ρ x = .slice a l c) (hl : xs.length = l) (hA : Known w0 K L (fun h => SlA (Kd.int .u8) 1 h xs a c)) :
    PR Γ n w0 K ρ L (.convert src dst x) (.string (strOf xs)) := ⟨fun o ho w ow => by
  unfold execOp; rw [ho]
  refine run_value ?_
  rw [hx, run_convert_bytes_string w src dst e a l c (tk_slice (Γ.is hs) hk) (tk_int (Γ.is he) hek) (tk_string (Γ.is hd) hdk)]
  have hA := hA.at ow
  cases a with
  | none =>
    have : xs = [] := by
      cases xs with
      | nil => rfl
      | cons y ys => exact absurd (hA.at_ (by simp)) (by simp)
    subst this
    rfl
  | some x =>
    subst hl
    rw [run_bytesToString w x xs.length c xs hA.loadCells, foldl_push_bytes]
    congr 2
    simp [strOf]
    ⟩

/-- A call that hands nothing over and keeps nothing. -/
theorem XOp.callQ {d : Option Nat} {ty f : Nat} {c : Operand} {xs : Array Operand} {ts : Array Nat} {pos : String} {af : Array Edge} {g : Option (Nat × Bool)}
    {as : List Value} {first cap : Array Value} {A : HV → Prop} {B : Value → Prop}
    (hF : FC P f as [] A (fun v L => B v ∧ L = []))
    (hg : gval n ρ ops g = some true) (hc : ev n ρ c = .func (.func f) first cap) (ha : first.toList ++ args n ρ xs ++ cap.toList = as)
    (hA : Known w0 K L A) (h : ∀ v, B v → N (updO ρ d v) L) :
    XOp Γ n w0 K ops { dst := d, op := .call { callee := .value c, args := xs, argTypes := ts }, type := ty, pos := pos, after := af, guard := g } N ρ L :=
  XOp.call hF hg hc ha (List.nil_append _).symm hA (fun v L' ⟨hb, e⟩ => by subst e; exact h v hb)
theorem XQ.slots {e : Exit} (l : List (Nat × Value)) (hs : Slots ρ l) (h : XQ Q e (updL ρ l) L) : XQ Q e ρ L := by
  rw [updL_same l ρ hs] at h; exact h
theorem FC.subl {f : Nat} {vs : List Value} {L0 : HL} {A : HV → Prop} {Post : Value → HL → Prop} (h : FC P f vs L0 A (fun v L => ∃ L'', L''.Sublist L ∧ Post v L'')) : FC P f vs L0 A Post :=
  ⟨h.1, fun w h1 h2 h3 => (h.2 w h1 h2 h3).mono fun _ _ ⟨v, L', he, ho, L'', hs, hq⟩ => ⟨v, L'', he, ho.sub (fun x hx => hs.subset hx) ((hs.map _).nodup ho.nodup), hq⟩⟩
theorem SlA.okAll {k : IntKind} {by_ : Nat} {h : HV} {xs : List Int} {a : Option Addr} {cap : Nat} (s : SlA (Kd.int k) by_ h xs a cap) : ∀ x ∈ xs, inK k x := by
  intro x hx
  obtain ⟨i, hi⟩ := List.getElem?_of_mem hx
  have := (s.int i (List.getElem?_eq_some_iff.1 hi).1).2
  rw [hi] at this; exact this
theorem Known.blk {b t : Nat} {fz : Nat × Nat} {cs : List Value} (hm : (b, Obj.cells ⟨cs⟩ t fz) ∈ L) : Known w0 K L (fun h => rowv h b 0 cs) := fun h e i v hv => by
  have := e.1 _ hm
  simp only at this
  simp [cellv, this, hv]
theorem Known.bcell {b t : Nat} {fz : Nat × Nat} {cs : List Value} {i : Nat} {v : Value} (hm : (b, Obj.cells ⟨cs⟩ t fz) ∈ L) (hv : cs[i]? = some v) : Known w0 K L (fun h => cellv h ⟨b, i, none⟩ = some v) := fun h e => by
  have := Known.blk hm h e i v hv
  simpa using this
theorem FC.nil {f : Nat} {as : List Value} {L0 : HL} {A : HV → Prop} {B : Value → Prop} (h : FC P f as L0 A (fun v _ => B v)) : FC P f as L0 A (fun v L => B v ∧ L = []) :=
  h.drop.mono fun _ _ ⟨h1, _, h2⟩ => ⟨h2, h1⟩
theorem MapIs.conv {ob : Obj} {m m' : Int → Option Int} (h : MapIs ob m) (e : m = m') : MapIs ob m' := e ▸ h
theorem take_map_snoc {α : Type} {β : Type} (f : α → β) (xs : List α) (i : Nat) (d : α) (h : i < xs.length) : (xs.take (i + 1)).map f = (xs.take i).map f ++ [f (xs[i]?.getD d)] := by
  rw [List.take_add_one, List.map_append, List.getElem?_eq_getElem h]; rfl
/-- x[:h] of a slice. -/
theorem PR.sliceTo {t e l c : Nat} {a : Option Addr} {x y : Operand} {r re : TR} {k : IntKind} {j : Int} (ht : Γ.get t = some r) (hk : r.k = .slice e) (he : Γ.get e = some re) (hx : ev n ρ x = .slice a l c)
    (hh : ev n ρ y = .int k j) (hb : 0 ≤ j ∧ j ≤ c) : PR Γ n w0 K ρ L (.slice t x none (some y) none) (.slice a j.toNat c) := by
  have h := PR.slice (L := L) (w0 := w0) (K := K) (ol := none) (oh := some y) (lo := 0) (hi := j.toNat) ht hk he hx rfl ⟨k, j, hh, hb.1, rfl⟩ ⟨by omega, by omega⟩
  have e1 : (if c = 0 then a else a.map (·.add (0 * re.sz))) = a := by
    have : ∀ x : Addr, x.add (0 * re.sz) = x := fun x => by simp [Addr.add]
    split
    · rfl
    · cases a with
      | none => rfl
      | some x => exact congrArg some (this x)
  rw [e1] at h; exact h
/-- What a slice of the call's own leads to. -/
theorem OwnS.slA {k : IntKind} {by_ e m : Nat} {v : Value} {xs : List Int} {F : HL} (h : OwnS e 1 v m (xs.map (.int k)) F) (hk : ∀ x ∈ xs, inK k x) (hb : xs.length * by_ ≤ 140737488355328) :
    ∃ a cap, v = .slice a xs.length cap ∧ m = xs.length ∧ SlA (Kd.int k) by_ (fv F) xs a cap := by
  obtain ⟨h1, h2⟩ := h
  have hm : m = xs.length := by rw [List.length_map] at h1; omega
  rcases h2 with ⟨rfl, rfl, rfl⟩ | ⟨g, cap, sp, rfl, rfl, hle, hmx, hcs⟩
  · have : xs = [] := List.eq_nil_of_length_eq_zero (by omega)
    subst this
    exact ⟨none, 0, rfl, rfl, by simp, by simp, fun _ => rfl, fun h => absurd h (by simp), fun i x h => by simp at h⟩
  · refine ⟨some ⟨g, 0, none⟩, cap, by rw [hm], hm, by omega, hb, (fun h => by cases h), fun _ => rfl, fun i x hx => ?_⟩
    refine ⟨[.int k x], ⟨rfl, hk x (List.mem_of_getElem? hx)⟩, fun j v hj => ?_⟩
    have hi := (List.getElem?_eq_some_iff.1 hx).1
    match j, hj with
    | 0, hj =>
      obtain rfl : Value.int k x = v := by simpa using hj
      simp only [cellv, fv, ablk, aoff, Kd.int, Nat.zero_add, Nat.mul_one, Nat.add_zero, List.find?_cons, beq_self_eq_true, Option.map_some]
      simp only [Option.isSome_none, Bool.false_eq_true, if_false, List.getElem?_toArray]
      rw [List.getElem?_append_left (by simpa using hi), List.getElem?_map, hx]; rfl
    | j + 1, hj => simp at hj

theorem OwnS.blk {e m : Nat} {v : Value} {xs : List Value} {F : HL} (h : OwnS e 1 v m xs F) (hp : 0 < m) :
    ∃ g cap sp, v = .slice (some ⟨g, 0, none⟩) m cap ∧ F = [(g, .cells ⟨xs ++ sp⟩ e (0, 0))] ∧ m ≤ cap ∧ cap ≤ maxLen ∧ xs.length = m ∧ (xs ++ sp).length = cap := by
  obtain ⟨h1, h2⟩ := h
  rcases h2 with ⟨_, rfl, _⟩ | ⟨g, cap, sp, hv, hF, h3, h4, h5⟩
  · omega
  · exact ⟨g, cap, sp, hv, hF, h3, h4, by omega, by omega⟩
/-- A block of the call's own that begins with these. -/
theorem blk_slA {k : IntKind} {by_ e g cap : Nat} {sp : List Value} {fz : Nat × Nat} {xs : List Int} {F : HL} (hF : (g, .cells ⟨xs.map (.int k) ++ sp⟩ e fz) ∈ F) (hn : (keys F).Nodup) (hk : ∀ x ∈ xs, inK k x) (hb : xs.length * by_ ≤ 140737488355328) (hc : xs.length ≤ cap) :
    SlA (Kd.int k) by_ (fv F) xs (some ⟨g, 0, none⟩) cap := by
  refine ⟨hc, hb, (fun h => by cases h), fun _ => rfl, fun i x hx => ⟨[.int k x], ⟨rfl, hk x (List.mem_of_getElem? hx)⟩, fun j v hj => ?_⟩⟩
  have hi := (List.getElem?_eq_some_iff.1 hx).1
  have hf : fv F g = some (.cells ⟨xs.map (.int k) ++ sp⟩ e fz) := by
    unfold fv
    have : F.find? (fun x => x.1 == g) = some (g, .cells ⟨xs.map (.int k) ++ sp⟩ e fz) := by
      clear hx
      induction F with
      | nil => cases hF
      | cons y F ih =>
        unfold keys at hn
        rw [List.map_cons, List.nodup_cons] at hn
        rcases List.mem_cons.1 hF with h | h
        · subst h; simp
        · rw [List.find?_cons_of_neg]
          · exact ih h hn.2
          · simp only [beq_iff_eq]
            intro he
            exact hn.1 (he ▸ List.mem_map.2 ⟨_, h, rfl⟩)
    rw [this]; rfl
  match j, hj with
  | 0, hj =>
    obtain rfl : Value.int k x = v := by simpa using hj
    simp only [cellv, hf, ablk, aoff, Kd.int, Nat.zero_add, Nat.mul_one, Nat.add_zero]
    simp only [Option.isSome_none, Bool.false_eq_true, if_false, List.getElem?_toArray]
    rw [List.getElem?_append_left (by simpa using hi), List.getElem?_map, hx]; rfl
  | j + 1, hj => simp at hj

/-- A part of a slice, from its beginning. -/
theorem SlA.takeS {α : Type} {d : Kd α} {by_ : Nat} {h : HV} {xs : List α} {a : Option Addr} {cap : Nat} (s : SlA d by_ h xs a cap) (m : Nat) : SlA d by_ h (xs.take m) a cap :=
  ⟨by have := s.le; rw [List.length_take]; omega, Nat.le_trans (Nat.mul_le_mul_right _ (by rw [List.length_take]; omega)) s.bytes, s.nil, fun hp => s.at_ (by rw [List.length_take] at hp; omega), fun i x hx => by
    rw [List.getElem?_take] at hx
    split at hx
    · exact s.row i x hx
    · cases hx⟩

theorem strOf_size (xs : List Int) : (strOf xs).size = xs.length := by simp [strOf, ByteArray.size]
theorem strOf_inj {xs ys : List Int} (hx : ∀ x ∈ xs, inK .u8 x) (hy : ∀ x ∈ ys, inK .u8 x) (h : strOf xs = strOf ys) : xs = ys := by
  unfold strOf at h
  have h1 := congrArg ByteArray.data h
  have h2 := congrArg Array.toList h1
  simp only at h2
  have h3 : xs.length = ys.length := by simpa using congrArg List.length h2
  refine List.ext_getElem? fun i => ?_
  have h4 := congrArg (fun l => l[i]?) h2
  simp only [List.getElem?_map] at h4
  by_cases hi : i < xs.length
  · have hi' : i < ys.length := by omega
    rw [List.getElem?_eq_getElem hi, List.getElem?_eq_getElem hi'] at h4 ⊢
    simp only [Option.map_some, Option.some.injEq] at h4
    have e1 := inK_u8.1 (hx _ (List.getElem_mem hi))
    have e2 := inK_u8.1 (hy _ (List.getElem_mem hi'))
    have h5 := congrArg UInt8.toNat h4
    simp only [UInt8.toNat_ofNat'] at h5
    congr 1
    omega
  · rw [List.getElem?_eq_none (by omega), List.getElem?_eq_none (by omega)]
theorem numsOf_strOf {xs : List Int} (hx : ∀ x ∈ xs, inK .u8 x) : numsOf (strOf xs) = xs := by
  unfold numsOf strOf
  simp only [List.map_map]
  refine List.ext_getElem? fun i => ?_
  rw [List.getElem?_map]
  by_cases hi : i < xs.length
  · rw [List.getElem?_eq_getElem hi]
    have e1 := inK_u8.1 (hx _ (List.getElem_mem hi))
    simp only [Option.map_some, Function.comp, UInt8.toNat_ofNat', Option.some.injEq]
    omega
  · rw [List.getElem?_eq_none (by omega)]; rfl
end
end Go.SX
