/- What an argument reads as, turned into typed facts on memory. -/
import Derived.Test.YthnmagdaepgdiaaXJudge
import Derived.SizedLaws
import Derived.ChangeArms
import Derived.OpenShut
import Derived.WideShapes
set_option linter.unusedSimpArgs false
set_option linter.unusedVariables false
namespace Go.SX
open Go Go.RowKit
theorem reach_val : reachBytes = 140737488351232 := by decide

/-- How a value of a Lean type lies in memory: its cells, and what they lead to. -/
structure Kd (α : Type) where
  sz : Nat
  enc : HV → α → List Value → Prop
  len : ∀ {h x cs}, enc h x cs → cs.length = sz
  mono : ∀ {h h' : HV} {x cs}, (∀ b o, h b = some o → h' b = some o) → enc h x cs → enc h' x cs

def inK (k : IntKind) (x : Int) : Prop := (Lit.int k x).wf = true
def Kd.int (k : IntKind) : Kd Int := ⟨1, fun _ x cs => cs = [.int k x] ∧ inK k x, fun h => by rw [h.1]; rfl, fun _ h => h⟩
def Kd.bool : Kd Bool := ⟨1, fun _ x cs => cs = [.bool x], fun h => by rw [h]; rfl, fun _ h => h⟩
def Kd.str : Kd ByteArray := ⟨1, fun _ x cs => cs = [.string x] ∧ x.size ≤ reachBytes, fun h => by rw [h.1]; rfl, fun _ h => h⟩

theorem cellv_mono {h h' : HV} (s : ∀ b o, h b = some o → h' b = some o) {a : Addr} {v : Value} (hc : cellv h a = some v) : cellv h' a = some v := by
  unfold cellv at hc ⊢
  split at hc
  · rename_i c t f hb; rw [s _ _ hb]; exact hc
  · cases hc
theorem rowv_mono {h h' : HV} (s : ∀ b o, h b = some o → h' b = some o) {b off : Nat} {vs : List Value} (hc : rowv h b off vs) : rowv h' b off vs :=
  fun i v hv => cellv_mono s (hc i v hv)

def ablk (a : Option Addr) : Nat := match a with | some x => x.block | none => 0
def aoff (a : Option Addr) : Nat := match a with | some x => x.off | none => 0
/-- What a slice over a's place, of that capacity, leads to. -/
structure SlA {α : Type} (d : Kd α) (by_ : Nat) (h : HV) (xs : List α) (a : Option Addr) (cap : Nat) : Prop where
  le : xs.length ≤ cap
  bytes : xs.length * by_ ≤ 140737488355328
  nil : a = none → cap = 0
  at_ : 0 < xs.length → a = some ⟨ablk a, aoff a, none⟩
  row : ∀ i x, xs[i]? = some x → ∃ c, d.enc h x c ∧ rowv h (ablk a) (aoff a + i * d.sz) c
/-- A slice's value and its elements. -/
def slEnc {α : Type} (d : Kd α) (by_ : Nat) (h : HV) (xs : List α) (v : Value) : Prop := ∃ a cap, v = .slice a xs.length cap ∧ SlA d by_ h xs a cap ∧ cap * by_ ≤ reachBytes
theorem SlA.mono {α : Type} {d : Kd α} {by_ : Nat} {h h' : HV} (s : ∀ b o, h b = some o → h' b = some o) {xs : List α} {a : Option Addr} {cap : Nat} (e : SlA d by_ h xs a cap) : SlA d by_ h' xs a cap :=
  ⟨e.le, e.bytes, e.nil, e.at_, fun i x hx => by obtain ⟨c, hc, hr⟩ := e.row i x hx; exact ⟨c, d.mono s hc, rowv_mono s hr⟩⟩
theorem slEnc_mono {α : Type} {d : Kd α} {by_ : Nat} {h h' : HV} (s : ∀ b o, h b = some o → h' b = some o) {xs : List α} {v : Value} (e : slEnc d by_ h xs v) : slEnc d by_ h' xs v := by
  obtain ⟨a, cap, h1, h2, h3⟩ := e
  exact ⟨a, cap, h1, h2.mono s, h3⟩
def Kd.slice {α : Type} (d : Kd α) (by_ : Nat) : Kd (List α) :=
  ⟨1, fun h xs cs => ∃ v, cs = [v] ∧ slEnc d by_ h xs v, fun ⟨_, h, _⟩ => by rw [h]; rfl, fun s ⟨v, h, e⟩ => ⟨v, h, slEnc_mono s e⟩⟩

section
variable {H : Type} {enc : TypeId × Value → H} {P : Program} {W : World}
/-- What is read at a type reads as K says. -/
def Rdr {α : Type} (enc : TypeId × Value → H) (P : Program) (W : World) (t : Nat) (K : Kd α) : Prop :=
  ∀ fuel cs (x : DataW H × List MemPlace), DataW.trod enc P W 0 (fun _ => true) true fuel t cs = some x → (∀ n ∈ x.1.weights P t, n ≤ reachBytes) → ∃ y, K.enc (hv W) y cs

theorem rdr_int {t : Nat} {k : IntKind} (hu : P.underlying t = some (.int k)) : Rdr enc P W t (Kd.int k) := fun fuel cs x h _ => by
  obtain ⟨n, rfl, _, hw⟩ := DataW.trod_int hu h
  exact ⟨n, rfl, hw⟩
theorem rdr_bool {t : Nat} (hu : P.underlying t = some .bool) : Rdr enc P W t Kd.bool := fun fuel cs x h _ => by
  obtain ⟨n, rfl, _⟩ := DataW.trod_bool hu h
  exact ⟨n, rfl⟩
theorem rdr_str {t : Nat} (hu : P.underlying t = some .string) : Rdr enc P W t Kd.str := fun fuel cs x h hw => by
  obtain ⟨s, rfl, hx, _⟩ := DataW.trod_string hu h
  refine ⟨s, rfl, ?_⟩
  rw [hx] at hw
  have := hw s.data.toList.length (by simp [DataW.weights])
  simpa using this
theorem weights_all_mem {e : Nat} : ∀ {l : List (DataW H)} {d : DataW H}, d ∈ l → ∀ n ∈ d.weights P e, n ∈ DataW.weightsAll P e l
  | a :: l, d, hm, n, hn => by
    simp only [DataW.weightsAll, List.mem_append]
    rcases List.mem_cons.1 hm with rfl | h
    · exact .inl hn
    · exact .inr (weights_all_mem h n hn)
theorem bind_some_iff {α β : Type} {a : Option α} {f : α → Option β} {b : β} (h : a.bind f = some b) : ∃ x, a = some x ∧ f x = some b := Option.bind_eq_some_iff.1 h

theorem rdr_slice {α : Type} {t e sz by_ : Nat} {K : Kd α} (hu : P.underlying t = some (.slice e)) (hs : P.cellsOf e = sz) (hb : P.bytesOf e = by_) (hk : K.sz = sz) (hsz : 0 < sz) (r : Rdr enc P W e K) :
    Rdr enc P W t (K.slice by_) := fun fuel cs x h hw => by
  rcases DataW.trod_slice hu h with ⟨rfl, hx⟩ | ⟨a, len, cap, elems, rest, n, _, rfl, hx, _, hl, hc, hel, hat, hr, _⟩
  · exact ⟨[], _, rfl, none, 0, rfl, ⟨by simp, by simp, fun _ => rfl, fun h => absurd h (by simp), fun i x h => by simp at h⟩, by simp⟩
  · obtain ⟨hr1, _⟩ := hr rfl
    rw [hx] at hw
    simp only [DataW.weights, hu, List.length_map, hel, hr1] at hw
    have hcap : cap * by_ ≤ reachBytes := by
      have := hw ((len + (cap - len)) * P.bytesOf e) (by simp)
      rw [hb] at this
      rw [show len + (cap - len) = cap by omega] at this; exact this
    have hall : ∀ i, i < len → ∃ y c, K.enc (hv W) y c ∧ c.length = sz ∧ ∀ j, j < sz → W.cell? ((a.add (i * sz)).add j) = c[j]? := by
      intro i hi
      have h1 := hat i hi
      have h2 : i < elems.length := by omega
      rw [List.getElem?_eq_getElem h2] at h1
      obtain ⟨c, hc1, hc2⟩ := bind_some_iff h1
      obtain ⟨_, hc3, hc4⟩ := World.cells?_some hc1
      obtain ⟨y, hy⟩ := r n c elems[i] hc2 (fun m hm => hw m (by
        simp only [List.mem_cons, List.mem_append]
        exact .inr (.inl (weights_all_mem (List.mem_map.2 ⟨elems[i], List.getElem_mem h2, rfl⟩) m hm))))
      rw [hs] at hc3 hc4
      exact ⟨y, c, hy, hc3, fun j hj => hc4 j hj⟩
    by_cases h0 : len = 0
    · subst h0
      exact ⟨[], _, rfl, some a, cap, rfl, ⟨by simp, by simp, (fun h => by cases h), fun h => absurd h (by simp), fun i x h => by simp at h⟩, hcap⟩
    · have hspot : a.spot = none := by
        obtain ⟨y, c, _, hc1, hc2⟩ := hall 0 (by omega)
        have h3 := hc2 0 hsz
        have h4 : 0 < c.length := by omega
        rw [Nat.zero_mul, List.getElem?_eq_getElem h4] at h3
        have e0 : ∀ a : Addr, a.add 0 = a := fun a => by simp [Addr.add]
        rw [e0, e0] at h3
        unfold World.cell? at h3
        split at h3
        · split at h3
          · cases h3
          · rename_i hs; cases hsp : a.spot <;> simp_all
        · cases h3
      obtain ⟨b, off, sp⟩ := a
      simp only at hspot
      subst hspot
      have hex : ∀ i : Nat, ∃ y, i < len → ∃ c, K.enc (hv W) y c ∧ rowv (hv W) b (off + i * sz) c := by
        intro i
        by_cases hi : i < len
        · obtain ⟨y, c, hy, hc1, hc2⟩ := hall i hi
          refine ⟨y, fun _ => ⟨c, hy, fun j v hj => ?_⟩⟩
          have hjl : j < sz := by have := (List.getElem?_eq_some_iff.1 hj).1; omega
          have := hc2 j hjl
          rw [add_off, add_off] at this
          rw [cellv_hv, this, hj]
        · obtain ⟨y, _⟩ := hall 0 (by omega)
          exact ⟨y, fun h => absurd h hi⟩
      have hlen : len * by_ ≤ 140737488355328 := Nat.le_trans (Nat.mul_le_mul_right _ hl) (Nat.le_trans hcap (by rw [reach_val]; omega))
      refine ⟨(List.range len).map (fun i => (hex i).choose), _, rfl, some ⟨b, off, none⟩, cap, by simp, ⟨by simpa using hl, by simpa using hlen, (fun h => by cases h), fun _ => rfl, ?_⟩, hcap⟩
      intro i x hx
      rw [List.getElem?_map] at hx
      obtain ⟨j, hj, rfl⟩ := Option.map_eq_some_iff.1 hx
      have hjl := (List.getElem?_eq_some_iff.1 hj)
      obtain ⟨hjl, he⟩ := hjl
      simp only [List.getElem_range] at he
      subst he
      rw [hk]
      exact (hex i).choose_spec (by simpa using hjl)

/-- A field of a struct. -/
theorem rdr_field {α : Type} {t : Nat} {fs : Array Field} {fuel : Nat} {cs : List Value} {x : DataW H × List MemPlace} (hu : P.underlying t = some (.struct fs))
    (h : DataW.trod enc P W 0 (fun _ => true) true fuel t cs = some x) (hw : ∀ n ∈ x.1.weights P t, n ≤ reachBytes) {i : Nat} {f : Field} (hf : fs[i]? = some f) {K : Kd α}
    (r : Rdr enc P W f.type K) {off sz : Nat} (ho : f.offset = off) (hz : P.cellsOf f.type = sz) : ∃ y, K.enc (hv W) y ((cs.drop off).take sz) := by
  subst ho; subst hz
  obtain ⟨xs, n, _, hx, _, hl, hat⟩ := DataW.trod_struct hu h
  have h1 := hat i f hf
  have hi : i < xs.length := by have := (Array.getElem?_eq_some_iff.1 hf).1; omega
  rw [List.getElem?_eq_getElem hi] at h1
  refine r n _ xs[i] h1 fun m hm => hw m ?_
  rw [hx]
  simp only [DataW.weights, hu]
  refine DataW.weights_mem_each (j := i) (t := f.type) (d := xs[i].1) ?_ ?_ m hm
  · rw [List.getElem?_map, Array.getElem?_toList, hf]; rfl
  · rw [List.getElem?_map, List.getElem?_eq_getElem hi]; rfl
theorem rdr_struct_len {t : Nat} {fs : Array Field} {fuel : Nat} {cs : List Value} {x : DataW H × List MemPlace} (hu : P.underlying t = some (.struct fs))
    (h : DataW.trod enc P W 0 (fun _ => true) true fuel t cs = some x) : cs.length = P.cellsOf t := by
  obtain ⟨xs, n, _, hx, hl, _⟩ := DataW.trod_struct hu h
  exact hl

end

theorem len2 {α : Type} {l : List α} (h : l.length = 2) : ∃ a b, l = [a, b] := by match l, h with | [a, b], _ => exact ⟨a, b, rfl⟩
theorem len3 {α : Type} {l : List α} (h : l.length = 3) : ∃ a b c, l = [a, b, c] := by match l, h with | [a, b, c], _ => exact ⟨a, b, c, rfl⟩
theorem len5 {α : Type} {l : List α} (h : l.length = 5) : ∃ a b c d e, l = [a, b, c, d, e] := by match l, h with | [a, b, c, d, e], _ => exact ⟨a, b, c, d, e, rfl⟩
/-- A value of one cell; a struct or an array by its cells. -/
def one {α : Type} (K : Kd α) (h : HV) (x : α) (v : Value) : Prop := K.enc h x [v]
def agg {α : Type} (K : Kd α) (h : HV) (x : α) (v : Value) : Prop := ∃ cs, v = .agg ⟨cs⟩ ∧ K.enc h x cs
theorem one_mono {α : Type} {K : Kd α} {h h' : HV} {x : α} {v : Value} (s : ∀ b o, h b = some o → h' b = some o) (e : one K h x v) : one K h' x v := K.mono s e
theorem agg_mono {α : Type} {K : Kd α} {h h' : HV} {x : α} {v : Value} (s : ∀ b o, h b = some o → h' b = some o) (e : agg K h x v) : agg K h' x v := by
  obtain ⟨cs, h1, h2⟩ := e; exact ⟨cs, h1, K.mono s h2⟩
theorem one_of {H : Type} {enc : TypeId × Value → H} {P : Program} {W : World} {α : Type} {t : Nat} {K : Kd α} {v : Value} {d : DataW H} {p : List MemPlace}
    (rd : Rdr enc P W t K) (hw : ∀ n ∈ d.weights P t, n ≤ reachBytes) (h : DataW.Trod enc P W 0 (fun _ => true) true t v d p) (hv : v.cells = #[v]) : ∃ x, one K (Go.SX.hv W) x v := by
  obtain ⟨fuel, hf⟩ := h
  obtain ⟨x, hx⟩ := rd fuel _ _ hf hw
  refine ⟨x, ?_⟩
  rw [hv] at hx; exact hx
theorem agg_of {H : Type} {enc : TypeId × Value → H} {P : Program} {W : World} {α : Type} {t : Nat} {K : Kd α} {v : Value} {d : DataW H} {p : List MemPlace}
    (rd : Rdr enc P W t K) (hw : ∀ n ∈ d.weights P t, n ≤ reachBytes) (h : DataW.Trod enc P W 0 (fun _ => true) true t v d p) (hv : ∃ cs, v = .agg cs) : ∃ x, agg K (Go.SX.hv W) x v := by
  obtain ⟨fuel, hf⟩ := h
  obtain ⟨x, hx⟩ := rd fuel _ _ hf hw
  obtain ⟨⟨cs⟩, rfl⟩ := hv
  exact ⟨x, cs, rfl, hx⟩
/-! ### Facts on a view, and what is known of the state -/
def Mono (B : HV → Prop) : Prop := ∀ h h' : HV, (∀ b o, h b = some o → h' b = some o) → B h → B h'
theorem Known.of_old {w0 : World} {K : List Nat} {L : HL} {B : HV → Prop} (hb : B (oldv w0 K)) (m : Mono B) : Known w0 K L B := fun h e => by
  refine m _ _ (fun b o ho => ?_) hb
  unfold oldv at ho
  split at ho
  · cases ho
  · rename_i hk
    have hlt : b < w0.heap.size := (Array.getElem?_eq_some_iff.1 ho).1
    rw [e.2 b hlt hk]; exact ho
/-- The view that some blocks are by themselves. -/
def fv (F : HL) : HV := fun b => (F.find? (fun x => x.1 == b)).map (·.2)
theorem Known.of_frag {w0 : World} {K : List Nat} {L F : HL} {B : HV → Prop} (hb : B (fv F)) (m : Mono B) (s : ∀ x ∈ F, x ∈ L) : Known w0 K L B := fun h e => by
  refine m _ _ (fun b o ho => ?_) hb
  unfold fv at ho
  obtain ⟨x, hx, rfl⟩ := Option.map_eq_some_iff.1 ho
  have h1 := List.mem_of_find?_eq_some hx
  have h2 : x.1 = b := by simpa using List.find?_some hx
  rw [← h2]; exact e.1 x (s x h1)
theorem Mono.cell (a : Addr) (v : Value) : Mono (fun h => cellv h a = some v) := fun _ _ s hc => cellv_mono s hc
theorem Mono.row (b off : Nat) (vs : List Value) : Mono (fun h => rowv h b off vs) := fun _ _ s hc => rowv_mono s hc
theorem Mono.sl {α : Type} (d : Kd α) (by_ : Nat) (xs : List α) (a : Option Addr) (cap : Nat) : Mono (fun h => SlA d by_ h xs a cap) := fun _ _ s hc => hc.mono s
theorem Mono.and {A B : HV → Prop} (a : Mono A) (b : Mono B) : Mono (fun h => A h ∧ B h) := fun h h' s ⟨x, y⟩ => ⟨a h h' s x, b h h' s y⟩
theorem Mono.const (p : Prop) : Mono (fun _ => p) := fun _ _ _ h => h
theorem SlA.int {k : IntKind} {by_ : Nat} {h : HV} {xs : List Int} {a : Option Addr} {cap : Nat} (s : SlA (Kd.int k) by_ h xs a cap) (i : Nat) (hi : i < xs.length) :
    cellv h ⟨ablk a, aoff a + i * 1, none⟩ = some (.int k (xs[i]?.getD 0)) ∧ inK k (xs[i]?.getD 0) := by
  have hx : xs[i]? = some xs[i] := List.getElem?_eq_getElem hi
  obtain ⟨c, ⟨rfl, hk⟩, hr⟩ := s.row i _ hx
  rw [hx]
  exact ⟨by have := hr 0 _ rfl; exact this, hk⟩

/-- From a law's contract to its call. -/
theorem FC.law {P : Program} {f : Nat} {as : List Value} {A : HV → Prop} (hF : FC P f as [] A (fun v _ => v = .bool true)) {W : World}
    (hA : ∀ h : HV, (∀ b o, hv W b = some o → h b = some o) → A h) : Calls P f as.toArray W (fun e W' => e = .returned (.bool true) ∧ Below W.heap.size W W') := by
  refine (hF.2 W (by simp) (by simp [keys]) fun h hh => hA h fun b o hb => hh b o (by unfold oldv; simp [keys]; exact hb)).mono ?_
  rintro e W' ⟨v, L', rfl, ow, rfl⟩
  exact ⟨rfl, ow.below⟩
end Go.SX
