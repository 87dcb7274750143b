/- What the seat's laid variables hold. -/
import Derived.Test.YtepfnakabafhlaaDoorXPWU3
import Derived.Test.YtepfnakabafhlaaDoorXPWU1
import Derived.Test.YtepfnakabafhlaaDoorRows
import Derived.LaidMore
import Derived.LaidHandle
import Derived.MakeChecks
set_option linter.unusedSimpArgs false
set_option linter.unusedVariables false
namespace Go.Proofs.YtepfnakabafhlaaDoorX
open Go Go.SX

theorem len2w {α : Type} {l : List α} (h : l.length = 2) : ∃ a b, l = [a, b] := by
  match l, h with
  | [a, b], _ => exact ⟨a, b, rfl⟩
theorem len6w {α : Type} {l : List α} (h : l.length = 6) : ∃ x0 x1 x2 x3 x4 x5, l = [x0, x1, x2, x3, x4, x5] := by
  match l, h with
  | [x0, x1, x2, x3, x4, x5], _ => exact ⟨x0, x1, x2, x3, x4, x5, rfl⟩
theorem len12w {α : Type} {l : List α} (h : l.length = 12) : ∃ c0 c1 c2 c3 c4 c5 c6 c7 c8 c9 c10 c11, l = [c0, c1, c2, c3, c4, c5, c6, c7, c8, c9, c10, c11] := by
  match l, h with
  | [c0, c1, c2, c3, c4, c5, c6, c7, c8, c9, c10, c11], _ => exact ⟨c0, c1, c2, c3, c4, c5, c6, c7, c8, c9, c10, c11, rfl⟩
theorem laid_at {P : Program} {w : World} : ∀ {laid : List (String × DataW Unit)} {ps : List MemPlace}, DataW.LaidVars P w laid ps → ∀ {n : String} {d : DataW Unit}, (n, d) ∈ laid →
    ∃ g t cs f p, P.globalNamed n = some g ∧ (P.globals[g]?).map (·.type) = some t ∧ w.var? P n = some cs ∧ DataW.trod (fun _ => ()) P w 0 (fun _ => true) false f t cs.toList = some (d, p)
  | [], _, _, _, _, hx => by cases hx
  | (m, e) :: r, _, ⟨g, t, cs, f, p, q, h1, h2, h3, h4, h5, _⟩, n, d, hx => by
    rcases List.mem_cons.1 hx with h | h
    · cases h; exact ⟨g, t, cs, f, p, h1, h2, h3, h4⟩
    · exact laid_at h5 h
theorem var_blk {w : World} {nm : String} {g : Nat} {cs : Array Value} {l : List Value} (hg : Tryd.prog.globalNamed nm = some g) (h : w.var? Tryd.prog nm = some cs) (hl : cs.toList = l) : ∃ t fz, hv w g = some (.cells ⟨l⟩ t fz) := by
  obtain ⟨l2⟩ := cs
  obtain rfl : l2 = l := hl
  simp only [World.var?, hg, Option.bind_some] at h
  split at h
  · rename_i c t fz e
    cases h
    exact ⟨t, fz, e⟩
  · cases h
theorem ints_of {W : World} {t e n : Nat} {k : IntKind} {l : List Int} {cs : List Value} {f : Nat} {p : List MemPlace} (ht : Tryd.prog.underlying t = some (.array n e)) (he : Tryd.prog.underlying e = some (.int k)) (hk : Tryd.prog.cellsOf e = 1) (hc : Tryd.prog.cellsOf t = n)
    (h : DataW.trod (fun _ => ()) Tryd.prog W 0 (fun _ => true) false f t cs = some (.agg (l.map fun i => DataW.lit (.int k i)), p)) : cs = l.map (.int k) := by
  obtain ⟨xs, m, rfl, hx, hl, hn, hf⟩ := DataW.trod_array ht h
  have hx1 : l.map (fun i => (DataW.lit (.int k i) : DataW Unit)) = xs.map (·.1) := DataW.agg.inj (congrArg Prod.fst hx)
  have hlen : l.length = n := by have := congrArg List.length hx1; simp only [List.length_map] at this; omega
  refine List.ext_getElem? fun i => ?_
  by_cases hi : i < n
  · have hh := hf i hi
    rw [hk] at hh
    obtain ⟨y, hy⟩ : ∃ y, xs[i]? = some y := ⟨_, List.getElem?_eq_getElem (by omega)⟩
    obtain ⟨v, hv, hy1, _⟩ := DataW.trod_int he (hh.trans hy)
    have e1 : cs[i]? = some (.int k v) := by
      have := congrArg (fun z : List Value => z[0]?) hv
      simpa using this
    obtain ⟨u, hu⟩ : ∃ u, l[i]? = some u := ⟨_, List.getElem?_eq_getElem (by omega)⟩
    have e2 := congrArg (fun z : List (DataW Unit) => z[i]?) hx1
    simp only [List.getElem?_map, hu, hy, hy1, Option.map_some, Option.some.injEq, DataW.lit.injEq, Lit.int.injEq, true_and] at e2
    rw [e1, List.getElem?_map, hu, e2]; rfl
  · rw [List.getElem?_eq_none (by omega), List.getElem?_eq_none (by rw [List.length_map]; omega)]
theorem wpair_of {W : World} {f : Nat} {cs : List Value} {d : DataW Unit} {p : List MemPlace} {a : List UInt8} {b : Int} (h : DataW.trod (fun _ => ()) Tryd.prog W 0 (fun _ => true) false f 83 cs = some (d, p))
    (hd : d = .agg [.lit (.string a), .lit (.int .i64 b)]) : cs = [.string ⟨⟨a⟩⟩, .int .i64 b] := by
  obtain ⟨y0, y1, n, hx, hl, h0, h1⟩ := Go.ChangeShapes.trod_struct2 Tryd.underlying83 h
  obtain ⟨s, e0, r0, _⟩ := DataW.trod_string Tryd.underlying9 h0
  obtain ⟨n1, e1, r1, _⟩ := DataW.trod_int Tryd.underlying3 h1
  subst hd
  simp only [Prod.mk.injEq, DataW.agg.injEq, List.cons.injEq, and_true] at hx
  rw [r0, r1] at hx
  simp only [DataW.lit.injEq, Lit.int.injEq, Lit.string.injEq, true_and] at hx
  obtain ⟨⟨rfl, rfl⟩, _⟩ := hx
  have hl2 : cs.length = 2 := hl.trans (by kernel_rfl)
  obtain ⟨c0, c1, rfl⟩ := len2w hl2
  have k1 : Tryd.prog.cellsOf 3 = 1 := by kernel_rfl
  have k2 : Tryd.prog.cellsOf 9 = 1 := by kernel_rfl
  simp only [k1, k2] at e0 e1
  simp at e0 e1
  rw [e0, e1]
theorem iface_of {P : Program} {W : World} {f t : Nat} {cs : List Value} {nm : String} {d : DataW Unit} {p : List MemPlace} {ms : Array (String × Nat)} (ht : P.underlying t = some (.interface ms)) (h : DataW.trod (fun _ => ()) P W 0 (fun _ => true) false f t cs = some (.iface nm d, p)) :
    ∃ u v, cs = [.iface u v] := by
  cases f with
  | zero => simp [DataW.trod] at h
  | succ f =>
    unfold DataW.trod at h
    rw [ht] at h
    split at h <;> simp_all
theorem lib_of {W : World} (h : laidMetH Tryd.prog [("math/bits.deBruijn32tab", Go.Proofs.YtepfnakabafhlaaDoor.Rows.laid_math_bits_deBruijn32tab), ("math/bits.deBruijn64tab", Go.Proofs.YtepfnakabafhlaaDoor.Rows.laid_math_bits_deBruijn64tab), ("internal/strconv.uint64pow10", Go.Proofs.YtepfnakabafhlaaDoor.Rows.laid_internal_strconv_uint64pow10), ("strconv.ErrRange", Go.Proofs.YtepfnakabafhlaaDoor.Rows.laid_strconv_ErrRange), ("strconv.ErrSyntax", Go.Proofs.YtepfnakabafhlaaDoor.Rows.laid_strconv_ErrSyntax), ("augur/wire.words", Go.Proofs.YtepfnakabafhlaaDoor.Rows.laid_augur_wire_words)] W) : libK (hv W) := by
  rw [MakeChecks.laidMetH_plain _ _ _ (by kernel_rfl)] at h
  obtain ⟨ps, hL, _, _⟩ := h
  refine ⟨?_, ?_, ?_, ?_⟩
  · obtain ⟨g, t, cs, f, p, h1, h2, h3, h4⟩ := laid_at hL (n := "internal/strconv.uint64pow10") (d := Go.Proofs.YtepfnakabafhlaaDoor.Rows.laid_internal_strconv_uint64pow10) (by simp)
    obtain rfl := Option.some.inj (gPow.symm.trans h1)
    obtain rfl : t = 112 := (Option.some.inj ((show (Tryd.prog.globals[4]?).map (·.type) = some 112 by kernel_rfl).symm.trans h2)).symm
    have e : Go.Proofs.YtepfnakabafhlaaDoor.Rows.laid_internal_strconv_uint64pow10 (H := Unit) = .agg (Lib.pow10Tab.map fun i => DataW.lit (.int .u64 i)) := by with_unfolding_all rfl
    rw [e] at h4
    exact var_blk gPow h3 (ints_of Tryd.underlying112 Tryd.underlying30 (by kernel_rfl) (by kernel_rfl) h4)
  · obtain ⟨g, t, cs, f, p, h1, h2, h3, h4⟩ := laid_at hL (n := "strconv.ErrSyntax") (d := Go.Proofs.YtepfnakabafhlaaDoor.Rows.laid_strconv_ErrSyntax) (by simp)
    obtain rfl := Option.some.inj (gSyn.symm.trans h1)
    obtain rfl : t = 86 := (Option.some.inj ((show (Tryd.prog.globals[2]?).map (·.type) = some 86 by kernel_rfl).symm.trans h2)).symm
    obtain ⟨u, v, e⟩ := iface_of Tryd.underlying86 h4
    obtain ⟨t, fz, hb⟩ := var_blk gSyn h3 e
    exact ⟨u, v, t, fz, hb⟩
  · obtain ⟨g, t, cs, f, p, h1, h2, h3, h4⟩ := laid_at hL (n := "strconv.ErrRange") (d := Go.Proofs.YtepfnakabafhlaaDoor.Rows.laid_strconv_ErrRange) (by simp)
    obtain rfl := Option.some.inj (gRng.symm.trans h1)
    obtain rfl : t = 86 := (Option.some.inj ((show (Tryd.prog.globals[3]?).map (·.type) = some 86 by kernel_rfl).symm.trans h2)).symm
    obtain ⟨u, v, e⟩ := iface_of Tryd.underlying86 h4
    obtain ⟨t, fz, hb⟩ := var_blk gRng h3 e
    exact ⟨u, v, t, fz, hb⟩
  · obtain ⟨g, t, cs, f, p, h1, h2, h3, h4⟩ := laid_at hL (n := "augur/wire.words") (d := Go.Proofs.YtepfnakabafhlaaDoor.Rows.laid_augur_wire_words) (by simp)
    obtain rfl := Option.some.inj (gWords.symm.trans h1)
    obtain rfl : t = 84 := (Option.some.inj ((show (Tryd.prog.globals[0]?).map (·.type) = some 84 by kernel_rfl).symm.trans h2)).symm
    obtain ⟨xs, m, rfl, hx, hl, hn, hf⟩ := DataW.trod_array Tryd.underlying84 h4
    have hl12 : cs.toList.length = 12 := hl.trans (by kernel_rfl)
    have k2 : Tryd.prog.cellsOf 83 = 2 := by kernel_rfl
    simp only [Go.Proofs.YtepfnakabafhlaaDoor.Rows.laid_augur_wire_words, Prod.mk.injEq, DataW.agg.injEq] at hx
    obtain ⟨hx, _⟩ := hx
    obtain ⟨x0, x1, x2, x3, x4, x5, rfl⟩ := len6w hn
    simp only [List.map_cons, List.map_nil, List.cons.injEq, and_true] at hx
    obtain ⟨d0, d1, d2, d3, d4, d5⟩ := hx
    have g0 := wpair_of (f := m) (d := x0.1) (p := x0.2) (hf 0 (by omega)) d0.symm
    have g1 := wpair_of (f := m) (d := x1.1) (p := x1.2) (hf 1 (by omega)) d1.symm
    have g2 := wpair_of (f := m) (d := x2.1) (p := x2.2) (hf 2 (by omega)) d2.symm
    have g3 := wpair_of (f := m) (d := x3.1) (p := x3.2) (hf 3 (by omega)) d3.symm
    have g4 := wpair_of (f := m) (d := x4.1) (p := x4.2) (hf 4 (by omega)) d4.symm
    have g5 := wpair_of (f := m) (d := x5.1) (p := x5.2) (hf 5 (by omega)) d5.symm
    obtain ⟨c0, c1, c2, c3, c4, c5, c6, c7, c8, c9, c10, c11, hcs⟩ := len12w hl12
    rw [hcs] at g0 g1 g2 g3 g4 g5
    simp [k2] at g0 g1 g2 g3 g4 g5
    refine var_blk gWords h3 ?_
    rw [hcs, g0.1, g0.2, g1.1, g1.2, g2.1, g2.2, g3.1, g3.2, g4.1, g4.2, g5.1, g5.2]; rfl
end Go.Proofs.YtepfnakabafhlaaDoorX
