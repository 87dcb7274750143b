/- Structs of numbers, held against one another. -/
import Derived.Test.YthnmagdaepgdiaaXFlat
import Derived.Laws.StructEq
set_option linter.unusedSimpArgs false
set_option linter.unusedVariables false
namespace Go.SX
open Go Go.RowKit

/-- Fields that are all of Go's int, one behind the other. -/
def intFieldsB (P : Program) : List Field → Nat → Bool
  | [], _ => true
  | f :: fs, i => decide (f.name ≠ "_") && Nat.beq f.offset i && (match P.underlying f.type with | some (.int k) => kEq k .i64 | _ => false) && intFieldsB P fs (i + 1)
theorem part_int {P : Program} {t : Nat} {k : IntKind} (h : P.underlying t = some (.int k)) {cs : Array Value} {off : Nat} {v : Value} (hc : cs[off]? = some v) (w : World) : (part t cs off).run P w = .ok v w := by
  refine run_part_one ?_ hc w
  unfold isAggT; rw [h]; rfl
theorem eqFields_run {P : Program} (d : Nat) (w : World) : ∀ (fs : List Field) (i : Nat) (xs ys pre1 pre2 : List Int), intFieldsB P fs i = true → xs.length = fs.length → ys.length = fs.length → pre1.length = i → pre2.length = i →
    (Op.eqFields (d + 1) ⟨(pre1 ++ xs).map (Value.int .i64)⟩ ⟨(pre2 ++ ys).map (Value.int .i64)⟩ fs).run P w = .ok (pd (xs = ys)) w
  | [], i, [], [], _, _, _, _, _, _, _ => by
    show Result.ok true w = _
    rw [pd_true.2 rfl]
  | f :: fs, i, x :: xs, y :: ys, p1, p2, h, hx, hy, h1, h2 => by
    unfold intFieldsB at h
    simp only [Bool.and_eq_true, decide_eq_true_eq] at h
    obtain ⟨⟨⟨hn, ho⟩, hk⟩, hr⟩ := h
    have ho := Nat.eq_of_beq_eq_true ho
    split at hk
    · rename_i k hu
      have hk := kEq_eq hk
      subst hk
      have e1 : (⟨(p1 ++ x :: xs).map (Value.int .i64)⟩ : Array Value)[f.offset]? = some (.int .i64 x) := by
        rw [ho, List.getElem?_toArray, List.getElem?_map, List.getElem?_append_right (by omega), h1]; simp
      have e2 : (⟨(p2 ++ y :: ys).map (Value.int .i64)⟩ : Array Value)[f.offset]? = some (.int .i64 y) := by
        rw [ho, List.getElem?_toArray, List.getElem?_map, List.getElem?_append_right (by omega), h2]; simp
      unfold Op.eqFields
      rw [if_pos hn, bind_run (part_int hu e1 w), bind_run (part_int hu e2 w), bind_run (run_equalIn_int w d f.type .i64 .i64 x y hu)]
      by_cases hxy : x = y
      · subst hxy
        have ih := eqFields_run d w fs (i + 1) xs ys (p1 ++ [x]) (p2 ++ [x]) hr (by simpa using hx) (by simpa using hy) (by simp [h1]) (by simp [h2])
        simp only [beq_self_eq_true, Bool.not_true, Bool.false_eq_true, if_false]
        rw [List.append_assoc, List.append_assoc] at ih
        rw [show p1 ++ x :: xs = p1 ++ ([x] ++ xs) from rfl, show p2 ++ x :: ys = p2 ++ ([x] ++ ys) from rfl, ih]
        congr 1
        rw [Bool.eq_iff_iff, pd_true, pd_true]; simp
      · have : (x == y) = false := by simpa using hxy
        rw [this]
        show Result.ok false w = _
        rw [pd_false.2 (fun h => hxy (List.cons.inj h).1)]
    · cases hk
section
variable {P : Program} {Γ : Env P} {n : Nat} {w0 : World} {K : List Nat} {ρ : Fr} {L : HL}
theorem PR.neqInts {t ty : Nat} {x y : Operand} {xs ys : List Int} (hm : P.eqGuardType P.depth t = false) (hs : P.stoodInHeld t = false) (ht : P.underlying t = some (.struct (P.fieldsOf t))) (hf : intFieldsB P (P.fieldsOf t).toList 0 = true)
    (hl : xs.length = (P.fieldsOf t).toList.length ∧ ys.length = (P.fieldsOf t).toList.length) (hx : ev n ρ x = .agg ⟨xs.map (Value.int .i64)⟩) (hy : ev n ρ y = .agg ⟨ys.map (Value.int .i64)⟩) :
    PR Γ n w0 K ρ L (.binOp .neq t x y ty) (.bool (!pd (xs = ys))) := ⟨fun o ho w ow => by
  unfold execOp; rw [ho]
  refine run_value ?_
  rw [hx, hy, bind_run (run_eqGuard_agg w _ t _ _ _ _ hm), run_neq_struct, run_equalIn_struct w 9999 t _ _ ht hs]
  have := eqFields_run (P := P) 9998 w (P.fieldsOf t).toList 0 xs ys [] [] hf hl.1 hl.2 rfl rfl
  simp only [List.nil_append] at this
  rw [this]; rfl⟩
end
end Go.SX
