/- Literals in plain Lean: how they are written and read. -/
import Derived.Test.YtepfnakabafhlaaDoorXPWLs1
import Derived.Shelf.Small.Strs
import Derived.Shelf.Small.Wraps
import Derived.Shelf.Strconv.Itoa4
import Derived.Shelf.Strconv.Itoa2
import Derived.Shelf.LaysM
import Derived.Shelf.LaysC
import Derived.Shelf.Strconv.ErrVarParseInt
import Derived.Shelf.Pu.ErrVarParseUint
import Derived.Shelf.Strings.Prefix
import Derived.Shelf.Strings.Search1
import Derived.Test.YtepfnakabafhlaaDoorProg
set_option linter.unusedSimpArgs false
set_option linter.unusedVariables false
namespace Go.SX
open Go

def isPlain (c : Int) : Prop := 32 ≤ c ∧ c ≤ 126 ∧ c ≠ 34 ∧ c ≠ 92
instance (c : Int) : Decidable (isPlain c) := by unfold isPlain; infer_instance
def dig (n : Int) : Int := if n < 10 then 48 + n else 87 + n
def escL (c : Int) : List Int := if isPlain c then [c] else if c = 34 ∨ c = 92 then [92, c] else [92, 120, dig (c / 16), dig (c % 16)]
def quoteL (xs : List Int) : List Int := 34 :: xs.flatMap escL ++ [34]
theorem quoteL_eq (xs rest : List Int) : quoteL xs ++ rest = 34 :: (xs.flatMap escL ++ 34 :: rest) := by simp [quoteL]
theorem escL_length (c : Int) : 1 ≤ (escL c).length ∧ (escL c).length ≤ 4 := by unfold escL; split <;> (try split) <;> simp
theorem flat_length : ∀ xs : List Int, xs.length ≤ (xs.flatMap escL).length ∧ (xs.flatMap escL).length ≤ 4 * xs.length
  | [] => by simp
  | x :: xs => by have := flat_length xs; have := escL_length x; simp only [List.flatMap_cons, List.length_append, List.length_cons]; omega
theorem quoteL_length (xs : List Int) : xs.length + 2 ≤ (quoteL xs).length ∧ (quoteL xs).length ≤ 4 * xs.length + 2 := by
  have := flat_length xs; simp only [quoteL, List.length_append, List.length_cons, List.cons_append, List.length_nil]; omega
theorem dig_rng {n : Int} (h : 0 ≤ n ∧ n < 16) : (48 ≤ dig n ∧ dig n ≤ 57) ∨ (97 ≤ dig n ∧ dig n ≤ 102) := by unfold dig; split <;> omega
/-- Bytes from 32 to 126 alone. -/
def isA (l : List Int) : Prop := ∀ x ∈ l, 32 ≤ x ∧ x ≤ 126
theorem isA_B {l : List Int} (h : isA l) : isB l := fun x hx => by have := h x hx; omega
theorem isA_app {a b : List Int} (h : isA a) (k : isA b) : isA (a ++ b) := fun x hx => by
  rcases List.mem_append.1 hx with h1 | h1
  · exact h x h1
  · exact k x h1
theorem isA_cons {c : Int} {b : List Int} (h : 32 ≤ c ∧ c ≤ 126) (k : isA b) : isA (c :: b) := fun x hx => by
  rcases List.mem_cons.1 hx with rfl | h1
  · exact h
  · exact k x h1
theorem escL_A {c : Int} (h : 0 ≤ c ∧ c ≤ 255) : isA (escL c) := by
  have d1 := dig_rng (n := c / 16) (by omega)
  have d2 := dig_rng (n := c % 16) (by omega)
  unfold escL
  split
  · rename_i h1; intro x hx; rw [List.mem_singleton.1 hx]; exact ⟨h1.1, h1.2.1⟩
  · split
    · intro x hx; simp at hx; rcases hx with rfl | rfl <;> omega
    · intro x hx; simp at hx; rcases hx with rfl | rfl | rfl | rfl <;> omega
theorem flat_A {xs : List Int} (h : isB xs) : isA (xs.flatMap escL) := fun x hx => by
  obtain ⟨c, hc, hx⟩ := List.mem_flatMap.1 hx
  exact escL_A (h c hc) x hx
theorem quoteL_A {xs : List Int} (h : isB xs) : isA (quoteL xs) := by
  unfold quoteL
  exact isA_app (isA_cons (by omega) (flat_A h)) (isA_cons (by omega) (by intro x hx; cases hx))

/-! ### Read strictly -/
def hexV (c : Int) : Int := if 48 ≤ c ∧ c ≤ 57 then c - 48 else if 97 ≤ c ∧ c ≤ 102 then c - 87 else -1
theorem hexV_dig {n : Int} (h : 0 ≤ n ∧ n < 16) : hexV (dig n) = n := by
  have := dig_rng h
  unfold hexV dig at *
  split <;> (try split) <;> split at this <;> omega
theorem dig_hexV {c : Int} (h : 0 ≤ hexV c) : hexV c < 16 ∧ dig (hexV c) = c := by
  unfold hexV dig at *; split at h <;> (try split at h) <;> split <;> (try split) <;> omega
/-- What an escape stands for. -/
def escOk (a b : Int) : Prop := 0 ≤ hexV a ∧ 0 ≤ hexV b ∧ ¬ isPlain (16 * hexV a + hexV b) ∧ 16 * hexV a + hexV b ≠ 34 ∧ 16 * hexV a + hexV b ≠ 92
instance (a b : Int) : Decidable (escOk a b) := by unfold escOk; infer_instance
/-- The piece at the head: its byte and its length; 0: there is none. -/
def escV : List Int → Int × Nat
  | 92 :: y :: r => if y = 34 ∨ y = 92 then (y, 2) else
    match r with
    | a :: b :: _ => if y = 120 ∧ escOk a b then (16 * hexV a + hexV b, 4) else (0, 0)
    | _ => (0, 0)
  | _ => (0, 0)
/-- The bytes behind the first quote, and what is behind the last; k: how many letters may be looked at. -/
def bodyS : Nat → List Int → Option (List Int × List Int)
  | 0, _ => none
  | _ + 1, [] => none
  | k + 1, c :: r =>
    if c = 34 then some ([], r)
    else if c = 92 then
      if (escV (c :: r)).2 = 0 then none
      else (bodyS k ((c :: r).drop (escV (c :: r)).2)).map fun p => ((escV (c :: r)).1 :: p.1, p.2)
    else if 32 ≤ c ∧ c ≤ 126 then (bodyS k r).map fun p => (c :: p.1, p.2)
    else none
theorem escV_esc {c : Int} (h : 0 ≤ c ∧ c ≤ 255) (hp : ¬ isPlain c) (t : List Int) : escV (escL c ++ t) = (c, (escL c).length) ∧ (escL c ++ t).head? = some 92 := by
  unfold escL
  rw [if_neg hp]
  split
  · rename_i h1
    refine ⟨?_, rfl⟩
    show (if c = 34 ∨ c = 92 then (c, 2) else _) = _
    rw [if_pos h1]; rfl
  · rename_i h1
    refine ⟨?_, rfl⟩
    have e1 := hexV_dig (n := c / 16) (by omega)
    have e2 := hexV_dig (n := c % 16) (by omega)
    have e3 : 16 * (c / 16) + c % 16 = c := by omega
    show escV (92 :: 120 :: dig (c / 16) :: dig (c % 16) :: t) = _
    unfold escV
    simp only []
    have hE : escOk (dig (c / 16)) (dig (c % 16)) := by
      unfold escOk; rw [e1, e2, e3]
      exact ⟨by omega, by omega, hp, fun h => h1 (.inl h), fun h => h1 (.inr h)⟩
    rw [if_neg (by omega), if_pos (by first | exact ⟨rfl, hE⟩ | exact ⟨trivial, hE⟩ | exact hE), e1, e2, e3]; rfl
theorem escV_sound {t : List Int} (h : (escV t).2 ≠ 0) : (0 ≤ (escV t).1 ∧ (escV t).1 ≤ 255) ∧ ¬ isPlain (escV t).1 ∧ t = escL (escV t).1 ++ t.drop (escV t).2 ∧ (escV t).2 ≤ t.length ∧ 2 ≤ (escV t).2 := by
  unfold escV at h ⊢
  split at h
  · rename_i y r
    split at h
    · rename_i h1
      simp only [h1, if_true]
      have hnp : ¬ isPlain y := by unfold isPlain; omega
      refine ⟨by omega, hnp, ?_, by simp, by omega⟩
      unfold escL; rw [if_neg hnp, if_pos h1]; rfl
    · rename_i h1
      simp only [h1, if_false]
      split at h
      · rename_i a b r'
        split at h
        · rename_i h2
          simp only [h2, and_self, if_true]
          obtain ⟨rfl, q1, q2, q3, q4, q5⟩ := h2
          obtain ⟨a1, a2⟩ := dig_hexV q1
          obtain ⟨b1, b2⟩ := dig_hexV q2
          refine ⟨by omega, q3, ?_, by simp, by omega⟩
          unfold escL
          rw [if_neg q3, if_neg (by rintro (h | h); exact q4 h; exact q5 h)]
          rw [show (16 * hexV a + hexV b) / 16 = hexV a by omega, show (16 * hexV a + hexV b) % 16 = hexV b by omega, a2, b2]; rfl
        · exact absurd rfl h
      · exact absurd rfl h
  · exact absurd rfl h
theorem body_full : ∀ (b : List Int) (k : Nat) (rest : List Int), isB b → b.length < k → bodyS k (b.flatMap escL ++ 34 :: rest) = some (b, rest)
  | [], k, rest, _, hk => by
    obtain ⟨k, rfl⟩ : ∃ m, k = m + 1 := ⟨k - 1, by simp at hk; omega⟩
    simp [bodyS]
  | c :: b, k, rest, hB, hk => by
    obtain ⟨k, rfl⟩ : ∃ m, k = m + 1 := ⟨k - 1, by simp at hk; omega⟩
    have hc := hB c (by simp)
    have ih := body_full b k rest (fun x hx => hB x (by simp [hx])) (by simp at hk; omega)
    rw [List.flatMap_cons, List.append_assoc]
    by_cases hp : isPlain c
    · have e : escL c = [c] := by unfold escL; rw [if_pos hp]
      rw [e, List.singleton_append]
      unfold isPlain at hp
      simp only [bodyS]
      rw [if_neg hp.2.2.1, if_neg hp.2.2.2, if_pos ⟨hp.1, hp.2.1⟩, ih]; rfl
    · obtain ⟨e1, e2⟩ := escV_esc hc hp (b.flatMap escL ++ 34 :: rest)
      have hl := escL_length c
      have hdrop : (escL c ++ (b.flatMap escL ++ 34 :: rest)).drop (escL c).length = b.flatMap escL ++ 34 :: rest := List.drop_left
      obtain ⟨r, er⟩ : ∃ r, escL c ++ (b.flatMap escL ++ 34 :: rest) = 92 :: r := by
        cases he : escL c ++ (b.flatMap escL ++ 34 :: rest) with
        | nil => rw [he] at e2; cases e2
        | cons z r => rw [he] at e2; simp at e2; subst e2; exact ⟨r, rfl⟩
      rw [er] at e1 hdrop ⊢
      simp only [bodyS]
      rw [if_neg (by omega), if_pos trivial, e1]
      simp only []
      rw [if_neg (by omega), hdrop, ih]; rfl
theorem body_sound : ∀ (k : Nat) (t b rest : List Int), bodyS k t = some (b, rest) → isB b ∧ t = b.flatMap escL ++ 34 :: rest
  | 0, _, _, _, h => by simp [bodyS] at h
  | k + 1, [], _, _, h => by simp [bodyS] at h
  | k + 1, c :: r, b, rest, h => by
    simp only [bodyS] at h
    split at h
    · rename_i h1
      cases h
      exact ⟨(by intro x hx; cases hx), (by rw [h1]; rfl)⟩
    · split at h
      · rename_i h1 h2
        split at h
        · cases h
        · rename_i h3
          obtain ⟨q, hq, e⟩ := Option.map_eq_some_iff.1 h
          obtain ⟨s1, s2, s3, s4, _⟩ := escV_sound h3
          obtain ⟨i1, i2⟩ := body_sound k _ q.1 q.2 hq
          cases e
          refine ⟨fun x hx => ?_, ?_⟩
          · rcases List.mem_cons.1 hx with rfl | hx
            · exact s1
            · exact i1 x hx
          · rw [List.flatMap_cons, List.append_assoc, ← i2]; exact s3
      · split at h
        · rename_i h1 h2 h3
          obtain ⟨q, hq, e⟩ := Option.map_eq_some_iff.1 h
          obtain ⟨i1, i2⟩ := body_sound k r q.1 q.2 hq
          cases e
          refine ⟨fun x hx => ?_, ?_⟩
          · rcases List.mem_cons.1 hx with rfl | hx
            · omega
            · exact i1 x hx
          · have hp : isPlain c := ⟨h3.1, h3.2, h1, h2⟩
            rw [List.flatMap_cons, List.append_assoc, ← i2]
            unfold escL; rw [if_pos hp]; rfl
        · cases h
theorem body_len {b rest : List Int} : b.length < (b.flatMap escL ++ 34 :: rest).length := by
  have := flat_length b
  rw [List.length_append, List.length_cons]; omega
/-- The literal at the head of a text: its bytes, and what is behind it. -/
def unqS (t : List Int) : Option (List Int × List Int) := match t with | 34 :: r => bodyS (r.length + 1) r | _ => none
theorem unq_iff {t b rest : List Int} : unqS t = some (b, rest) ↔ isB b ∧ t = quoteL b ++ rest := by
  rw [quoteL_eq]
  constructor
  · intro h
    unfold unqS at h
    split at h
    · rename_i r
      obtain ⟨h1, h2⟩ := body_sound _ _ _ _ h
      exact ⟨h1, by rw [h2]⟩
    · cases h
  · rintro ⟨h1, rfl⟩
    show bodyS _ _ = _
    exact body_full b _ rest h1 (Nat.lt_succ_of_lt body_len)
/-! ### Read leniently -/
def valW (c : Int) : Int := if 97 ≤ c then (c - 87) % 256 else (c - 48) % 256
def lenL : Nat → List Int → List Int
  | 0, _ => []
  | _ + 1, [] => []
  | k + 1, c :: r =>
    if c = 34 then []
    else if c = 92 then
      match r with
      | [] => []
      | y :: r' =>
        match r' with
        | a :: b :: r'' => if y = 120 then ((valW a % 16 * 16) % 256 + valW b % 16) % 256 :: lenL k r'' else y :: lenL k r'
        | _ => y :: lenL k r'
    else c :: lenL k r
theorem valW_dig {n : Int} (h : 0 ≤ n ∧ n < 16) : valW (dig n) = n := by
  have := dig_rng h
  unfold valW dig at *; split <;> split at this <;> omega
theorem len_full : ∀ (b : List Int) (k : Nat) (rest : List Int), isB b → b.length < k → lenL k (b.flatMap escL ++ 34 :: rest) = b
  | [], k, rest, _, hk => by
    obtain ⟨k, rfl⟩ : ∃ m, k = m + 1 := ⟨k - 1, by simp at hk; omega⟩
    simp [lenL]
  | c :: b, k, rest, hB, hk => by
    obtain ⟨k, rfl⟩ : ∃ m, k = m + 1 := ⟨k - 1, by simp at hk; omega⟩
    have hc := hB c (by simp)
    have ih := len_full b k rest (fun x hx => hB x (by simp [hx])) (by simp at hk; omega)
    rw [List.flatMap_cons, List.append_assoc]
    obtain ⟨T, hT⟩ : ∃ T, T = b.flatMap escL ++ 34 :: rest := ⟨_, rfl⟩
    have hT2 : T ≠ [] := by rw [hT]; simp
    rw [← hT] at ih ⊢
    unfold escL
    split
    · rename_i hp
      unfold isPlain at hp
      show lenL (k + 1) (c :: T) = _
      simp only [lenL]
      rw [if_neg hp.2.2.1, if_neg hp.2.2.2, ih]
    · split
      · rename_i hp h1
        show lenL (k + 1) (92 :: c :: T) = _
        simp only [lenL]
        rw [if_neg (by omega), if_pos trivial]
        split
        · rw [if_neg (by omega), ih]
        · rw [ih]
      · rename_i hp h1
        have e1 := valW_dig (n := c / 16) (by omega)
        have e2 := valW_dig (n := c % 16) (by omega)
        show lenL (k + 1) (92 :: 120 :: dig (c / 16) :: dig (c % 16) :: T) = _
        simp only [lenL]
        rw [if_neg (by omega), if_pos trivial, if_pos trivial, e1, e2, ih]
        congr 1; omega
/-- The document's reading: leniently, and held if writing gives the text's head again. -/
def refB (t : List Int) : List Int := lenL t.length (t.drop 1)
theorem ref_unq (t : List Int) (hB : isB t) : (∀ b rest, unqS t = some (b, rest) → refB t = b ∧ t = quoteL b ++ rest) ∧ (t.take (quoteL (refB t)).length = quoteL (refB t) → unqS t = some (refB t, t.drop (quoteL (refB t)).length) ∨ ¬ isB (refB t)) := by
  refine ⟨fun b rest h => ?_, fun h => ?_⟩
  · obtain ⟨h1, h2⟩ := unq_iff.1 h
    refine ⟨?_, h2⟩
    unfold refB
    rw [h2, quoteL_eq]
    exact len_full b _ rest h1 (by rw [List.length_cons]; exact Nat.lt_succ_of_lt body_len)
  · by_cases hb : isB (refB t)
    · left
      refine unq_iff.2 ⟨hb, ?_⟩
      conv => lhs; rw [← List.take_append_drop (quoteL (refB t)).length t, h]
    · exact .inr hb
theorem len_isB : ∀ (k : Nat) (t : List Int), isB t → isB (lenL k t)
  | 0, _, _ => by intro x hx; cases hx
  | k + 1, [], _ => by intro x hx; cases hx
  | k + 1, c :: r, h => by
    have hr : isB r := fun x hx => h x (by simp [hx])
    simp only [lenL]
    split
    · intro x hx; cases hx
    · split
      · split
        · intro x hx; cases hx
        · rename_i y r'
          have hr' : isB r' := fun x hx => hr x (by simp [hx])
          split
          · rename_i a b r''
            have hr'' : isB r'' := fun x hx => hr' x (by simp [hx])
            split
            · intro x hx
              rcases List.mem_cons.1 hx with rfl | hx
              · omega
              · exact len_isB k r'' hr'' x hx
            · intro x hx
              rcases List.mem_cons.1 hx with rfl | hx
              · exact hr x (by simp)
              · exact len_isB k _ hr' x hx
          · intro x hx
            rcases List.mem_cons.1 hx with rfl | hx
            · exact hr x (by simp)
            · exact len_isB k _ hr' x hx
      · intro x hx
        rcases List.mem_cons.1 hx with rfl | hx
        · exact h x (by simp)
        · exact len_isB k r hr x hx
theorem refB_isB {t : List Int} (h : isB t) : isB (refB t) := len_isB _ _ fun x hx => h x (List.drop_subset _ _ hx)
theorem ref_iff {t : List Int} (hB : isB t) : (t.take (quoteL (refB t)).length = quoteL (refB t) → unqS t = some (refB t, t.drop (quoteL (refB t)).length)) ∧ (¬ t.take (quoteL (refB t)).length = quoteL (refB t) → unqS t = none) := by
  obtain ⟨h1, h2⟩ := ref_unq t hB
  refine ⟨fun h => (h2 h).resolve_right fun h3 => h3 (refB_isB hB), fun h => ?_⟩
  cases e : unqS t with
  | none => rfl
  | some p =>
    obtain ⟨b, rest⟩ := p
    obtain ⟨h3, h4⟩ := h1 b rest e
    refine absurd ?_ h
    rw [h3]; rw [h4]; exact List.take_left
end Go.SX
/- The library's functions of the shelf, laid at this program (written by the kit's lay-plain.mjs, cut to what is used by cutshelf.py). -/
namespace Go.Proofs
open Go.Shelf
def Tryd.lays137_ren : Go.Shelf.Ren := ⟨fun | 137 => 45 | 217 => 56 | 266 => 64 | n => n, fun | 9 => 9 | 5 => 5 | 3 => 3 | n => n, fun | n => n⟩
theorem Tryd.lays137 : Go.Proofs.Lays.n137 Tryd.prog Tryd.lays137_ren := {
  mixed := by kernel_rfl
  f137 := Tryd.func45.trans (congrArg some (by kernel_rfl))
  f217 := Tryd.func56.trans (congrArg some (by kernel_rfl))
  f266 := Tryd.func64.trans (congrArg some (by kernel_rfl))
  t3 := Tryd.underlying3
  a3 := Tryd.isAgg3
  z3 := Tryd.sizeOf3
  v3 := Tryd.zeroValue3
  t5 := Tryd.underlying5
  a5 := Tryd.isAgg5
  z5 := Tryd.sizeOf5
  v5 := Tryd.zeroValue5
  t9 := Tryd.underlying9
  a9 := Tryd.isAgg9
  z9 := Tryd.sizeOf9
  v9 := Tryd.zeroValue9 }
open Go.RowKit in
/-- strings.IndexByte: "IndexByte returns the index of the first instance of c in s, or -1 if c is not present in s.": IT RETURNS 'Lib.indexByte s c'; the world is as it was. (LAID: no walk: one application.) -/
theorem Tryd.strings_IndexByte (s : ByteArray) (c : Int) (w : World) :
    Calls Tryd.prog 45 #[.string s, .int .u8 c] w fun e w' => e = .returned (.int .i64 (Lib.indexByte s.data.toList c.toNat.toUInt8)) ∧ w' = w := Any.strings_IndexByte Tryd.lays137 s c w
def Tryd.lays103_ren : Go.Shelf.Ren := ⟨fun | 103 => 55 | 210 => 63 | 206 => 76 | n => n, fun | 9 => 9 | 4 => 4 | 24 => 90 | 3 => 3 | n => n, fun | n => n⟩
theorem Tryd.lays103 : Go.Proofs.Lays.n103 Tryd.prog Tryd.lays103_ren := {
  mixed := by kernel_rfl
  f103 := Tryd.func55.trans (congrArg some (by kernel_rfl))
  f206 := Tryd.func76.trans (congrArg some (by kernel_rfl))
  f210 := Tryd.func63.trans (congrArg some (by kernel_rfl))
  t3 := Tryd.underlying3
  a3 := Tryd.isAgg3
  z3 := Tryd.sizeOf3
  v3 := Tryd.zeroValue3
  t4 := Tryd.underlying4
  a4 := Tryd.isAgg4
  z4 := Tryd.sizeOf4
  v4 := Tryd.zeroValue4
  t9 := Tryd.underlying9
  a9 := Tryd.isAgg9
  z9 := Tryd.sizeOf9
  v9 := Tryd.zeroValue9
  t24 := Tryd.underlying90
  a24 := Tryd.isAgg90
  z24 := Tryd.sizeOf90
  v24 := Tryd.zeroValue90 }
open Go.RowKit in
/-- strings.CutPrefix: "CutPrefix returns s without the provided leading prefix string and reports whether it found the prefix. If s doesn't start with prefix, CutPrefix returns s, false. If prefix is the empty string, CutPrefix returns s, true.": IT RETURNS '(Lib.trimPrefix s p, Lib.hasPrefix s p)'; the world is as it was. (LAID: no walk: one application.) -/
theorem Tryd.strings_CutPrefix (s p : ByteArray) (w : World) :
    Calls Tryd.prog 55 #[.string s, .string p] w fun e w' => e = .returned (.tuple #[.string ⟨(Lib.trimPrefix s.data.toList p.data.toList).toArray⟩, .bool (Lib.hasPrefix s.data.toList p.data.toList)]) ∧ w' = w := Any.strings_CutPrefix Tryd.lays103 s p w
def Tryd.lays283_ren : Go.Shelf.Ren := ⟨fun | 283 => 72 | n => n, fun | 3 => 3 | 9 => 9 | 4 => 4 | n => n, fun | n => n⟩
theorem Tryd.lays283 : Go.Proofs.Lays.n283 Tryd.prog Tryd.lays283_ren := {
  mixed := by kernel_rfl
  f283 := Tryd.func72.trans (congrArg some (by kernel_rfl))
  t3 := Tryd.underlying3
  a3 := Tryd.isAgg3
  z3 := Tryd.sizeOf3
  v3 := Tryd.zeroValue3
  t4 := Tryd.underlying4
  a4 := Tryd.isAgg4
  z4 := Tryd.sizeOf4
  v4 := Tryd.zeroValue4
  t9 := Tryd.underlying9
  a9 := Tryd.isAgg9
  z9 := Tryd.sizeOf9
  v9 := Tryd.zeroValue9 }
open Go.Lib in
/-- internal/strconv.small: "small returns the string for an i with 0 <= i < nSmalls.": i's decimal numeral. The world is as it was. (LAID: no walk: one application.) -/
theorem Tryd.internal_strconv_small (i : Nat) (h : i < 100) (w : World) :
    Calls Tryd.prog 72 #[.int .i64 i] w fun e w' => e = .returned (.string ⟨(Lib.decDigits i).toArray⟩) ∧ w' = w := Any.internal_strconv_small Tryd.lays283 i h w
def Tryd.laysM284_ren : Go.Shelf.Ren := ⟨fun | 284 => 73 | 129 => 82 | 317 => 81 | 318 => 83 | n => n, fun | 53 => 30 | 3 => 3 | 212 => 112 | 0 => 0 | 4 => 4 | 46 => 80 | 5 => 5 | 9 => 9 | n => n, fun | 17 => 4 | n => n⟩
theorem Tryd.laysM284 : Go.Proofs.LaysM.n284 Tryd.prog Tryd.laysM284_ren := {
  mixed := by kernel_rfl
  f129 := Tryd.func82.trans (congrArg some (by kernel_rfl))
  f284 := Tryd.func73.trans (congrArg some (by kernel_rfl))
  f317 := Tryd.func81.trans (congrArg some (by kernel_rfl))
  f318 := Tryd.func83.trans (congrArg some (by kernel_rfl))
  t0 := Tryd.underlying0
  a0 := Tryd.isAgg0
  z0 := Tryd.sizeOf0
  v0 := Tryd.zeroValue0
  t3 := Tryd.underlying3
  a3 := Tryd.isAgg3
  z3 := Tryd.sizeOf3
  v3 := Tryd.zeroValue3
  t4 := Tryd.underlying4
  a4 := Tryd.isAgg4
  z4 := Tryd.sizeOf4
  v4 := Tryd.zeroValue4
  t5 := Tryd.underlying5
  a5 := Tryd.isAgg5
  z5 := Tryd.sizeOf5
  v5 := Tryd.zeroValue5
  t9 := Tryd.underlying9
  a9 := Tryd.isAgg9
  z9 := Tryd.sizeOf9
  v9 := Tryd.zeroValue9
  t46 := Tryd.underlying80
  a46 := Tryd.isAgg80
  z46 := Tryd.sizeOf80
  v46 := Tryd.zeroValue80
  t53 := Tryd.underlying30
  a53 := Tryd.isAgg30
  z53 := Tryd.sizeOf30
  v53 := Tryd.zeroValue30
  t212 := Tryd.underlying112
  a212 := Tryd.isAgg112
  z212 := Tryd.sizeOf112
  v212 := Tryd.zeroValue112
  g17 := by kernel_rfl
  i0 := by kernel_rfl
  i3 := by kernel_rfl
  i4 := by kernel_rfl
  i5 := by kernel_rfl
  i9 := by kernel_rfl
  i46 := by kernel_rfl
  i53 := by kernel_rfl
  i212 := by kernel_rfl
  m17 := by kernel_rfl }
open Go.Lib in
/-- internal/strconv.numDigits, at a d that is not 0: THE NUMBER OF d's DECIMAL DIGITS. The world is as it was. (LAID: no walk: one application.) -/
theorem Tryd.internal_strconv_numDigits (u : Nat) (h1 : 1 ≤ u) (h2 : u < 18446744073709551616) (w : World) (htab : Lib.TabIs Tryd.prog w "internal/strconv.uint64pow10" .u64 Lib.pow10Tab) :
    Calls Tryd.prog 73 #[.int .u64 u] w fun e w' => e = .returned (.int .i64 (Lib.nDigits u)) ∧ w' = w := Any.internal_strconv_numDigits Tryd.laysM284 u h1 h2 w htab
def Tryd.lays285_ren : Go.Shelf.Ren := ⟨fun | 285 => 74 | n => n, fun | 37 => 23 | 53 => 30 | 3 => 3 | 4 => 4 | 51 => 113 | 9 => 9 | 5 => 5 | 0 => 0 | n => n, fun | n => n⟩
theorem Tryd.lays285 : Go.Proofs.Lays.n285 Tryd.prog Tryd.lays285_ren := {
  mixed := by kernel_rfl
  f285 := Tryd.func74.trans (congrArg some (by kernel_rfl))
  t0 := Tryd.underlying0
  a0 := Tryd.isAgg0
  z0 := Tryd.sizeOf0
  v0 := Tryd.zeroValue0
  t3 := Tryd.underlying3
  a3 := Tryd.isAgg3
  z3 := Tryd.sizeOf3
  v3 := Tryd.zeroValue3
  t4 := Tryd.underlying4
  a4 := Tryd.isAgg4
  z4 := Tryd.sizeOf4
  v4 := Tryd.zeroValue4
  t5 := Tryd.underlying5
  a5 := Tryd.isAgg5
  z5 := Tryd.sizeOf5
  v5 := Tryd.zeroValue5
  t9 := Tryd.underlying9
  a9 := Tryd.isAgg9
  z9 := Tryd.sizeOf9
  v9 := Tryd.zeroValue9
  t37 := Tryd.underlying23
  a37 := Tryd.isAgg23
  z37 := Tryd.sizeOf23
  v37 := Tryd.zeroValue23
  t51 := Tryd.underlying113
  a51 := Tryd.isAgg113
  z51 := Tryd.sizeOf113
  v51 := Tryd.zeroValue113
  t53 := Tryd.underlying30
  a53 := Tryd.isAgg30
  z53 := Tryd.sizeOf30
  v53 := Tryd.zeroValue30 }
open Go.RowKit Go.Sort Go.Lib in
/-- internal/strconv.formatBase10: "formatBase10 formats the decimal representation of u into a. The caller is responsible for ensuring that a is big enough to hold u. If a is too big, leading zeros will be filled in as needed.": THE ROW HOLDS u's DIGITS ('FmtInv .. 0 ..': every place t holds 'dg u (len - 1 - t)'); all else is as it was but for the count of draws. (LAID: no walk: one application.) -/
theorem Tryd.internal_strconv_formatBase10 (blk off cap : Nat) (u : Nat) (d : Array UInt8) (w : World) (hH : Holds (fun (b : UInt8) => Value.int .u8 (b.toNat : Int)) w blk off d) (hu : u < 10 ^ d.size) (hu64 : u < 18446744073709551616) (hsz : d.size < 4611686018427387904) :
    Calls Tryd.prog 74 #[.slice (some ⟨blk, off, none⟩) d.size cap, .int .u64 u] w fun e w' =>
      e = .returned (.tuple #[]) ∧ ∃ (n v' : Nat) (dk : Array UInt8), w' = (putRow (fun (b : UInt8) => Value.int .u8 (b.toNat : Int)) w blk off dk).drewN n ∧ FmtInv d.size u 0 v' dk := Any.internal_strconv_formatBase10 Tryd.lays285 blk off cap u d w hH hu hu64 hsz
def Tryd.laysM171_ren : Go.Shelf.Ren := ⟨fun | 171 => 38 | 243 => 54 | 246 => 62 | 283 => 72 | 284 => 73 | 285 => 74 | 286 => 75 | 129 => 82 | 317 => 81 | 318 => 83 | 319 => 84 | 320 => 85 | 337 => 86 | 338 => 87 | n => n, fun | 3 => 3 | 9 => 9 | 2 => 2 | 4 => 4 | 171 => 100 | 0 => 0 | 53 => 30 | 37 => 23 | 5 => 5 | 173 => 103 | 212 => 112 | 51 => 113 | 20 => 20 | 213 => 114 | 46 => 80 | 232 => 122 | 233 => 123 | n => n, fun | 17 => 4 | 18 => 5 | 19 => 6 | n => n⟩
theorem Tryd.laysM171 : Go.Proofs.LaysM.n171 Tryd.prog Tryd.laysM171_ren := {
  mixed := by kernel_rfl
  f129 := Tryd.func82.trans (congrArg some (by kernel_rfl))
  f171 := Tryd.func38.trans (congrArg some (by kernel_rfl))
  f243 := Tryd.func54.trans (congrArg some (by kernel_rfl))
  f246 := Tryd.func62.trans (congrArg some (by kernel_rfl))
  f283 := Tryd.func72.trans (congrArg some (by kernel_rfl))
  f284 := Tryd.func73.trans (congrArg some (by kernel_rfl))
  f285 := Tryd.func74.trans (congrArg some (by kernel_rfl))
  f286 := Tryd.func75.trans (congrArg some (by kernel_rfl))
  f317 := Tryd.func81.trans (congrArg some (by kernel_rfl))
  f318 := Tryd.func83.trans (congrArg some (by kernel_rfl))
  f319 := Tryd.func84.trans (congrArg some (by kernel_rfl))
  f320 := Tryd.func85.trans (congrArg some (by kernel_rfl))
  f337 := Tryd.func86.trans (congrArg some (by kernel_rfl))
  f338 := Tryd.func87.trans (congrArg some (by kernel_rfl))
  t0 := Tryd.underlying0
  a0 := Tryd.isAgg0
  z0 := Tryd.sizeOf0
  v0 := Tryd.zeroValue0
  t2 := Tryd.underlying2
  a2 := Tryd.isAgg2
  z2 := Tryd.sizeOf2
  v2 := Tryd.zeroValue2
  t3 := Tryd.underlying3
  a3 := Tryd.isAgg3
  z3 := Tryd.sizeOf3
  v3 := Tryd.zeroValue3
  t4 := Tryd.underlying4
  a4 := Tryd.isAgg4
  z4 := Tryd.sizeOf4
  v4 := Tryd.zeroValue4
  t5 := Tryd.underlying5
  a5 := Tryd.isAgg5
  z5 := Tryd.sizeOf5
  v5 := Tryd.zeroValue5
  t9 := Tryd.underlying9
  a9 := Tryd.isAgg9
  z9 := Tryd.sizeOf9
  v9 := Tryd.zeroValue9
  t20 := Tryd.underlying20
  a20 := Tryd.isAgg20
  z20 := Tryd.sizeOf20
  v20 := Tryd.zeroValue20
  t37 := Tryd.underlying23
  a37 := Tryd.isAgg23
  z37 := Tryd.sizeOf23
  v37 := Tryd.zeroValue23
  t46 := Tryd.underlying80
  a46 := Tryd.isAgg80
  z46 := Tryd.sizeOf80
  v46 := Tryd.zeroValue80
  t51 := Tryd.underlying113
  a51 := Tryd.isAgg113
  z51 := Tryd.sizeOf113
  v51 := Tryd.zeroValue113
  t53 := Tryd.underlying30
  a53 := Tryd.isAgg30
  z53 := Tryd.sizeOf30
  v53 := Tryd.zeroValue30
  t171 := Tryd.underlying100
  a171 := Tryd.isAgg100
  z171 := Tryd.sizeOf100
  v171 := Tryd.zeroValue100
  t173 := Tryd.underlying103
  a173 := Tryd.isAgg103
  z173 := Tryd.sizeOf103
  v173 := Tryd.zeroValue103
  t212 := Tryd.underlying112
  a212 := Tryd.isAgg112
  z212 := Tryd.sizeOf112
  v212 := Tryd.zeroValue112
  t213 := Tryd.underlying114
  a213 := Tryd.isAgg114
  z213 := Tryd.sizeOf114
  t232 := Tryd.underlying122
  a232 := Tryd.isAgg122
  z232 := Tryd.sizeOf122
  v232 := Tryd.zeroValue122
  t233 := Tryd.underlying123
  a233 := Tryd.isAgg123
  z233 := Tryd.sizeOf123
  v233 := Tryd.zeroValue123
  g17 := by kernel_rfl
  g18 := by kernel_rfl
  g19 := by kernel_rfl
  i0 := by kernel_rfl
  i2 := by kernel_rfl
  i3 := by kernel_rfl
  i4 := by kernel_rfl
  i5 := by kernel_rfl
  i9 := by kernel_rfl
  i20 := by kernel_rfl
  i37 := by kernel_rfl
  i46 := by kernel_rfl
  i51 := by kernel_rfl
  i53 := by kernel_rfl
  i171 := by kernel_rfl
  i173 := by kernel_rfl
  i212 := by kernel_rfl
  i232 := by kernel_rfl
  i233 := by kernel_rfl
  m17 := by kernel_rfl
  m18 := by kernel_rfl
  m19 := by kernel_rfl }
open Go.RowKit Go.Sort Go.Lib in
/-- strconv.Itoa: "Itoa is equivalent to FormatInt(int64(i), 10).": i's DECIMAL NUMERAL ('Lib.itoa': a '-' where i is negative, then the digits), FOR EVERY int. The world behind the call: the world before it, new blocks behind the heap (the library's 'var a [24]byte'), draws. (LAID: no walk: one application.) -/
theorem Tryd.strconv_Itoa (n : Int) (h0 : -9223372036854775808 ≤ n) (h1 : n ≤ 9223372036854775807) (w : World) (htab : Lib.TabIs Tryd.prog w "internal/strconv.uint64pow10" .u64 Lib.pow10Tab) :
    Calls Tryd.prog 38 #[.int .i64 n] w fun e w' => e = .returned (.string ⟨(Lib.itoa n).toArray⟩) ∧ ∃ k os, w' = grow (w.drewN k) os := Any.strconv_Itoa Tryd.laysM171 n h0 h1 w htab
def Tryd.laysM173_ren : Go.Shelf.Ren := ⟨fun | 173 => 53 | 246 => 62 | 283 => 72 | 284 => 73 | 285 => 74 | 286 => 75 | 129 => 82 | 317 => 81 | 318 => 83 | 319 => 84 | 320 => 85 | 337 => 86 | 338 => 87 | n => n, fun | 2 => 2 | 3 => 3 | 9 => 9 | 4 => 4 | 171 => 100 | 0 => 0 | 53 => 30 | 37 => 23 | 5 => 5 | 173 => 103 | 212 => 112 | 51 => 113 | 20 => 20 | 213 => 114 | 46 => 80 | 232 => 122 | 233 => 123 | n => n, fun | 17 => 4 | 18 => 5 | 19 => 6 | n => n⟩
theorem Tryd.laysM173 : Go.Proofs.LaysM.n173 Tryd.prog Tryd.laysM173_ren := {
  mixed := by kernel_rfl
  f129 := Tryd.func82.trans (congrArg some (by kernel_rfl))
  f173 := Tryd.func53.trans (congrArg some (by kernel_rfl))
  f246 := Tryd.func62.trans (congrArg some (by kernel_rfl))
  f283 := Tryd.func72.trans (congrArg some (by kernel_rfl))
  f284 := Tryd.func73.trans (congrArg some (by kernel_rfl))
  f285 := Tryd.func74.trans (congrArg some (by kernel_rfl))
  f286 := Tryd.func75.trans (congrArg some (by kernel_rfl))
  f317 := Tryd.func81.trans (congrArg some (by kernel_rfl))
  f318 := Tryd.func83.trans (congrArg some (by kernel_rfl))
  f319 := Tryd.func84.trans (congrArg some (by kernel_rfl))
  f320 := Tryd.func85.trans (congrArg some (by kernel_rfl))
  f337 := Tryd.func86.trans (congrArg some (by kernel_rfl))
  f338 := Tryd.func87.trans (congrArg some (by kernel_rfl))
  t0 := Tryd.underlying0
  a0 := Tryd.isAgg0
  z0 := Tryd.sizeOf0
  v0 := Tryd.zeroValue0
  t2 := Tryd.underlying2
  a2 := Tryd.isAgg2
  z2 := Tryd.sizeOf2
  v2 := Tryd.zeroValue2
  t3 := Tryd.underlying3
  a3 := Tryd.isAgg3
  z3 := Tryd.sizeOf3
  v3 := Tryd.zeroValue3
  t4 := Tryd.underlying4
  a4 := Tryd.isAgg4
  z4 := Tryd.sizeOf4
  v4 := Tryd.zeroValue4
  t5 := Tryd.underlying5
  a5 := Tryd.isAgg5
  z5 := Tryd.sizeOf5
  v5 := Tryd.zeroValue5
  t9 := Tryd.underlying9
  a9 := Tryd.isAgg9
  z9 := Tryd.sizeOf9
  v9 := Tryd.zeroValue9
  t20 := Tryd.underlying20
  a20 := Tryd.isAgg20
  z20 := Tryd.sizeOf20
  v20 := Tryd.zeroValue20
  t37 := Tryd.underlying23
  a37 := Tryd.isAgg23
  z37 := Tryd.sizeOf23
  v37 := Tryd.zeroValue23
  t46 := Tryd.underlying80
  a46 := Tryd.isAgg80
  z46 := Tryd.sizeOf80
  v46 := Tryd.zeroValue80
  t51 := Tryd.underlying113
  a51 := Tryd.isAgg113
  z51 := Tryd.sizeOf113
  v51 := Tryd.zeroValue113
  t53 := Tryd.underlying30
  a53 := Tryd.isAgg30
  z53 := Tryd.sizeOf30
  v53 := Tryd.zeroValue30
  t171 := Tryd.underlying100
  a171 := Tryd.isAgg100
  z171 := Tryd.sizeOf100
  v171 := Tryd.zeroValue100
  t173 := Tryd.underlying103
  a173 := Tryd.isAgg103
  z173 := Tryd.sizeOf103
  v173 := Tryd.zeroValue103
  t212 := Tryd.underlying112
  a212 := Tryd.isAgg112
  z212 := Tryd.sizeOf112
  v212 := Tryd.zeroValue112
  t213 := Tryd.underlying114
  a213 := Tryd.isAgg114
  z213 := Tryd.sizeOf114
  t232 := Tryd.underlying122
  a232 := Tryd.isAgg122
  z232 := Tryd.sizeOf122
  v232 := Tryd.zeroValue122
  t233 := Tryd.underlying123
  a233 := Tryd.isAgg123
  z233 := Tryd.sizeOf123
  v233 := Tryd.zeroValue123
  g17 := by kernel_rfl
  g18 := by kernel_rfl
  g19 := by kernel_rfl
  i0 := by kernel_rfl
  i2 := by kernel_rfl
  i3 := by kernel_rfl
  i4 := by kernel_rfl
  i5 := by kernel_rfl
  i9 := by kernel_rfl
  i20 := by kernel_rfl
  i37 := by kernel_rfl
  i46 := by kernel_rfl
  i51 := by kernel_rfl
  i53 := by kernel_rfl
  i171 := by kernel_rfl
  i173 := by kernel_rfl
  i212 := by kernel_rfl
  i232 := by kernel_rfl
  i233 := by kernel_rfl
  m17 := by kernel_rfl
  m18 := by kernel_rfl
  m19 := by kernel_rfl }
open Go.RowKit Go.Sort Go.Lib in
/-- strconv.FormatInt: "FormatInt returns the string representation of i in the given base": AT BASE 10: i's decimal numeral, for every int64. (LAID: no walk: one application.) -/
theorem Tryd.strconv_FormatInt_10 (n : Int) (h0 : -9223372036854775808 ≤ n) (h1 : n ≤ 9223372036854775807) (w : World) (htab : Lib.TabIs Tryd.prog w "internal/strconv.uint64pow10" .u64 Lib.pow10Tab) :
    Calls Tryd.prog 53 #[.int .i64 n, .int .i64 10] w fun e w' => e = .returned (.string ⟨(Lib.itoa n).toArray⟩) ∧ ∃ k os, w' = grow (w.drewN k) os := Any.strconv_FormatInt_10 Tryd.laysM173 n h0 h1 w htab
def Tryd.laysC174_ren : Go.Shelf.Ren := ⟨fun | 174 => 52 | 247 => 60 | 245 => 61 | 287 => 67 | 279 => 68 | 280 => 69 | 281 => 70 | 282 => 71 | 321 => 77 | 322 => 78 | 316 => 79 | 171 => 38 | 205 => 80 | 243 => 54 | 246 => 62 | 283 => 72 | 284 => 73 | 285 => 74 | 286 => 75 | 129 => 82 | 317 => 81 | 318 => 83 | 319 => 84 | 320 => 85 | 337 => 86 | 338 => 87 | n => n, fun | 9 => 9 | 3 => 3 | 2 => 2 | 75 => 86 | 85 => 87 | 4 => 4 | 167 => 96 | 5 => 5 | 53 => 30 | 175 => 94 | 46 => 80 | 168 => 97 | 37 => 23 | 0 => 0 | 210 => 108 | 21 => 21 | 127 => 117 | 145 => 120 | 143 => 118 | 171 => 100 | 173 => 103 | 212 => 112 | 51 => 113 | 20 => 20 | 213 => 114 | 232 => 122 | 233 => 123 | 80 => 60 | n => n, fun | 15 => 2 | 16 => 3 | 17 => 4 | 18 => 5 | 19 => 6 | n => n⟩
theorem Tryd.laysC174 : Go.Proofs.LaysC.n174 Tryd.prog Tryd.laysC174_ren := {
  mixed := by kernel_rfl
  f129 := Tryd.func82.trans (congrArg some (by kernel_rfl))
  f171 := Tryd.func38.trans (congrArg some (by kernel_rfl))
  f174 := Tryd.func52.trans (congrArg some (by kernel_rfl))
  f205 := Tryd.func80.trans (congrArg some (by kernel_rfl))
  f243 := Tryd.func54.trans (congrArg some (by kernel_rfl))
  f245 := Tryd.func61.trans (congrArg some (by kernel_rfl))
  f246 := Tryd.func62.trans (congrArg some (by kernel_rfl))
  f247 := Tryd.func60.trans (congrArg some (by kernel_rfl))
  f279 := Tryd.func68.trans (congrArg some (by kernel_rfl))
  f280 := Tryd.func69.trans (congrArg some (by kernel_rfl))
  f281 := Tryd.func70.trans (congrArg some (by kernel_rfl))
  f282 := Tryd.func71.trans (congrArg some (by kernel_rfl))
  f283 := Tryd.func72.trans (congrArg some (by kernel_rfl))
  f284 := Tryd.func73.trans (congrArg some (by kernel_rfl))
  f285 := Tryd.func74.trans (congrArg some (by kernel_rfl))
  f286 := Tryd.func75.trans (congrArg some (by kernel_rfl))
  f287 := Tryd.func67.trans (congrArg some (by kernel_rfl))
  f316 := Tryd.func79.trans (congrArg some (by kernel_rfl))
  f317 := Tryd.func81.trans (congrArg some (by kernel_rfl))
  f318 := Tryd.func83.trans (congrArg some (by kernel_rfl))
  f319 := Tryd.func84.trans (congrArg some (by kernel_rfl))
  f320 := Tryd.func85.trans (congrArg some (by kernel_rfl))
  f321 := Tryd.func77.trans (congrArg some (by kernel_rfl))
  f322 := Tryd.func78.trans (congrArg some (by kernel_rfl))
  f337 := Tryd.func86.trans (congrArg some (by kernel_rfl))
  f338 := Tryd.func87.trans (congrArg some (by kernel_rfl))
  t0 := Tryd.underlying0
  a0 := Tryd.isAgg0
  z0 := Tryd.sizeOf0
  v0 := Tryd.zeroValue0
  t2 := Tryd.underlying2
  a2 := Tryd.isAgg2
  z2 := Tryd.sizeOf2
  v2 := Tryd.zeroValue2
  t3 := Tryd.underlying3
  a3 := Tryd.isAgg3
  z3 := Tryd.sizeOf3
  v3 := Tryd.zeroValue3
  t4 := Tryd.underlying4
  a4 := Tryd.isAgg4
  z4 := Tryd.sizeOf4
  v4 := Tryd.zeroValue4
  t5 := Tryd.underlying5
  a5 := Tryd.isAgg5
  z5 := Tryd.sizeOf5
  v5 := Tryd.zeroValue5
  t9 := Tryd.underlying9
  a9 := Tryd.isAgg9
  z9 := Tryd.sizeOf9
  v9 := Tryd.zeroValue9
  t20 := Tryd.underlying20
  a20 := Tryd.isAgg20
  z20 := Tryd.sizeOf20
  v20 := Tryd.zeroValue20
  t21 := Tryd.underlying21
  a21 := Tryd.isAgg21
  z21 := Tryd.sizeOf21
  v21 := Tryd.zeroValue21
  t37 := Tryd.underlying23
  a37 := Tryd.isAgg23
  z37 := Tryd.sizeOf23
  v37 := Tryd.zeroValue23
  t46 := Tryd.underlying80
  a46 := Tryd.isAgg80
  z46 := Tryd.sizeOf80
  v46 := Tryd.zeroValue80
  t51 := Tryd.underlying113
  a51 := Tryd.isAgg113
  z51 := Tryd.sizeOf113
  v51 := Tryd.zeroValue113
  t53 := Tryd.underlying30
  a53 := Tryd.isAgg30
  z53 := Tryd.sizeOf30
  v53 := Tryd.zeroValue30
  t75 := Tryd.underlying86
  a75 := Tryd.isAgg86
  z75 := Tryd.sizeOf86
  v75 := Tryd.zeroValue86
  t85 := Tryd.underlying87
  a85 := Tryd.isAgg87
  z85 := Tryd.sizeOf87
  v85 := Tryd.zeroValue87
  t127 := Tryd.underlying117
  a127 := Tryd.isAgg117
  z127 := Tryd.sizeOf117
  v127 := Tryd.zeroValue117
  t143 := Tryd.underlying118
  a143 := Tryd.isAgg118
  z143 := Tryd.sizeOf118
  v143 := Tryd.zeroValue118
  t145 := Tryd.underlying120
  a145 := Tryd.isAgg120
  z145 := Tryd.sizeOf120
  v145 := Tryd.zeroValue120
  t167 := Tryd.underlying96
  a167 := Tryd.isAgg96
  z167 := Tryd.sizeOf96
  v167 := Tryd.zeroValue96
  t168 := Tryd.underlying97
  a168 := Tryd.isAgg97
  z168 := Tryd.sizeOf97
  v168 := Tryd.zeroValue97
  t171 := Tryd.underlying100
  a171 := Tryd.isAgg100
  z171 := Tryd.sizeOf100
  v171 := Tryd.zeroValue100
  t173 := Tryd.underlying103
  a173 := Tryd.isAgg103
  z173 := Tryd.sizeOf103
  v173 := Tryd.zeroValue103
  t175 := Tryd.underlying94
  a175 := Tryd.isAgg94
  z175 := Tryd.sizeOf94
  v175 := Tryd.zeroValue94
  t210 := Tryd.underlying108
  a210 := Tryd.isAgg108
  z210 := Tryd.sizeOf108
  v210 := Tryd.zeroValue108
  t212 := Tryd.underlying112
  a212 := Tryd.isAgg112
  z212 := Tryd.sizeOf112
  v212 := Tryd.zeroValue112
  t213 := Tryd.underlying114
  a213 := Tryd.isAgg114
  z213 := Tryd.sizeOf114
  t232 := Tryd.underlying122
  a232 := Tryd.isAgg122
  z232 := Tryd.sizeOf122
  v232 := Tryd.zeroValue122
  t233 := Tryd.underlying123
  a233 := Tryd.isAgg123
  z233 := Tryd.sizeOf123
  v233 := Tryd.zeroValue123
  g15 := by kernel_rfl
  g16 := by kernel_rfl
  g17 := by kernel_rfl
  g18 := by kernel_rfl
  g19 := by kernel_rfl
  t80 := Tryd.underlying60
  a80 := Tryd.isAgg60
  z80 := Tryd.sizeOf60
  v80 := Tryd.zeroValue60
  i0 := by kernel_rfl
  i2 := by kernel_rfl
  i3 := by kernel_rfl
  i4 := by kernel_rfl
  i5 := by kernel_rfl
  i9 := by kernel_rfl
  i20 := by kernel_rfl
  i21 := by kernel_rfl
  i37 := by kernel_rfl
  i46 := by kernel_rfl
  i51 := by kernel_rfl
  i53 := by kernel_rfl
  i75 := by kernel_rfl
  i80 := by kernel_rfl
  i85 := by kernel_rfl
  i127 := by kernel_rfl
  i143 := by kernel_rfl
  i145 := by kernel_rfl
  i167 := by kernel_rfl
  i168 := by kernel_rfl
  i171 := by kernel_rfl
  i173 := by kernel_rfl
  i175 := by kernel_rfl
  i210 := by kernel_rfl
  i212 := by kernel_rfl
  i232 := by kernel_rfl
  i233 := by kernel_rfl
  m15 := by kernel_rfl
  m16 := by kernel_rfl
  m17 := by kernel_rfl
  m18 := by kernel_rfl
  m19 := by kernel_rfl
  c0 := by kernel_rfl
  c2 := by kernel_rfl
  c3 := by kernel_rfl
  c4 := by kernel_rfl
  c5 := by kernel_rfl
  c9 := by kernel_rfl
  c20 := by kernel_rfl
  c21 := by kernel_rfl
  c37 := by kernel_rfl
  c46 := by kernel_rfl
  c51 := by kernel_rfl
  c53 := by kernel_rfl
  c75 := by kernel_rfl
  c80 := by kernel_rfl
  c85 := by kernel_rfl
  c127 := by kernel_rfl
  c143 := by kernel_rfl
  c145 := by kernel_rfl
  c167 := by kernel_rfl
  c168 := by kernel_rfl
  c171 := by kernel_rfl
  c173 := by kernel_rfl
  c175 := by kernel_rfl
  c210 := by kernel_rfl
  c212 := by kernel_rfl
  c213 := by kernel_rfl
  c232 := by kernel_rfl
  c233 := by kernel_rfl }
open Go.RowKit in
/-- strconv.ParseInt(s, 10, 64), AT EVERY STRING THAT SPELLS AN int64 ('Lib.parseIntB 64 s.data.toList = .ok v'): v, AND NO ERROR. (LAID: no walk: one application.) -/
theorem Tryd.strconv_ParseInt_10_at64_ok (s : ByteArray) (hmax : s.size ≤ 9223372036854775806) (v : Int) (h : Lib.parseIntB 64 s.data.toList = .ok v) (w : World) :
    Calls Tryd.prog 52 #[.string s, .int .i64 10, .int .i64 64] w fun e w' => e = .returned (.tuple #[.int .i64 v, .nilIface]) ∧ (w' = w ∨ ∃ t, w' = Lib.bytesWorld w 5 t) := Any.strconv_ParseInt_10_at64_ok Tryd.laysC174 s hmax v h w
open Go.RowKit in
theorem Tryd.strconv_ParseInt_10_at64_syntax_var (s : ByteArray) (hlim : s.size ≤ 281474976710656) (h : Lib.parseIntB 64 s.data.toList = .«syntax») (tp : TypeId) (p : Value) (w : World) (hvar : w.var? Tryd.prog "strconv.ErrSyntax" = some #[.iface tp p]) :
    Calls Tryd.prog 52 #[.string s, .int .i64 10, .int .i64 64] w fun e w' => ∃ N, e = .returned (.tuple #[.int .i64 (0), .iface 97 (.pointer (some ⟨N, 0, none⟩))]) ∧ w.heap.size ≤ N ∧ w'.heap[N]? = some (.cells #[.string ⟨#[80, 97, 114, 115, 101, 73, 110, 116]⟩, .string s, .iface tp p] 108 (0, 0)) ∧ Below w.heap.size w w' := Any.strconv_ParseInt_10_at64_syntax_var Tryd.laysC174 s hlim h tp p w hvar
open Go.RowKit in
theorem Tryd.strconv_ParseInt_10_at64_range_var (s : ByteArray) (hlim : s.size ≤ 281474976710656) (h : Lib.parseIntB 64 s.data.toList = .range) (tp : TypeId) (p : Value) (w : World) (hvar : w.var? Tryd.prog "strconv.ErrRange" = some #[.iface tp p]) :
    Calls Tryd.prog 52 #[.string s, .int .i64 10, .int .i64 64] w fun e w' => ∃ N, e = .returned (.tuple #[.int .i64 (Lib.intSat 64 s.data.toList), .iface 97 (.pointer (some ⟨N, 0, none⟩))]) ∧ w.heap.size ≤ N ∧ w'.heap[N]? = some (.cells #[.string ⟨#[80, 97, 114, 115, 101, 73, 110, 116]⟩, .string s, .iface tp p] 108 (0, 0)) ∧ Below w.heap.size w w' := Any.strconv_ParseInt_10_at64_range_var Tryd.laysC174 s hlim h tp p w hvar
def Tryd.laysPu14_ren : Go.Shelf.Ren := ⟨fun | 14 => 65 | 16 => 67 | 17 => 61 | 19 => 77 | 20 => 78 | 21 => 68 | 22 => 69 | 23 => 70 | 24 => 71 | 25 => 79 | 27 => 38 | 26 => 80 | 28 => 54 | 29 => 62 | 30 => 72 | 31 => 73 | 32 => 74 | 33 => 75 | 35 => 82 | 34 => 81 | 36 => 83 | 37 => 84 | 38 => 85 | 39 => 86 | 40 => 87 | n => n, fun | 9 => 9 | 3 => 3 | 22 => 30 | 24 => 86 | 25 => 94 | 4 => 4 | 34 => 96 | 5 => 5 | 36 => 80 | 37 => 23 | 0 => 0 | 39 => 97 | 21 => 21 | 44 => 108 | 47 => 117 | 50 => 120 | 48 => 118 | 2 => 2 | 52 => 100 | 55 => 103 | 59 => 112 | 60 => 113 | 20 => 20 | 61 => 114 | 65 => 122 | 66 => 123 | 67 => 60 | n => n, fun | 0 => 2 | 1 => 3 | 2 => 4 | 3 => 5 | 4 => 6 | n => n⟩
theorem Tryd.laysPu14 : Go.Proofs.LaysPu.n14 Tryd.prog Tryd.laysPu14_ren := {
  mixed := by kernel_rfl
  f14 := Tryd.func65.trans (congrArg some (by kernel_rfl))
  f16 := Tryd.func67.trans (congrArg some (by kernel_rfl))
  f17 := Tryd.func61.trans (congrArg some (by kernel_rfl))
  f19 := Tryd.func77.trans (congrArg some (by kernel_rfl))
  f20 := Tryd.func78.trans (congrArg some (by kernel_rfl))
  f21 := Tryd.func68.trans (congrArg some (by kernel_rfl))
  f22 := Tryd.func69.trans (congrArg some (by kernel_rfl))
  f23 := Tryd.func70.trans (congrArg some (by kernel_rfl))
  f24 := Tryd.func71.trans (congrArg some (by kernel_rfl))
  f25 := Tryd.func79.trans (congrArg some (by kernel_rfl))
  f26 := Tryd.func80.trans (congrArg some (by kernel_rfl))
  f27 := Tryd.func38.trans (congrArg some (by kernel_rfl))
  f28 := Tryd.func54.trans (congrArg some (by kernel_rfl))
  f29 := Tryd.func62.trans (congrArg some (by kernel_rfl))
  f30 := Tryd.func72.trans (congrArg some (by kernel_rfl))
  f31 := Tryd.func73.trans (congrArg some (by kernel_rfl))
  f32 := Tryd.func74.trans (congrArg some (by kernel_rfl))
  f33 := Tryd.func75.trans (congrArg some (by kernel_rfl))
  f34 := Tryd.func81.trans (congrArg some (by kernel_rfl))
  f35 := Tryd.func82.trans (congrArg some (by kernel_rfl))
  f36 := Tryd.func83.trans (congrArg some (by kernel_rfl))
  f37 := Tryd.func84.trans (congrArg some (by kernel_rfl))
  f38 := Tryd.func85.trans (congrArg some (by kernel_rfl))
  f39 := Tryd.func86.trans (congrArg some (by kernel_rfl))
  f40 := Tryd.func87.trans (congrArg some (by kernel_rfl))
  t0 := Tryd.underlying0
  a0 := Tryd.isAgg0
  z0 := Tryd.sizeOf0
  v0 := Tryd.zeroValue0
  i0 := by kernel_rfl
  t2 := Tryd.underlying2
  a2 := Tryd.isAgg2
  z2 := Tryd.sizeOf2
  v2 := Tryd.zeroValue2
  i2 := by kernel_rfl
  t3 := Tryd.underlying3
  a3 := Tryd.isAgg3
  z3 := Tryd.sizeOf3
  v3 := Tryd.zeroValue3
  i3 := by kernel_rfl
  t4 := Tryd.underlying4
  a4 := Tryd.isAgg4
  z4 := Tryd.sizeOf4
  v4 := Tryd.zeroValue4
  i4 := by kernel_rfl
  t5 := Tryd.underlying5
  a5 := Tryd.isAgg5
  z5 := Tryd.sizeOf5
  v5 := Tryd.zeroValue5
  i5 := by kernel_rfl
  t9 := Tryd.underlying9
  a9 := Tryd.isAgg9
  z9 := Tryd.sizeOf9
  v9 := Tryd.zeroValue9
  i9 := by kernel_rfl
  t20 := Tryd.underlying20
  a20 := Tryd.isAgg20
  z20 := Tryd.sizeOf20
  v20 := Tryd.zeroValue20
  i20 := by kernel_rfl
  t21 := Tryd.underlying21
  a21 := Tryd.isAgg21
  z21 := Tryd.sizeOf21
  v21 := Tryd.zeroValue21
  i21 := by kernel_rfl
  t22 := Tryd.underlying30
  a22 := Tryd.isAgg30
  z22 := Tryd.sizeOf30
  v22 := Tryd.zeroValue30
  i22 := by kernel_rfl
  t24 := Tryd.underlying86
  a24 := Tryd.isAgg86
  z24 := Tryd.sizeOf86
  v24 := Tryd.zeroValue86
  i24 := by kernel_rfl
  t25 := Tryd.underlying94
  a25 := Tryd.isAgg94
  z25 := Tryd.sizeOf94
  v25 := Tryd.zeroValue94
  i25 := by kernel_rfl
  t34 := Tryd.underlying96
  a34 := Tryd.isAgg96
  z34 := Tryd.sizeOf96
  v34 := Tryd.zeroValue96
  i34 := by kernel_rfl
  c34 := by kernel_rfl
  t36 := Tryd.underlying80
  a36 := Tryd.isAgg80
  z36 := Tryd.sizeOf80
  v36 := Tryd.zeroValue80
  i36 := by kernel_rfl
  t37 := Tryd.underlying23
  a37 := Tryd.isAgg23
  z37 := Tryd.sizeOf23
  v37 := Tryd.zeroValue23
  i37 := by kernel_rfl
  t39 := Tryd.underlying97
  a39 := Tryd.isAgg97
  z39 := Tryd.sizeOf97
  v39 := Tryd.zeroValue97
  i39 := by kernel_rfl
  t44 := Tryd.underlying108
  a44 := Tryd.isAgg108
  z44 := Tryd.sizeOf108
  v44 := Tryd.zeroValue108
  i44 := by kernel_rfl
  t47 := Tryd.underlying117
  a47 := Tryd.isAgg117
  z47 := Tryd.sizeOf117
  v47 := Tryd.zeroValue117
  i47 := by kernel_rfl
  t48 := Tryd.underlying118
  a48 := Tryd.isAgg118
  z48 := Tryd.sizeOf118
  v48 := Tryd.zeroValue118
  i48 := by kernel_rfl
  t50 := Tryd.underlying120
  a50 := Tryd.isAgg120
  z50 := Tryd.sizeOf120
  v50 := Tryd.zeroValue120
  i50 := by kernel_rfl
  t52 := Tryd.underlying100
  a52 := Tryd.isAgg100
  z52 := Tryd.sizeOf100
  v52 := Tryd.zeroValue100
  i52 := by kernel_rfl
  t55 := Tryd.underlying103
  a55 := Tryd.isAgg103
  z55 := Tryd.sizeOf103
  v55 := Tryd.zeroValue103
  i55 := by kernel_rfl
  t59 := Tryd.underlying112
  a59 := Tryd.isAgg112
  z59 := Tryd.sizeOf112
  v59 := Tryd.zeroValue112
  i59 := by kernel_rfl
  t60 := Tryd.underlying113
  a60 := Tryd.isAgg113
  z60 := Tryd.sizeOf113
  v60 := Tryd.zeroValue113
  i60 := by kernel_rfl
  t61 := Tryd.underlying114
  a61 := Tryd.isAgg114
  z61 := Tryd.sizeOf114
  t65 := Tryd.underlying122
  a65 := Tryd.isAgg122
  z65 := Tryd.sizeOf122
  v65 := Tryd.zeroValue122
  i65 := by kernel_rfl
  t66 := Tryd.underlying123
  a66 := Tryd.isAgg123
  z66 := Tryd.sizeOf123
  v66 := Tryd.zeroValue123
  i66 := by kernel_rfl
  t67 := Tryd.underlying60
  a67 := Tryd.isAgg60
  z67 := Tryd.sizeOf60
  v67 := Tryd.zeroValue60
  i67 := by kernel_rfl
  g0 := by kernel_rfl
  m0 := by kernel_rfl
  g1 := by kernel_rfl
  m1 := by kernel_rfl
  g2 := by kernel_rfl
  m2 := by kernel_rfl
  g3 := by kernel_rfl
  m3 := by kernel_rfl
  g4 := by kernel_rfl
  m4 := by kernel_rfl }
open Go.RowKit in
/-- strconv.ParseUint(s, 10, 64), AT EVERY STRING THAT SPELLS A uint64 ('Lib.parseUintB 64 s.data.toList = .ok u'): u, AND NO ERROR. (LAID: no walk: one application.) -/
theorem Tryd.strconv_ParseUint_10_at64_ok (s : ByteArray) (hmax : s.size ≤ 9223372036854775806) (u : Nat) (h : Lib.parseUintB 64 s.data.toList = .ok u) (w : World) :
    Calls Tryd.prog 65 #[.string s, .int .i64 10, .int .i64 64] w fun e w' => e = .returned (.tuple #[.int .u64 u, .nilIface]) ∧ (w' = w ∨ w' = Lib.bytesWorld w 5 s) := Any.strconv_ParseUint_10_at64_ok Tryd.laysPu14 s hmax u h w
open Go.RowKit in
theorem Tryd.strconv_ParseUint_10_at64_syntax_var (s : ByteArray) (hlim : s.size ≤ 281474976710656) (h : Lib.parseUintB 64 s.data.toList = .«syntax») (tp : TypeId) (p : Value) (w : World) (hvar : w.var? Tryd.prog "strconv.ErrSyntax" = some #[.iface tp p]) :
    Calls Tryd.prog 65 #[.string s, .int .i64 10, .int .i64 64] w fun e w' => ∃ N, e = .returned (.tuple #[.int .u64 0, .iface 97 (.pointer (some ⟨N, 0, none⟩))]) ∧ w.heap.size ≤ N ∧ w'.heap[N]? = some (.cells #[.string ⟨#[80, 97, 114, 115, 101, 85, 105, 110, 116]⟩, .string s, .iface tp p] 108 (0, 0)) ∧ Below w.heap.size w w' := Any.strconv_ParseUint_10_at64_syntax_var Tryd.laysPu14 s hlim h tp p w hvar
open Go.RowKit in
theorem Tryd.strconv_ParseUint_10_at64_range_var (s : ByteArray) (hlim : s.size ≤ 281474976710656) (h : Lib.parseUintB 64 s.data.toList = .range) (tp : TypeId) (p : Value) (w : World) (hvar : w.var? Tryd.prog "strconv.ErrRange" = some #[.iface tp p]) :
    Calls Tryd.prog 65 #[.string s, .int .i64 10, .int .i64 64] w fun e w' => ∃ N, e = .returned (.tuple #[.int .u64 18446744073709551615, .iface 97 (.pointer (some ⟨N, 0, none⟩))]) ∧ w.heap.size ≤ N ∧ w'.heap[N]? = some (.cells #[.string ⟨#[80, 97, 114, 115, 101, 85, 105, 110, 116]⟩, .string s, .iface tp p] 108 (0, 0)) ∧ Below w.heap.size w w' := Any.strconv_ParseUint_10_at64_range_var Tryd.laysPu14 s hlim h tp p w hvar
end Go.Proofs
/- Lines in plain Lean: how they are written, and how they are read strictly. -/
namespace Go.SX
open Go

structure Ln where
  Word : List Int
  Id : Int
  Text : List Int
  Numbers : List Int
  Seed : Int
  Guide : List Int
  Stops : List (List Int)
def Ln.none : Ln := ⟨[], 0, [], [], 0, [], []⟩
def wAsk : List Int := [97, 115, 107]
def wCancel : List Int := [99, 97, 110, 99, 101, 108]
def wOk : List Int := [111, 107]
def wError : List Int := [101, 114, 114, 111, 114]
def wText : List Int := [116, 101, 120, 116]
def wEnd : List Int := [101, 110, 100]
/-- How many numbers a word has; -1: it is no word. -/
def numsW (w : List Int) : Int := if w = wAsk then 6 else if w = wError ∨ w = wEnd then 1 else if w = wCancel ∨ w = wOk ∨ w = wText then 0 else -1
structure Ln.ok (l : Ln) : Prop where
  word : isB l.Word
  id : inK .i64 l.Id
  text : isB l.Text
  nums : ∀ n ∈ l.Numbers, inK .i64 n
  seed : 0 ≤ l.Seed ∧ l.Seed ≤ 18446744073709551615
  guide : isB l.Guide
  stops : ∀ s ∈ l.Stops, isB s
structure Ln.may (l : Ln) : Prop where
  word : 0 ≤ numsW l.Word
  nums : (l.Numbers.length : Int) = numsW l.Word
  id : 0 ≤ l.Id ∧ l.Id ≤ 2147483647
  ask : l.Word ≠ wAsk → l.Seed = 0 ∧ l.Guide = [] ∧ l.Stops = []
  text : l.Word ≠ wAsk → l.Word ≠ wText → l.Text = []
def numT (ns : List Int) : List Int := ns.flatMap fun n => 32 :: intL n
def litT (ls : List (List Int)) : List Int := ls.flatMap fun s => 32 :: quoteL s
def tailT (l : Ln) : List Int := (if l.Word = wAsk then (32 :: decL l.Seed.toNat) ++ (32 :: quoteL l.Guide) else []) ++ ((if l.Word = wAsk ∨ l.Word = wText then 32 :: quoteL l.Text else []) ++ litT l.Stops)
def lineT (l : Ln) : List Int := l.Word ++ ((32 :: intL l.Id) ++ (numT l.Numbers ++ tailT l))
open Classical in
noncomputable def printS (l : Ln) : Option (List Int) := if l.may then (if (lineT l).length ≤ 8192 then some (lineT l) else none) else none
theorem print_iff {l : Ln} {t : List Int} : printS l = some t ↔ l.may ∧ lineT l = t ∧ t.length ≤ 8192 := by
  unfold printS
  split
  · rename_i h
    split
    · rename_i h2
      constructor
      · intro h3; cases h3; exact ⟨h, rfl, h2⟩
      · rintro ⟨_, h3, _⟩; rw [h3]
    · rename_i h2
      constructor
      · intro h3; cases h3
      · rintro ⟨_, h3, h4⟩; rw [h3] at h2; exact absurd h4 h2
  · rename_i h
    constructor
    · intro h3; cases h3
    · rintro ⟨h3, _⟩; exact absurd h3 h
theorem words_of {w : List Int} (h : 0 ≤ numsW w) : w = wAsk ∨ w = wError ∨ w = wEnd ∨ w = wCancel ∨ w = wOk ∨ w = wText := by
  unfold numsW at h
  split at h
  · exact .inl (by assumption)
  · split at h
    · rename_i h1; rcases h1 with h1 | h1 <;> simp [h1]
    · split at h
      · rename_i h1; rcases h1 with h1 | h1 | h1 <;> simp [h1]
      · omega
theorem word_char {w : List Int} (h : 0 ≤ numsW w) : ∀ c ∈ w, 97 ≤ c ∧ c ≤ 122 := by
  rcases words_of h with rfl | rfl | rfl | rfl | rfl | rfl <;> decide

/-! ### Read strictly -/
structure RT where
  rest : List Int
  ok : Bool
def Sep (t : List Int) : Prop := t = [] ∨ t.head? = some 32
def blankS (r : RT) : RT := if r.rest.head? = some 32 then ⟨r.rest.drop 1, r.ok⟩ else ⟨r.rest, false⟩
def headW (t : List Int) : List Int := t.takeWhile (fun c => decide (c ≠ 32))
def wordS (r : RT) : List Int × RT := (headW (blankS r).rest, ⟨(blankS r).rest.drop (headW (blankS r).rest).length, (blankS r).ok⟩)
def numS (r : RT) : Int × RT := ((pInt (wordS r).1).1, ⟨(wordS r).2.rest, (wordS r).2.ok && (pInt (wordS r).1).2 && decide (intL (pInt (wordS r).1).1 = (wordS r).1)⟩)
def seedS (r : RT) : Int × RT := ((pUint (wordS r).1).1, ⟨(wordS r).2.rest, (wordS r).2.ok && (pUint (wordS r).1).2 && decide (decL (pUint (wordS r).1).1.toNat = (wordS r).1)⟩)
def litS (r : RT) : List Int × RT := match unqS (blankS r).rest with | some p => (p.1, ⟨p.2, (blankS r).ok⟩) | none => ([], ⟨(blankS r).rest, false⟩)
def itR {α : Type} (f : RT → α × RT) : Nat → RT → List α × RT
  | 0, r => ([], r)
  | n + 1, r => ((itR f n r).1 ++ [(f (itR f n r).2).1], (f (itR f n r).2).2)
theorem itR_len {α : Type} (f : RT → α × RT) (r : RT) : ∀ n, (itR f n r).1.length = n
  | 0 => rfl
  | n + 1 => by simp [itR, itR_len f r n]
def stopsS : Nat → RT → List (List Int) × RT
  | 0, r => ([], r)
  | k + 1, r => if r.ok = true ∧ r.rest ≠ [] then ((litS r).1 :: (stopsS k (litS r).2).1, (stopsS k (litS r).2).2) else ([], r)
/-- What is read behind the numbers. -/
def bodyR (w : List Int) (r : RT) : (Int × List Int × List Int × List (List Int)) × RT :=
  if w = wAsk then
    let a := seedS r
    let g := litS a.2
    let x := litS g.2
    let s := stopsS (x.2.rest.length + 1) x.2
    ((a.1, g.1, x.1, s.1), s.2)
  else if w = wText then ((0, [], (litS r).1, []), (litS r).2)
  else ((0, [], [], []), r)
open Classical in
noncomputable def parseS (t : List Int) : Option Ln :=
  if 8192 < t.length then none else
  let w := wordS ⟨32 :: t, true⟩
  if numsW w.1 < 0 then none else
  let i := numS w.2
  let n := itR numS (numsW w.1).toNat i.2
  let b := bodyR w.1 n.2
  if b.2.ok = false ∨ b.2.rest ≠ [] ∨ i.1 < 0 ∨ 2147483647 < i.1 then none
  else some ⟨w.1, i.1, b.1.2.2.1, n.1, b.1.1, b.1.2.1, b.1.2.2.2⟩

theorem blank_sound {r : RT} (h : (blankS r).ok = true) : r.ok = true ∧ r.rest = 32 :: (blankS r).rest := by
  unfold blankS at h ⊢
  split at h
  · rename_i h1
    rw [if_pos h1]
    refine ⟨h, ?_⟩
    cases e : r.rest with
    | nil => rw [e] at h1; cases h1
    | cons c t => rw [e] at h1; simp at h1; subst h1; rfl
  · cases h
theorem headW_app (t : List Int) : t = headW t ++ t.drop (headW t).length := by
  induction t with
  | nil => rfl
  | cons c t ih =>
    unfold headW at ih ⊢
    rw [List.takeWhile_cons]
    split
    · rw [List.cons_append, List.length_cons, List.drop_succ_cons, ← ih]
    · rfl
theorem headW_no (t : List Int) : ∀ c ∈ headW t, c ≠ 32 := by
  induction t with
  | nil => intro c hc; cases hc
  | cons x t ih =>
    intro c hc
    unfold headW at ih hc
    rw [List.takeWhile_cons] at hc
    split at hc
    · rename_i h
      rcases List.mem_cons.1 hc with rfl | hc
      · simpa using h
      · exact ih c hc
    · cases hc
theorem headW_full {w s : List Int} (h : ∀ c ∈ w, c ≠ 32) (hs : Sep s) : headW (w ++ s) = w := by
  induction w with
  | nil =>
    rcases hs with rfl | hs
    · rfl
    · cases s with
      | nil => rfl
      | cons c t => simp at hs; subst hs; rfl
  | cons c w ih =>
    have hc := h c (by simp)
    unfold headW at ih ⊢
    rw [List.cons_append, List.takeWhile_cons, if_pos (by simpa using hc), ih fun x hx => h x (by simp [hx])]
theorem word_sound {r : RT} (h : (wordS r).2.ok = true) : r.ok = true ∧ r.rest = (32 :: (wordS r).1) ++ (wordS r).2.rest := by
  obtain ⟨h1, h2⟩ := blank_sound (r := r) h
  refine ⟨h1, ?_⟩
  rw [h2]
  show _ = 32 :: (headW _ ++ List.drop _ _)
  rw [← headW_app]
theorem blank_full (t : List Int) (b : Bool) : blankS ⟨32 :: t, b⟩ = ⟨t, b⟩ := rfl
theorem word_full {w s : List Int} (h : ∀ c ∈ w, c ≠ 32) (hs : Sep s) : wordS ⟨(32 :: w) ++ s, true⟩ = (w, ⟨s, true⟩) := by
  unfold wordS
  rw [List.cons_append, blank_full]
  simp only []
  rw [headW_full h hs, List.drop_left]
theorem num_sound {r : RT} (h : (numS r).2.ok = true) : r.ok = true ∧ r.rest = (32 :: intL (numS r).1) ++ (numS r).2.rest := by
  have h' : ((wordS r).2.ok && (pInt (wordS r).1).2 && decide (intL (pInt (wordS r).1).1 = (wordS r).1)) = true := h
  simp only [Bool.and_eq_true, decide_eq_true_eq] at h'
  obtain ⟨⟨h1, _⟩, h2⟩ := h'
  obtain ⟨h3, h4⟩ := word_sound h1
  refine ⟨h3, ?_⟩
  show r.rest = (32 :: intL (pInt (wordS r).1).1) ++ (wordS r).2.rest
  rw [h2]; exact h4
theorem num_full {n : Int} {s : List Int} (h : inK .i64 n) (hs : Sep s) : numS ⟨(32 :: intL n) ++ s, true⟩ = (n, ⟨s, true⟩) := by
  have hw := word_full (w := intL n) (s := s) (fun c hc => by have := intL_char n c hc; omega) hs
  unfold numS
  rw [hw]; simp only []
  rw [pInt_int n h]; simp
theorem seed_sound {r : RT} (h : (seedS r).2.ok = true) : r.ok = true ∧ r.rest = (32 :: decL (seedS r).1.toNat) ++ (seedS r).2.rest := by
  have h' : ((wordS r).2.ok && (pUint (wordS r).1).2 && decide (decL (pUint (wordS r).1).1.toNat = (wordS r).1)) = true := h
  simp only [Bool.and_eq_true, decide_eq_true_eq] at h'
  obtain ⟨⟨h1, _⟩, h2⟩ := h'
  obtain ⟨h3, h4⟩ := word_sound h1
  refine ⟨h3, ?_⟩
  show r.rest = (32 :: decL (pUint (wordS r).1).1.toNat) ++ (wordS r).2.rest
  rw [h2]; exact h4
theorem seed_full {u : Int} {s : List Int} (h : 0 ≤ u ∧ u ≤ 18446744073709551615) (hs : Sep s) : seedS ⟨(32 :: decL u.toNat) ++ s, true⟩ = (u, ⟨s, true⟩) := by
  have hw := word_full (w := decL u.toNat) (s := s) (fun c hc => by have := decL_digit _ c hc; omega) hs
  unfold seedS
  rw [hw]; simp only []
  rw [pUint_dec _ (by omega), show ((u.toNat : Nat) : Int) = u by omega]; simp
theorem lit_sound {r : RT} (h : (litS r).2.ok = true) : r.ok = true ∧ isB (litS r).1 ∧ r.rest = (32 :: quoteL (litS r).1) ++ (litS r).2.rest := by
  unfold litS at h ⊢
  cases e : unqS (blankS r).rest with
  | none => rw [e] at h; cases h
  | some p =>
    obtain ⟨b, s⟩ := p
    rw [e] at h
    simp only [] at h ⊢
    obtain ⟨h1, h2⟩ := blank_sound h
    obtain ⟨h3, h4⟩ := unq_iff.1 e
    refine ⟨h1, h3, ?_⟩
    rw [h2, h4]; rfl
theorem lit_full {b s : List Int} (h : isB b) : litS ⟨(32 :: quoteL b) ++ s, true⟩ = (b, ⟨s, true⟩) := by
  have e : unqS (quoteL b ++ s) = some (b, s) := unq_iff.2 ⟨h, rfl⟩
  unfold litS
  rw [List.cons_append, blank_full]
  simp only []
  rw [e]
theorem sep_cons (t : List Int) : Sep (32 :: t) := .inr rfl
theorem sep_num (ns s : List Int) (hs : Sep s) : Sep (numT ns ++ s) := by
  cases ns with
  | nil => exact hs
  | cons n ns => exact .inr rfl
theorem sep_lit (ls : List (List Int)) : Sep (litT ls) := by
  cases ls with
  | nil => exact .inl rfl
  | cons n ns => exact .inr rfl
theorem it_sound {r : RT} : ∀ n, (itR numS n r).2.ok = true → r.ok = true ∧ r.rest = numT (itR numS n r).1 ++ (itR numS n r).2.rest
  | 0, h => ⟨h, rfl⟩
  | n + 1, h => by
    obtain ⟨h1, h2⟩ := num_sound (r := (itR numS n r).2) h
    obtain ⟨h3, h4⟩ := it_sound n h1
    refine ⟨h3, ?_⟩
    rw [h4, h2]
    show _ = numT ((itR numS n r).1 ++ [(numS (itR numS n r).2).1]) ++ (numS (itR numS n r).2).2.rest
    unfold numT
    rw [List.flatMap_append, List.append_assoc]; simp
theorem it_full (s : List Int) (hs : Sep s) (ns : List Int) (h : ∀ n ∈ ns, inK .i64 n) : itR numS ns.length ⟨numT ns ++ s, true⟩ = (ns, ⟨s, true⟩) := by
  suffices hk : ∀ k, k ≤ ns.length → itR numS k ⟨numT ns ++ s, true⟩ = (ns.take k, ⟨numT (ns.drop k) ++ s, true⟩) by
    have := hk ns.length (Nat.le_refl _)
    rw [List.take_length, List.drop_length] at this; exact this
  intro k
  induction k with
  | zero => intro _; rfl
  | succ k ih =>
    intro hk
    have e : ns.drop k = ns[k] :: ns.drop (k + 1) := List.drop_eq_getElem_cons (by omega)
    have hn := num_full (n := ns[k]) (s := numT (ns.drop (k + 1)) ++ s) (h _ (List.getElem_mem _)) (sep_num _ _ hs)
    have e2 : numT (ns.drop k) ++ s = (32 :: intL ns[k]) ++ (numT (ns.drop (k + 1)) ++ s) := by rw [e]; unfold numT; rw [List.flatMap_cons, List.append_assoc]
    show ((itR numS k _).1 ++ [(numS (itR numS k _).2).1], (numS (itR numS k _).2).2) = _
    rw [ih (by omega)]
    simp only []
    rw [e2, hn, List.take_add_one, List.getElem?_eq_getElem (by omega)]; rfl
theorem stops_no (k : Nat) (r : RT) (h : ¬ (r.ok = true ∧ r.rest ≠ [])) : stopsS k r = ([], r) := by
  cases k with
  | zero => rfl
  | succ k => simp only [stopsS]; rw [if_neg h]
theorem stops_sound : ∀ (k : Nat) (r : RT), r.rest.length < k → (stopsS k r).2.ok = true → (stopsS k r).2.rest = [] → r.ok = true ∧ (∀ s ∈ (stopsS k r).1, isB s) ∧ r.rest = litT (stopsS k r).1
  | 0, r, hk, _, _ => by omega
  | k + 1, r, hk, h, h2 => by
    simp only [stopsS] at h h2 ⊢
    split at h
    · rename_i h3
      rw [if_pos h3] at h2 ⊢
      cases e : (litS r).2.ok with
      | false =>
        have := stops_no k (litS r).2 (by rw [e]; simp)
        rw [this] at h; rw [e] at h; cases h
      | true =>
        obtain ⟨g1, g2, g3⟩ := lit_sound e
        have hl : (litS r).2.rest.length < k := by
          have := congrArg List.length g3
          rw [List.length_append, List.length_cons] at this; omega
        obtain ⟨i1, i2, i3⟩ := stops_sound k _ hl h h2
        refine ⟨g1, fun s hs => ?_, ?_⟩
        · rcases List.mem_cons.1 hs with rfl | hs
          · exact g2
          · exact i2 s hs
        · rw [g3]
          conv => lhs; rw [i3]
          simp [litT]
    · rename_i h3
      rw [if_neg h3] at h2 ⊢
      exact ⟨h, (fun s hs => by cases hs), h2⟩
theorem stops_full : ∀ (ls : List (List Int)) (k : Nat), (∀ s ∈ ls, isB s) → ls.length < k → stopsS k ⟨litT ls, true⟩ = (ls, ⟨[], true⟩)
  | [], k, _, _ => stops_no k _ (by simp [litT])
  | b :: ls, k, h, hk => by
    obtain ⟨k, rfl⟩ : ∃ m, k = m + 1 := ⟨k - 1, by omega⟩
    have hl := lit_full (b := b) (s := litT ls) (h b (by simp))
    have ih := stops_full ls k (fun s hs => h s (by simp [hs])) (by simp at hk; omega)
    have e : litT (b :: ls) = (32 :: quoteL b) ++ litT ls := by simp [litT]
    simp only [stopsS]
    rw [e, hl, if_pos (by simp), ih]
theorem litT_len : ∀ ls : List (List Int), ls.length ≤ (litT ls).length
  | [] => by simp
  | b :: ls => by
    have := litT_len ls
    have e : litT (b :: ls) = (32 :: quoteL b) ++ litT ls := by simp [litT]
    rw [e, List.length_append, List.length_cons, List.length_cons]; omega
def Ln.body (l : Ln) : Int × List Int × List Int × List (List Int) := (l.Seed, l.Guide, l.Text, l.Stops)
theorem body_full' {l : Ln} (h : l.ok) (hm : l.may) : bodyR l.Word ⟨tailT l, true⟩ = (l.body, ⟨[], true⟩) := by
  unfold bodyR tailT Ln.body
  by_cases h1 : l.Word = wAsk
  · rw [if_pos h1, if_pos h1, if_pos (.inl h1), List.append_assoc]
    simp only []
    rw [seed_full h.seed (by rw [List.cons_append]; exact sep_cons _)]
    simp only []
    rw [lit_full h.guide]
    simp only []
    rw [lit_full h.text]
    simp only []
    rw [stops_full l.Stops _ h.stops (Nat.lt_succ_of_le (litT_len _))]
  · obtain ⟨e1, e2, e3⟩ := hm.ask h1
    rw [if_neg h1, if_neg h1, e1, e2, e3]
    by_cases h2 : l.Word = wText
    · rw [if_pos h2, if_pos (.inr h2)]
      have := lit_full (b := l.Text) (s := litT []) h.text
      rw [List.nil_append, this]; rfl
    · rw [if_neg h2, if_neg (by rintro (h | h); exact h1 h; exact h2 h), hm.text h1 h2]; rfl
theorem sep_tail (l : Ln) : Sep (tailT l) := by
  unfold tailT
  split
  · exact .inr rfl
  · split
    · exact .inr rfl
    · exact sep_lit _
theorem parse_full {l : Ln} {t : List Int} (h : l.ok) (hp : printS l = some t) : parseS t = some l := by
  obtain ⟨hm, rfl, hlen⟩ := print_iff.1 hp
  have hn := hm.word
  have hw := word_full (w := l.Word) (s := (32 :: intL l.Id) ++ (numT l.Numbers ++ tailT l)) (fun c hc => by have := word_char hn c hc; omega) (sep_cons _)
  have hi := num_full (s := numT l.Numbers ++ tailT l) h.id (sep_num _ _ (sep_tail l))
  have hN := it_full (tailT l) (sep_tail l) l.Numbers h.nums
  rw [show l.Numbers.length = (numsW l.Word).toNat by have := hm.nums; omega] at hN
  have hb := body_full' h hm
  unfold parseS
  rw [if_neg (by omega)]
  simp only []
  rw [show (32 :: lineT l) = (32 :: l.Word) ++ ((32 :: intL l.Id) ++ (numT l.Numbers ++ tailT l)) from rfl, hw]
  simp only []
  rw [if_neg (by omega), hi]
  simp only []
  rw [hN]
  simp only []
  rw [hb, if_neg (by have := hm.id; simp only []; rintro (h | h | h | h); cases h; exact h rfl; omega; omega)]
  rfl
theorem body_sound' {w : List Int} {r : RT} (h : (bodyR w r).2.ok = true) (h2 : (bodyR w r).2.rest = []) : r.ok = true ∧
    (0 ≤ (bodyR w r).1.1 ∧ (bodyR w r).1.1 ≤ 18446744073709551615) ∧ isB (bodyR w r).1.2.1 ∧ isB (bodyR w r).1.2.2.1 ∧ (∀ s ∈ (bodyR w r).1.2.2.2, isB s) ∧
    (w ≠ wAsk → (bodyR w r).1.1 = 0 ∧ (bodyR w r).1.2.1 = [] ∧ (bodyR w r).1.2.2.2 = []) ∧ (w ≠ wAsk → w ≠ wText → (bodyR w r).1.2.2.1 = []) ∧
    r.rest = (if w = wAsk then (32 :: decL (bodyR w r).1.1.toNat) ++ (32 :: quoteL (bodyR w r).1.2.1) else []) ++ ((if w = wAsk ∨ w = wText then 32 :: quoteL (bodyR w r).1.2.2.1 else []) ++ litT (bodyR w r).1.2.2.2) := by
  unfold bodyR at h h2 ⊢
  by_cases h1 : w = wAsk
  · rw [if_pos h1] at h h2 ⊢
    rw [if_pos h1, if_pos (.inl h1)]
    simp only [] at h h2 ⊢
    obtain ⟨s1, s2, s3⟩ := stops_sound _ _ (Nat.lt_succ_self _) h h2
    obtain ⟨x1, x2, x3⟩ := lit_sound s1
    obtain ⟨g1, g2, g3⟩ := lit_sound x1
    obtain ⟨a1, a2⟩ := seed_sound g1
    refine ⟨a1, pUint_rng _, g2, x2, s2, fun h => absurd h1 h, fun h => absurd h1 h, ?_⟩
    rw [a2, g3, x3]
    conv => lhs; rw [s3]
    simp only [List.append_assoc]
  · rw [if_neg h1] at h h2 ⊢
    have hnil : isB ([] : List Int) := fun x hx => by cases hx
    by_cases h3 : w = wText
    · rw [if_pos h3] at h h2 ⊢
      rw [if_neg h1, if_pos (.inr h3)]
      simp only [] at h h2 ⊢
      obtain ⟨x1, x2, x3⟩ := lit_sound h
      refine ⟨x1, by omega, hnil, x2, (fun s hs => by cases hs), (by simp), fun _ h => absurd h3 h, ?_⟩
      rw [x3, h2]; simp [litT]
    · rw [if_neg h3] at h h2 ⊢
      rw [if_neg h1, if_neg (by rintro (h | h); exact h1 h; exact h3 h)]
      simp only [] at h h2 ⊢
      exact ⟨h, by omega, hnil, hnil, (fun s hs => by cases hs), (by simp), (by simp), by rw [h2]; rfl⟩
theorem parse_sound {l : Ln} {t : List Int} (hB : isB t) (h : parseS t = some l) : l.ok ∧ printS l = some t := by
  unfold parseS at h
  split at h
  · cases h
  rename_i hlen
  simp only [] at h
  split at h
  · cases h
  rename_i hw
  split at h
  · cases h
  rename_i hfin
  obtain ⟨w, hwd⟩ : ∃ w, w = wordS ⟨32 :: t, true⟩ := ⟨_, rfl⟩
  rw [← hwd] at h hw hfin
  obtain ⟨i, hid⟩ : ∃ i, i = numS w.2 := ⟨_, rfl⟩
  rw [← hid] at h hfin
  obtain ⟨n, hnd⟩ : ∃ n, n = itR numS (numsW w.1).toNat i.2 := ⟨_, rfl⟩
  rw [← hnd] at h hfin
  obtain ⟨b, hbd⟩ : ∃ b, b = bodyR w.1 n.2 := ⟨_, rfl⟩
  rw [← hbd] at h hfin
  have hok : b.2.ok = true := by cases e : b.2.ok with | true => rfl | false => exact absurd (.inl e) hfin
  have hre : b.2.rest = [] := Classical.not_not.1 fun e => hfin (.inr (.inl e))
  have hid0 : 0 ≤ i.1 := Int.not_lt.1 fun e => hfin (.inr (.inr (.inl e)))
  have hid1 : i.1 ≤ 2147483647 := Int.not_lt.1 fun e => hfin (.inr (.inr (.inr e)))
  rw [hbd] at hok hre
  obtain ⟨k1, k2, k3, k4, k5, k6, k7, k8⟩ := body_sound' hok hre
  rw [← hbd] at k2 k3 k4 k5 k6 k7 k8
  rw [hnd] at k1
  obtain ⟨m1, m2⟩ := it_sound _ k1
  rw [← hnd] at m2
  have hnl : n.1.length = (numsW w.1).toNat := by rw [hnd]; exact itR_len _ _ _
  rw [hid] at m1
  obtain ⟨p1, p2⟩ := num_sound m1
  rw [← hid] at p2
  rw [hwd] at p1
  obtain ⟨_, q2⟩ := word_sound p1
  rw [← hwd] at q2
  have ht : t = w.1 ++ ((32 :: intL i.1) ++ (numT n.1 ++ n.2.rest)) := by
    rw [p2, m2] at q2
    have q2 : 32 :: t = _ := q2
    rw [List.cons_append] at q2
    exact (List.cons.inj q2).2
  simp only [Option.some.injEq] at h
  subst h
  have hir : inK .i64 i.1 := inK_i64.2 (by omega)
  have hnr : ∀ x ∈ n.1, inK .i64 x := by
    have key : ∀ (k : Nat) (r : RT), ∀ x ∈ (itR numS k r).1, inK .i64 x := by
      intro k r
      induction k with
      | zero => intro x hx; cases hx
      | succ k ih =>
        intro x hx
        rcases List.mem_append.1 hx with hx | hx
        · exact ih x hx
        · rw [List.mem_singleton.1 hx]; exact inK_i64.2 (pInt_rng _)
    intro x hx; rw [hnd] at hx; exact key _ _ x hx
  have hwB : isB w.1 := fun x hx => hB x (by rw [ht]; exact List.mem_append_left _ hx)
  refine ⟨⟨hwB, hir, k4, hnr, k2, k3, k5⟩, print_iff.2 ⟨⟨by show 0 ≤ numsW w.1; omega, by show (n.1.length : Int) = numsW w.1; omega, ⟨hid0, hid1⟩, k6, k7⟩, ?_, by omega⟩⟩
  rw [ht, k8]; rfl
theorem parse_iff {l : Ln} {t : List Int} (hB : isB t) : parseS t = some l ↔ l.ok ∧ printS l = some t := ⟨parse_sound hB, fun h => parse_full h.1 h.2⟩
end Go.SX
/- Lines in plain Lean: the document's lenient reading; it holds if writing gives the text again. -/
namespace Go.SX
open Go

def vWord (t : List Int) (at_ : Nat) : List Int × Nat := if t.length < at_ then ([], at_) else (headW (t.drop at_), at_ + (headW (t.drop at_)).length + 1)
def vNum (t : List Int) (at_ : Nat) : Int × Nat := (refU (vWord t at_).1, (vWord t at_).2)
def vInt (t : List Int) (at_ : Nat) : Int × Nat := (IntKind.i64.wrap (vNum t at_).1, (vNum t at_).2)
/-- The bytes of a literal at the head, and its length. -/
def unqR (t : List Int) : List Int × Nat := match unqS t with | some p => (p.1, t.length - p.2.length) | none => ([], 0)
def vLit (t : List Int) (at_ : Nat) : List Int × Nat := if t.length ≤ at_ then ([], at_) else ((unqR (t.drop at_)).1, at_ + (unqR (t.drop at_)).2 + 1)
def itV {α : Type} (f : List Int → Nat → α × Nat) : Nat → List Int → Nat → List α × Nat
  | 0, _, p => ([], p)
  | n + 1, t, p => ((itV f n t p).1 ++ [(f t (itV f n t p).2).1], (f t (itV f n t p).2).2)
theorem itV_len {α : Type} (f : List Int → Nat → α × Nat) (t : List Int) (p : Nat) : ∀ n, (itV f n t p).1.length = n
  | 0 => rfl
  | n + 1 => by simp [itV, itV_len f t p n]
def vStops : Nat → List Int → Nat → List (List Int)
  | 0, _, _ => []
  | k + 1, t, p => if p < t.length then (vLit t p).1 :: vStops k t (vLit t p).2 else []
def viewL (t : List Int) : Ln :=
  let w := vWord t 0
  let i := vInt t w.2
  let n := itV vInt (numsW w.1).toNat t i.2
  let sd := if w.1 = wAsk then vNum t n.2 else (0, n.2)
  let g := if w.1 = wAsk then vLit t sd.2 else ([], sd.2)
  let x := if w.1 = wAsk ∨ w.1 = wText then vLit t g.2 else ([], g.2)
  let s := if w.1 = wAsk then vStops (t.length + 1) t x.2 else []
  ⟨w.1, i.1, x.1, n.1, sd.1, g.1, s⟩

/-- What f reads behind the blank ahead of e is x. -/
def VP {α : Type} (f : List Int → Nat → α × Nat) (e : List Int) (x : α) : Prop := ∀ p s, Sep s → f (p ++ ((32 :: e) ++ s)) (p.length + 1) = (x, (p ++ (32 :: e)).length + 1)
theorem drop_at (p e s : List Int) : (p ++ ((32 :: e) ++ s)).drop (p.length + 1) = e ++ s := by
  have : p ++ ((32 :: e) ++ s) = (p ++ [32]) ++ (e ++ s) := by simp
  rw [this, show p.length + 1 = (p ++ [32]).length by simp, List.drop_left]
theorem vWord_vp {w : List Int} (h : ∀ c ∈ w, c ≠ 32) : VP vWord w w := fun p s hs => by
  unfold vWord
  rw [if_neg (by simp only [List.length_append, List.length_cons]; omega), drop_at, headW_full h hs]
  simp only [List.length_append, List.length_cons]
  exact Prod.ext rfl (by show _ = _; omega)
theorem vNum_vp {w : List Int} {n : Int} (h : ∀ c ∈ w, c ≠ 32) (hn : refU w = n) : VP vNum w n := fun p s hs => by
  unfold vNum; rw [vWord_vp h p s hs, hn]
theorem vInt_vp {n : Int} (h : inK .i64 n) : VP vInt (intL n) n := fun p s hs => by
  unfold vInt
  rw [vNum_vp (fun c hc => by have := intL_char n c hc; omega) rfl p s hs]
  simp only []
  rw [refU_int n (inK_i64.1 h).1 (inK_i64.1 h).2]
theorem unqR_full {b s : List Int} (h : isB b) : unqR (quoteL b ++ s) = (b, (quoteL b).length) := by
  unfold unqR
  rw [(unq_iff (t := quoteL b ++ s) (b := b) (rest := s)).2 ⟨h, rfl⟩]
  simp only [List.length_append]
  exact Prod.ext rfl (by show _ = _; omega)
theorem vLit_vp {b : List Int} (h : isB b) : VP vLit (quoteL b) b := fun p s _ => by
  have hl := quoteL_length b
  unfold vLit
  rw [if_neg (by simp only [List.length_append, List.length_cons]; omega), drop_at, unqR_full h]
  simp only [List.length_append, List.length_cons]
  exact Prod.ext rfl (by show _ = _; omega)
theorem itV_vp (s : List Int) (hs : Sep s) (ns : List Int) (h : ∀ n ∈ ns, inK .i64 n) (p : List Int) : itV vInt ns.length (p ++ (numT ns ++ s)) (p.length + 1) = (ns, (p ++ numT ns).length + 1) := by
  suffices hk : ∀ k, k ≤ ns.length → itV vInt k (p ++ (numT ns ++ s)) (p.length + 1) = (ns.take k, (p ++ numT (ns.take k)).length + 1) by
    have := hk ns.length (Nat.le_refl _)
    rw [List.take_length] at this; exact this
  intro k
  induction k with
  | zero => intro _; simp [itV, numT]
  | succ k ih =>
    intro hk
    have e : ns.drop k = ns[k] :: ns.drop (k + 1) := List.drop_eq_getElem_cons (by omega)
    have et : ns.take (k + 1) = ns.take k ++ [ns[k]] := by rw [List.take_add_one, List.getElem?_eq_getElem (by omega)]; rfl
    have hn := vInt_vp (n := ns[k]) (h _ (List.getElem_mem _)) (p ++ numT (ns.take k)) (numT (ns.drop (k + 1)) ++ s) (sep_num _ _ hs)
    have e2 : (p ++ numT (ns.take k)) ++ ((32 :: intL ns[k]) ++ (numT (ns.drop (k + 1)) ++ s)) = p ++ (numT ns ++ s) := by
      conv => rhs; rw [← List.take_append_drop k ns, e]
      unfold numT; rw [List.flatMap_append, List.flatMap_cons]; simp only [List.append_assoc]
    rw [e2] at hn
    show ((itV vInt k _ _).1 ++ [(vInt _ (itV vInt k _ _).2).1], (vInt _ (itV vInt k _ _).2).2) = _
    rw [ih (by omega)]
    simp only []
    rw [hn, et]
    simp only [numT, List.flatMap_append, List.flatMap_cons, List.flatMap_nil, List.append_nil, List.append_assoc]
theorem vStops_full : ∀ (ls : List (List Int)) (k : Nat) (p : List Int), (∀ s ∈ ls, isB s) → ls.length < k → vStops k (p ++ litT ls) (p.length + 1) = ls
  | [], k, p, _, hk => by
    obtain ⟨k, rfl⟩ : ∃ m, k = m + 1 := ⟨k - 1, by omega⟩
    simp [vStops, litT]
  | b :: ls, k, p, h, hk => by
    obtain ⟨k, rfl⟩ : ∃ m, k = m + 1 := ⟨k - 1, by omega⟩
    have hl := vLit_vp (b := b) (h b (by simp)) p (litT ls) (sep_lit ls)
    have ih := vStops_full ls k (p ++ (32 :: quoteL b)) (fun s hs => h s (by simp [hs])) (by simp at hk; omega)
    have e : p ++ litT (b :: ls) = p ++ ((32 :: quoteL b) ++ litT ls) := by unfold litT; rw [List.flatMap_cons]
    have hq := quoteL_length b
    simp only [vStops]
    rw [e, if_pos (by simp only [List.length_append, List.length_cons]; omega), hl]
    simp only []
    rw [← List.append_assoc, ih]
theorem view_full {l : Ln} (h : l.ok) (hm : l.may) : viewL (lineT l) = l := by
  have hn := hm.word
  have hwc : ∀ c ∈ l.Word, c ≠ 32 := fun c hc => by have := word_char hn c hc; omega
  have hw : vWord (lineT l) 0 = (l.Word, l.Word.length + 1) := by
    unfold vWord
    rw [if_neg (by omega), List.drop_zero]
    have : headW (lineT l) = l.Word := headW_full hwc (sep_cons _)
    rw [this, Nat.zero_add]
  have hi := vInt_vp h.id l.Word (numT l.Numbers ++ tailT l) (sep_num _ _ (sep_tail l))
  have hN := itV_vp (tailT l) (sep_tail l) l.Numbers h.nums (l.Word ++ (32 :: intL l.Id))
  have eL : l.Word ++ ((32 :: intL l.Id) ++ (numT l.Numbers ++ tailT l)) = lineT l := rfl
  rw [eL] at hi
  rw [List.append_assoc, eL, show l.Numbers.length = (numsW l.Word).toNat by have := hm.nums; omega] at hN
  obtain ⟨q, hq⟩ : ∃ q, q = (l.Word ++ (32 :: intL l.Id)) ++ numT l.Numbers := ⟨_, rfl⟩
  have eT : lineT l = q ++ tailT l := by rw [hq, ← eL]; simp only [List.append_assoc]
  rw [← hq] at hN
  unfold viewL
  rw [hw]
  simp only []
  rw [hi]
  simp only []
  rw [hN]
  simp only []
  obtain ⟨lw, li, lx, ln, ls, lg, lt⟩ := l
  simp only [] at *
  by_cases h1 : lw = wAsk
  · simp only [if_pos h1, if_pos (Or.inl h1 : lw = wAsk ∨ lw = wText)]
    have eq1 : lineT ⟨lw, li, lx, ln, ls, lg, lt⟩ = q ++ ((32 :: decL ls.toNat) ++ ((32 :: quoteL lg) ++ ((32 :: quoteL lx) ++ litT lt))) := by
      rw [eT]; unfold tailT; simp only [if_pos h1, if_pos (Or.inl h1 : lw = wAsk ∨ lw = wText), List.append_assoc]
    have hs := h.seed
    simp only [] at hs
    have v1 := vNum_vp (w := decL ls.toNat) (n := ls) (fun c hc => by have := decL_digit _ c hc; omega) (by rw [refU_dec _ (by omega)]; omega) q ((32 :: quoteL lg) ++ ((32 :: quoteL lx) ++ litT lt)) (sep_cons _)
    have v2 := vLit_vp (b := lg) h.guide (q ++ (32 :: decL ls.toNat)) ((32 :: quoteL lx) ++ litT lt) (sep_cons _)
    have v3 := vLit_vp (b := lx) h.text ((q ++ (32 :: decL ls.toNat)) ++ (32 :: quoteL lg)) (litT lt) (sep_lit lt)
    have v4 := vStops_full lt ((lineT ⟨lw, li, lx, ln, ls, lg, lt⟩).length + 1) (((q ++ (32 :: decL ls.toNat)) ++ (32 :: quoteL lg)) ++ (32 :: quoteL lx)) h.stops (by
      have := litT_len lt
      rw [eq1]; simp only [List.length_append]; omega)
    simp only [List.append_assoc] at v2 v3 v4 v1
    rw [← eq1] at v1 v2 v3 v4
    rw [v1]; simp only []
    rw [v2]; simp only []
    rw [v3]; simp only []
    rw [v4]
  · obtain ⟨e1, e2, e3⟩ := hm.ask h1
    simp only [] at e1 e2 e3
    simp only [if_neg h1]
    by_cases h2 : lw = wText
    · simp only [if_pos (Or.inr h2 : lw = wAsk ∨ lw = wText)]
      have eq1 : lineT ⟨lw, li, lx, ln, ls, lg, lt⟩ = q ++ ((32 :: quoteL lx) ++ []) := by
        rw [eT]; unfold tailT; simp only [if_neg h1, if_pos (Or.inr h2 : lw = wAsk ∨ lw = wText), List.nil_append, e3]; rfl
      have v3 := vLit_vp (b := lx) h.text q [] (.inl rfl)
      rw [← eq1] at v3
      rw [v3, e1, e2, e3]
    · have h3 : ¬ (lw = wAsk ∨ lw = wText) := by rintro (h | h); exact h1 h; exact h2 h
      simp only [if_neg h3]
      have e4 := hm.text h1 h2
      simp only [] at e4
      rw [e1, e2, e3, e4]
/-- The document's answer. -/
theorem parse_view {t : List Int} (hB : isB t) (hv : (viewL t).ok) : (8192 < t.length → parseS t = none) ∧ (printS (viewL t) = some t → parseS t = some (viewL t)) ∧ (printS (viewL t) ≠ some t → parseS t = none) := by
  refine ⟨fun h => ?_, fun h => parse_full hv h, fun h => ?_⟩
  · unfold parseS; rw [if_pos h]
  · cases e : parseS t with
    | none => rfl
    | some l =>
      obtain ⟨h1, h2⟩ := parse_sound hB e
      obtain ⟨h3, h4, _⟩ := print_iff.1 h2
      have := view_full h1 h3
      rw [h4] at this
      rw [this] at h; exact absurd h2 h
theorem headW_sub (t : List Int) : ∀ c ∈ headW t, c ∈ t := fun c hc => by rw [headW_app t]; exact List.mem_append_left _ hc
theorem unqR_isB (t : List Int) : isB (unqR t).1 := by
  unfold unqR
  cases e : unqS t with
  | none => intro x hx; cases hx
  | some p => exact (unq_iff.1 e).1
theorem vLit_isB (t : List Int) (p : Nat) : isB (vLit t p).1 := by
  unfold vLit; split
  · intro x hx; cases hx
  · exact unqR_isB _
theorem view_ok {t : List Int} (hB : isB t) : (viewL t).ok := by
  have hw : isB (vWord t 0).1 := by
    unfold vWord; split
    · intro x hx; cases hx
    · intro x hx; exact hB x (List.drop_subset _ _ (headW_sub _ x hx))
  have hnil : isB ([] : List Int) := fun x hx => by cases hx
  refine ⟨hw, inK_wrap _ _, ?_, ?_, ?_, ?_, ?_⟩
  · unfold viewL; simp only []
    split
    · exact vLit_isB _ _
    · exact hnil
  · have key : ∀ (k p : Nat), ∀ x ∈ (itV vInt k t p).1, inK .i64 x := by
      intro k p
      induction k with
      | zero => intro x hx; cases hx
      | succ k ih =>
        intro x hx
        rcases List.mem_append.1 hx with hx | hx
        · exact ih x hx
        · rw [List.mem_singleton.1 hx]; exact inK_wrap _ _
    exact key _ _
  · unfold viewL; simp only []
    split
    · have := refU_rng (vWord t (itV vInt (numsW (vWord t 0).1).toNat t (vInt t (vWord t 0).2).2).2).1
      show 0 ≤ refU _ ∧ refU _ ≤ _
      omega
    · simp
  · unfold viewL; simp only []
    split
    · exact vLit_isB _ _
    · exact hnil
  · have key : ∀ (k p : Nat), ∀ x ∈ vStops k t p, isB x := by
      intro k
      induction k with
      | zero => intro p x hx; cases hx
      | succ k ih =>
        intro p x hx
        simp only [vStops] at hx
        split at hx
        · rcases List.mem_cons.1 hx with rfl | hx
          · exact vLit_isB _ _
          · exact ih _ x hx
        · cases hx
    unfold viewL; simp only []
    split
    · exact key _ _
    · intro s hs; cases hs
end Go.SX
/- An append behind which the old slice is still looked at. -/
namespace Go.SX
open Go Go.RowKit
section
variable {P : Program} {Γ : Env P} {n : Nat} {w0 : World} {K : List Nat} {Q : Exit → Fr → HL → Prop} {ρ : Fr} {L R F : HL} {ops : List Oper} {N : Fr → HL → Prop}

/-- The old elements lie where they lay. -/
def Keeps (e : Nat) (F : HL) (xs : List Value) (Z : HL) : Prop := ∀ g sp, F = [(g, .cells ⟨xs ++ sp⟩ e (0, 0))] → ∃ sp', (g, Obj.cells ⟨xs ++ sp'⟩ e (0, 0)) ∈ Z
/-- append(s, x..), x lying in a block that was made for it; the old elements stay in sight. -/
theorem XOp.append1K {d b k c te t e m : Nat} {fz : Nat × Nat} {ty : Nat} {s x : Operand} {pos : String} {af : Array Edge} {g : Option (Nat × Bool)} {r re : TR} {v : Value} {xs news : List Value}
    (hg : gval n ρ ops g = some true) (ht : Γ.get t = some r) (hk : r.k = .slice e) (he : Γ.get e = some re) (hs : ev n ρ s = v) (hx : ev n ρ x = .slice (some ⟨b, 0, none⟩) k c)
    (hown : OwnS e re.sz v m xs F) (hL : L = (b, .cells ⟨news⟩ te fz) :: (F ++ R)) (hl : news.length = k * re.sz) (h1 : news.all (·.oneCell') = true)
    (hz : (cellsL re.z).length = re.sz) (hsz : 0 < re.sz) (h63 : m + k ≤ maxLen) (hb : (m + k) * re.by_ ≤ 140737488355328) (hk0 : 0 < k)
    (h : ∀ v' F' O, OwnS e re.sz v' (m + k) (xs ++ news) F' → Keeps e F xs (F' ++ O) → N (upd ρ d v') ((F' ++ O) ++ R)) :
    XOp Γ n w0 K ops { dst := some d, op := .call { callee := .builtin .append, args := #[s, x], argTypes := #[t, t] }, type := ty, pos := pos, after := af, guard := g } N ρ L := by
  refine XOp.val hg fun w ow => ?_
  subst hL
  have hbt := tk_slice (Γ.is ht) hk
  obtain ⟨i, hi, his, hib, hiz⟩ := (Γ.is he).i
  obtain ⟨cs, hrun⟩ := call_builtin (P := P) (n := n) (ρ := ρ) (b := .append) (ts := #[t, t]) (xs := #[s, x])
    (o := { dst := some d, op := .call { callee := .builtin .append, args := #[s, x], argTypes := #[t, t] }, type := ty, pos := pos, after := af, guard := g }) rfl w
  rw [hrun]
  have hargs : (args n ρ #[s, x]).toArray = #[v, .slice (some ⟨b, 0, none⟩) k c] := by simp [args, hs, hx]
  rw [hargs]
  have hblk := ow.has _ (List.mem_cons_self ..)
  have hnews : ∀ j u, news[j]? = some u → w.cell? ((⟨b, 0, none⟩ : Addr).add j) = some u := fun j u hj => by
    rw [add_off]; simp only at hblk; simp [World.cell?, hblk, hj]
  have hsm : m + k ≤ 9223372036854775807 := by simp only [maxLen] at h63; omega
  have hv : ∀ {v' w'}, (Builtin.append_ #[t, t] ty #[v, .slice (some ⟨b, 0, none⟩) k c]).run P w = .ok v' w' →
      (builtin .append #[t, t] ty cs #[v, .slice (some ⟨b, 0, none⟩) k c]).run P w = .ok (.value v') w' := fun h => run_value h
  have otl := ow.tail
  have orr := otl.right
  have hall : ∀ u ∈ news, u.oneCell' = true := fun u hu => List.all_eq_true.1 h1 u hu
  have grown : ∀ (old : Nat), old < m + k → OwnS e re.sz (.slice (some ⟨w.heap.size, 0, none⟩) (m + k) (grownCap w (m + k) old e)) (m + k) (xs ++ news)
      [(w.heap.size, .cells ⟨(xs ++ news) ++ (Builtin.zeroCells i.zero.get!.cells (grownCap w (m + k) old e - (m + k))).toList⟩ e (0, 0))] := by
    intro old ho
    have hge := grownCap_ge w (m + k) old e
    have hcm : grownCap w (m + k) old e ≤ maxLen := grownCap_le_maxLen w (m + k) old e h63
    have hlen : (xs ++ news).length = (m + k) * re.sz := by rw [List.length_append, hown.1, hl, Nat.add_mul]
    refine ⟨hlen, .inr ⟨_, _, _, rfl, rfl, hge, hcm, ?_⟩⟩
    rw [List.length_append, hlen, Array.length_toList, size_zeroCells, hiz]
    simp only [Option.get!_some, cellsL_eq, List.size_toArray, hz, ← Nat.add_mul]
    congr 1; omega
  rcases hown.2 with ⟨rfl, rfl, rfl⟩ | ⟨gb, cap, sp, rfl, rfl, hnc, hcm, hcs⟩
  · have hx0 : xs = [] := List.eq_nil_of_length_eq_zero (by simpa using hown.1)
    subst hx0
    have hr := run_append_nil (P := P) w t ty e i re.z hbt hi hiz ⟨b, 0, none⟩ k c news (by rw [hl, his]) hnews hk0 (by omega) (by rw [hib]; simp only [Nat.zero_add] at hb; omega)
    have hg0 := grown 0 (by omega)
    simp only [Nat.zero_add, List.nil_append] at hg0 ⊢ hr
    refine ⟨_, _, _, hv hr, ?_, h _ _ [] (by simpa using hg0) (fun g sp e => by cases e)⟩
    have := orr.new' (.cells (news.toArray ++ Builtin.zeroCells re.z.cells (grownCap w k 0 e - k)) e (0, 0))
    have e1 : (news.toArray ++ Builtin.zeroCells re.z.cells (grownCap w k 0 e - k)) = ⟨news ++ (Builtin.zeroCells i.zero.get!.cells (grownCap w k 0 e - k)).toList⟩ := by
      refine Array.ext' ?_; simp [hiz]
    rw [e1] at this ⊢
    exact this
  · by_cases hroom : m + k ≤ cap
    · have hgb := otl.has _ (List.mem_append_left _ (List.mem_singleton.2 rfl))
      have hfit : m * i.size + news.length ≤ (Array.mk (xs ++ sp)).size := by
        rw [his, hl, List.size_toArray, hcs, ← Nat.add_mul]; exact Nat.mul_le_mul_right _ hroom
      have hr := run_append_room (P := P) w t ty e i hbt hi gb m cap ⟨xs ++ sp⟩ hgb ⟨b, 0, none⟩ k c news (by rw [hl, his]) hnews hall hroom hfit
      rw [setRow_putB hgb] at hr
      have hxl : xs.length = m * i.size := by rw [hown.1, his]
      have e1 : ((xs ++ sp).take (m * i.size) ++ news ++ (xs ++ sp).drop (m * i.size + news.length)) = (xs ++ news) ++ sp.drop news.length := by
        rw [← hxl, List.take_left, List.drop_append, List.drop_of_length_le (by omega)]
        simp
      rw [e1] at hr
      refine ⟨_, _, ([(gb, .cells ⟨(xs ++ news) ++ sp.drop news.length⟩ e (0, 0))] ++ []) ++ R, hv hr, ?_, h _ _ [] ⟨by rw [List.length_append, hown.1, hl, Nat.add_mul], .inr ⟨gb, cap, _, rfl, rfl, hroom, hcm, ?_⟩⟩ ?_⟩
      · exact otl.put (i := 0) (b := gb) (ob := .cells ⟨xs ++ sp⟩ e (0, 0)) rfl rfl
      · rw [← hcs]
        simp only [List.length_append, List.length_drop]
        rw [his] at hfit
        simp only [List.size_toArray, List.length_append] at hfit
        have := hown.1
        omega
      · intro g sp' e
        obtain ⟨rfl, _⟩ := Prod.mk.inj (List.cons.inj e).1
        exact ⟨news ++ sp.drop news.length, by simp⟩
    · have hgb := otl.has _ (List.mem_append_left _ (List.mem_singleton.2 rfl))
      have holds : ∀ j u, xs[j]? = some u → w.cell? ((⟨gb, 0, none⟩ : Addr).add j) = some u := fun j u hj => by
        rw [add_off]; simp only at hgb
        have hj' := (List.getElem?_eq_some_iff.1 hj).1
        simp [World.cell?, hgb, List.getElem?_append_left hj', hj]
      have hr := run_append_grow (P := P) w t ty e i re.z hbt hi hiz ⟨gb, 0, none⟩ m cap xs (by rw [hown.1, his]) holds ⟨b, 0, none⟩ k c news (by rw [hl, his]) hnews (by omega) (by omega) (growslice_fits (by omega) (by rw [hib]; exact hb))
      refine ⟨_, _, _, hv hr, ?_, h _ _ [(gb, .cells ⟨xs ++ sp⟩ e (0, 0))] (grown cap (by omega)) ?_⟩
      rotate_left
      · intro g sp' e
        exact ⟨sp', by rw [e]; simp⟩
      have := otl.new' (.cells (xs.toArray ++ news.toArray ++ Builtin.zeroCells re.z.cells (grownCap w (m + k) cap e - (m + k))) e (0, 0))
      have e1 : (xs.toArray ++ news.toArray ++ Builtin.zeroCells re.z.cells (grownCap w (m + k) cap e - (m + k))) = ⟨(xs ++ news) ++ (Builtin.zeroCells i.zero.get!.cells (grownCap w (m + k) cap e - (m + k))).toList⟩ := by
        refine Array.ext' ?_; simp [hiz]
      rw [e1] at this ⊢
      exact this
end
/-- A slice of the call's own that is no longer written: its elements lie in one of these blocks. -/
def OldIn (e : Nat) (a : Option Addr) (m : Nat) (xs : List Value) (Z : HL) : Prop := m = 0 ∨ ∃ g sp, a = some ⟨g, 0, none⟩ ∧ (g, Obj.cells ⟨xs ++ sp⟩ e (0, 0)) ∈ Z
theorem OldIn.of {e m c : Nat} {a : Option Addr} {xs : List Value} {F : HL} (h : OwnS e 1 (.slice a m c) m xs F) : OldIn e a m xs F := by
  rcases h.2 with ⟨_, h0, _⟩ | ⟨g, cap, sp, hv, rfl, _⟩
  · exact .inl h0
  · exact .inr ⟨g, sp, (Value.slice.inj hv).1, List.mem_singleton.2 rfl⟩
theorem OldIn.step {e m m' : Nat} {a : Option Addr} {v : Value} {xs ys : List Value} {F O F' O' : HL} (hF : OwnS e 1 v m' (xs ++ ys) F) (h : OldIn e a m xs (F ++ O)) (hk : Keeps e F (xs ++ ys) (F' ++ O')) : OldIn e a m xs (F' ++ (O' ++ O)) := by
  rcases h with h | ⟨g, sp, ha, hm⟩
  · exact .inl h
  rcases List.mem_append.1 hm with hm | hm
  · rcases hF.2 with ⟨_, _, rfl⟩ | ⟨gb, cap, sp0, _, rfl, _⟩
    · cases hm
    · obtain ⟨rfl, _⟩ := Prod.mk.inj (List.mem_singleton.1 hm)
      obtain ⟨sp', hs⟩ := hk g sp0 rfl
      exact .inr ⟨g, ys ++ sp', ha, by rw [List.append_assoc] at hs; rw [← List.append_assoc]; exact List.mem_append_left _ hs⟩
  · exact .inr ⟨g, sp, ha, List.mem_append_right _ (List.mem_append_right _ hm)⟩
theorem OldIn.sub {e m : Nat} {a : Option Addr} {xs : List Value} {Z Y : HL} (h : OldIn e a m xs Z) (s : ∀ x ∈ Z, x ∈ Y) : OldIn e a m xs Y := h.imp id fun ⟨g, sp, ha, hm⟩ => ⟨g, sp, ha, s _ hm⟩
end Go.SX
