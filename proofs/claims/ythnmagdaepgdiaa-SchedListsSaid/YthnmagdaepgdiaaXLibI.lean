/- Numbers: copied, held against others, looked for; marked lists. -/
import Derived.Test.YthnmagdaepgdiaaXEnv
set_option linter.unusedSimpArgs false
set_option linter.unusedVariables false
namespace Go.Proofs.YthnmagdaepgdiaaX
open Go Go.SX

theorem copyInts_fn (xs : List Int) (a : Option Addr) (cap : Nat) : FC Try.prog 23 [.slice a xs.length cap] [] (fun h => SlA (Kd.int .i64) 8 h xs a cap)
    (fun v L => OwnS 3 1 v xs.length (xs.map (.int .i64)) L) := by
  refine FC.intro Try.func23 rfl (by kernel_rfl) 19 [.tmp 2] rfl rfl rfl ?_
  intro w0 hA
  have hsm := hA.bytes
  (repeat (first | (with_reducible apply XL.op) | ((with_reducible apply XOp.p1); (case hg | hv => exact rfl)) | (with_reducible apply XL.nilT) | (with_reducible apply XC.seq) | (with_reducible apply XC.region (Γ := Γ)) | (with_reducible apply XC.block)))
  refine XC.loop (fun k ρ L => ∃ (i : Nat) (v : Value) (F : HL), i + k = xs.length ∧ L = F ++ [] ∧ OwnS 3 1 v i ((xs.take i).map (.int .i64)) F ∧ Slots ρ [(0, .slice a xs.length cap), (3, v), (4, .int .i64 i)])
    xs.length ⟨0, _, [], by simp, rfl, OwnS.nil _ _, rfl, rfl, rfl, trivial⟩ ?_
  rintro k ρ L ⟨i, v, F, hik, rfl, hown, hs⟩
  obtain ⟨a', c', rfl⟩ := hown.val
  refine XC.slots _ hs ?_
  (repeat' (first | (with_reducible apply XL.op) | ((with_reducible apply XOp.p1); (case hg | hv => exact rfl)) | ((with_reducible apply XOp.pr); (case hg => exact rfl); (case hr => ((with_reducible apply PR.idxA); (case ht | hk | he | hx | hi => exact rfl); (case hr => first | assumption | omega); (case ha => first | assumption | exact SlA.at_ (by assumption))))) | ((with_reducible apply XOp.buildSlice); (case hg | ht | hk | he | hz | hzl | hf => exact rfl); intro bs_) | (with_reducible apply XL.nilT) | (with_reducible apply XC.seq) | (with_reducible apply XC.region (Γ := Γ)) | (with_reducible apply XL.nilQ) | (with_reducible apply XQ.skip) | (with_reducible apply XQ.ret) | (with_reducible apply XQ.exit) | (with_reducible apply XQ.nt) | (with_reducible apply XQ.nb) | (with_reducible apply XQ.et) | (with_reducible apply XC.block) | ((with_reducible apply XQ.eb); (case hb => exact rfl)) | (first | ((with_reducible apply XOp.load); (case hg | ht | hk | hx => exact rfl); (case hc => exact Known.of_old (hA.int i (by omega)).1 (Mono.cell _ _))) | ((with_reducible apply XP.load); (case ho | hg | ht | hk | hx => exact rfl); (case hc => exact Known.of_old (hA.int i (by omega)).1 (Mono.cell _ _)))) | ((with_reducible apply XOp.append1); (case hg => exact rfl); (case ht => exact rfl); (case hk => exact rfl); (case he => exact rfl); (case hown => exact hown); (case hs => exact rfl); (case hx => exact rfl); (case hL => exact rfl); (case hl => exact rfl); (case h1 => exact rfl); (case hz => exact rfl); (case hsz => exact Nat.zero_lt_succ _); (case hk0 => exact Nat.zero_lt_succ _); (case h63 => simp only [maxLen]; omega); (case hb => simp only []; omega); intro v_ F_ hown_; obtain ⟨a_, c_, rfl⟩ := hown_.val) | ((with_reducible apply XC.cond); (case hc => exact rfl); all_goals (intro hb_; try simp only [pd_true, pd_false, Bool.not_eq_true', Bool.not_eq_false', Bool.and_eq_true, Bool.and_eq_false_iff, Bool.or_eq_true, Bool.or_eq_false_iff, not_true_eq_false, not_false_eq_true, Int.not_lt, Int.not_le] at hb_))))
  · exact ⟨k - 1, by omega, i + 1, _, F_, by omega, rfl, by rw [take_map_snoc _ _ _ 0 (by omega)]; exact hown_, rfl, rfl, intS (m := xs.length) (by omega) (by omega), trivial⟩
  · ((with_reducible apply XQ.retE); (case hr => exact .t rfl .nil))
    obtain rfl : i = xs.length := by omega
    rw [List.append_nil]
    rw [List.take_length] at hown; exact hown

theorem eqInts_fn (xs ys : List Int) (a b : Option Addr) (ca cb : Nat) : FC Try.prog 26 [.slice a xs.length ca, .slice b ys.length cb] []
    (fun h => SlA (Kd.int .i64) 8 h xs a ca ∧ SlA (Kd.int .i64) 8 h ys b cb) (fun v L => v = .bool (pd (xs = ys)) ∧ L = []) := by
  refine FC.intro Try.func26 rfl (by kernel_rfl) 26 [.tmp 4] rfl rfl rfl ?_
  rintro w0 ⟨hA, hB⟩
  have hsm := hA.bytes
  (repeat (first | (with_reducible apply XL.op) | ((with_reducible apply XOp.p1); (case hg | hv => exact rfl)) | (with_reducible apply XL.nilT) | (with_reducible apply XC.seq) | (with_reducible apply XC.region (Γ := Γ))))
  ((with_reducible apply XC.cond); (case hc => exact rfl); all_goals (intro hb_; try simp only [pd_true, pd_false, Bool.not_eq_true', Bool.not_eq_false', Bool.and_eq_true, Bool.and_eq_false_iff, Bool.or_eq_true, Bool.or_eq_false_iff, not_true_eq_false, not_false_eq_true, Int.not_lt, Int.not_le] at hb_))
  · (repeat (first | (with_reducible apply XL.op) | ((with_reducible apply XOp.p1); (case hg | hv => exact rfl)) | (with_reducible apply XL.nilT) | (with_reducible apply XC.seq) | (with_reducible apply XC.region (Γ := Γ)) | (with_reducible apply XQ.ret) | (with_reducible apply XQ.rt)))
    ((with_reducible apply XQ.retE); (case hr => exact .t rfl .nil))
    refine ⟨?_, rfl⟩
    rw [pdf (fun h => hb_ (by rw [h]))]; rfl
  (repeat (first | (with_reducible apply XL.op) | ((with_reducible apply XOp.p1); (case hg | hv => exact rfl)) | (with_reducible apply XL.nilT) | (with_reducible apply XC.seq) | (with_reducible apply XC.region (Γ := Γ)) | (with_reducible apply XQ.skip) | (with_reducible apply XQ.nt) | (with_reducible apply XC.block)))
  refine XC.loop (fun k ρ L => ∃ (i : Nat), i + k = xs.length ∧ L = [] ∧ (∀ j, j < i → xs[j]? = ys[j]?) ∧ Slots ρ [(0, .slice a xs.length ca), (1, .slice b ys.length cb), (5, .int .i64 i)])
    xs.length ⟨0, by simp, rfl, by simp, rfl, rfl, rfl, trivial⟩ ?_
  rintro k ρ L ⟨i, hik, rfl, hq, hs⟩
  refine XC.slots _ hs ?_
  (repeat' (first | (with_reducible apply XL.op) | ((with_reducible apply XOp.p1); (case hg | hv => exact rfl)) | (with_reducible apply XL.nilT) | (with_reducible apply XC.seq) | (with_reducible apply XC.region (Γ := Γ)) | (with_reducible apply XQ.skip) | (with_reducible apply XQ.ret) | (with_reducible apply XQ.exit) | (with_reducible apply XQ.nt) | (with_reducible apply XQ.nb) | (with_reducible apply XQ.rt) | (with_reducible apply XQ.rb) | (with_reducible apply XQ.et) | (with_reducible apply XC.block) | ((with_reducible apply XP.p1); (case ho | hg | hv => exact rfl)) | ((with_reducible apply XP.pr); (case ho => exact rfl); (case hg => exact rfl); (case hr => ((with_reducible apply PR.idxA); (case ht | hk | he | hx | hi => exact rfl); (case hr => first | assumption | omega); (case ha => first | assumption | exact SlA.at_ (by assumption))))) | (with_reducible apply XP.done) | ((with_reducible apply XQ.eb); (case hb => exact rfl)) | ((with_reducible apply XC.regionD (Γ := Γ) mixed (.q 0 (.q 1 (.q 2 (.q 3 (.q 4 (.q 5 (.q 6 (.q 7 (.q 8 (.done)))))))))) [] []); (case hc => kernel_rfl)) | (first | ((with_reducible apply XOp.load); (case hg | ht | hk | hx => exact rfl); (case hc => exact Known.of_old (hA.int i (by omega)).1 (Mono.cell _ _))) | ((with_reducible apply XP.load); (case ho | hg | ht | hk | hx => exact rfl); (case hc => exact Known.of_old (hA.int i (by omega)).1 (Mono.cell _ _)))) | (first | ((with_reducible apply XOp.load); (case hg | ht | hk | hx => exact rfl); (case hc => exact Known.of_old (hB.int i (by omega)).1 (Mono.cell _ _))) | ((with_reducible apply XP.load); (case ho | hg | ht | hk | hx => exact rfl); (case hc => exact Known.of_old (hB.int i (by omega)).1 (Mono.cell _ _)))) | ((with_reducible apply XC.cond); (case hc => exact rfl); all_goals (intro hb_; try simp only [pd_true, pd_false, Bool.not_eq_true', Bool.not_eq_false', Bool.and_eq_true, Bool.and_eq_false_iff, Bool.or_eq_true, Bool.or_eq_false_iff, not_true_eq_false, not_false_eq_true, Int.not_lt, Int.not_le] at hb_))))
  · ((with_reducible apply XQ.retE); (case hr => exact .t rfl .nil))
    refine ⟨?_, rfl⟩
    rw [pdf (fun h => hb_ (by rw [h]))]; rfl
  · refine ⟨k - 1, by omega, i + 1, by omega, rfl, fun j hj => ?_, rfl, rfl, intS (m := xs.length) (by omega) (by omega), trivial⟩
    by_cases h : j = i
    · subst h; rw [List.getElem?_eq_getElem (by omega), List.getElem?_eq_getElem (by omega)] at hb_ ⊢; simpa using hb_
    · exact hq j (by omega)
  · ((with_reducible apply XQ.retE); (case hr => exact .t rfl .nil))
    refine ⟨?_, rfl⟩
    rw [pdt (List.ext_getElem? fun j => ?_)]; rfl
    by_cases h : j < i
    · exact hq j h
    · rw [List.getElem?_eq_none (by omega), List.getElem?_eq_none (by omega)]

theorem amongR_fn (xs : List Int) (a : Option Addr) (cap : Nat) (n : Int) : FC Try.prog 39 [.slice a xs.length cap, .int .i64 n] [] (fun h => SlA (Kd.int .i64) 8 h xs a cap)
    (fun v L => v = .bool (pd (n ∈ xs)) ∧ L = []) := by
  refine FC.intro Try.func39 rfl (by kernel_rfl) 18 [.tmp 4] rfl rfl rfl ?_
  intro w0 hA
  have hsm := hA.bytes
  (repeat (first | (with_reducible apply XL.op) | ((with_reducible apply XOp.p1); (case hg | hv => exact rfl)) | (with_reducible apply XL.nilT) | (with_reducible apply XC.seq) | (with_reducible apply XC.region (Γ := Γ)) | (with_reducible apply XC.block)))
  refine XC.loop (fun k ρ L => ∃ (i : Nat), i + k = xs.length ∧ L = [] ∧ (∀ j, j < i → xs[j]? ≠ some n) ∧ Slots ρ [(0, .slice a xs.length cap), (1, .int .i64 n), (5, .int .i64 i)])
    xs.length ⟨0, by simp, rfl, by simp, rfl, rfl, rfl, trivial⟩ ?_
  rintro k ρ L ⟨i, hik, rfl, hq, hs⟩
  refine XC.slots _ hs ?_
  (repeat' (first | (with_reducible apply XL.op) | ((with_reducible apply XOp.p1); (case hg | hv => exact rfl)) | ((with_reducible apply XOp.pr); (case hg => exact rfl); (case hr => ((with_reducible apply PR.idxA); (case ht | hk | he | hx | hi => exact rfl); (case hr => first | assumption | omega); (case ha => first | assumption | exact SlA.at_ (by assumption))))) | (with_reducible apply XL.nilT) | (with_reducible apply XC.seq) | (with_reducible apply XC.region (Γ := Γ)) | (with_reducible apply XQ.skip) | (with_reducible apply XQ.ret) | (with_reducible apply XQ.exit) | (with_reducible apply XQ.nt) | (with_reducible apply XQ.nb) | (with_reducible apply XQ.rt) | (with_reducible apply XQ.rb) | (with_reducible apply XQ.et) | (with_reducible apply XC.block) | ((with_reducible apply XQ.eb); (case hb => exact rfl)) | (first | ((with_reducible apply XOp.load); (case hg | ht | hk | hx => exact rfl); (case hc => exact Known.of_old (hA.int i (by omega)).1 (Mono.cell _ _))) | ((with_reducible apply XP.load); (case ho | hg | ht | hk | hx => exact rfl); (case hc => exact Known.of_old (hA.int i (by omega)).1 (Mono.cell _ _)))) | ((with_reducible apply XC.cond); (case hc => exact rfl); all_goals (intro hb_; try simp only [pd_true, pd_false, Bool.not_eq_true', Bool.not_eq_false', Bool.and_eq_true, Bool.and_eq_false_iff, Bool.or_eq_true, Bool.or_eq_false_iff, not_true_eq_false, not_false_eq_true, Int.not_lt, Int.not_le] at hb_))))
  · ((with_reducible apply XQ.retE); (case hr => exact .t rfl .nil))
    refine ⟨?_, rfl⟩
    rw [pdt (List.mem_of_getElem? (i := i) (by rw [List.getElem?_eq_getElem (by omega)] at hb_ ⊢; simpa using hb_))]; rfl
  · refine ⟨k - 1, by omega, i + 1, by omega, rfl, fun j hj => ?_, rfl, rfl, intS (m := xs.length) (by omega) (by omega), trivial⟩
    by_cases h : j = i
    · subst h; rw [List.getElem?_eq_getElem (by omega)] at hb_ ⊢; simpa using hb_
    · exact hq j (by omega)
  · ((with_reducible apply XQ.retE); (case hr => exact .t rfl .nil))
    refine ⟨?_, rfl⟩
    rw [pdf (fun hm => ?_)]; rfl
    obtain ⟨j, hj⟩ := List.getElem?_of_mem hm
    exact hq j (by have := (List.getElem?_eq_some_iff.1 hj).1; omega) hj

theorem amongL_fn (xs : List Int) (a : Option Addr) (cap : Nat) (n : Int) : FC Try.prog 29 [.slice a xs.length cap, .int .i64 n] [] (fun h => SlA (Kd.int .i64) 8 h xs a cap)
    (fun v L => v = .bool (pd (n ∈ xs)) ∧ L = []) := by
  refine FC.intro Try.func29 rfl (by kernel_rfl) 18 [.tmp 4] rfl rfl rfl ?_
  intro w0 hA
  have hsm := hA.bytes
  (repeat (first | (with_reducible apply XL.op) | ((with_reducible apply XOp.p1); (case hg | hv => exact rfl)) | (with_reducible apply XL.nilT) | (with_reducible apply XC.seq) | (with_reducible apply XC.region (Γ := Γ)) | (with_reducible apply XC.block)))
  refine XC.loop (fun k ρ L => ∃ (i : Nat), i + k = xs.length ∧ L = [] ∧ (∀ j, j < i → xs[j]? ≠ some n) ∧ Slots ρ [(0, .slice a xs.length cap), (1, .int .i64 n), (5, .int .i64 i)])
    xs.length ⟨0, by simp, rfl, by simp, rfl, rfl, rfl, trivial⟩ ?_
  rintro k ρ L ⟨i, hik, rfl, hq, hs⟩
  refine XC.slots _ hs ?_
  (repeat' (first | (with_reducible apply XL.op) | ((with_reducible apply XOp.p1); (case hg | hv => exact rfl)) | ((with_reducible apply XOp.pr); (case hg => exact rfl); (case hr => ((with_reducible apply PR.idxA); (case ht | hk | he | hx | hi => exact rfl); (case hr => first | assumption | omega); (case ha => first | assumption | exact SlA.at_ (by assumption))))) | (with_reducible apply XL.nilT) | (with_reducible apply XC.seq) | (with_reducible apply XC.region (Γ := Γ)) | (with_reducible apply XQ.skip) | (with_reducible apply XQ.ret) | (with_reducible apply XQ.exit) | (with_reducible apply XQ.nt) | (with_reducible apply XQ.nb) | (with_reducible apply XQ.rt) | (with_reducible apply XQ.rb) | (with_reducible apply XQ.et) | (with_reducible apply XC.block) | ((with_reducible apply XQ.eb); (case hb => exact rfl)) | (first | ((with_reducible apply XOp.load); (case hg | ht | hk | hx => exact rfl); (case hc => exact Known.of_old (hA.int i (by omega)).1 (Mono.cell _ _))) | ((with_reducible apply XP.load); (case ho | hg | ht | hk | hx => exact rfl); (case hc => exact Known.of_old (hA.int i (by omega)).1 (Mono.cell _ _)))) | ((with_reducible apply XC.cond); (case hc => exact rfl); all_goals (intro hb_; try simp only [pd_true, pd_false, Bool.not_eq_true', Bool.not_eq_false', Bool.and_eq_true, Bool.and_eq_false_iff, Bool.or_eq_true, Bool.or_eq_false_iff, not_true_eq_false, not_false_eq_true, Int.not_lt, Int.not_le] at hb_))))
  · ((with_reducible apply XQ.retE); (case hr => exact .t rfl .nil))
    refine ⟨?_, rfl⟩
    rw [pdt (List.mem_of_getElem? (i := i) (by rw [List.getElem?_eq_getElem (by omega)] at hb_ ⊢; simpa using hb_))]; rfl
  · refine ⟨k - 1, by omega, i + 1, by omega, rfl, fun j hj => ?_, rfl, rfl, intS (m := xs.length) (by omega) (by omega), trivial⟩
    by_cases h : j = i
    · subst h; rw [List.getElem?_eq_getElem (by omega)] at hb_ ⊢; simpa using hb_
    · exact hq j (by omega)
  · ((with_reducible apply XQ.retE); (case hr => exact .t rfl .nil))
    refine ⟨?_, rfl⟩
    rw [pdf (fun hm => ?_)]; rfl
    obtain ⟨j, hj⟩ := List.getElem?_of_mem hm
    exact hq j (by have := (List.getElem?_eq_some_iff.1 hj).1; omega) hj

theorem index_fn (xs : List Int) (a : Option Addr) (cap : Nat) (v : Int) : FC Try.prog 45 [.slice a xs.length cap, .int .i64 v] [] (fun h => SlA (Kd.int .i64) 8 h xs a cap)
    (fun r L => ∃ j : Int, r = .int .i64 j ∧ (0 ≤ j ↔ v ∈ xs) ∧ L = []) := by
  refine FC.intro Try.func45 rfl (by kernel_rfl) 19 [.tmp 4] rfl rfl rfl ?_
  intro w0 hA
  have hsm := hA.bytes
  (repeat (first | (with_reducible apply XL.op) | ((with_reducible apply XOp.p1); (case hg | hv => exact rfl)) | (with_reducible apply XL.nilT) | (with_reducible apply XC.seq) | (with_reducible apply XC.region (Γ := Γ)) | (with_reducible apply XC.block)))
  refine XC.loop (fun k ρ L => ∃ i : Nat, i + k = xs.length ∧ L = [] ∧ (∀ j, j < i → xs[j]? ≠ some v) ∧ Slots ρ [(0, .slice a xs.length cap), (1, .int .i64 v), (7, .int .i64 xs.length), (8, .int .i64 i)])
    xs.length ⟨0, by simp, rfl, by simp, rfl, rfl, rfl, rfl, trivial⟩ ?_
  rintro k ρ L ⟨i, hik, rfl, hq, hs⟩
  refine XC.slots _ hs ?_
  (repeat' (first | (with_reducible apply XL.op) | ((with_reducible apply XOp.p1); (case hg | hv => exact rfl)) | ((with_reducible apply XOp.pr); (case hg => exact rfl); (case hr => ((with_reducible apply PR.idxA); (case ht | hk | he | hx | hi => exact rfl); (case hr => first | assumption | omega); (case ha => first | assumption | exact SlA.at_ (by assumption))))) | (with_reducible apply XL.nilT) | (with_reducible apply XC.seq) | (with_reducible apply XC.region (Γ := Γ)) | (with_reducible apply XQ.skip) | (with_reducible apply XQ.ret) | (with_reducible apply XQ.exit) | (with_reducible apply XQ.nt) | (with_reducible apply XQ.nb) | (with_reducible apply XQ.rt) | (with_reducible apply XQ.rb) | (with_reducible apply XQ.et) | (with_reducible apply XC.block) | ((with_reducible apply XQ.eb); (case hb => exact rfl)) | (first | ((with_reducible apply XOp.load); (case hg | ht | hk | hx => exact rfl); (case hc => exact Known.of_old (hA.int i (by omega)).1 (Mono.cell _ _))) | ((with_reducible apply XP.load); (case ho | hg | ht | hk | hx => exact rfl); (case hc => exact Known.of_old (hA.int i (by omega)).1 (Mono.cell _ _)))) | ((with_reducible apply XC.cond); (case hc => exact rfl); all_goals (intro hb_; try simp only [pd_true, pd_false, Bool.not_eq_true', Bool.not_eq_false', Bool.and_eq_true, Bool.and_eq_false_iff, Bool.or_eq_true, Bool.or_eq_false_iff, not_true_eq_false, not_false_eq_true, Int.not_lt, Int.not_le] at hb_))))
  · ((with_reducible apply XQ.retE); (case hr => exact .t rfl .nil))
    exact ⟨i, rfl, ⟨fun _ => List.mem_of_getElem? (i := i) (by rw [List.getElem?_eq_getElem (by omega)] at hb_ ⊢; simpa using hb_.symm), fun _ => by omega⟩, rfl⟩
  · refine ⟨k - 1, by omega, i + 1, by omega, rfl, fun j hj => ?_, rfl, rfl, rfl, intS (m := xs.length) (by omega) (by omega), trivial⟩
    by_cases h : j = i
    · subst h; rw [List.getElem?_eq_getElem (by omega)] at hb_ ⊢; simp at hb_ ⊢; exact fun e => hb_ e.symm
    · exact hq j (by omega)
  · ((with_reducible apply XQ.retE); (case hr => exact .t rfl .nil))
    refine ⟨-1, rfl, ⟨fun h => by omega, fun hm => ?_⟩, rfl⟩
    obtain ⟨j, hj⟩ := List.getElem?_of_mem hm
    exact absurd hj (hq j (by have := (List.getElem?_eq_some_iff.1 hj).1; omega))

theorem contains_fn (xs : List Int) (a : Option Addr) (cap : Nat) (v : Int) : FC Try.prog 35 [.slice a xs.length cap, .int .i64 v] [] (fun h => SlA (Kd.int .i64) 8 h xs a cap)
    (fun r L => r = .bool (pd (v ∈ xs)) ∧ L = []) := by
  refine FC.intro Try.func35 rfl (by kernel_rfl) 9 [.tmp 4] rfl rfl rfl ?_
  intro w0 hA
  (repeat (first | (with_reducible apply XL.op) | ((with_reducible apply XOp.p1); (case hg | hv => exact rfl)) | (with_reducible apply XL.nilT) | (with_reducible apply XC.seq) | (with_reducible apply XC.region (Γ := Γ))))
  ((with_reducible apply XOp.call (hF := index_fn xs a cap v)); (case hg => exact rfl); (case hc => exact rfl); (case ha => exact rfl); (case hL => exact (List.nil_append _).symm); try (case hA => exact Known.true))
  · exact Known.of_old hA (Mono.sl _ _ _ _ _)
  rintro _ _ ⟨j, rfl, hj, rfl⟩
  (repeat (first | (with_reducible apply XL.op) | ((with_reducible apply XOp.p1); (case hg | hv => exact rfl)) | (with_reducible apply XL.nilT) | (with_reducible apply XQ.ret)))
  ((with_reducible apply XQ.retE); (case hr => exact .t rfl .nil))
  refine ⟨?_, rfl⟩
  show Value.bool _ = Value.bool _
  congr 1
  rw [Bool.eq_iff_iff, pd_true, pd_true]; exact hj

theorem greatest_fn (a b : Int) : FC Try.prog 30 [.int .i64 a, .int .i64 b] [] (fun _ => True) (fun r L => r = .int .i64 (max a b) ∧ L = []) := by
  refine FC.intro Try.func30 rfl (by kernel_rfl) 10 [.tmp 4] rfl rfl rfl ?_
  intro w0 _
  (repeat' (first | (with_reducible apply XL.op) | ((with_reducible apply XOp.p1); (case hg | hv => exact rfl)) | (with_reducible apply XL.nilT) | (with_reducible apply XC.seq) | (with_reducible apply XC.region (Γ := Γ)) | (with_reducible apply XQ.skip) | (with_reducible apply XQ.ret) | (with_reducible apply XQ.nt) | (with_reducible apply XQ.rt) | ((with_reducible apply XC.cond); (case hc => exact rfl); all_goals (intro hb_; try simp only [pd_true, pd_false, Bool.not_eq_true', Bool.not_eq_false', Bool.and_eq_true, Bool.and_eq_false_iff, Bool.or_eq_true, Bool.or_eq_false_iff, not_true_eq_false, not_false_eq_true, Int.not_lt, Int.not_le] at hb_))))
  all_goals ((with_reducible apply XQ.retE); (case hr => exact .t rfl .nil))
  all_goals exact ⟨by show Value.int _ _ = Value.int _ _; congr 1; omega, rfl⟩
theorem least_fn (a b c : Int) : FC Try.prog 49 [.int .i64 a, .int .i64 b, .int .i64 c] [] (fun _ => True) (fun r L => r = .int .i64 (min (min a b) c) ∧ L = []) := by
  refine FC.intro Try.func49 rfl (by kernel_rfl) 16 [.tmp 6] rfl rfl rfl ?_
  intro w0 _
  (repeat' (first | (with_reducible apply XL.op) | ((with_reducible apply XOp.p1); (case hg | hv => exact rfl)) | (with_reducible apply XL.nilT) | (with_reducible apply XC.seq) | (with_reducible apply XC.region (Γ := Γ)) | (with_reducible apply XQ.skip) | (with_reducible apply XQ.ret) | (with_reducible apply XQ.nt) | ((with_reducible apply XC.cond); (case hc => exact rfl); all_goals (intro hb_; try simp only [pd_true, pd_false, Bool.not_eq_true', Bool.not_eq_false', Bool.and_eq_true, Bool.and_eq_false_iff, Bool.or_eq_true, Bool.or_eq_false_iff, not_true_eq_false, not_false_eq_true, Int.not_lt, Int.not_le] at hb_))))
  all_goals ((with_reducible apply XQ.retE); (case hr => exact .t rfl .nil))
  all_goals exact ⟨by show Value.int _ _ = Value.int _ _; congr 1; omega, rfl⟩

end Go.Proofs.YthnmagdaepgdiaaX
