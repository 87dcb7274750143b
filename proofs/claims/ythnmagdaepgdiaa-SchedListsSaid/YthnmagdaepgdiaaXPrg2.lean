/- The program's work: what is beyond. -/
import Derived.Test.YthnmagdaepgdiaaXPrg1
set_option linter.unusedSimpArgs false
set_option linter.unusedVariables false
namespace Go.Proofs.YthnmagdaepgdiaaX
open Go Go.SX

theorem incs_nil (counts : List Int) : incs counts [] = counts := by
  unfold incs; refine List.ext_getElem? fun i => ?_
  simp
theorem incs_get (counts held : List Int) (i : Nat) : (incs counts held)[i]? = (counts[i]?).map fun x => if (i : Int) ∈ held then x + 1 else x := by
  unfold incs; rw [List.getElem?_mapIdx]
theorem incs_length (counts held : List Int) : (incs counts held).length = counts.length := by unfold incs; simp
theorem incs_snoc {counts held : List Int} {b : Int} (hb : 0 ≤ b) (hn : b ∉ held) {x : Int} (hx : counts[b.toNat]? = some x) : (incs counts held).set b.toNat (x + 1) = incs counts (held ++ [b]) := by
  refine List.ext_getElem? fun i => ?_
  rw [List.getElem?_set, incs_get, incs_get]
  by_cases hi : b.toNat = i
  · subst hi
    have hl := (List.getElem?_eq_some_iff.1 hx).1
    have e : ((b.toNat : Nat) : Int) = b := by omega
    simp only [if_true, incs_length, hl, hx, e, Option.map_some, List.mem_append, List.mem_singleton, or_true]
  · rw [if_neg hi]
    congr 1; funext y
    have : ((i : Int) ∈ held ++ [b]) = ((i : Int) ∈ held) := by
      simp; intro h; omega
    simp only [this]
def zeros (counts : List Int) (held : List Int) : Nat := (held.filter fun b => decide (counts[b.toNat]?.getD 0 = 0)).length
theorem regain_fn (wb mb hb : Nat) (c : Srv) (ts vo vs : Value) (free left : Int) (hfr : -100000 ≤ free ∧ free ≤ 100000) (ob : Obj) (m : Int → Option Int) (hm : MapIs ob m) (counts : List Int) (hcn : ∀ x ∈ counts, -1000 ≤ x ∧ x ≤ 1000) (hn : counts.length ≤ 256)
    (s : Seat) (hnd : s.Held.Nodup) (hbd : ∀ b ∈ s.Held, 0 ≤ b ∧ b < counts.length) (sv : Option Addr) (sc : Nat) :
    FC Try.prog 59 [.pointer (some ⟨wb, 0, none⟩), .agg ⟨s.cells (.slice sv s.Held.length sc)⟩]
    [(wb, .cells ⟨wcp c ts mb hb counts.length free left vo vs⟩ 58 (0, 0)), (mb, ob), (hb, .cells ⟨counts.map (.int .i64)⟩ 3 (0, 0))] (fun h => SlA (Kd.int .i64) 8 h s.Held sv sc)
    (fun _ L => ∃ ob', MapIs ob' (fun k => if k = s.Id then none else m k) ∧
      L = [(wb, .cells ⟨wcp c ts mb hb counts.length (free - zeros counts s.Held) left vo vs⟩ 58 (0, 0)), (mb, ob'), (hb, .cells ⟨(incs counts s.Held).map (.int .i64)⟩ 3 (0, 0))]) := by
  refine FC.subl ?_
  refine FC.intro Try.func59 rfl (by kernel_rfl) 44 [] rfl rfl rfl ?_
  intro w0 hH
  have hg := hH.bytes
  (repeat (first | (with_reducible apply XL.op) | (with_reducible apply XC.seq) | (with_reducible apply XC.region (Γ := Γ))))
  ((with_reducible apply XOp.box); (case hg | hx' => exact rfl); intro sb)
  (repeat (first | (with_reducible apply XL.nilT) | (with_reducible apply XC.seq) | ((with_reducible apply XP.p1); (case ho | hg | hv => exact rfl)) | ((with_reducible apply XP.load); (case ho | hg | ht | hk | hx => exact rfl); (case hc => exact own_cell (i := 0) rfl rfl)) | ((with_reducible apply XP.load); (case ho | hg | ht | hk | hx => exact rfl); (case hc => exact own_cell (i := 1) rfl rfl)) | ((with_reducible apply XP.e); (first | ((with_reducible apply XE.d); (case ho => exact rfl); (case hd => exact rfl)) | ((with_reducible apply XE.e); (case ho => exact rfl)))) | ((with_reducible apply XC.regionD (Γ := Γ) mixed (.q 0 (.q 1 (.q 2 (.q 3 (.q 4 (.q 5 (.e 6 (.done)))))))) [6] []); (case hc => kernel_rfl)) | (first | ((with_reducible apply XOp.pr); (case hg => exact rfl); (case hr => (with_reducible apply PR.lookup (i := 2)); (case ht => exact rfl); (case hk => exact rfl); (case hte => exact rfl); (case hkt => exact rfl); (case he => exact rfl); (case hz => exact rfl); (case hx => exact rfl); (case hi => exact rfl); (case hL => exact rfl); (case hm => exact  hm))) | ((with_reducible apply XP.pr); (case ho => exact rfl); (case hg => exact rfl); (case hr => (with_reducible apply PR.lookup (i := 2)); (case ht => exact rfl); (case hk => exact rfl); (case hte => exact rfl); (case hkt => exact rfl); (case he => exact rfl); (case hz => exact rfl); (case hx => exact rfl); (case hi => exact rfl); (case hL => exact rfl); (case hm => exact  hm))))))
  ((with_reducible apply XOp.delete (i := 2)); (case hg => exact rfl); (case ht => exact rfl); (case hk => exact rfl); (case hte => exact rfl); (case hkt => exact rfl); (case hx => exact rfl); (case hy => exact rfl); (case hL => exact rfl); (case hm => exact  hm))
  intro ob2 hm2
  (repeat (first | (with_reducible apply XL.op) | ((with_reducible apply XOp.p1); (case hg | hv => exact rfl)) | ((with_reducible apply XOp.load); (case hg | ht | hk | hx => exact rfl); (case hc => exact own_cell (i := 0) rfl rfl)) | (with_reducible apply XL.nilT) | (with_reducible apply XC.seq) | (with_reducible apply XC.region (Γ := Γ)) | (with_reducible apply XQ.nt) | (with_reducible apply XC.block) | (with_reducible apply XP.done)))
  refine XC.loop (fun k ρ L => ∃ j : Nat, j + k = s.Held.length ∧ L = [(sb, .cells ⟨s.cells (.slice sv s.Held.length sc)⟩ 46 (0, 0)), (wb, .cells ⟨wcp c ts mb hb counts.length (free - zeros counts (s.Held.take j)) left vo vs⟩ 58 (0, 0)), (mb, ob2),
      (hb, .cells ⟨(incs counts (s.Held.take j)).map (.int .i64)⟩ 3 (0, 0))] ∧
      Slots ρ [(0, .pointer (some ⟨wb, 0, none⟩)), (13, .slice sv s.Held.length sc), (14, .int .i64 s.Held.length), (15, .int .i64 j)]) s.Held.length
      ⟨0, by simp, by simp [zeros, incs_nil], rfl, rfl, rfl, rfl, trivial⟩ ?_
  rintro k ρ L ⟨j, hjk, rfl, hs⟩
  refine XC.slots _ hs ?_
  (repeat (first | (with_reducible apply XL.op) | ((with_reducible apply XOp.p1); (case hg | hv => exact rfl)) | (with_reducible apply XL.nilT) | (with_reducible apply XC.seq) | (with_reducible apply XC.region (Γ := Γ))))
  ((with_reducible apply XC.cond); (case hc => exact rfl); all_goals (intro hb_; try simp only [pd_true, pd_false, Bool.not_eq_true', Bool.not_eq_false', Bool.and_eq_true, Bool.and_eq_false_iff, Bool.or_eq_true, Bool.or_eq_false_iff, not_true_eq_false, not_false_eq_true, Int.not_lt, Int.not_le] at hb_))
  · obtain ⟨b, hj⟩ : ∃ b, s.Held[j]? = some b := ⟨_, List.getElem?_eq_getElem (by omega)⟩
    have hcell := (hH.int j (by omega)).1
    simp only [hj, Option.getD_some] at hcell
    have hbb := hbd b (List.mem_of_getElem? hj)
    obtain ⟨x, hx⟩ : ∃ x, counts[b.toNat]? = some x := ⟨_, List.getElem?_eq_getElem (by omega)⟩
    have hxb := hcn x (List.mem_of_getElem? hx)
    have hnj : b ∉ s.Held.take j := fun h => dup_of hj h hnd
    have hdx : (incs counts (s.Held.take j))[b.toNat]? = some x := by
      rw [incs_get, hx]
      have e : ((b.toNat : Nat) : Int) = b := by omega
      simp [e, hnj]
    have hdc : ((incs counts (s.Held.take j)).map (Value.int .i64))[0 + b.toNat * 1]? = some (.int .i64 x) := by
      rw [show 0 + b.toNat * 1 = b.toNat by omega, List.getElem?_map, hdx]; rfl
    (repeat (first | (with_reducible apply XL.op) | ((with_reducible apply XOp.p1); (case hg | hv => exact rfl)) | ((with_reducible apply XOp.load); (case hg | ht | hk | hx => exact rfl); (case hc => exact own_cell (i := 1) rfl rfl)) | ((with_reducible apply XOp.pr); (case hg => exact rfl); (case hr => ((with_reducible apply PR.idxA); (case ht | hk | he | hx | hi => exact rfl); (case hr => first | assumption | omega); (case ha => first | assumption | exact SlA.at_ (by assumption))))) | ((with_reducible apply XOp.pr); (case hg => exact rfl); (case hr => ((with_reducible apply PR.idx); (case ht | hk | he | hx | hi => exact rfl); (case hr => first | assumption | omega)))) | (with_reducible apply XL.nilT) | (with_reducible apply XC.seq) | (with_reducible apply XC.region (Γ := Γ)) | (with_reducible apply XQ.skip) | (with_reducible apply XQ.nt) | (with_reducible apply XC.block) | (first | ((with_reducible apply XOp.load); (case hg | ht | hk | hx => exact rfl); (case hc => exact Known.of_old hcell (Mono.cell _ _))) | ((with_reducible apply XP.load); (case ho | hg | ht | hk | hx => exact rfl); (case hc => exact Known.of_old hcell (Mono.cell _ _)))) | (first | ((with_reducible apply XOp.load); (case hg | ht | hk | hx => exact rfl); (case hc => exact Known.bcell (List.mem_cons_of_mem _ (List.mem_cons_of_mem _ (List.mem_cons_of_mem _ (List.mem_cons_self ..)))) hdc)) | ((with_reducible apply XP.load); (case ho | hg | ht | hk | hx => exact rfl); (case hc => exact Known.bcell (List.mem_cons_of_mem _ (List.mem_cons_of_mem _ (List.mem_cons_of_mem _ (List.mem_cons_self ..)))) hdc)))))
    have hset : ((incs counts (s.Held.take j)).map (Value.int .i64)).set (0 + b.toNat * 1) (.int .i64 (IntKind.i64.wrap (x + 1))) = (incs counts (s.Held.take (j + 1))).map (.int .i64) := by
      rw [wrap64_of (by omega) (by omega), show 0 + b.toNat * 1 = b.toNat by omega, take_snoc hj, ← incs_snoc hbb.1 hnj hx, List.map_set]
    ((with_reducible apply XOp.storeAt (i := 3)); (case hg => exact rfl); (case ht => exact rfl); (case hk => exact rfl); (case hx => exact rfl); (case hv' => exact rfl); (case h1 => exact rfl); (case hi => exact rfl); (case hoff =>  show 0 + b.toNat * 1 < _; rw [List.length_map, incs_length]; omega); (case ha => exact rfl))
    refine XL.perm (L' := [(sb, .cells ⟨s.cells (.slice sv s.Held.length sc)⟩ 46 (0, 0)), (wb, .cells ⟨wcp c ts mb hb counts.length (free - zeros counts (s.Held.take j)) left vo vs⟩ 58 (0, 0)), (mb, ob2),
      (hb, .cells ⟨(incs counts (s.Held.take (j + 1))).map (.int .i64)⟩ 3 (0, 0))]) ?_ (List.Perm.of_eq (by rw [← hset]))
    have hdc2 : ((incs counts (s.Held.take (j + 1))).map (Value.int .i64))[0 + b.toNat * 1]? = some (.int .i64 (x + 1)) := by
      rw [← hset, List.getElem?_set_self (by rw [List.length_map, incs_length]; omega), wrap64_of (by omega) (by omega)]
    (repeat (first | (with_reducible apply XL.op) | ((with_reducible apply XOp.p1); (case hg | hv => exact rfl)) | ((with_reducible apply XOp.load); (case hg | ht | hk | hx => exact rfl); (case hc => exact own_cell (i := 1) rfl rfl)) | ((with_reducible apply XOp.pr); (case hg => exact rfl); (case hr => ((with_reducible apply PR.idx); (case ht | hk | he | hx | hi => exact rfl); (case hr => first | assumption | omega)))) | (with_reducible apply XL.nilT) | (with_reducible apply XC.seq) | (with_reducible apply XC.region (Γ := Γ)) | (first | ((with_reducible apply XOp.load); (case hg | ht | hk | hx => exact rfl); (case hc => exact Known.bcell (List.mem_cons_of_mem _ (List.mem_cons_of_mem _ (List.mem_cons_of_mem _ (List.mem_cons_self ..)))) hdc2)) | ((with_reducible apply XP.load); (case ho | hg | ht | hk | hx => exact rfl); (case hc => exact Known.bcell (List.mem_cons_of_mem _ (List.mem_cons_of_mem _ (List.mem_cons_of_mem _ (List.mem_cons_self ..)))) hdc2)))))
    have hon : zeros counts (s.Held.take (j + 1)) = zeros counts (s.Held.take j) + (if x = 0 then 1 else 0) := by
      unfold zeros
      rw [take_snoc hj, List.filter_append, List.length_append]
      congr 1
      by_cases h : x = 0 <;> simp [hx, h]
    have hol : zeros counts (s.Held.take j) ≤ s.Held.length := by
      unfold zeros; have := List.length_filter_le (fun b : Int => decide (counts[b.toNat]?.getD 0 = 0)) (s.Held.take j); rw [List.length_take] at this; omega
    ((with_reducible apply XC.cond); (case hc => exact rfl); all_goals (intro hb_; try simp only [pd_true, pd_false, Bool.not_eq_true', Bool.not_eq_false', Bool.and_eq_true, Bool.and_eq_false_iff, Bool.or_eq_true, Bool.or_eq_false_iff, not_true_eq_false, not_false_eq_true, Int.not_lt, Int.not_le] at hb_))
    · rw [if_pos (by omega)] at hon
      have ew : IntKind.i64.wrap (free - zeros counts (s.Held.take j) - 1) = free - (zeros counts (s.Held.take (j + 1)) : Nat) := by
        rw [wrap64_of (by omega) (by omega), hon]; omega
      (repeat (first | (with_reducible apply XL.op) | ((with_reducible apply XOp.p1); (case hg | hv => exact rfl)) | ((with_reducible apply XOp.load); (case hg | ht | hk | hx => exact rfl); (case hc => exact own_cell (i := 1) rfl rfl)) | ((with_reducible apply XOp.store (i := 1)); (case hg | ht | hk | hx | hv | h1 | hi | hs | ha => exact rfl)) | (with_reducible apply XL.nilT) | (with_reducible apply XC.region (Γ := Γ)) | (with_reducible apply XL.nilQ) | (with_reducible apply XQ.nt) | (with_reducible apply XQ.nb)))
      exact ⟨k - 1, by omega, j + 1, by omega, by rw [← ew]; rfl, rfl, rfl, rfl, intS (m := s.Held.length) (by omega) (by omega), trivial⟩
    · rw [if_neg (by omega)] at hon
      (repeat (first | (with_reducible apply XL.op) | ((with_reducible apply XOp.p1); (case hg | hv => exact rfl)) | (with_reducible apply XL.nilT) | (with_reducible apply XC.region (Γ := Γ)) | (with_reducible apply XQ.skip) | (with_reducible apply XQ.nt) | (with_reducible apply XQ.nb)))
      exact ⟨k - 1, by omega, j + 1, by omega, by rw [hon]; rfl, rfl, rfl, rfl, intS (m := s.Held.length) (by omega) (by omega), trivial⟩
  · obtain rfl : j = s.Held.length := by omega
    rw [List.take_length]
    (repeat (first | (with_reducible apply XQ.exit) | (with_reducible apply XQ.et) | ((with_reducible apply XQ.eb); (case hb => exact rfl))))
    ((with_reducible apply XQ.norE); (case hr => exact .nil))
    exact ⟨_, List.Sublist.cons _ (List.Sublist.refl _), ob2, hm2, rfl⟩
end Go.Proofs.YthnmagdaepgdiaaX
