/- The program's copy of the seats. -/
import Derived.Test.YthnmagdaepgdiaaXPrg4
import Derived.Test.YthnmagdaepgdiaaXFlat
set_option linter.unusedSimpArgs false
set_option linter.unusedVariables false
namespace Go.Proofs.YthnmagdaepgdiaaX
open Go Go.SX

/-- A seat, and where its blocks' numbers lie. -/
abbrev SV := Seat × Option Addr × Nat
def sxv (x : SV) : List Value := x.1.cells (.slice x.2.1 x.1.Held.length x.2.2)
def svK : Kd SV := ⟨5, fun h x cs => cs = sxv x ∧ SlA (Kd.int .i64) 8 h x.1.Held x.2.1 x.2.2 ∧ x.1.ok, fun ⟨h, _⟩ => by rw [h]; rfl,
  fun m ⟨h1, h2, h3⟩ => ⟨h1, h2.mono m, h3⟩⟩
theorem sxv_len (x : SV) : (sxv x).length = 5 := rfl
theorem sxv_one (x : SV) : ∀ v ∈ sxv x, v.oneCell' = true := by
  intro v hv
  simp [sxv, Go.SX.Seat.cells] at hv
  rcases hv with rfl | rfl | rfl | rfl | rfl <;> rfl
theorem sv_of {h : HV} {seats : List Seat} {a : Option Addr} {cap : Nat} (s : SlA seatK 56 h seats a cap) : ∃ sv : List SV, sv.map (·.1) = seats ∧ SlA svK 56 h sv a cap := by
  have hex : ∀ i : Fin seats.length, ∃ x : SV, x.1 = seats[i] ∧ rowv h (ablk a) (aoff a + i * 5) (sxv x) ∧ SlA (Kd.int .i64) 8 h x.1.Held x.2.1 x.2.2 ∧ x.1.ok := fun i => by
    have hi : seats[i.val]? = some seats[i] := List.getElem?_eq_getElem i.isLt
    obtain ⟨ah, ch, h1, h2, h3⟩ := SlA_seat s hi
    exact ⟨(seats[i], ah, ch), rfl, h1, h2, h3⟩
  have hlen : (List.ofFn fun i => (hex i).choose).length = seats.length := by simp
  refine ⟨List.ofFn fun i => (hex i).choose, ?_, ?_⟩
  · refine List.ext_getElem (by simp) fun i h1 h2 => ?_
    simp only [List.getElem_map, List.getElem_ofFn]
    exact (hex ⟨i, h2⟩).choose_spec.1
  · refine ⟨by rw [hlen]; exact s.le, by rw [hlen]; exact s.bytes, s.nil, fun hp => s.at_ (by rwa [hlen] at hp), fun i x hx => ?_⟩
    have hi : i < seats.length := by have := (List.getElem?_eq_some_iff.1 hx).1; rwa [hlen] at this
    rw [List.getElem?_ofFn, dif_pos hi] at hx
    cases hx
    obtain ⟨e1, e2, e3, e4⟩ := (hex ⟨i, hi⟩).choose_spec
    exact ⟨_, ⟨rfl, e3, e4⟩, e2⟩
theorem sv_at {h : HV} {sv : List SV} {a : Option Addr} {cap : Nat} (s : SlA svK 56 h sv a cap) {i : Nat} {x : SV} (hi : sv[i]? = some x) :
    rowv h (ablk a) (aoff a + i * 5) (sxv x) ∧ SlA (Kd.int .i64) 8 h x.1.Held x.2.1 x.2.2 ∧ x.1.ok := by
  obtain ⟨c, ⟨rfl, h1, h2⟩, hr⟩ := s.row i x hi
  exact ⟨hr, h1, h2⟩

theorem clone_fn (sv : List SV) (a : Option Addr) (cap : Nat) : FC Try.prog 42 [.slice a sv.length cap] [] (fun h => SlA svK 56 h sv a cap)
    (fun v L => OwnS 46 5 v sv.length (sv.flatMap sxv) L) := by
  refine FC.intro Try.func42 rfl (by kernel_rfl) 8 [.tmp 2] rfl rfl rfl ?_
  intro w0 hA
  have hsm := hA.bytes
  (repeat (first | (with_reducible apply XL.op) | ((with_reducible apply XOp.p1); (case hg | hv => exact rfl)) | (with_reducible apply XL.nilT) | (with_reducible apply XC.seq) | (with_reducible apply XC.region (Γ := Γ)) | (first | ((with_reducible apply XOp.pr); (case hg => exact rfl); (case hr => (with_reducible apply PR.eqNilS); (case ht => exact rfl); (case hk => exact rfl); (case hx => exact rfl); (case hy => exact rfl))) | ((with_reducible apply XP.pr); (case ho => exact rfl); (case hg => exact rfl); (case hr => (with_reducible apply PR.eqNilS); (case ht => exact rfl); (case hk => exact rfl); (case hx => exact rfl); (case hy => exact rfl))))))
  ((with_reducible apply XC.cond); (case hc => exact rfl); all_goals (intro hb_; try simp only [pd_true, pd_false, Bool.not_eq_true', Bool.not_eq_false', Bool.and_eq_true, Bool.and_eq_false_iff, Bool.or_eq_true, Bool.or_eq_false_iff, not_true_eq_false, not_false_eq_true, Int.not_lt, Int.not_le] at hb_))
  · have : a = none := by cases a <;> simp_all
    subst this
    have hc := hA.nil rfl
    have hl := hA.le
    obtain rfl : sv = [] := List.eq_nil_of_length_eq_zero (by omega)
    (repeat (first | (with_reducible apply XL.op) | ((with_reducible apply XOp.p1); (case hg | hv => exact rfl)) | (with_reducible apply XL.nilT) | (with_reducible apply XC.seq) | (with_reducible apply XC.region (Γ := Γ)) | (with_reducible apply XQ.ret) | (with_reducible apply XQ.rt)))
    ((with_reducible apply XQ.retE); (case hr => exact .t rfl .nil))
    exact OwnS.nil _ _
  · (repeat (first | (with_reducible apply XL.op) | (with_reducible apply XC.seq) | (with_reducible apply XC.region (Γ := Γ)) | (with_reducible apply XQ.skip) | (with_reducible apply XQ.nt)))
    ((with_reducible apply XOp.buildSlice0); (case hg | ht | hk | he => exact rfl); intro bb)
    (repeat (first | (with_reducible apply XL.op) | ((with_reducible apply XOp.p1); (case hg | hv => exact rfl))))
    ((with_reducible apply XOp.appendG); (case hg => exact rfl); (case ht => exact rfl); (case hk => exact rfl); (case he => exact rfl); (case hs => exact rfl); (case hx => exact rfl); (case hown => exact OwnS.empty); (case hL => rfl); (case ha => exact hA.at_); (case hc => exact fun _ => Known.of_old (rows_flat sxv 5 sxv_len sv (aoff a) fun i x hi => (sv_at hA hi).1) (Mono.row _ _ _)); (case hl => exact flat_len sxv 5 sxv_len sv); (case h1 => exact List.all_eq_true.2 fun v hv => by obtain ⟨x, _, hx⟩ := List.mem_flatMap.1 hv; exact sxv_one x v hx); (case hz => exact rfl); (case hsz => exact Nat.zero_lt_succ _); (case h63 => simp only [maxLen]; omega); (case hb => simp only []; omega))
    intro v' F' hown
    obtain ⟨a', c', rfl⟩ := hown.val
    (repeat (first | (with_reducible apply XL.op) | ((with_reducible apply XOp.p1); (case hg | hv => exact rfl)) | (with_reducible apply XL.nilT) | (with_reducible apply XQ.ret)))
    ((with_reducible apply XQ.retE); (case hr => exact .t rfl .nil))
    rw [List.append_nil]
    exact hown.conv (by simp) (by simp)
end Go.Proofs.YthnmagdaepgdiaaX
