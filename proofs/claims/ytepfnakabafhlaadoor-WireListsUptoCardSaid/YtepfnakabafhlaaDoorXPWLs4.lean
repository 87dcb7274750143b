/- strconv.FormatUint. -/
import Derived.Test.YtepfnakabafhlaaDoorXPWLs3
set_option linter.unusedSimpArgs false
set_option linter.unusedVariables false
namespace Go.SX
open Go Go.RowKit
section
variable {P : Program} {Γ : Env P} {n : Nat} {w0 : World} {K : List Nat} {ρ : Fr} {L : HL}
theorem tk_arr {t : Nat} {r : TR} {m e : Nat} (h : TypeIs P t r) (hk : r.k = .array m e) : P.underlying t = some (.array m e) := tk_array h hk
/-- x[:j] of an array behind a pointer. -/
theorem PR.arrTo {t e m b o : Nat} {x y : Operand} {r re : TR} {k : IntKind} {j : Int} (ht : Γ.get t = some r) (hk : r.k = .array m e) (he : Γ.get e = some re) (hx : ev n ρ x = .pointer (some ⟨b, o, none⟩))
    (hy : ev n ρ y = .int k j) (hb : 0 ≤ j ∧ j ≤ m) (hm : m ≠ 0) : PR Γ n w0 K ρ L (.slice t x none (some y) none) (.slice (some ⟨b, o, none⟩) j.toNat m) := ⟨fun oo ho w ow => by
  unfold execOp; rw [ho]
  refine run_value ?_
  have h1 := underlying_run (tk_array (Γ.is ht) hk) w
  have h2 := size_run (Γ.is he) w
  have hbs := bounds_run (P := P) (sl := false) (len := m) (cap := m) (lo := 0) (hi := j.toNat) (vl := none) (vh := some (.int k j)) rfl ⟨k, j, rfl, hb.1, rfl⟩ ⟨by omega, by omega⟩ w
  simp only [Instr.sliceAt, Option.map_some, Option.map_none, hx, hy]
  rw [bind_run h1]
  simp only
  show (((pure _ : Sem Addr) >>= _) : Sem Value).run P w = _
  have key : ((Instr.sliceBounds false m m none (some (.int k j)) none) >>= fun x => match x with | (l, h, m') => (sizeOf e) >>= fun size => pure (Value.slice (some (if m' = l then (⟨b, o, none⟩ : Addr) else (⟨b, o, none⟩ : Addr).add (l * size))) (h - l) (m' - l)) : Sem Value).run P w = .ok (.slice (some ⟨b, o, none⟩) j.toNat m) w := by
    rw [bind_run hbs]
    simp only
    rw [bind_run h2]
    rw [if_neg hm, Nat.zero_mul, add_off]; rfl
  exact key⟩
end
end Go.SX
namespace Go.Proofs.YtepfnakabafhlaaDoorX
open Go Go.SX Go.RowKit
theorem small_fn (u : Nat) (h : u < 100) : FC Tryd.prog 72 [.int .i64 u] [] (fun _ => True) (fun v L => v = .string (strOf (decL u)) ∧ L = []) := by
  refine FC.ofCalls (by kernel_rfl) fun w _ => (Tryd.internal_strconv_small u h w).mono ?_
  rintro e w' ⟨rfl, rfl⟩
  exact ⟨_, rfl, by unfold decL; rw [strOf_ib], Below.refl _ _⟩
theorem nDigits_fn (u : Nat) (h1 : 1 ≤ u) (h2 : u < 18446744073709551616) : FC Tryd.prog 73 [.int .u64 u] [] libK (fun v L => v = .int .i64 (Lib.nDigits u) ∧ L = []) := by
  refine FC.ofCalls (by kernel_rfl) fun w hw => (Tryd.internal_strconv_numDigits u h1 h2 w (tab_of hw)).mono ?_
  rintro e w' ⟨rfl, rfl⟩
  exact ⟨_, rfl, rfl, Below.refl _ _⟩
theorem base10_fn (ab t cap : Nat) (rest : List Value) (u : Nat) (h2 : u < 18446744073709551616) : FC Tryd.prog 74 [.slice (some ⟨ab, 0, none⟩) (Lib.nDigits u) cap, .int .u64 u]
    [(ab, .cells ⟨List.replicate (Lib.nDigits u) (.int .u8 0) ++ rest⟩ t (0, 0))] (fun _ => True) (fun _ L => L = [(ab, .cells ⟨(decL u).map (.int .u8) ++ rest⟩ t (0, 0))]) := by
  refine ⟨by kernel_rfl, fun w hh _ _ => ?_⟩
  have hw : w.heap[ab]? = some (.cells ⟨List.replicate (Lib.nDigits u) (.int .u8 0) ++ rest⟩ t (0, 0)) := hh _ (List.mem_singleton.2 rfl)
  have hab : ab < w.heap.size := (Array.getElem?_eq_some_iff.1 hw).1
  have hd20 := Lib.nDigits_le20 u h2
  have hH : Sort.Holds (fun (b : UInt8) => Value.int .u8 (b.toNat : Int)) w ab 0 (Array.replicate (Lib.nDigits u) (0 : UInt8)) := fun j hj => by
    have hj' : j < Lib.nDigits u := by simpa using hj
    have e0 : (Array.replicate (Lib.nDigits u) (0 : UInt8))[j]! = 0 := by simp [hj']
    rw [e0, Nat.zero_add]
    constructor
    · unfold World.cell?
      rw [hw]
      simp only [Option.isSome_none, Bool.false_eq_true, if_false, List.getElem?_toArray]
      rw [List.getElem?_append_left (by simpa using hj'), List.getElem?_replicate, if_pos hj']; rfl
    · simp [World.frozen?, hw]
  have hc := Tryd.internal_strconv_formatBase10 ab 0 cap u (Array.replicate (Lib.nDigits u) 0) w hH (by simpa using Lib.lt_pow_nDigits u) h2 (by simp; omega)
  rw [Array.size_replicate] at hc
  refine hc.mono ?_
  rintro e w' ⟨rfl, n, v', dk, rfl, hI⟩
  have hsz : dk.size = Lib.nDigits u := hI.size
  have hdl : (decL u).length = Lib.nDigits u := by unfold decL ib; rw [List.length_map, Lib.decDigits_length]
  refine ⟨_, _, rfl, ⟨?_, rfl, rfl, rfl, ?_, by simp [keys], ?_, ?_⟩, rfl⟩
  · show w.heap.size ≤ (w.heap.modify _ _).size; simp
  · intro x hx
    rw [List.mem_singleton.1 hx]
    show (w.heap.modify ab _)[ab]? = _
    rw [Array.getElem?_modify, if_pos rfl, hw]
    show some (Obj.cells (Sort.putCells _ 0 dk ⟨List.replicate (Lib.nDigits u) (.int .u8 0) ++ rest⟩) t (0, 0)) = _
    congr 2
    unfold Sort.putCells
    refine Array.ext' ?_
    rw [Array.toList_mapIdx]
    refine List.ext_getElem? fun i => ?_
    rw [List.getElem?_mapIdx]
    show Option.map _ ((List.replicate (Lib.nDigits u) (Value.int .u8 0) ++ rest)[i]?) = ((decL u).map (Value.int .u8) ++ rest)[i]?
    by_cases hi : i < Lib.nDigits u
    · rw [List.getElem?_append_left (by simpa using hi), List.getElem?_append_left (by rw [List.length_map]; omega), List.getElem?_replicate, if_pos hi, List.getElem?_map]
      simp only [Option.map_some]
      rw [if_pos ⟨Nat.zero_le _, by omega⟩, Nat.sub_zero]
      have hi2 : i < (Lib.decDigits u).length := by rw [Lib.decDigits_length]; exact hi
      have h3 := Lib.row_is_numeral hI i hi2
      unfold decL ib
      rw [List.getElem?_map, List.getElem?_eq_getElem hi2, h3]; rfl
    · rw [List.getElem?_append_right (by simpa using hi), List.getElem?_append_right (by rw [List.length_map]; omega), List.length_replicate, List.length_map, hdl]
      cases e : rest[i - Lib.nDigits u]? with
      | none => rfl
      | some x => simp only [Option.map_some]; rw [if_neg (by omega)]
  · intro b hb hk
    have hne : ab ≠ b := fun e => hk (by simp [keys, e])
    show (w.heap.modify ab _)[b]? = _
    rw [Array.getElem?_modify, if_neg hne]
  · intro x hx _
    rw [List.mem_singleton.1 hx]; simp [keys]
theorem ifmtU_fn (u : Nat) (h2 : u < 18446744073709551616) : FC Tryd.prog 66 [.int .u64 u, .int .i64 10] [] libK (fun v L => v = .string (strOf (decL u)) ∧ L = []) := by
  refine FC.nil ?_
  refine FC.intro Tryd.func66 rfl (by kernel_rfl) 32 [.tmp 4] rfl rfl rfl ?_
  intro w0 hK
  have hd20 := Lib.nDigits_le20 u h2
  have hdl : (decL u).length = Lib.nDigits u := by unfold decL ib; rw [List.length_map, Lib.decDigits_length]
  by_cases h : u < 100
  · have e : IntKind.i64.wrap (u : Int) = (u : Int) := wrap64_of (by omega) (by omega)
    (repeat (first | (with_reducible apply XL.op) | ((with_reducible apply XOp.p1); (case hg | hv => exact rfl)) | (with_reducible apply XL.nilT) | (with_reducible apply XC.seq) | (with_reducible apply XC.region (Γ := Γ)) | (first | ((with_reducible apply XOp.split); (case hg | hj | hd | hb => exact rfl); (fail_if_success (case hf => exact fun h => Bool.noConfusion h)); (fail_if_success (case ht => exact fun h => Bool.noConfusion h)); (first | (case ht => intro hb_; try simp only [pd_true, pd_false, Bool.not_eq_true', Bool.not_eq_false', Bool.and_eq_true, Bool.and_eq_false_iff, Bool.or_eq_true, Bool.or_eq_false_iff, not_true_eq_false, not_false_eq_true, Int.not_lt, Int.not_le] at hb_; first | done | (exfalso; first | omega | contradiction)) | (case hf => intro hb_; try simp only [pd_true, pd_false, Bool.not_eq_true', Bool.not_eq_false', Bool.and_eq_true, Bool.and_eq_false_iff, Bool.or_eq_true, Bool.or_eq_false_iff, not_true_eq_false, not_false_eq_true, Int.not_lt, Int.not_le] at hb_; first | done | (exfalso; first | omega | contradiction))); intro hb_; try simp only [pd_true, pd_false, Bool.not_eq_true', Bool.not_eq_false', Bool.and_eq_true, Bool.and_eq_false_iff, Bool.or_eq_true, Bool.or_eq_false_iff, not_true_eq_false, not_false_eq_true, Int.not_lt, Int.not_le] at hb_) | ((with_reducible apply XP.split); (case ho | hg | hj | hd | hb => exact rfl); (fail_if_success (case hf => exact fun h => Bool.noConfusion h)); (fail_if_success (case ht => exact fun h => Bool.noConfusion h)); (first | (case ht => intro hb_; try simp only [pd_true, pd_false, Bool.not_eq_true', Bool.not_eq_false', Bool.and_eq_true, Bool.and_eq_false_iff, Bool.or_eq_true, Bool.or_eq_false_iff, not_true_eq_false, not_false_eq_true, Int.not_lt, Int.not_le] at hb_; first | done | (exfalso; first | omega | contradiction)) | (case hf => intro hb_; try simp only [pd_true, pd_false, Bool.not_eq_true', Bool.not_eq_false', Bool.and_eq_true, Bool.and_eq_false_iff, Bool.or_eq_true, Bool.or_eq_false_iff, not_true_eq_false, not_false_eq_true, Int.not_lt, Int.not_le] at hb_; first | done | (exfalso; first | omega | contradiction))); intro hb_; try simp only [pd_true, pd_false, Bool.not_eq_true', Bool.not_eq_false', Bool.and_eq_true, Bool.and_eq_false_iff, Bool.or_eq_true, Bool.or_eq_false_iff, not_true_eq_false, not_false_eq_true, Int.not_lt, Int.not_le] at hb_) | ((with_reducible apply XC.cond); (case hc => exact rfl); (first | (case ht => intro hb_; try simp only [pd_true, pd_false, Bool.not_eq_true', Bool.not_eq_false', Bool.and_eq_true, Bool.and_eq_false_iff, Bool.or_eq_true, Bool.or_eq_false_iff, not_true_eq_false, not_false_eq_true, Int.not_lt, Int.not_le] at hb_; first | done | (exfalso; first | omega | contradiction)) | (case hf => intro hb_; try simp only [pd_true, pd_false, Bool.not_eq_true', Bool.not_eq_false', Bool.and_eq_true, Bool.and_eq_false_iff, Bool.or_eq_true, Bool.or_eq_false_iff, not_true_eq_false, not_false_eq_true, Int.not_lt, Int.not_le] at hb_; first | done | (exfalso; first | omega | contradiction))); intro hb_; try simp only [pd_true, pd_false, Bool.not_eq_true', Bool.not_eq_false', Bool.and_eq_true, Bool.and_eq_false_iff, Bool.or_eq_true, Bool.or_eq_false_iff, not_true_eq_false, not_false_eq_true, Int.not_lt, Int.not_le] at hb_))))
    rw [e]
    (repeat (first | (with_reducible apply XL.op) | ((with_reducible apply XOp.p1); (case hg | hv => exact rfl)) | (with_reducible apply XL.nilT) | (with_reducible apply XQ.ret) | (with_reducible apply XQ.rt) | (((with_reducible apply XOp.callQ (hF := small_fn u h)); (case hg => exact rfl); (case hc => exact rfl); (case ha => exact rfl); try (case hA => exact Known.true)); rintro _ rfl)))
    ((with_reducible apply XQ.retE); (case hr => exact .t rfl .nil))
    rfl
  · (repeat (first | (with_reducible apply XL.op) | ((with_reducible apply XOp.p1); (case hg | hv => exact rfl)) | (with_reducible apply XL.nilT) | (with_reducible apply XC.seq) | (with_reducible apply XC.region (Γ := Γ)) | (with_reducible apply XQ.skip) | (with_reducible apply XQ.nt) | (first | ((with_reducible apply XOp.split); (case hg | hj | hd | hb => exact rfl); (fail_if_success (case hf => exact fun h => Bool.noConfusion h)); (fail_if_success (case ht => exact fun h => Bool.noConfusion h)); (first | (case ht => intro hb_; try simp only [pd_true, pd_false, Bool.not_eq_true', Bool.not_eq_false', Bool.and_eq_true, Bool.and_eq_false_iff, Bool.or_eq_true, Bool.or_eq_false_iff, not_true_eq_false, not_false_eq_true, Int.not_lt, Int.not_le] at hb_; first | done | (exfalso; first | omega | contradiction)) | (case hf => intro hb_; try simp only [pd_true, pd_false, Bool.not_eq_true', Bool.not_eq_false', Bool.and_eq_true, Bool.and_eq_false_iff, Bool.or_eq_true, Bool.or_eq_false_iff, not_true_eq_false, not_false_eq_true, Int.not_lt, Int.not_le] at hb_; first | done | (exfalso; first | omega | contradiction))); intro hb_; try simp only [pd_true, pd_false, Bool.not_eq_true', Bool.not_eq_false', Bool.and_eq_true, Bool.and_eq_false_iff, Bool.or_eq_true, Bool.or_eq_false_iff, not_true_eq_false, not_false_eq_true, Int.not_lt, Int.not_le] at hb_) | ((with_reducible apply XP.split); (case ho | hg | hj | hd | hb => exact rfl); (fail_if_success (case hf => exact fun h => Bool.noConfusion h)); (fail_if_success (case ht => exact fun h => Bool.noConfusion h)); (first | (case ht => intro hb_; try simp only [pd_true, pd_false, Bool.not_eq_true', Bool.not_eq_false', Bool.and_eq_true, Bool.and_eq_false_iff, Bool.or_eq_true, Bool.or_eq_false_iff, not_true_eq_false, not_false_eq_true, Int.not_lt, Int.not_le] at hb_; first | done | (exfalso; first | omega | contradiction)) | (case hf => intro hb_; try simp only [pd_true, pd_false, Bool.not_eq_true', Bool.not_eq_false', Bool.and_eq_true, Bool.and_eq_false_iff, Bool.or_eq_true, Bool.or_eq_false_iff, not_true_eq_false, not_false_eq_true, Int.not_lt, Int.not_le] at hb_; first | done | (exfalso; first | omega | contradiction))); intro hb_; try simp only [pd_true, pd_false, Bool.not_eq_true', Bool.not_eq_false', Bool.and_eq_true, Bool.and_eq_false_iff, Bool.or_eq_true, Bool.or_eq_false_iff, not_true_eq_false, not_false_eq_true, Int.not_lt, Int.not_le] at hb_) | ((with_reducible apply XC.cond); (case hc => exact rfl); (first | (case ht => intro hb_; try simp only [pd_true, pd_false, Bool.not_eq_true', Bool.not_eq_false', Bool.and_eq_true, Bool.and_eq_false_iff, Bool.or_eq_true, Bool.or_eq_false_iff, not_true_eq_false, not_false_eq_true, Int.not_lt, Int.not_le] at hb_; first | done | (exfalso; first | omega | contradiction)) | (case hf => intro hb_; try simp only [pd_true, pd_false, Bool.not_eq_true', Bool.not_eq_false', Bool.and_eq_true, Bool.and_eq_false_iff, Bool.or_eq_true, Bool.or_eq_false_iff, not_true_eq_false, not_false_eq_true, Int.not_lt, Int.not_le] at hb_; first | done | (exfalso; first | omega | contradiction))); intro hb_; try simp only [pd_true, pd_false, Bool.not_eq_true', Bool.not_eq_false', Bool.and_eq_true, Bool.and_eq_false_iff, Bool.or_eq_true, Bool.or_eq_false_iff, not_true_eq_false, not_false_eq_true, Int.not_lt, Int.not_le] at hb_))))
    ((with_reducible apply XOp.alloc); (case hg | ht | hx' => exact rfl); intro ab)
    (repeat (first | (with_reducible apply XL.op) | ((with_reducible apply XOp.p1); (case hg | hv => exact rfl)) | (with_reducible apply XL.nilT) | (with_reducible apply XC.seq) | (with_reducible apply XC.region (Γ := Γ))))
    ((with_reducible apply XOp.callQ (hF := nDigits_fn u (by omega) h2)); (case hg => exact rfl); (case hc => exact rfl); (case ha => exact rfl); try (case hA => exact Known.true))
    case hA => exact Known.of_old hK lib_mono
    rintro _ rfl
    have hcs : List.replicate 24 (Value.int .u8 0) = List.replicate (Lib.nDigits u) (.int .u8 0) ++ List.replicate (24 - Lib.nDigits u) (.int .u8 0) := by rw [List.replicate_append_replicate]; congr 1; omega
    (repeat (first | (with_reducible apply XL.op) | ((with_reducible apply XOp.p1); (case hg | hv => exact rfl)) | (with_reducible apply XL.nilT) | (with_reducible apply XC.seq) | (with_reducible apply XC.region (Γ := Γ)) | (first | ((with_reducible apply XOp.pr); (case hg => exact rfl); (case hr => (with_reducible apply PR.arrTo); (case ht => exact rfl); (case hk => exact rfl); (case he => exact rfl); (case hx => exact rfl); (case hy => exact rfl); (case hb => exact ⟨by omega, by omega⟩); (case hm => exact  by decide))) | ((with_reducible apply XP.pr); (case ho => exact rfl); (case hg => exact rfl); (case hr => (with_reducible apply PR.arrTo); (case ht => exact rfl); (case hk => exact rfl); (case he => exact rfl); (case hx => exact rfl); (case hy => exact rfl); (case hb => exact ⟨by omega, by omega⟩); (case hm => exact  by decide))))))
    rw [Int.toNat_natCast]
    (refine (show XOp _ _ _ _ _ _ _ _ ([(ab, Obj.cells ⟨List.replicate 24 (.int .u8 0)⟩ 100 (0, 0))]) from XOp.perm (L' :=  [(ab, Obj.cells ⟨List.replicate 24 (.int .u8 0)⟩ 100 (0, 0))]) rfl ?_ (by (first | (with_reducible exact List.Perm.refl _) | refine perm_of_cnt fun p_ => ?_; simp only [List.countP_append, List.countP_cons, List.countP_nil]; omega))))
    rw [hcs]
    ((with_reducible apply XOp.call (hF := base10_fn ab 100 24 (List.replicate (24 - Lib.nDigits u) (.int .u8 0)) u h2)); (case hg => exact rfl); (case hc => exact rfl); (case ha => exact rfl); (case hL => exact rfl))
    case hA => exact Known.true
    rintro _ _ rfl
    (repeat (first | (with_reducible apply XL.op) | ((with_reducible apply XOp.p1); (case hg | hv => exact rfl)) | (with_reducible apply XL.nilT) | (with_reducible apply XC.seq) | (with_reducible apply XC.region (Γ := Γ)) | (first | ((with_reducible apply XOp.pr); (case hg => exact rfl); (case hr => (with_reducible apply PR.arrTo); (case ht => exact rfl); (case hk => exact rfl); (case he => exact rfl); (case hx => exact rfl); (case hy => exact rfl); (case hb => exact ⟨by omega, by omega⟩); (case hm => exact  by decide))) | ((with_reducible apply XP.pr); (case ho => exact rfl); (case hg => exact rfl); (case hr => (with_reducible apply PR.arrTo); (case ht => exact rfl); (case hk => exact rfl); (case he => exact rfl); (case hx => exact rfl); (case hy => exact rfl); (case hb => exact ⟨by omega, by omega⟩); (case hm => exact  by decide))))))
    rw [Int.toNat_natCast]
    have hb : Held [(ab, Obj.cells ⟨(decL u).map (.int .u8) ++ List.replicate (24 - Lib.nDigits u) (.int .u8 0)⟩ 100 (0, 0))] (fun h => byAt h (decL u) (some ⟨ab, 0, none⟩) 24) :=
      Held.frag (blk_slA (by_ := 1) (cap := 24) (List.mem_singleton.2 rfl) (by simp [keys]) (isB_ok (decL_isB u)) (by omega) (by omega)) (Mono.sl _ _ _ _ _)
    ((with_reducible apply XOp.pr); (case hg => exact rfl); (case hr => (with_reducible apply PR.toStr); (case hs => exact rfl); (case hk => exact rfl); (case he => exact rfl); (case hek => exact rfl); (case hd => exact rfl); (case hdk => exact rfl); (case hx => exact rfl); (case hl => exact hdl); (case hA => exact  hb.known fun y hy => hy)))
    (repeat (first | (with_reducible apply XL.op) | ((with_reducible apply XOp.p1); (case hg | hv => exact rfl)) | (with_reducible apply XL.nilT) | (with_reducible apply XQ.ret) | (with_reducible apply XQ.rt)))
    ((with_reducible apply XQ.retE); (case hr => exact .t rfl .nil))
    rfl
theorem fmtUint_fn (u : Nat) (h2 : u < 18446744073709551616) : FC Tryd.prog 59 [.int .u64 u, .int .i64 10] [] libK (fun v L => v = .string (strOf (decL u)) ∧ L = []) := by
  refine FC.nil ?_
  refine FC.intro Tryd.func59 rfl (by kernel_rfl) 8 [.tmp 4] rfl rfl rfl ?_
  intro w0 hK
  (repeat (first | (with_reducible apply XL.op) | ((with_reducible apply XOp.p1); (case hg | hv => exact rfl)) | (with_reducible apply XL.nilT) | (with_reducible apply XC.seq) | (with_reducible apply XC.region (Γ := Γ)) | (with_reducible apply XQ.ret) | (((with_reducible apply XOp.callQ (hF := ifmtU_fn u h2)); (case hg => exact rfl); (case hc => exact rfl); (case ha => exact rfl); try (case hA => exact Known.true)); (case hA => exact Known.of_old hK lib_mono); rintro _ rfl)))
  ((with_reducible apply XQ.retE); (case hr => exact .t rfl .nil))
  rfl
end Go.Proofs.YtepfnakabafhlaaDoorX
/- A word's row. -/
namespace Go.Proofs.YtepfnakabafhlaaDoorX
open Go Go.SX

theorem kAsk : (⟨#[97, 115, 107]⟩ : ByteArray) = strOf wAsk := rfl
theorem kText : (⟨#[116, 101, 120, 116]⟩ : ByteArray) = strOf wText := rfl
def readF (w : List Int) : Nat := if w = wAsk then 46 else if w = wText then 48 else 50
def writeF (w : List Int) : Nat := if w = wAsk then 47 else if w = wText then 49 else 51
def rowC (w : List Int) : List Value := [.string (strOf w), .int .i64 (numsW w), .func (.func (readF w)) #[] #[], .func (.func (writeF w)) #[] #[]]
def row0 : List Value := [.string ⟨#[]⟩, .int .i64 0, .nilFunc, .nilFunc]
def wl : List (List Int × Int) := [(wAsk, 6), (wCancel, 0), (wOk, 0), (wError, 1), (wText, 0), (wEnd, 1)]
theorem words_row {h : HV} (hK : libK h) : rowv h 0 0 wordsC := by
  obtain ⟨t, fz, e⟩ := hK.words
  intro i v hv
  simp only [cellv, e, Nat.zero_add, Option.isSome_none, Bool.false_eq_true, if_false, List.getElem?_toArray]
  exact hv
theorem wl_at (i : Nat) (hi : i < 6) : ∃ w n, wl[i]? = some (w, n) ∧ (wordsC.drop ((((i : Nat) : Int)).toNat * 2)).take 2 = [.string (strOf w), .int .i64 n] ∧ isB w := by
  rcases (by omega : i = 0 ∨ i = 1 ∨ i = 2 ∨ i = 3 ∨ i = 4 ∨ i = 5) with rfl | rfl | rfl | rfl | rfl | rfl
  · exact ⟨wAsk, 6, rfl, rfl, by unfold isB; decide⟩
  · exact ⟨wCancel, 0, rfl, rfl, by unfold isB; decide⟩
  · exact ⟨wOk, 0, rfl, rfl, by unfold isB; decide⟩
  · exact ⟨wError, 1, rfl, rfl, by unfold isB; decide⟩
  · exact ⟨wText, 0, rfl, rfl, by unfold isB; decide⟩
  · exact ⟨wEnd, 1, rfl, rfl, by unfold isB; decide⟩
theorem wl_num : ∀ p : List Int × Int, p ∈ wl → numsW p.1 = p.2 := by decide
theorem wl_no {w : List Int} (h : ∀ (i : Nat) (p : List Int × Int), wl[i]? = some p → p.1 ≠ w) : numsW w = -1 := by
  have a0 := h 0 _ rfl; have a1 := h 1 _ rfl; have a2 := h 2 _ rfl; have a3 := h 3 _ rfl; have a4 := h 4 _ rfl; have a5 := h 5 _ rfl
  simp only [] at a0 a1 a2 a3 a4 a5
  unfold numsW
  rw [if_neg (fun e => a0 e.symm), if_neg (by rintro (e | e); exact a3 e.symm; exact a5 e.symm), if_neg (by rintro (e | e | e); exact a1 e.symm; exact a2 e.symm; exact a4 e.symm)]
set_option maxHeartbeats 4000000 in
theorem of_fn (w : List Int) (hB : isB w) : FC Tryd.prog 30 [.string (strOf w)] [] libK
    (fun v L => v = (if 0 ≤ numsW w then .tuple #[.agg ⟨rowC w⟩, .bool true] else .tuple #[.agg ⟨row0⟩, .bool false]) ∧ L = []) := by
  refine FC.nil ?_
  refine FC.intro Tryd.func30 rfl (by kernel_rfl) 33 [.cell 2 64, .tmp 3] rfl rfl rfl ?_
  intro w0 hK
  have hrow := words_row hK
  (repeat (first | (with_reducible apply XL.op) | (with_reducible apply XC.seq) | (with_reducible apply XC.region (Γ := Γ))))
  ((with_reducible apply XOp.alloc); (case hg | ht | hx' => exact rfl); intro rb)
  (repeat (first | (with_reducible apply XL.op) | ((with_reducible apply XOp.p1); (case hg | hv => exact rfl)) | (with_reducible apply XL.nilT) | (with_reducible apply XC.seq) | (with_reducible apply XC.region (Γ := Γ)) | (with_reducible apply XC.block) | (first | ((with_reducible apply XOp.loadN); (case hg | ht | hk | hx => exact rfl); (case hc => exact Known.of_old hrow (Mono.row _ _ _)); (case hl => exact rfl)) | ((with_reducible apply XP.loadN); (case ho | hg | ht | hk | hx => exact rfl); (case hc => exact Known.of_old hrow (Mono.row _ _ _)); (case hl => exact rfl)))))
  refine XC.loopP (fun k ρ L => ∃ i : Nat, i + k = 6 ∧ (∀ (j : Nat) (p : List Int × Int), j < i → wl[j]? = some p → p.1 ≠ w) ∧ L = [(rb, Obj.cells ⟨row0⟩ 64 (0, 0))] ∧ Slots ρ [(0, .string (strOf w)), (2, .pointer (some ⟨rb, 0, none⟩)), (6, .agg ⟨wordsC⟩), (7, .int .i64 i)])
    6 ⟨0, by simp, (fun j p hj => by omega), rfl, rfl, rfl, rfl, rfl, trivial⟩ ?_
  rintro k ρ L ⟨i, hik, hno, rfl, hs⟩
  refine XC.slots _ hs ?_
  (repeat (first | (with_reducible apply XL.op) | ((with_reducible apply XOp.p1); (case hg | hv => exact rfl)) | (with_reducible apply XL.nilT) | (with_reducible apply XC.seq) | (with_reducible apply XC.region (Γ := Γ))))
  ((with_reducible apply XC.cond); (case hc => exact rfl); all_goals (intro hb_; try simp only [pd_true, pd_false, Bool.not_eq_true', Bool.not_eq_false', Bool.and_eq_true, Bool.and_eq_false_iff, Bool.or_eq_true, Bool.or_eq_false_iff, not_true_eq_false, not_false_eq_true, Int.not_lt, Int.not_le] at hb_))
  · obtain ⟨u, n, hu, hcut, huB⟩ := wl_at i (by omega)
    have hnu := wl_num _ (List.mem_of_getElem? hu)
    simp only [] at hnu
    (repeat (first | (with_reducible apply XL.op) | (with_reducible apply XC.seq) | (with_reducible apply XC.region (Γ := Γ)) | (with_reducible apply XQ.skip) | (with_reducible apply XQ.nt) | (with_reducible apply XC.block)))
    (first | ((with_reducible apply XOp.pr); (case hg => exact rfl); (case hr => (with_reducible apply PR.arrN); (case ht => exact rfl); (case hk => exact rfl); (case he => exact rfl); (case hag => exact rfl); (case hx => exact rfl); (case hi => exact rfl); (case hr => exact ⟨by omega, by omega⟩); (case hc => exact rfl))) | ((with_reducible apply XP.pr); (case ho => exact rfl); (case hg => exact rfl); (case hr => (with_reducible apply PR.arrN); (case ht => exact rfl); (case hk => exact rfl); (case he => exact rfl); (case hag => exact rfl); (case hx => exact rfl); (case hi => exact rfl); (case hr => exact ⟨by omega, by omega⟩); (case hc => exact rfl))))
    rw [hcut]
    (repeat ((with_reducible apply XL.op)))
    ((with_reducible apply XOp.alloc); (case hg | ht | hx' => exact rfl); intro sb)
    (repeat (first | (with_reducible apply XL.op) | ((with_reducible apply XOp.p1); (case hg | hv => exact rfl)) | ((with_reducible apply XOp.load); (case hg | ht | hk | hx => exact rfl); (case hc => exact own_cell (i := 0) rfl rfl)) | ((with_reducible apply XOp.storeN (i := 0)); (case hg | ht | hx | hv' | hk | h1 | hi | hs | ha => exact rfl)) | (with_reducible apply XL.nilT) | (with_reducible apply XC.seq) | (with_reducible apply XC.region (Γ := Γ))))
    rw [strOf_eq (isB_ok huB) (isB_ok hB)]
    by_cases he : u = w
    case neg =>
      rw [pdf he]
      (repeat (first | (with_reducible apply XL.op) | ((with_reducible apply XOp.p1); (case hg | hv => exact rfl)) | (with_reducible apply XL.nilT) | (with_reducible apply XC.region (Γ := Γ)) | (with_reducible apply XQ.exit) | (with_reducible apply XQ.nt) | (with_reducible apply XQ.et) | ((with_reducible apply XQ.eb); (case hb => exact rfl)) | ((with_reducible apply XC.condT); (case hc => exact rfl))))
      refine ⟨k - 1, by omega, _, .of (List.sublist_cons_self _ _), i + 1, by omega, fun j p hj hp => ?_, rfl, rfl, rfl, rfl, intS (m := 6) (by omega) (by omega), trivial⟩
      by_cases h : j < i
      · exact hno j p h hp
      · obtain rfl : j = i := by omega
        rw [hu] at hp; cases hp; exact he
    subst he
    rw [pdt rfl]
    have hnn : 0 ≤ numsW u := by
      rcases (by omega : i = 0 ∨ i = 1 ∨ i = 2 ∨ i = 3 ∨ i = 4 ∨ i = 5) with rfl | rfl | rfl | rfl | rfl | rfl <;> (cases hu; decide)
    rw [if_pos hnn]
    (repeat (first | (with_reducible apply XL.op) | ((with_reducible apply XOp.p1); (case hg | hv => exact rfl)) | (with_reducible apply XL.nilT) | (with_reducible apply XC.seq) | (with_reducible apply XC.region (Γ := Γ)) | (with_reducible apply XQ.skip) | (with_reducible apply XQ.nt) | (with_reducible apply XC.block) | ((with_reducible apply XC.condF); (case hc => exact rfl))))
    rw [kAsk, strOf_eq (isB_ok huB) (isB_ok (by unfold isB; decide))]
    by_cases h1 : u = wAsk
    · rw [pdt h1]
      (repeat (first | (with_reducible apply XL.op) | ((with_reducible apply XOp.p1); (case hg | hv => exact rfl)) | ((with_reducible apply XOp.load); (case hg | ht | hk | hx => exact rfl); (case hc => exact own_cell (i := 0) rfl rfl)) | ((with_reducible apply XOp.storeN (i := 1)); (case hg | ht | hx | hv' | hk | h1 | hi | hs | ha => exact rfl)) | ((with_reducible apply XOp.pr); (case hg => exact rfl); (case hr => ((with_reducible apply PR.build); (case ht | hk | hok | hz | hf => exact rfl)))) | (with_reducible apply XL.nilT) | (with_reducible apply XC.seq) | (with_reducible apply XC.region (Γ := Γ)) | (with_reducible apply XQ.ret) | (with_reducible apply XQ.rt) | (with_reducible apply XQ.rb) | ((with_reducible apply XC.condT); (case hc => exact rfl))))
      ((with_reducible apply XQ.retE); (case hr => exact .row rfl (by kernel_rfl) (by kernel_rfl) (own_row (i := 1) (m := 4) rfl rfl) (.t rfl .nil)))
      rw [← hnu]
      simp only [rowC, readF, writeF, if_pos h1]; rfl
    rw [pdf h1]
    (repeat (first | (with_reducible apply XL.op) | ((with_reducible apply XOp.p1); (case hg | hv => exact rfl)) | (with_reducible apply XL.nilT) | (with_reducible apply XC.seq) | (with_reducible apply XC.region (Γ := Γ)) | ((with_reducible apply XC.condF); (case hc => exact rfl))))
    rw [kText, strOf_eq (isB_ok huB) (isB_ok (by unfold isB; decide))]
    by_cases h2 : u = wText
    · rw [pdt h2]
      (repeat (first | (with_reducible apply XL.op) | ((with_reducible apply XOp.p1); (case hg | hv => exact rfl)) | ((with_reducible apply XOp.load); (case hg | ht | hk | hx => exact rfl); (case hc => exact own_cell (i := 0) rfl rfl)) | ((with_reducible apply XOp.storeN (i := 1)); (case hg | ht | hx | hv' | hk | h1 | hi | hs | ha => exact rfl)) | ((with_reducible apply XOp.pr); (case hg => exact rfl); (case hr => ((with_reducible apply PR.build); (case ht | hk | hok | hz | hf => exact rfl)))) | (with_reducible apply XL.nilT) | (with_reducible apply XC.seq) | (with_reducible apply XC.region (Γ := Γ)) | (with_reducible apply XQ.ret) | (with_reducible apply XQ.rt) | (with_reducible apply XQ.rb) | ((with_reducible apply XC.condT); (case hc => exact rfl))))
      ((with_reducible apply XQ.retE); (case hr => exact .row rfl (by kernel_rfl) (by kernel_rfl) (own_row (i := 1) (m := 4) rfl rfl) (.t rfl .nil)))
      rw [← hnu]
      simp only [rowC, readF, writeF, if_neg h1, if_pos h2]; rfl
    rw [pdf h2]
    (repeat (first | (with_reducible apply XL.op) | ((with_reducible apply XOp.p1); (case hg | hv => exact rfl)) | ((with_reducible apply XOp.load); (case hg | ht | hk | hx => exact rfl); (case hc => exact own_cell (i := 0) rfl rfl)) | ((with_reducible apply XOp.storeN (i := 1)); (case hg | ht | hx | hv' | hk | h1 | hi | hs | ha => exact rfl)) | ((with_reducible apply XOp.pr); (case hg => exact rfl); (case hr => ((with_reducible apply PR.build); (case ht | hk | hok | hz | hf => exact rfl)))) | (with_reducible apply XL.nilT) | (with_reducible apply XC.seq) | (with_reducible apply XC.region (Γ := Γ)) | (with_reducible apply XQ.skip) | (with_reducible apply XQ.ret) | (with_reducible apply XQ.nt) | (with_reducible apply XQ.nb) | (with_reducible apply XQ.rt) | (with_reducible apply XQ.rb) | ((with_reducible apply XC.condF); (case hc => exact rfl))))
    ((with_reducible apply XQ.retE); (case hr => exact .row rfl (by kernel_rfl) (by kernel_rfl) (own_row (i := 1) (m := 4) rfl rfl) (.t rfl .nil)))
    rw [← hnu]
    simp only [rowC, readF, writeF, if_neg h1, if_neg h2]; rfl
  · obtain rfl : i = 6 := by omega
    have hn := wl_no (w := w) fun j p hp => by
      by_cases h : j < 6
      · exact hno j p h hp
      · rw [List.getElem?_eq_none (by show 6 ≤ j; omega)] at hp; cases hp
    rw [hn, if_neg (by omega)]
    (repeat (first | (with_reducible apply XL.op) | ((with_reducible apply XOp.p1); (case hg | hv => exact rfl)) | ((with_reducible apply XOp.storeN (i := 0)); (case hg | ht | hx | hv' | hk | h1 | hi | hs | ha => exact rfl)) | ((with_reducible apply XOp.pr); (case hg => exact rfl); (case hr => ((with_reducible apply PR.build); (case ht | hk | hok | hz | hf => exact rfl)))) | (with_reducible apply XL.nilT) | (with_reducible apply XC.seq) | (with_reducible apply XC.region (Γ := Γ)) | (with_reducible apply XQ.ret) | (with_reducible apply XQ.exit) | (with_reducible apply XQ.nt) | (with_reducible apply XQ.et) | ((with_reducible apply XQ.eb); (case hb => exact rfl))))
    ((with_reducible apply XQ.retE); (case hr => exact .row rfl (by kernel_rfl) (by kernel_rfl) (own_row (i := 0) (m := 4) rfl rfl) (.t rfl .nil)))
    rfl
end Go.Proofs.YtepfnakabafhlaaDoorX
/- The reference's numbers: Decimal, Int, numbers. -/
namespace Go.Proofs.YtepfnakabafhlaaDoorX
open Go Go.SX
theorem u64w {n : Int} (h : 0 ≤ n) (h2 : n ≤ 18446744073709551615) : IntKind.u64.wrap n = n := by
  show n % 18446744073709551616 = n
  omega
theorem one_held (bb : Nat) (x : Int) (hx : 0 ≤ x ∧ x ≤ 255) : Held [(bb, Obj.cells ⟨[.int .u8 x]⟩ 5 (0, 0))] (fun h => byAt h [x] (some ⟨bb, 0, none⟩) 1) :=
  Held.frag (blk_slA (by_ := 1) (cap := 1) (xs := [x]) (sp := []) (List.mem_singleton.2 rfl) (by simp [keys]) (fun y hy => inK_u8.2 (by rw [List.mem_singleton.1 hy]; exact hx)) (by simp) (by simp)) (Mono.sl _ _ _ _ _)
theorem refDecimal_fn (u : Nat) (hu : u < 18446744073709551616) : FC Tryd.prog 40 [.int .u64 u] [] (fun _ => True) (fun v L => v = .string (strOf (decL u)) ∧ L = []) := by
  refine FC.nil ?_
  refine FC.intro Tryd.func40 rfl (by kernel_rfl) 23 [.tmp 2] rfl rfl rfl ?_
  intro w0 _
  (repeat (first | (with_reducible apply XL.op) | ((with_reducible apply XOp.p1); (case hg | hv => exact rfl)) | (with_reducible apply XL.nilT) | (with_reducible apply XC.seq) | (with_reducible apply XC.region (Γ := Γ)) | (with_reducible apply XC.block)))
  refine XC.loopP (fun k ρ L => ∃ (s : List Int), k ≤ u ∧ decL u = decL k ++ s ∧ s.length + (decL k).length ≤ 20 ∧ L = [] ∧ Slots ρ [(0, .int .u64 k), (3, .string (strOf s))])
    u ⟨[], Nat.le_refl _, (List.append_nil _).symm, by have := decL_len u hu; simpa using this, rfl, rfl, rfl, trivial⟩ ?_
  rintro k ρ L ⟨s, hk, hd, hl, rfl, hs⟩
  refine XC.slots _ hs ?_
  (repeat (first | (with_reducible apply XL.op) | ((with_reducible apply XOp.p1); (case hg | hv => exact rfl)) | (with_reducible apply XL.nilT) | (with_reducible apply XC.seq) | (with_reducible apply XC.region (Γ := Γ))))
  ((with_reducible apply XC.cond); (case hc => exact rfl); all_goals (intro hb_; try simp only [pd_true, pd_false, Bool.not_eq_true', Bool.not_eq_false', Bool.and_eq_true, Bool.and_eq_false_iff, Bool.or_eq_true, Bool.or_eq_false_iff, not_true_eq_false, not_false_eq_true, Int.not_lt, Int.not_le] at hb_))
  · have e1 : IntKind.u64.wrap (48 + ((k : Nat) : Int).tmod 10) = 48 + ((k % 10 : Nat) : Int) := by rw [Int.tmod_eq_emod_of_nonneg (by omega), u64w (by omega) (by omega)]; omega
    have e2 : IntKind.u8.wrap (48 + ((k % 10 : Nat) : Int)) = 48 + ((k % 10 : Nat) : Int) := by rw [u8w]; omega
    (repeat (first | (with_reducible apply XL.op) | ((with_reducible apply XOp.p1); (case hg | hv => exact rfl)) | (with_reducible apply XC.seq) | (with_reducible apply XC.region (Γ := Γ)) | (with_reducible apply XQ.skip) | (with_reducible apply XQ.nt) | (with_reducible apply XC.block)))
    rw [e1, e2]
    have hbk := fun bb => one_held bb (48 + ((k % 10 : Nat) : Int)) (by omega)
    ((with_reducible apply XOp.buildSlice); (case hg | ht | hk | he | hz | hzl | hf => exact rfl); intro bb)
    (repeat ((with_reducible apply XL.op)))
    ((with_reducible apply XOp.pr); (case hg => exact rfl); (case hr => (with_reducible apply PR.toStr); (case hs => exact rfl); (case hk => exact rfl); (case he => exact rfl); (case hek => exact rfl); (case hd => exact rfl); (case hdk => exact rfl); (case hx => exact rfl); (case hl => exact (show ([48 + ((k % 10 : Nat) : Int)] : List Int).length = 1 from rfl)); (case hA => exact  (hbk bb).known fun y hy => hy)))
    (repeat (first | (with_reducible apply XL.op) | ((with_reducible apply XOp.p1); (case hg | hv => exact rfl)) | (with_reducible apply XL.nilT) | (with_reducible apply XC.region (Γ := Γ)) | (with_reducible apply XL.nilQ) | (with_reducible apply XQ.nt) | (with_reducible apply XQ.nb) | (first | ((with_reducible apply XOp.pr); (case hg => exact rfl); (case hr => (with_reducible apply PR.cat (xs := [48 + ((k % 10 : Nat) : Int)]) (ys := s)); (case hx => exact rfl); (case hy => exact rfl); (case hl => ((try simp only [List.length_append, List.length_cons, List.length_nil]); omega)))) | ((with_reducible apply XP.pr); (case ho => exact rfl); (case hg => exact rfl); (case hr => (with_reducible apply PR.cat (xs := [48 + ((k % 10 : Nat) : Int)]) (ys := s)); (case hx => exact rfl); (case hy => exact rfl); (case hl => ((try simp only [List.length_append, List.length_cons, List.length_nil]); omega)))))))
    have e3 : ((k : Nat) : Int).tdiv 10 = ((k / 10 : Nat) : Int) := by rw [Int.tdiv_eq_ediv_of_nonneg (by omega)]; omega
    rw [e3, u64w (by omega) (by omega)]
    have hb2 := decL_big (u := k) (by omega)
    refine ⟨k / 10, by omega, _, .of (List.nil_sublist _), [48 + ((k % 10 : Nat) : Int)] ++ s, by omega, by rw [hd, hb2, List.append_assoc], by rw [hb2, List.length_append] at hl; simp only [List.length_append, List.length_cons, List.length_nil] at hl ⊢; omega, rfl, rfl, rfl, trivial⟩
  have e1 : IntKind.u64.wrap (48 + ((k : Nat) : Int)) = 48 + ((k : Nat) : Int) := u64w (by omega) (by omega)
  have e2 : IntKind.u8.wrap (48 + ((k : Nat) : Int)) = 48 + ((k : Nat) : Int) := by rw [u8w]; omega
  have hbk := fun bb => one_held bb (48 + ((k : Nat) : Int)) (by omega)
  (repeat (first | (with_reducible apply XL.op) | ((with_reducible apply XOp.p1); (case hg | hv => exact rfl)) | (with_reducible apply XC.seq) | (with_reducible apply XC.region (Γ := Γ)) | (with_reducible apply XQ.exit) | (with_reducible apply XQ.nt) | (with_reducible apply XQ.et) | ((with_reducible apply XQ.eb); (case hb => exact rfl))))
  rw [e1, e2]
  ((with_reducible apply XOp.buildSlice); (case hg | ht | hk | he | hz | hzl | hf => exact rfl); intro bb)
  (repeat (first | (with_reducible apply XL.op) | ((with_reducible apply XOp.p1); (case hg | hv => exact rfl)) | ((with_reducible apply XOp.pr); (case hg => exact rfl); (case hr => (with_reducible apply PR.toStr); (case hs => exact rfl); (case hk => exact rfl); (case he => exact rfl); (case hek => exact rfl); (case hd => exact rfl); (case hdk => exact rfl); (case hx => exact rfl); (case hl => exact (show ([48 + ((k : Nat) : Int)] : List Int).length = 1 from rfl)); (case hA => exact  (hbk bb).known fun y hy => hy)))))
  (repeat (first | (with_reducible apply XL.op) | ((with_reducible apply XOp.p1); (case hg | hv => exact rfl)) | (with_reducible apply XL.nilT) | (with_reducible apply XQ.ret) | (first | ((with_reducible apply XOp.pr); (case hg => exact rfl); (case hr => (with_reducible apply PR.cat (xs := [48 + ((k : Nat) : Int)]) (ys := s)); (case hx => exact rfl); (case hy => exact rfl); (case hl => ((try simp only [List.length_append, List.length_cons, List.length_nil]); omega)))) | ((with_reducible apply XP.pr); (case ho => exact rfl); (case hg => exact rfl); (case hr => (with_reducible apply PR.cat (xs := [48 + ((k : Nat) : Int)]) (ys := s)); (case hx => exact rfl); (case hy => exact rfl); (case hl => ((try simp only [List.length_append, List.length_cons, List.length_nil]); omega)))))))
  ((with_reducible apply XQ.retE); (case hr => exact .t rfl .nil))
  rw [hd, decL_small (by omega)]; rfl
theorem refInt_fn (n : Int) (hn : inK .i64 n) : FC Tryd.prog 39 [.int .i64 n] [] (fun _ => True) (fun v L => v = .string (strOf (intL n)) ∧ L = []) := by
  refine FC.nil ?_
  have hn := inK_i64.1 hn
  refine FC.intro Tryd.func39 rfl (by kernel_rfl) 13 [.tmp 2] rfl rfl rfl ?_
  intro w0 _
  (repeat (first | (with_reducible apply XL.op) | ((with_reducible apply XOp.p1); (case hg | hv => exact rfl)) | (with_reducible apply XL.nilT) | (with_reducible apply XC.seq) | (with_reducible apply XC.region (Γ := Γ))))
  ((with_reducible apply XC.cond); (case hc => exact rfl); all_goals (intro hb_; try simp only [pd_true, pd_false, Bool.not_eq_true', Bool.not_eq_false', Bool.and_eq_true, Bool.and_eq_false_iff, Bool.or_eq_true, Bool.or_eq_false_iff, not_true_eq_false, not_false_eq_true, Int.not_lt, Int.not_le] at hb_))
  · have e : IntKind.u64.wrap (0 - IntKind.u64.wrap n) = ((n.natAbs : Nat) : Int) := by
      show (0 - (n % 18446744073709551616)) % 18446744073709551616 = _
      omega
    have hl := decL_len n.natAbs (by omega)
    (repeat (first | (with_reducible apply XL.op) | ((with_reducible apply XOp.p1); (case hg | hv => exact rfl)) | (with_reducible apply XC.seq) | (with_reducible apply XC.region (Γ := Γ))))
    rw [e]
    ((with_reducible apply XOp.callQ (hF := refDecimal_fn n.natAbs (by omega))); (case hg => exact rfl); (case hc => exact rfl); (case ha => exact rfl); try (case hA => exact Known.true))
    rintro _ rfl
    (repeat (first | (with_reducible apply XL.op) | ((with_reducible apply XOp.p1); (case hg | hv => exact rfl)) | (with_reducible apply XL.nilT) | (with_reducible apply XQ.ret) | (with_reducible apply XQ.rt) | (first | ((with_reducible apply XOp.pr); (case hg => exact rfl); (case hr => (with_reducible apply PR.cat (xs := [45]) (ys := decL n.natAbs)); (case hx => exact rfl); (case hy => exact rfl); (case hl => ((try simp only [List.length_append, List.length_cons, List.length_nil]); omega)))) | ((with_reducible apply XP.pr); (case ho => exact rfl); (case hg => exact rfl); (case hr => (with_reducible apply PR.cat (xs := [45]) (ys := decL n.natAbs)); (case hx => exact rfl); (case hy => exact rfl); (case hl => ((try simp only [List.length_append, List.length_cons, List.length_nil]); omega)))))))
    ((with_reducible apply XQ.retE); (case hr => exact .t rfl .nil))
    rw [intL_neg (by omega)]; rfl
  · have e : IntKind.u64.wrap n = ((n.toNat : Nat) : Int) := by
      show n % 18446744073709551616 = _
      omega
    (repeat (first | (with_reducible apply XL.op) | ((with_reducible apply XOp.p1); (case hg | hv => exact rfl)) | (with_reducible apply XC.seq) | (with_reducible apply XC.region (Γ := Γ)) | (with_reducible apply XQ.skip) | (with_reducible apply XQ.nt)))
    rw [e]
    ((with_reducible apply XOp.callQ (hF := refDecimal_fn n.toNat (by omega))); (case hg => exact rfl); (case hc => exact rfl); (case ha => exact rfl); try (case hA => exact Known.true))
    rintro _ rfl
    (repeat (first | (with_reducible apply XL.op) | ((with_reducible apply XOp.p1); (case hg | hv => exact rfl)) | (with_reducible apply XL.nilT) | (with_reducible apply XQ.ret)))
    ((with_reducible apply XQ.retE); (case hr => exact .t rfl .nil))
    rw [intL_pos (by omega)]; rfl
theorem kError : (⟨#[101, 114, 114, 111, 114]⟩ : ByteArray) = strOf wError := rfl
theorem kEnd : (⟨#[101, 110, 100]⟩ : ByteArray) = strOf wEnd := rfl
theorem kCancel : (⟨#[99, 97, 110, 99, 101, 108]⟩ : ByteArray) = strOf wCancel := rfl
theorem kOk : (⟨#[111, 107]⟩ : ByteArray) = strOf wOk := rfl
theorem refNumbers_fn (w : List Int) (hB : isB w) : FC Tryd.prog 34 [.string (strOf w)] [] (fun _ => True) (fun v L => v = .int .i64 (numsW w) ∧ L = []) := by
  refine FC.nil ?_
  refine FC.intro Tryd.func34 rfl (by kernel_rfl) 13 [.tmp 2] rfl rfl rfl ?_
  intro w0 _
  (repeat (first | (with_reducible apply XL.op) | ((with_reducible apply XOp.p1); (case hg | hv => exact rfl)) | (with_reducible apply XL.nilT) | (with_reducible apply XC.seq) | (with_reducible apply XC.region (Γ := Γ)) | (with_reducible apply XC.block)))
  rw [kAsk, strOf_eq (isB_ok hB) (isB_ok (by unfold isB; decide))]
  by_cases h1 : w = wAsk
  · rw [pdt h1]; (repeat (first | (with_reducible apply XL.op) | ((with_reducible apply XOp.p1); (case hg | hv => exact rfl)) | (with_reducible apply XL.nilT) | (with_reducible apply XC.seq) | (with_reducible apply XC.region (Γ := Γ)) | (with_reducible apply XQ.ret) | (with_reducible apply XQ.rt) | (with_reducible apply XQ.rb) | ((with_reducible apply XC.condT); (case hc => exact rfl)))); ((with_reducible apply XQ.retE); (case hr => exact .t rfl .nil)); unfold numsW; rw [if_pos h1]; rfl
  rw [pdf h1]
  (repeat (first | (with_reducible apply XL.op) | ((with_reducible apply XOp.p1); (case hg | hv => exact rfl)) | (with_reducible apply XL.nilT) | (with_reducible apply XC.seq) | (with_reducible apply XC.region (Γ := Γ)) | ((with_reducible apply XC.condF); (case hc => exact rfl))))
  rw [kError, strOf_eq (isB_ok hB) (isB_ok (by unfold isB; decide))]
  by_cases h2 : w = wError
  · rw [pdt h2]; (repeat (first | (with_reducible apply XL.op) | ((with_reducible apply XOp.p1); (case hg | hv => exact rfl)) | (with_reducible apply XL.nilT) | (with_reducible apply XC.seq) | (with_reducible apply XC.region (Γ := Γ)) | (with_reducible apply XQ.skip) | (with_reducible apply XQ.ret) | (with_reducible apply XQ.nt) | (with_reducible apply XQ.rt) | (with_reducible apply XQ.rb) | ((with_reducible apply XC.condT); (case hc => exact rfl)))); ((with_reducible apply XQ.retE); (case hr => exact .t rfl .nil)); unfold numsW; rw [if_neg h1, if_pos (.inl h2)]; rfl
  rw [pdf h2]
  (repeat (first | (with_reducible apply XL.op) | ((with_reducible apply XOp.p1); (case hg | hv => exact rfl)) | (with_reducible apply XL.nilT) | (with_reducible apply XC.region (Γ := Γ)) | ((with_reducible apply XC.condF); (case hc => exact rfl))))
  rw [kEnd, strOf_eq (isB_ok hB) (isB_ok (by unfold isB; decide))]
  by_cases h3 : w = wEnd
  · rw [pdt h3]; (repeat (first | (with_reducible apply XL.op) | ((with_reducible apply XOp.p1); (case hg | hv => exact rfl)) | (with_reducible apply XL.nilT) | (with_reducible apply XC.seq) | (with_reducible apply XC.region (Γ := Γ)) | (with_reducible apply XQ.ret) | (with_reducible apply XQ.rt) | (with_reducible apply XQ.rb) | ((with_reducible apply XC.condT); (case hc => exact rfl)))); ((with_reducible apply XQ.retE); (case hr => exact .t rfl .nil)); unfold numsW; rw [if_neg h1, if_pos (.inr h3)]; rfl
  rw [pdf h3]
  (repeat (first | (with_reducible apply XL.op) | ((with_reducible apply XOp.p1); (case hg | hv => exact rfl)) | (with_reducible apply XL.nilT) | (with_reducible apply XC.seq) | (with_reducible apply XC.region (Γ := Γ)) | ((with_reducible apply XC.condF); (case hc => exact rfl))))
  rw [kCancel, strOf_eq (isB_ok hB) (isB_ok (by unfold isB; decide))]
  by_cases h4 : w = wCancel
  · rw [pdt h4]; (repeat (first | (with_reducible apply XL.op) | ((with_reducible apply XOp.p1); (case hg | hv => exact rfl)) | (with_reducible apply XL.nilT) | (with_reducible apply XC.seq) | (with_reducible apply XC.region (Γ := Γ)) | (with_reducible apply XQ.skip) | (with_reducible apply XQ.ret) | (with_reducible apply XQ.nt) | (with_reducible apply XQ.rt) | (with_reducible apply XQ.rb) | ((with_reducible apply XC.condT); (case hc => exact rfl)))); ((with_reducible apply XQ.retE); (case hr => exact .t rfl .nil)); unfold numsW; rw [if_neg h1, if_neg (fun h => h.elim h2 h3), if_pos (.inl h4)]; rfl
  rw [pdf h4]
  (repeat (first | (with_reducible apply XL.op) | ((with_reducible apply XOp.p1); (case hg | hv => exact rfl)) | (with_reducible apply XL.nilT) | (with_reducible apply XC.seq) | (with_reducible apply XC.region (Γ := Γ)) | ((with_reducible apply XC.condF); (case hc => exact rfl))))
  rw [kOk, strOf_eq (isB_ok hB) (isB_ok (by unfold isB; decide))]
  by_cases h5 : w = wOk
  · rw [pdt h5]; (repeat (first | (with_reducible apply XL.op) | ((with_reducible apply XOp.p1); (case hg | hv => exact rfl)) | (with_reducible apply XL.nilT) | (with_reducible apply XC.seq) | (with_reducible apply XC.region (Γ := Γ)) | (with_reducible apply XQ.skip) | (with_reducible apply XQ.ret) | (with_reducible apply XQ.nt) | (with_reducible apply XQ.rt) | (with_reducible apply XQ.rb) | ((with_reducible apply XC.condT); (case hc => exact rfl)))); ((with_reducible apply XQ.retE); (case hr => exact .t rfl .nil)); unfold numsW; rw [if_neg h1, if_neg (fun h => h.elim h2 h3), if_pos (.inr (.inl h5))]; rfl
  rw [pdf h5]
  (repeat (first | (with_reducible apply XL.op) | ((with_reducible apply XOp.p1); (case hg | hv => exact rfl)) | (with_reducible apply XL.nilT) | (with_reducible apply XC.region (Γ := Γ)) | ((with_reducible apply XC.condF); (case hc => exact rfl))))
  rw [kText, strOf_eq (isB_ok hB) (isB_ok (by unfold isB; decide))]
  by_cases h6 : w = wText
  · rw [pdt h6]; (repeat (first | (with_reducible apply XL.op) | ((with_reducible apply XOp.p1); (case hg | hv => exact rfl)) | (with_reducible apply XL.nilT) | (with_reducible apply XC.seq) | (with_reducible apply XC.region (Γ := Γ)) | (with_reducible apply XQ.ret) | (with_reducible apply XQ.rt) | (with_reducible apply XQ.rb) | ((with_reducible apply XC.condT); (case hc => exact rfl)))); ((with_reducible apply XQ.retE); (case hr => exact .t rfl .nil)); unfold numsW; rw [if_neg h1, if_neg (fun h => h.elim h2 h3), if_pos (.inr (.inr h6))]; rfl
  rw [pdf h6]
  (repeat (first | (with_reducible apply XL.op) | ((with_reducible apply XOp.p1); (case hg | hv => exact rfl)) | (with_reducible apply XL.nilT) | (with_reducible apply XC.seq) | (with_reducible apply XC.region (Γ := Γ)) | (with_reducible apply XQ.skip) | (with_reducible apply XQ.ret) | (with_reducible apply XQ.nt) | (with_reducible apply XQ.nb) | ((with_reducible apply XC.condF); (case hc => exact rfl))))
  ((with_reducible apply XQ.retE); (case hr => exact .t rfl .nil))
  unfold numsW; rw [if_neg h1, if_neg (fun h => h.elim h2 h3), if_neg (fun h => h.elim h4 (fun h => h.elim h5 h6))]; rfl
end Go.Proofs.YtepfnakabafhlaaDoorX
/- How a word's other arguments are read. -/
namespace Go.Proofs.YtepfnakabafhlaaDoorX
open Go Go.SX

theorem seed_fn (rb : Nat) (r : RT) (hB : isB r.rest) (hl : r.rest.length ≤ 1000000000) : FC Tryd.prog 57 [.pointer (some ⟨rb, 0, none⟩)] [RdB rb r] libK
    (fun v L => v = .int .u64 (seedS r).1 ∧ L = [RdB rb (seedS r).2]) := by
  refine FC.intro Tryd.func57 rfl (by kernel_rfl) 31 [.tmp 2] rfl rfl rfl ?_
  intro w0 hK
  (repeat (first | (with_reducible apply XL.op) | ((with_reducible apply XOp.p1); (case hg | hv => exact rfl)) | (with_reducible apply XL.nilT) | (with_reducible apply XC.seq) | (with_reducible apply XC.region (Γ := Γ))))
  ((with_reducible apply XOp.call (hF := word_fn rb r hB hl)); (case hg => exact rfl); (case hc => exact rfl); (case ha => exact rfl); (case hL => exact rfl))
  case hA => exact Known.true
  rintro _ _ ⟨rfl, rfl⟩
  obtain ⟨hw1, hw2⟩ := word_sub hB
  have hwl := word_len r
  have hn : seedS r = ((pUint (wordS r).1).1, ⟨(wordS r).2.rest, (wordS r).2.ok && (pUint (wordS r).1).2 && decide (decL (pUint (wordS r).1).1.toNat = (wordS r).1)⟩) := rfl
  rw [hn]
  generalize wordS r = w at *
  have hpr := pUint_rng w.1
  (repeat (first | (with_reducible apply XL.op) | ((with_reducible apply XOp.p1); (case hg | hv => exact rfl)) | (with_reducible apply XL.nilT) | (with_reducible apply XC.seq) | (with_reducible apply XC.region (Γ := Γ))))
  ((with_reducible apply XOp.callQ (hF := parseUint_fn w.1 (by omega))); (case hg => exact rfl); (case hc => exact rfl); (case ha => exact rfl); try (case hA => exact Known.true))
  case hA => exact Known.of_old hK lib_mono
  rintro _ ⟨e, rfl, he⟩
  rw [← pd_eq (decL (pUint w.1).1.toNat = w.1), ← strOf_eq (isB_ok (decL_isB _)) (isB_ok hw1)]
  generalize pUint w.1 = p at *
  obtain ⟨p1, p2⟩ := p
  obtain ⟨w1, wr, wk⟩ := w
  simp only [] at *
  obtain ⟨u, rfl⟩ := Int.eq_ofNat_of_zero_le hpr.1
  rw [Int.toNat_natCast]
  cases wk with
  | false =>
    cases p2 with
    | true =>
      obtain rfl : e = .nilIface := he
      (repeat (first | (with_reducible apply XL.op) | ((with_reducible apply XOp.p1); (case hg | hv => exact rfl)) | ((with_reducible apply XOp.p0); (case hg => exact rfl)) | ((with_reducible apply XOp.load); (case hg | ht | hk | hx => exact rfl); (case hc => exact own_cell (i := 0) rfl rfl)) | ((with_reducible apply XOp.store (i := 0)); (case hg | ht | hk | hx | hv | h1 | hi | hs | ha => exact rfl)) | (with_reducible apply XL.nilT) | (with_reducible apply XC.seq) | (with_reducible apply XC.region (Γ := Γ)) | (with_reducible apply XQ.ret)))
      ((with_reducible apply XQ.retE); (case hr => exact .t rfl .nil))
      exact ⟨rfl, rfl⟩
    | false =>
      obtain ⟨te, pe, rfl⟩ := he
      (repeat (first | (with_reducible apply XL.op) | ((with_reducible apply XOp.p1); (case hg | hv => exact rfl)) | ((with_reducible apply XOp.p0); (case hg => exact rfl)) | ((with_reducible apply XOp.load); (case hg | ht | hk | hx => exact rfl); (case hc => exact own_cell (i := 0) rfl rfl)) | ((with_reducible apply XOp.store (i := 0)); (case hg | ht | hk | hx | hv | h1 | hi | hs | ha => exact rfl)) | (with_reducible apply XL.nilT) | (with_reducible apply XC.seq) | (with_reducible apply XC.region (Γ := Γ)) | (with_reducible apply XQ.ret)))
      ((with_reducible apply XQ.retE); (case hr => exact .t rfl .nil))
      exact ⟨rfl, rfl⟩
  | true =>
    cases p2 with
    | true =>
      obtain rfl : e = .nilIface := he
      (repeat (first | (with_reducible apply XL.op) | ((with_reducible apply XOp.p1); (case hg | hv => exact rfl)) | ((with_reducible apply XOp.load); (case hg | ht | hk | hx => exact rfl); (case hc => exact own_cell (i := 0) rfl rfl)) | ((with_reducible apply XOp.store (i := 0)); (case hg | ht | hk | hx | hv | h1 | hi | hs | ha => exact rfl)) | (with_reducible apply XL.nilT) | (with_reducible apply XC.seq) | (with_reducible apply XC.region (Γ := Γ)) | (with_reducible apply XQ.ret) | (first | (first | ((with_reducible apply XOp.pr); (case hg => exact rfl); (case hr => (with_reducible apply PR.eqNilI); (case ht => exact rfl); (case hk => exact rfl); (case hx => exact rfl))) | ((with_reducible apply XP.pr); (case ho => exact rfl); (case hg => exact rfl); (case hr => (with_reducible apply PR.eqNilI); (case ht => exact rfl); (case hk => exact rfl); (case hx => exact rfl)))) | (first | ((with_reducible apply XOp.pr); (case hg => exact rfl); (case hr => (with_reducible apply PR.eqSomeI); (case ht => exact rfl); (case hk => exact rfl); (case hx => exact rfl))) | ((with_reducible apply XP.pr); (case ho => exact rfl); (case hg => exact rfl); (case hr => (with_reducible apply PR.eqSomeI); (case ht => exact rfl); (case hk => exact rfl); (case hx => exact rfl))))) | (((with_reducible apply XOp.callQ (hF := fmtUint_fn u (by omega))); (case hg => exact rfl); (case hc => exact rfl); (case ha => exact rfl); try (case hA => exact Known.true)); (case hA => exact Known.of_old hK lib_mono); rintro _ rfl)))
      ((with_reducible apply XQ.retE); (case hr => exact .t rfl .nil))
      exact ⟨rfl, rfl⟩
    | false =>
      obtain ⟨te, pe, rfl⟩ := he
      (repeat (first | (with_reducible apply XL.op) | ((with_reducible apply XOp.p1); (case hg | hv => exact rfl)) | ((with_reducible apply XOp.p0); (case hg => exact rfl)) | ((with_reducible apply XOp.load); (case hg | ht | hk | hx => exact rfl); (case hc => exact own_cell (i := 0) rfl rfl)) | ((with_reducible apply XOp.store (i := 0)); (case hg | ht | hk | hx | hv | h1 | hi | hs | ha => exact rfl)) | (with_reducible apply XL.nilT) | (with_reducible apply XC.seq) | (with_reducible apply XC.region (Γ := Γ)) | (with_reducible apply XQ.ret) | (first | (first | ((with_reducible apply XOp.pr); (case hg => exact rfl); (case hr => (with_reducible apply PR.eqNilI); (case ht => exact rfl); (case hk => exact rfl); (case hx => exact rfl))) | ((with_reducible apply XP.pr); (case ho => exact rfl); (case hg => exact rfl); (case hr => (with_reducible apply PR.eqNilI); (case ht => exact rfl); (case hk => exact rfl); (case hx => exact rfl)))) | (first | ((with_reducible apply XOp.pr); (case hg => exact rfl); (case hr => (with_reducible apply PR.eqSomeI); (case ht => exact rfl); (case hk => exact rfl); (case hx => exact rfl))) | ((with_reducible apply XP.pr); (case ho => exact rfl); (case hg => exact rfl); (case hr => (with_reducible apply PR.eqSomeI); (case ht => exact rfl); (case hk => exact rfl); (case hx => exact rfl)))))))
      ((with_reducible apply XQ.retE); (case hr => exact .t rfl .nil))
      exact ⟨rfl, rfl⟩
def lnC (w : List Int) (id : Int) (tv nv : Value) (sd : Int) (g : List Int) (sv : Value) : List Value := [.string (strOf w), .int .i64 id, tv, nv, .int .u64 sd, .string (strOf g), sv]
abbrev nilV : Value := .slice none 0 0
abbrev LnB (lb : Nat) (w : List Int) (id : Int) (tv nv : Value) (sd : Int) (g : List Int) (sv : Value) : Nat × Obj := (lb, .cells ⟨lnC w id tv nv sd g sv⟩ 33 (0, 0))
theorem blank_sub2 {r : RT} (hB : isB r.rest) : isB (litS r).2.rest := by
  have h := blank_sub hB
  unfold litS
  cases e : unqS (blankS r).rest with
  | none => exact h
  | some p =>
    obtain ⟨b, s⟩ := p
    have := (unq_iff.1 e).2
    exact fun x hx => h x (by rw [this]; exact List.mem_append_right _ hx)
theorem lit_isB {r : RT} : isB (litS r).1 := by
  unfold litS
  cases e : unqS (blankS r).rest with
  | none => exact fun x hx => by cases hx
  | some p => exact (unq_iff.1 e).1
theorem lit_len (r : RT) : (litS r).1.length + (litS r).2.rest.length ≤ r.rest.length ∧ ((litS r).2.ok = true → (litS r).2.rest.length < r.rest.length) := by
  have h := blank_len r
  unfold litS
  cases e : unqS (blankS r).rest with
  | none => simp only []; exact ⟨by simpa using h, fun h => by cases h⟩
  | some p =>
    obtain ⟨b, s⟩ := p
    have h2 := congrArg List.length (unq_iff.1 e).2
    have h3 := quoteL_length b
    rw [List.length_append] at h2
    simp only []
    exact ⟨by omega, fun _ => by omega⟩
theorem seed_len (r : RT) : (seedS r).2.rest.length ≤ r.rest.length := by
  have := word_len r
  show (wordS r).2.rest.length ≤ _
  omega
theorem num_len (r : RT) : (numS r).2.rest.length ≤ r.rest.length := by
  have := word_len r
  show (wordS r).2.rest.length ≤ _
  omega
theorem readText_fn (rb lb : Nat) (r : RT) (hB : isB r.rest) (hl : r.rest.length ≤ 1000000000) (w : List Int) (id : Int) (tv nv : Value) (sd : Int) (g : List Int) (sv : Value) :
    FC Tryd.prog 48 [.pointer (some ⟨rb, 0, none⟩), .pointer (some ⟨lb, 0, none⟩)] [RdB rb r, LnB lb w id tv nv sd g sv] (fun _ => True)
    (fun _ L => ∃ tv' F, OwnS 5 1 tv' (litS r).1.length ((litS r).1.map (.int .u8)) F ∧ L = [RdB rb (litS r).2, LnB lb w id tv' nv sd g sv] ++ F) := by
  refine FC.intro Tryd.func48 rfl (by kernel_rfl) 9 [] rfl rfl rfl ?_
  intro w0 _
  (repeat (first | (with_reducible apply XL.op) | ((with_reducible apply XOp.p1); (case hg | hv => exact rfl)) | (with_reducible apply XC.region (Γ := Γ))))
  ((with_reducible apply XOp.call (L0 := [RdB rb r]) (hF :=  literal_fn rb r hB hl)); (case hg => exact rfl); (case hc => exact rfl); (case ha => exact rfl); (case hL => exact rfl))
  case hA => exact Known.true
  rintro v _ ⟨F, rfl, hown⟩
  obtain ⟨a, c, rfl⟩ := hown.val
  (repeat (first | (with_reducible apply XL.op) | ((with_reducible apply XOp.p1); (case hg | hv => exact rfl))))
  (refine (show XOp _ _ _ _ _ _ _ _ ((RdB rb (litS r).2 :: F) ++ [LnB lb w id tv nv sd g sv]) from XOp.perm (L' :=  [RdB rb (litS r).2, LnB lb w id tv nv sd g sv] ++ F) rfl ?_ (by (first | (with_reducible exact List.Perm.refl _) | refine perm_of_cnt fun p_ => ?_; simp only [List.countP_append, List.countP_cons, List.countP_nil]; omega))))
  (repeat (first | ((with_reducible apply XOp.store (i := 1)); (case hg | ht | hk | hx | hv | h1 | hi | hs | ha => exact rfl)) | (with_reducible apply XL.nilQ)))
  ((with_reducible apply XQ.norE); (case hr => exact .nil))
  exact ⟨_, F, hown, rfl⟩
theorem nothing_fn (rb lb : Nat) (L0 : HL) : FC Tryd.prog 50 [.pointer (some ⟨rb, 0, none⟩), .pointer (some ⟨lb, 0, none⟩)] L0 (fun _ => True)
    (fun _ L => L = L0) := by
  refine FC.intro Tryd.func50 rfl (by kernel_rfl) 4 [] rfl rfl rfl ?_
  intro w0 _
  (repeat ((with_reducible apply XQ.skip)))
  ((with_reducible apply XQ.norE); (case hr => exact .nil))
  rfl
/-- Strings in a list. -/
def strsV (l : List (List Int)) : List Value := l.map fun s => .string (strOf s)
theorem kNil : (⟨#[]⟩ : ByteArray) = strOf [] := rfl
theorem stop_step {k : Nat} {r : RT} (h : r.ok = true ∧ r.rest ≠ []) : stopsS (k + 1) r = ((litS r).1 :: (stopsS k (litS r).2).1, (stopsS k (litS r).2).2) := by simp only [stopsS]; rw [if_pos h]
set_option maxHeartbeats 8000000 in
theorem readAsk_fn (rb lb : Nat) (r : RT) (hB : isB r.rest) (hl : r.rest.length ≤ 1000000000) (w : List Int) (id : Int) (nv : Value) :
    FC Tryd.prog 46 [.pointer (some ⟨rb, 0, none⟩), .pointer (some ⟨lb, 0, none⟩)] [RdB rb r, LnB lb w id nilV nv 0 [] nilV] libK
    (fun _ L => ∃ tv Ft sv Fs, OwnS 5 1 tv (bodyR wAsk r).1.2.2.1.length ((bodyR wAsk r).1.2.2.1.map (.int .u8)) Ft ∧ OwnS 9 1 sv (bodyR wAsk r).1.2.2.2.length (strsV (bodyR wAsk r).1.2.2.2) Fs ∧
      L = [RdB rb (bodyR wAsk r).2, LnB lb w id tv nv (bodyR wAsk r).1.1 (bodyR wAsk r).1.2.1 sv] ++ (Ft ++ Fs)) := by
  refine FC.sub2 ?_
  refine FC.intro Tryd.func46 rfl (by kernel_rfl) 43 [] rfl rfl rfl ?_
  intro w0 hK
  have hbd : bodyR wAsk r = (((seedS r).1, (litS (seedS r).2).1, (litS (litS (seedS r).2).2).1, (stopsS ((litS (litS (seedS r).2).2).2.rest.length + 1) (litS (litS (seedS r).2).2).2).1), (stopsS ((litS (litS (seedS r).2).2).2.rest.length + 1) (litS (litS (seedS r).2).2).2).2) := by unfold bodyR; rw [if_pos rfl]
  rw [hbd]
  clear hbd
  (repeat (first | (with_reducible apply XL.op) | ((with_reducible apply XOp.p1); (case hg | hv => exact rfl)) | (with_reducible apply XC.seq) | (with_reducible apply XC.region (Γ := Γ))))
  ((with_reducible apply XOp.call (L0 := [RdB rb r]) (hF :=  seed_fn rb r hB hl)); (case hg => exact rfl); (case hc => exact rfl); (case ha => exact rfl); (case hL => exact rfl))
  case hA => exact Known.of_old hK lib_mono
  rintro _ _ ⟨rfl, rfl⟩
  have hB1 : isB (seedS r).2.rest := (word_sub hB).2
  have hl1 := seed_len r
  generalize seedS r = q1 at *
  (repeat (first | (with_reducible apply XL.op) | ((with_reducible apply XOp.p1); (case hg | hv => exact rfl)) | ((with_reducible apply XOp.store (i := 1)); (case hg | ht | hk | hx | hv | h1 | hi | hs | ha => exact rfl)) | (with_reducible apply XL.nilT) | (with_reducible apply XC.seq) | (with_reducible apply XC.region (Γ := Γ))))
  ((with_reducible apply XOp.call (L0 := [RdB rb q1.2]) (hF :=  literal_fn rb q1.2 hB1 (by omega))); (case hg => exact rfl); (case hc => exact rfl); (case ha => exact rfl); (case hL => exact rfl))
  case hA => exact Known.true
  rintro v1 _ ⟨F1, rfl, hown1⟩
  obtain ⟨a1, c1, rfl⟩ := hown1.val
  have hB2 := blank_sub2 hB1
  have hl2 := lit_len q1.2
  have hg := lit_isB (r := q1.2)
  generalize litS q1.2 = q2 at *
  obtain ⟨a2, c2, e2, _, s2⟩ := own_by hown1 hg (by omega)
  obtain ⟨rfl, _, rfl⟩ := Value.slice.inj e2
  (repeat ((with_reducible apply XL.op)))
  (refine (show XOp _ _ _ _ _ _ _ _ ((RdB rb q2.2 :: F1) ++ [LnB lb w id nilV nv q1.1 [] nilV]) from XOp.perm (L' :=  [RdB rb q2.2, LnB lb w id nilV nv q1.1 [] nilV] ++ F1) rfl ?_ (by (first | (with_reducible exact List.Perm.refl _) | refine perm_of_cnt fun p_ => ?_; simp only [List.countP_append, List.countP_cons, List.countP_nil]; omega))))
  (repeat (first | (with_reducible apply XL.op) | ((with_reducible apply XOp.p1); (case hg | hv => exact rfl)) | ((with_reducible apply XOp.store (i := 1)); (case hg | ht | hk | hx | hv | h1 | hi | hs | ha => exact rfl)) | (with_reducible apply XL.nilT) | (with_reducible apply XC.seq) | (with_reducible apply XC.region (Γ := Γ)) | ((with_reducible apply XOp.pr); (case hg => exact rfl); (case hr => (with_reducible apply PR.toStr); (case hs => exact rfl); (case hk => exact rfl); (case he => exact rfl); (case hek => exact rfl); (case hd => exact rfl); (case hdk => exact rfl); (case hx => exact rfl); (case hl => exact rfl); (case hA => exact  s2.known fun y hy => by simp [hy])))))
  ((with_reducible apply XOp.call (L0 := [RdB rb q2.2]) (hF :=  literal_fn rb q2.2 hB2 (by omega))); (case hg => exact rfl); (case hc => exact rfl); (case ha => exact rfl); (case hL => exact rfl))
  case hA => exact Known.true
  rintro v2 _ ⟨F2, rfl, hown2⟩
  obtain ⟨a3, c3, rfl⟩ := hown2.val
  have hB3 := blank_sub2 hB2
  have hl3 := lit_len q2.2
  generalize litS q2.2 = q3 at *
  (repeat (first | (with_reducible apply XL.op) | ((with_reducible apply XOp.p1); (case hg | hv => exact rfl))))
  (refine (show XOp _ _ _ _ _ _ _ _ ((RdB rb q3.2 :: F2) ++ ([LnB lb w id nilV nv q1.1 q2.1 nilV] ++ F1)) from XOp.perm (L' :=  [RdB rb q3.2, LnB lb w id nilV nv q1.1 q2.1 nilV] ++ (F2 ++ F1)) rfl ?_ (by (first | (with_reducible exact List.Perm.refl _) | refine perm_of_cnt fun p_ => ?_; simp only [List.countP_append, List.countP_cons, List.countP_nil]; omega))))
  (repeat (first | ((with_reducible apply XOp.store (i := 1)); (case hg | ht | hk | hx | hv | h1 | hi | hs | ha => exact rfl)) | (with_reducible apply XL.nilT) | (with_reducible apply XC.block)))
  obtain ⟨ys0, rf0, h0⟩ : ∃ ys rf, stopsS (q3.2.rest.length + 1) q3.2 = (ys, rf) := ⟨_, _, rfl⟩
  refine XC.loopP (fun k ρ L => ∃ (rr : RT) (acc ys : List (List Int)) (rf : RT) (sv : Value) (G Fs : HL), isB rr.rest ∧ rr.rest.length ≤ q3.2.rest.length ∧ stopsS k rr = (ys, rf) ∧ (rr.rest.length < k ∨ rr.ok = false) ∧ ((rr.ok = true → acc.length + rr.rest.length ≤ q3.2.rest.length) ∧ acc.length ≤ q3.2.rest.length + 1) ∧ (∀ s ∈ acc, isB s) ∧
      (stopsS (q3.2.rest.length + 1) q3.2) = (acc ++ ys, rf) ∧ OwnS 9 1 sv acc.length (strsV acc) Fs ∧ L = [RdB rb rr, LnB lb w id (.slice a3 q3.1.length c3) nv q1.1 q2.1 sv] ++ ((F2 ++ G) ++ Fs) ∧ Slots ρ [(0, .pointer (some ⟨rb, 0, none⟩)), (1, .pointer (some ⟨lb, 0, none⟩))])
    (q3.2.rest.length + 1) ⟨q3.2, [], ys0, rf0, _, F1, [], hB3, Nat.le_refl _, h0, .inl (Nat.lt_succ_self _), ⟨fun _ => by simp, Nat.zero_le _⟩, (fun s hs => by cases hs), h0, OwnS.nil _ _, by rw [List.append_nil]; rfl, rfl, rfl, trivial⟩ ?_
  rintro k ρ L ⟨rr, acc, ys, rf, sv, G, Fs, hBr, hlr, hst, hkk, ⟨hal, hal2⟩, hac, htot, hown, rfl, hs⟩
  obtain ⟨as_, cs_, rfl⟩ := hown.val
  refine XC.slots _ hs ?_
  have hstop : ¬ (rr.ok = true ∧ rr.rest ≠ []) → ys = [] ∧ rf = rr := fun h => by
    have := stops_no k rr h
    rw [this] at hst; exact ⟨(Prod.mk.inj hst).1.symm, (Prod.mk.inj hst).2.symm⟩
  cases hrk : rr.ok with
  | false =>
    obtain ⟨rfl, rfl⟩ := hstop (by rw [hrk]; simp)
    rw [List.append_nil] at htot
    have hrb : RdB rb rf = (rb, .cells ⟨[.string (strOf rf.rest), .bool false]⟩ 59 (0, 0)) := by unfold RdB; rw [hrk]
    rw [hrb]
    (repeat (first | (with_reducible apply XL.op) | ((with_reducible apply XOp.p1); (case hg | hv => exact rfl)) | ((with_reducible apply XOp.p0); (case hg => exact rfl)) | ((with_reducible apply XOp.load); (case hg | ht | hk | hx => exact rfl); (case hc => exact own_cell (i := 0) rfl rfl)) | (with_reducible apply XL.nilT) | (with_reducible apply XC.seq) | (with_reducible apply XC.region (Γ := Γ)) | (with_reducible apply XQ.exit) | (with_reducible apply XQ.et) | ((with_reducible apply XQ.eb); (case hb => exact rfl)) | ((with_reducible apply XC.condF); (case hc => exact rfl))))
    ((with_reducible apply XQ.norE); (case hr => exact .nil))
    rw [← hrb]
    refine ⟨[RdB rb rf, LnB lb w id (.slice a3 q3.1.length c3) nv q1.1 q2.1 (.slice as_ acc.length cs_)] ++ (F2 ++ Fs), .of ?_, .slice a3 q3.1.length c3, F2, .slice as_ acc.length cs_, Fs, hown2, ?_, ?_⟩
    · exact List.Sublist.append (List.Sublist.refl _) (List.Sublist.append (List.sublist_append_left _ _) (List.Sublist.refl _))
    · rw [htot]; exact hown
    · rw [htot]

  | true =>
  have hrb : RdB rb rr = (rb, .cells ⟨[.string (strOf rr.rest), .bool true]⟩ 59 (0, 0)) := by unfold RdB; rw [hrk]
  rw [hrb]
  (repeat (first | (with_reducible apply XL.op) | ((with_reducible apply XOp.p1); (case hg | hv => exact rfl)) | ((with_reducible apply XOp.load); (case hg | ht | hk | hx => exact rfl); (case hc => exact own_cell (i := 0) rfl rfl)) | (with_reducible apply XL.nilT) | (with_reducible apply XC.seq) | (with_reducible apply XC.region (Γ := Γ))))
  rw [kNil, strOf_eq (isB_ok hBr) (fun x hx => by cases hx)]
  by_cases hre : rr.rest = []
  · obtain ⟨rfl, rfl⟩ := hstop (by rw [hre]; simp)
    rw [List.append_nil] at htot
    rw [pdt hre]
    (repeat (first | (with_reducible apply XQ.exit) | (with_reducible apply XQ.et) | ((with_reducible apply XQ.eb); (case hb => exact rfl)) | ((with_reducible apply XC.condF); (case hc => exact rfl))))
    ((with_reducible apply XQ.norE); (case hr => exact .nil))
    rw [← hrb]
    refine ⟨[RdB rb rf, LnB lb w id (.slice a3 q3.1.length c3) nv q1.1 q2.1 (.slice as_ acc.length cs_)] ++ (F2 ++ Fs), .of ?_, .slice a3 q3.1.length c3, F2, .slice as_ acc.length cs_, Fs, hown2, ?_, ?_⟩
    · exact List.Sublist.append (List.Sublist.refl _) (List.Sublist.append (List.sublist_append_left _ _) (List.Sublist.refl _))
    · rw [htot]; exact hown
    · rw [htot]

  rw [pdf hre, ← hrb]
  obtain ⟨k, rfl⟩ : ∃ m, k = m + 1 := ⟨k - 1, by
    rcases hkk with h | h
    · omega
    · rw [hrk] at h; cases h⟩
  rw [stop_step ⟨hrk, hre⟩] at hst
  have hkk2 : rr.rest.length < k + 1 := hkk.resolve_right (by rw [hrk]; simp)
  have hal3 := hal hrk
  have hll := lit_len rr
  have hB4 := blank_sub2 hBr
  have hg4 := lit_isB (r := rr)
  (repeat (first | (with_reducible apply XQ.skip) | (with_reducible apply XQ.nt) | (with_reducible apply XC.block) | ((with_reducible apply XC.condT); (case hc => exact rfl))))
  ((with_reducible apply XC.regionL (Γ := Γ) mixed (.q 0 (.q 1 (.q 2 (.q 3 (.q 4 (.q 5 (.e 6 (.e 7 (.e 8 (.e 9 (.q 10 (.q 11 (.e 12 (.done)))))))))))))) [12] ([LnB lb w id (.slice a3 q3.1.length c3) nv q1.1 q2.1 (.slice as_ acc.length cs_)])); (case hc => kernel_rfl); (case hs => first | exact List.nil_sublist _ | exact List.Sublist.refl _ | exact List.sublist_append_right _ _ | (refine List.Sublist.cons_cons _ (List.nil_sublist _)) | (refine List.Sublist.cons_cons _ (List.Sublist.cons_cons _ (List.nil_sublist _))) | (refine List.Sublist.cons_cons _ (List.Sublist.cons_cons _ (List.Sublist.cons_cons _ (List.nil_sublist _)))) | (refine List.Sublist.cons_cons _ (List.Sublist.cons_cons _ (List.Sublist.cons_cons _ (List.Sublist.cons_cons _ (List.nil_sublist _))))) | ((try simp only [List.append_eq, List.cons_append, List.nil_append, List.append_assoc]); (repeat (first | exact List.Sublist.refl _ | exact List.nil_sublist _ | (with_reducible apply List.Sublist.cons_cons) | (with_reducible apply List.Sublist.cons))); done)))
  (repeat (first | ((with_reducible apply XP.p1); (case ho | hg | hv => exact rfl)) | ((with_reducible apply XP.load); (case ho | hg | ht | hk | hx => exact rfl); (case hc => exact own_cell (i := 0) rfl rfl)) | ((with_reducible apply XP.e); (first | ((with_reducible apply XE.d); (case ho => exact rfl); (case hd => exact rfl)) | ((with_reducible apply XE.e); (case ho => exact rfl))))))
  ((with_reducible apply XOp.call (L0 := [RdB rb rr]) (hF :=  literal_fn rb rr hBr (by omega))); (case hg => exact rfl); (case hc => exact rfl); (case ha => exact rfl); (case hL => exact rfl))
  case hA => exact Known.true
  rintro v4 _ ⟨F4, rfl, hown4⟩
  obtain ⟨a4, c4, rfl⟩ := hown4.val
  generalize litS rr = q4 at *
  obtain ⟨a5, c5, e5, _, s4⟩ := own_by hown4 hg4 (by omega)
  obtain ⟨rfl, _, rfl⟩ := Value.slice.inj e5
  refine ⟨fun y_ hy_ => by rw [List.mem_singleton.1 hy_]; simp, ?_⟩
  (repeat (first | ((with_reducible apply XP.e); (first | ((with_reducible apply XE.d); (case ho => exact rfl); (case hd => exact rfl)) | ((with_reducible apply XE.e); (case ho => exact rfl)))) | ((with_reducible apply XP.keep); (case hk => first | ((repeat' (first | exact List.forall_mem_nil _ | (with_reducible refine List.forall_mem_cons.2 ⟨?_, ?_⟩) | exact List.mem_cons_self .. | (with_reducible apply List.mem_cons_of_mem) | (with_reducible apply List.mem_append_right))); done) | (intro x hx; first | exact sel_in hx | exact List.mem_cons_of_mem _ (sel_in hx) | exact List.mem_append_right _ (sel_in hx) | exact hx | exact List.mem_cons_of_mem _ hx | exact List.mem_append_right _ hx | ((repeat (first | exact sel_in hx | exact hx | (with_reducible apply List.mem_cons_of_mem) | (with_reducible apply List.mem_append_right))); done) | (rw [List.mem_singleton.1 hx]; (simp; done)) | (rcases List.mem_cons.1 hx with rfl | hx; (simp; done); (rw [List.mem_singleton.1 hx]; (simp; done))) | cases hx))) | ((with_reducible apply XOp.pr); (case hg => exact rfl); (case hr => (with_reducible apply PR.toStr); (case hs => exact rfl); (case hk => exact rfl); (case he => exact rfl); (case hek => exact rfl); (case hd => exact rfl); (case hdk => exact rfl); (case hx => exact rfl); (case hl => exact rfl); (case hA => exact  s4.known fun y hy => by simp [hy])))))
  ((with_reducible apply XOp.buildSlice); (case hg | ht | hk | he | hz | hzl | hf => exact rfl); intro bb)
  refine ⟨fun y_ hy_ => by rw [List.mem_singleton.1 hy_]; simp, ?_⟩
  (repeat (((with_reducible apply XP.e); (first | ((with_reducible apply XE.d); (case ho => exact rfl); (case hd => exact rfl)) | ((with_reducible apply XE.e); (case ho => exact rfl))))))
  (refine (show XOp _ _ _ _ _ _ _ _ ((bb, Obj.cells ⟨[.string (strOf q4.1)]⟩ 9 (0, 0)) :: ((RdB rb q4.2 :: F4) ++ (LnB lb w id (.slice a3 q3.1.length c3) nv q1.1 q2.1 (.slice as_ acc.length cs_) :: ((F2 ++ G) ++ Fs)))) from XOp.perm (L' :=  (bb, Obj.cells ⟨[.string (strOf q4.1)]⟩ 9 (0, 0)) :: (([RdB rb q4.2, LnB lb w id (.slice a3 q3.1.length c3) nv q1.1 q2.1 (.slice as_ acc.length cs_)] ++ (F2 ++ (F4 ++ G))) ++ Fs)) rfl ?_ (by (first | (with_reducible exact List.Perm.refl _) | refine perm_of_cnt fun p_ => ?_; simp only [List.countP_append, List.countP_cons, List.countP_nil]; omega))))
  ((with_reducible apply XOp.append1R (R := [RdB rb q4.2, LnB lb w id (.slice a3 q3.1.length c3) nv q1.1 q2.1 (.slice as_ acc.length cs_)] ++ (F2 ++ (F4 ++ G)))); (case hg => exact rfl); (case ht => exact rfl); (case hk => exact rfl); (case he => exact rfl); (case hown => exact hown); (case hs => exact rfl); (case hx => exact rfl); (case hL => exact rfl); (case hl => exact rfl); (case h1 => exact rfl); (case hz => exact rfl); (case hsz => exact Nat.zero_lt_succ _); (case hk0 => exact Nat.zero_lt_succ _); (case h63 => simp only [maxLen]; omega); (case hb => simp only []; omega); intro v_ F_ hown_; obtain ⟨a_, c_, rfl⟩ := hown_.val)
  refine ⟨fun y_ hy_ => by rw [List.mem_singleton.1 hy_]; simp, ?_⟩
  (repeat (first | ((with_reducible apply XOp.store (i := 1)); (case hg | ht | hk | hx | hv | h1 | hi | hs | ha => exact rfl)) | (with_reducible apply XQ.nt) | (with_reducible apply XQ.nb) | ((with_reducible apply XP.p1); (case ho | hg | hv => exact rfl)) | (with_reducible apply XP.done) | ((with_reducible apply XP.e); (first | ((with_reducible apply XE.d); (case ho => exact rfl); (case hd => exact rfl)) | ((with_reducible apply XE.e); (case ho => exact rfl))))))
  obtain ⟨hst1, hst2⟩ := Prod.mk.inj hst
  refine ⟨k, by omega, _, .of (List.Sublist.refl _), q4.2, acc ++ [q4.1], (stopsS k q4.2).1, rf, _, F4 ++ G, F_, hB4, by omega, by rw [← hst2], ?_, ⟨fun hq => by have := hll.2 hq; rw [List.length_append]; simp; omega, by rw [List.length_append]; simp; omega⟩, ?_, ?_, hown_.conv (by simp) (by simp [strsV, zerosL]), ?_, rfl, rfl, trivial⟩
  · cases hq : q4.2.ok with
    | false => exact .inr rfl
    | true => left; have := hll.2 hq; omega
  · intro s hs
    rcases List.mem_append.1 hs with h | h
    · exact hac s h
    · rw [List.mem_singleton.1 h]; exact hg4
  · rw [htot, ← hst1]; simp
  · rfl
end Go.Proofs.YtepfnakabafhlaaDoorX
/- wire.Print. -/
namespace Go.Proofs.YtepfnakabafhlaaDoorX
open Go Go.SX

abbrev strK : Kd (List Int) := Kd.raw (fun s => [Value.string (strOf s)]) 1 (fun _ => rfl)
def lnK (l : Ln) (ta na sa : Option Addr) (tc nc sc : Nat) (h : HV) : Prop := byAt h l.Text ta tc ∧ SlA (Kd.int .i64) 8 h l.Numbers na nc ∧ SlA strK 16 h l.Stops sa sc
theorem lnK_mono (l : Ln) (ta na sa : Option Addr) (tc nc sc : Nat) : Mono (lnK l ta na sa tc nc sc) := fun h h' s e => ⟨e.1.mono s, e.2.1.mono s, e.2.2.mono s⟩
end Go.Proofs.YtepfnakabafhlaaDoorX
namespace Go.SX
/-- The pieces are short. -/
structure Ln.fits (l : Ln) : Prop where
  text : l.Text.length ≤ 100000000
  guide : l.Guide.length ≤ 100000000
  stop : ∀ s ∈ l.Stops, s.length ≤ 100000000
  all : (litT l.Stops).length ≤ 1000000000000
end Go.SX
namespace Go.Proofs.YtepfnakabafhlaaDoorX
open Go Go.SX
theorem litT_snoc (xs : List (List Int)) (s : List Int) : litT (xs ++ [s]) = litT xs ++ (32 :: quoteL s) := by simp [litT]
theorem litT_take (xs : List (List Int)) (j : Nat) : (litT (xs.take j)).length ≤ (litT xs).length := by
  have h : litT xs = litT (xs.take j) ++ litT (xs.drop j) := by unfold litT; rw [← List.flatMap_append, List.take_append_drop]
  rw [h, List.length_append]; omega
theorem take_snoc {α : Type} {xs : List α} {j : Nat} {x : α} (h : xs[j]? = some x) : xs.take (j + 1) = xs.take j ++ [x] := by
  obtain ⟨hj, rfl⟩ := List.getElem?_eq_some_iff.1 h
  rw [List.take_succ_eq_append_getElem hj]
set_option maxHeartbeats 16000000 in
theorem writeAsk_fn (lb : Nat) (l : Ln) (hl : l.ok) (hf : l.fits) (hw : l.Word = wAsk) (ta na sa : Option Addr) (tc nc sc : Nat) :
    FC Tryd.prog 47 [.pointer (some ⟨lb, 0, none⟩)] [LnB lb l.Word l.Id (.slice ta l.Text.length tc) (.slice na l.Numbers.length nc) l.Seed l.Guide (.slice sa l.Stops.length sc)] (fun h => libK h ∧ lnK l ta na sa tc nc sc h) (fun v L => v = .string (strOf (tailT l)) ∧ L = [LnB lb l.Word l.Id (.slice ta l.Text.length tc) (.slice na l.Numbers.length nc) l.Seed l.Guide (.slice sa l.Stops.length sc)]) := by
  refine FC.sub2 ?_
  refine FC.intro Tryd.func47 rfl (by kernel_rfl) 44 [.tmp 2] rfl rfl rfl ?_
  rintro w0 ⟨hK, hT, hN, hS⟩
  have hfm : FC Tryd.prog 59 [.int .u64 l.Seed, .int .i64 10] [] libK (fun v L => v = .string (strOf (decL l.Seed.toNat)) ∧ L = []) := by
    have := fmtUint_fn l.Seed.toNat (by have := hl.seed; omega); rwa [Int.toNat_of_nonneg hl.seed.1] at this
  have hDl : (decL l.Seed.toNat).length ≤ 20 := decL_len _ (by have := hl.seed; omega)
  have hGl := quoteL_length l.Guide
  have hTl := quoteL_length l.Text
  have hf1 := hf.text
  have hf2 := hf.guide
  have htl : tailT l = ([32] ++ decL l.Seed.toNat ++ [32] ++ quoteL l.Guide ++ [32] ++ quoteL l.Text) ++ litT l.Stops := by
    unfold tailT; rw [if_pos hw, if_pos (.inl hw)]; simp
  rw [htl]
  have hqG := fun a c => quote_fn l.Guide a c (by omega)
  have hqT := fun a c => quote_fn l.Text a c (by omega)
  generalize decL l.Seed.toNat = D at *
  generalize quoteL l.Guide = QG at *
  generalize quoteL l.Text = QT at *
  (repeat (first | (with_reducible apply XL.op) | ((with_reducible apply XOp.p1); (case hg | hv => exact rfl)) | (with_reducible apply XL.nilT) | (with_reducible apply XC.seq) | (with_reducible apply XC.region (Γ := Γ))))
  refine XC.cut (fun ρ L => ∃ (gb : Nat) (go : Obj), L = [(gb, go), LnB lb l.Word l.Id (.slice ta l.Text.length tc) (.slice na l.Numbers.length nc) l.Seed l.Guide (.slice sa l.Stops.length sc)] ∧ Slots ρ [(0, .pointer (some ⟨lb, 0, none⟩)), (3, .string (strOf ([32] ++ D ++ [32] ++ QG ++ [32] ++ QT)))]) _ ?_ ?_
  · ((with_reducible apply XC.regionL (Γ := Γ) mixed (.q 0 (.q 1 (.q 2 (.q 3 (.q 7 (.q 8 (.q 9 (.q 10 (.q 15 (.q 16 (.q 17 (.q 18 (.b [(4, .q 5 (.q 6 (.e 11 (.e 12 (.q 13 (.q 14 (.e 19 (.q 20 (.q 21 (.done)))))))))), (11, .e 4 (.q 5 (.q 6 (.e 12 (.q 13 (.q 14 (.e 19 (.q 20 (.q 21 (.done))))))))))]))))))))))))) [] ([LnB lb l.Word l.Id (.slice ta l.Text.length tc) (.slice na l.Numbers.length nc) l.Seed l.Guide (.slice sa l.Stops.length sc)])); (case hc => kernel_rfl); (case hs => first | exact List.nil_sublist _ | exact List.Sublist.refl _ | exact List.sublist_append_right _ _ | (refine List.Sublist.cons_cons _ (List.nil_sublist _)) | (refine List.Sublist.cons_cons _ (List.Sublist.cons_cons _ (List.nil_sublist _))) | (refine List.Sublist.cons_cons _ (List.Sublist.cons_cons _ (List.Sublist.cons_cons _ (List.nil_sublist _)))) | (refine List.Sublist.cons_cons _ (List.Sublist.cons_cons _ (List.Sublist.cons_cons _ (List.Sublist.cons_cons _ (List.nil_sublist _))))) | ((try simp only [List.append_eq, List.cons_append, List.nil_append, List.append_assoc]); (repeat (first | exact List.Sublist.refl _ | exact List.nil_sublist _ | (with_reducible apply List.Sublist.cons_cons) | (with_reducible apply List.Sublist.cons))); done)))
    (repeat (first | ((with_reducible apply XP.p1); (case ho | hg | hv => exact rfl)) | ((with_reducible apply XP.load); (case ho | hg | ht | hk | hx => exact rfl); (case hc => exact own_cell (i := 0) rfl rfl)) | (with_reducible apply XP.b) | (with_reducible apply XB.cons) | ((with_reducible apply XE.e); (case ho => exact rfl))))
    · ((with_reducible apply XOp.callQ (hF := hfm)); (case hg => exact rfl); (case hc => exact rfl); (case ha => exact rfl); try (case hA => exact Known.true))
      case hA => exact Known.of_old hK lib_mono
      rintro _ rfl
      refine ⟨fun y_ hy_ => hy_, ?_⟩
      (repeat (first | ((with_reducible apply XP.e); (first | ((with_reducible apply XE.d); (case ho => exact rfl); (case hd => exact rfl)) | ((with_reducible apply XE.e); (case ho => exact rfl)))) | (first | ((with_reducible apply XOp.pr); (case hg => exact rfl); (case hr => (with_reducible apply PR.cat (xs := [32]) (ys := D)); (case hx => exact rfl); (case hy => exact rfl); (case hl => ((try simp only [List.length_append, List.length_cons, List.length_nil]); omega)))) | ((with_reducible apply XP.pr); (case ho => exact rfl); (case hg => exact rfl); (case hr => (with_reducible apply PR.cat (xs := [32]) (ys := D)); (case hx => exact rfl); (case hy => exact rfl); (case hl => ((try simp only [List.length_append, List.length_cons, List.length_nil]); omega))))) | (first | ((with_reducible apply XOp.pr); (case hg => exact rfl); (case hr => (with_reducible apply PR.cat (xs := [32] ++ D) (ys := [32])); (case hx => exact rfl); (case hy => exact rfl); (case hl => ((try simp only [List.length_append, List.length_cons, List.length_nil]); omega)))) | ((with_reducible apply XP.pr); (case ho => exact rfl); (case hg => exact rfl); (case hr => (with_reducible apply PR.cat (xs := [32] ++ D) (ys := [32])); (case hx => exact rfl); (case hy => exact rfl); (case hl => ((try simp only [List.length_append, List.length_cons, List.length_nil]); omega)))))))
      ((with_reducible apply XOp.strBytes); (case hg => exact rfl); (case hs => exact rfl); (case hsk => exact rfl); (case ht => exact rfl); (case hk => exact rfl); (case he => exact rfl); (case hek => exact rfl); (case hx => exact rfl); (case hok => exact (isB_ok hl.guide)); (case hl => exact (by have := hf.guide; omega)); intro gb gc gs gz hG)
      refine ⟨fun y_ hy_ => List.mem_cons_of_mem _ hy_, ?_⟩
      (repeat (((with_reducible apply XP.e); (first | ((with_reducible apply XE.d); (case ho => exact rfl); (case hd => exact rfl)) | ((with_reducible apply XE.e); (case ho => exact rfl))))))
      ((with_reducible apply XOp.callQ (hF := FC.nil (hqG _ _))); (case hg => exact rfl); (case hc => exact rfl); (case ha => exact rfl); try (case hA => exact Known.true))
      case hA => exact fun h e => hG h (e.1 (gb, .cells ⟨gs⟩ 5 gz) (List.mem_cons_self ..))
      rintro _ rfl
      refine ⟨fun y_ hy_ => List.mem_cons_of_mem _ hy_, ?_⟩
      (repeat (first | ((with_reducible apply XP.e); (first | ((with_reducible apply XE.d); (case ho => exact rfl); (case hd => exact rfl)) | ((with_reducible apply XE.e); (case ho => exact rfl)))) | (first | ((with_reducible apply XOp.pr); (case hg => exact rfl); (case hr => (with_reducible apply PR.cat (xs := [32] ++ D ++ [32]) (ys := QG)); (case hx => exact rfl); (case hy => exact rfl); (case hl => ((try simp only [List.length_append, List.length_cons, List.length_nil]); omega)))) | ((with_reducible apply XP.pr); (case ho => exact rfl); (case hg => exact rfl); (case hr => (with_reducible apply PR.cat (xs := [32] ++ D ++ [32]) (ys := QG)); (case hx => exact rfl); (case hy => exact rfl); (case hl => ((try simp only [List.length_append, List.length_cons, List.length_nil]); omega))))) | (first | ((with_reducible apply XOp.pr); (case hg => exact rfl); (case hr => (with_reducible apply PR.cat (xs := [32] ++ D ++ [32] ++ QG) (ys := [32])); (case hx => exact rfl); (case hy => exact rfl); (case hl => ((try simp only [List.length_append, List.length_cons, List.length_nil]); omega)))) | ((with_reducible apply XP.pr); (case ho => exact rfl); (case hg => exact rfl); (case hr => (with_reducible apply PR.cat (xs := [32] ++ D ++ [32] ++ QG) (ys := [32])); (case hx => exact rfl); (case hy => exact rfl); (case hl => ((try simp only [List.length_append, List.length_cons, List.length_nil]); omega)))))))
      ((with_reducible apply XOp.callQ (hF := FC.nil (hqT _ _))); (case hg => exact rfl); (case hc => exact rfl); (case ha => exact rfl); try (case hA => exact Known.true))
      case hA => exact Known.of_old hT (Mono.sl _ _ _ _ _)
      rintro _ rfl
      refine ⟨fun y_ hy_ => List.mem_cons_of_mem _ hy_, ?_⟩
      (repeat (first | (with_reducible apply XQ.nt) | ((with_reducible apply XP.p1); (case ho | hg | hv => exact rfl)) | (with_reducible apply XP.done) | (first | ((with_reducible apply XOp.pr); (case hg => exact rfl); (case hr => (with_reducible apply PR.cat (xs := [32] ++ D ++ [32] ++ QG ++ [32]) (ys := QT)); (case hx => exact rfl); (case hy => exact rfl); (case hl => ((try simp only [List.length_append, List.length_cons, List.length_nil]); omega)))) | ((with_reducible apply XP.pr); (case ho => exact rfl); (case hg => exact rfl); (case hr => (with_reducible apply PR.cat (xs := [32] ++ D ++ [32] ++ QG ++ [32]) (ys := QT)); (case hx => exact rfl); (case hy => exact rfl); (case hl => ((try simp only [List.length_append, List.length_cons, List.length_nil]); omega)))))))
      exact ⟨gb, _, rfl, rfl, rfl, trivial⟩
    · (repeat (first | (with_reducible apply XB.cons) | ((with_reducible apply XE.e); (case ho => exact rfl))))
      ((with_reducible apply XOp.strBytes); (case hg => exact rfl); (case hs => exact rfl); (case hsk => exact rfl); (case ht => exact rfl); (case hk => exact rfl); (case he => exact rfl); (case hek => exact rfl); (case hx => exact rfl); (case hok => exact (isB_ok hl.guide)); (case hl => exact (by have := hf.guide; omega)); intro gb gc gs gz hG)
      refine ⟨fun y_ hy_ => List.mem_cons_of_mem _ hy_, ?_⟩
      (repeat (((with_reducible apply XP.e); (first | ((with_reducible apply XE.d); (case ho => exact rfl); (case hd => exact rfl)) | ((with_reducible apply XE.e); (case ho => exact rfl))))))
      ((with_reducible apply XOp.callQ (hF := hfm)); (case hg => exact rfl); (case hc => exact rfl); (case ha => exact rfl); try (case hA => exact Known.true))
      case hA => exact Known.of_old hK lib_mono
      rintro _ rfl
      refine ⟨fun y_ hy_ => List.mem_cons_of_mem _ hy_, ?_⟩
      (repeat (first | ((with_reducible apply XP.e); (first | ((with_reducible apply XE.d); (case ho => exact rfl); (case hd => exact rfl)) | ((with_reducible apply XE.e); (case ho => exact rfl)))) | (first | ((with_reducible apply XOp.pr); (case hg => exact rfl); (case hr => (with_reducible apply PR.cat (xs := [32]) (ys := D)); (case hx => exact rfl); (case hy => exact rfl); (case hl => ((try simp only [List.length_append, List.length_cons, List.length_nil]); omega)))) | ((with_reducible apply XP.pr); (case ho => exact rfl); (case hg => exact rfl); (case hr => (with_reducible apply PR.cat (xs := [32]) (ys := D)); (case hx => exact rfl); (case hy => exact rfl); (case hl => ((try simp only [List.length_append, List.length_cons, List.length_nil]); omega))))) | (first | ((with_reducible apply XOp.pr); (case hg => exact rfl); (case hr => (with_reducible apply PR.cat (xs := [32] ++ D) (ys := [32])); (case hx => exact rfl); (case hy => exact rfl); (case hl => ((try simp only [List.length_append, List.length_cons, List.length_nil]); omega)))) | ((with_reducible apply XP.pr); (case ho => exact rfl); (case hg => exact rfl); (case hr => (with_reducible apply PR.cat (xs := [32] ++ D) (ys := [32])); (case hx => exact rfl); (case hy => exact rfl); (case hl => ((try simp only [List.length_append, List.length_cons, List.length_nil]); omega)))))))
      ((with_reducible apply XOp.callQ (hF := FC.nil (hqG _ _))); (case hg => exact rfl); (case hc => exact rfl); (case ha => exact rfl); try (case hA => exact Known.true))
      case hA => exact fun h e => hG h (e.1 (gb, .cells ⟨gs⟩ 5 gz) (List.mem_cons_self ..))
      rintro _ rfl
      refine ⟨fun y_ hy_ => List.mem_cons_of_mem _ hy_, ?_⟩
      (repeat (first | ((with_reducible apply XP.e); (first | ((with_reducible apply XE.d); (case ho => exact rfl); (case hd => exact rfl)) | ((with_reducible apply XE.e); (case ho => exact rfl)))) | (first | ((with_reducible apply XOp.pr); (case hg => exact rfl); (case hr => (with_reducible apply PR.cat (xs := [32] ++ D ++ [32]) (ys := QG)); (case hx => exact rfl); (case hy => exact rfl); (case hl => ((try simp only [List.length_append, List.length_cons, List.length_nil]); omega)))) | ((with_reducible apply XP.pr); (case ho => exact rfl); (case hg => exact rfl); (case hr => (with_reducible apply PR.cat (xs := [32] ++ D ++ [32]) (ys := QG)); (case hx => exact rfl); (case hy => exact rfl); (case hl => ((try simp only [List.length_append, List.length_cons, List.length_nil]); omega))))) | (first | ((with_reducible apply XOp.pr); (case hg => exact rfl); (case hr => (with_reducible apply PR.cat (xs := [32] ++ D ++ [32] ++ QG) (ys := [32])); (case hx => exact rfl); (case hy => exact rfl); (case hl => ((try simp only [List.length_append, List.length_cons, List.length_nil]); omega)))) | ((with_reducible apply XP.pr); (case ho => exact rfl); (case hg => exact rfl); (case hr => (with_reducible apply PR.cat (xs := [32] ++ D ++ [32] ++ QG) (ys := [32])); (case hx => exact rfl); (case hy => exact rfl); (case hl => ((try simp only [List.length_append, List.length_cons, List.length_nil]); omega)))))))
      ((with_reducible apply XOp.callQ (hF := FC.nil (hqT _ _))); (case hg => exact rfl); (case hc => exact rfl); (case ha => exact rfl); try (case hA => exact Known.true))
      case hA => exact Known.of_old hT (Mono.sl _ _ _ _ _)
      rintro _ rfl
      refine ⟨fun y_ hy_ => List.mem_cons_of_mem _ hy_, ?_⟩
      (repeat (first | (with_reducible apply XQ.nt) | ((with_reducible apply XP.p1); (case ho | hg | hv => exact rfl)) | (with_reducible apply XP.done) | (first | ((with_reducible apply XOp.pr); (case hg => exact rfl); (case hr => (with_reducible apply PR.cat (xs := [32] ++ D ++ [32] ++ QG ++ [32]) (ys := QT)); (case hx => exact rfl); (case hy => exact rfl); (case hl => ((try simp only [List.length_append, List.length_cons, List.length_nil]); omega)))) | ((with_reducible apply XP.pr); (case ho => exact rfl); (case hg => exact rfl); (case hr => (with_reducible apply PR.cat (xs := [32] ++ D ++ [32] ++ QG ++ [32]) (ys := QT)); (case hx => exact rfl); (case hy => exact rfl); (case hl => ((try simp only [List.length_append, List.length_cons, List.length_nil]); omega)))))))
      exact ⟨gb, _, rfl, rfl, rfl, trivial⟩
      exact XB.nil
  rintro ρ L ⟨gb, go, rfl, hs⟩
  refine XC.slots _ hs ?_
  have hsl := hS.small (by decide)
  obtain ⟨H, hH⟩ : ∃ H, H = [32] ++ D ++ [32] ++ QG ++ [32] ++ QT := ⟨_, rfl⟩
  have hHl : H.length ≤ 10000000000 := by rw [hH]; simp only [List.length_append, List.length_cons, List.length_nil]; omega
  rw [← hH] at hs ⊢
  (repeat (first | (with_reducible apply XL.op) | ((with_reducible apply XOp.p1); (case hg | hv => exact rfl)) | ((with_reducible apply XOp.load); (case hg | ht | hk | hx => exact rfl); (case hc => exact own_cell (i := 1) rfl rfl)) | (with_reducible apply XL.nilT) | (with_reducible apply XC.seq) | (with_reducible apply XC.region (Γ := Γ)) | (with_reducible apply XC.block)))
  refine XC.loopP (fun k ρ L => ∃ (j : Nat) (G : HL), j + k = l.Stops.length ∧ L = G ++ [LnB lb l.Word l.Id (.slice ta l.Text.length tc) (.slice na l.Numbers.length nc) l.Seed l.Guide (.slice sa l.Stops.length sc)] ∧
      Slots ρ [(0, .pointer (some ⟨lb, 0, none⟩)), (3, .string (strOf (H ++ litT (l.Stops.take j)))), (30, .slice sa l.Stops.length sc), (31, .int .i64 l.Stops.length), (32, .int .i64 j)])
    l.Stops.length ⟨0, [(gb, go)], by simp, rfl, rfl, ?_, rfl, rfl, rfl, trivial⟩ ?_
  · show _ = _
    simp [litT]; rfl
  rintro k ρ L ⟨j, G, hjk, rfl, hs⟩
  refine XC.slots _ hs ?_
  (repeat (first | (with_reducible apply XL.op) | ((with_reducible apply XOp.p1); (case hg | hv => exact rfl)) | (with_reducible apply XL.nilT) | (with_reducible apply XC.seq) | (with_reducible apply XC.region (Γ := Γ))))
  ((with_reducible apply XC.cond); (case hc => exact rfl); all_goals (intro hb_; try simp only [pd_true, pd_false, Bool.not_eq_true', Bool.not_eq_false', Bool.and_eq_true, Bool.and_eq_false_iff, Bool.or_eq_true, Bool.or_eq_false_iff, not_true_eq_false, not_false_eq_true, Int.not_lt, Int.not_le] at hb_))
  · obtain ⟨s, hsj⟩ : ∃ s, l.Stops[j]? = some s := ⟨_, List.getElem?_eq_getElem (by omega)⟩
    have hsm := List.mem_of_getElem? hsj
    have hsB := hl.stops s hsm
    have hss := hf.stop s hsm
    have hqs := quoteL_length s
    have hqS := fun a c => quote_fn s a c (by omega)
    have hst := litT_snoc (l.Stops.take j) s
    have hal := litT_take l.Stops (j + 1)
    rw [take_snoc hsj, hst, List.length_append, List.length_cons] at hal
    have hfa := hf.all
    (repeat (first | (with_reducible apply XL.op) | ((with_reducible apply XOp.p1); (case hg | hv => exact rfl)) | ((with_reducible apply XOp.pr); (case hg => exact rfl); (case hr => ((with_reducible apply PR.idxA); (case ht | hk | he | hx | hi => exact rfl); (case hr => first | assumption | omega); (case ha => first | assumption | exact SlA.at_ (by assumption))))) | (with_reducible apply XL.nilT) | (with_reducible apply XC.seq) | (with_reducible apply XC.region (Γ := Γ)) | (with_reducible apply XQ.skip) | (with_reducible apply XQ.nt) | (with_reducible apply XC.block) | (first | ((with_reducible apply XOp.load); (case hg | ht | hk | hx => exact rfl); (case hc => exact Known.of_old (hS.rawAt hsj 0 _ rfl) (Mono.cell _ _))) | ((with_reducible apply XP.load); (case ho | hg | ht | hk | hx => exact rfl); (case hc => exact Known.of_old (hS.rawAt hsj 0 _ rfl) (Mono.cell _ _))))))
    ((with_reducible apply XOp.strBytes); (case hg => exact rfl); (case hs => exact rfl); (case hsk => exact rfl); (case ht => exact rfl); (case hk => exact rfl); (case he => exact rfl); (case hek => exact rfl); (case hx => exact rfl); (case hok => exact (isB_ok hsB)); (case hl => exact (by omega)); intro gb gc gs gz hG)
    (repeat ((with_reducible apply XL.op)))
    generalize quoteL s = Q at *
    ((with_reducible apply XOp.callQ (hF := FC.nil (hqS _ _))); (case hg => exact rfl); (case hc => exact rfl); (case ha => exact rfl); try (case hA => exact Known.true))
    case hA => exact fun h e => hG h (e.1 (gb, .cells ⟨gs⟩ 5 gz) (List.mem_cons_self ..))
    rintro _ rfl
    (repeat (first | (with_reducible apply XL.op) | ((with_reducible apply XOp.p1); (case hg | hv => exact rfl)) | (with_reducible apply XL.nilT) | (with_reducible apply XC.region (Γ := Γ)) | (with_reducible apply XL.nilQ) | (with_reducible apply XQ.nt) | (with_reducible apply XQ.nb) | (first | ((with_reducible apply XOp.pr); (case hg => exact rfl); (case hr => (with_reducible apply PR.cat (xs := [32]) (ys := Q)); (case hx => exact rfl); (case hy => exact rfl); (case hl => ((try simp only [List.length_append, List.length_cons, List.length_nil]); omega)))) | ((with_reducible apply XP.pr); (case ho => exact rfl); (case hg => exact rfl); (case hr => (with_reducible apply PR.cat (xs := [32]) (ys := Q)); (case hx => exact rfl); (case hy => exact rfl); (case hl => ((try simp only [List.length_append, List.length_cons, List.length_nil]); omega))))) | (first | ((with_reducible apply XOp.pr); (case hg => exact rfl); (case hr => (with_reducible apply PR.cat (xs := H ++ litT (l.Stops.take j)) (ys := [32] ++ Q)); (case hx => exact rfl); (case hy => exact rfl); (case hl => ((try simp only [List.length_append, List.length_cons, List.length_nil]); omega)))) | ((with_reducible apply XP.pr); (case ho => exact rfl); (case hg => exact rfl); (case hr => (with_reducible apply PR.cat (xs := H ++ litT (l.Stops.take j)) (ys := [32] ++ Q)); (case hx => exact rfl); (case hy => exact rfl); (case hl => ((try simp only [List.length_append, List.length_cons, List.length_nil]); omega)))))))
    rw [show H ++ litT (l.Stops.take j) ++ ([32] ++ Q) = H ++ litT (l.Stops.take (j + 1)) by rw [take_snoc hsj, hst]; simp]
    refine ⟨k - 1, by omega, _, .of (List.Sublist.refl _), j + 1, (gb, .cells ⟨gs⟩ 5 gz) :: G, by omega, rfl, rfl, rfl, rfl, rfl, intS (m := l.Stops.length) (by omega) (by omega), trivial⟩
  (repeat (first | (with_reducible apply XL.op) | ((with_reducible apply XOp.p1); (case hg | hv => exact rfl)) | (with_reducible apply XL.nilT) | (with_reducible apply XC.seq) | (with_reducible apply XC.region (Γ := Γ)) | (with_reducible apply XQ.ret) | (with_reducible apply XQ.exit) | (with_reducible apply XQ.nt) | (with_reducible apply XQ.et) | ((with_reducible apply XQ.eb); (case hb => exact rfl))))
  ((with_reducible apply XQ.retE); (case hr => exact .t rfl .nil))
  obtain rfl : j = l.Stops.length := by omega
  rw [List.take_length]
  exact ⟨[LnB lb l.Word l.Id (.slice ta l.Text.length tc) (.slice na l.Numbers.length nc) l.Seed l.Guide (.slice sa l.Stops.length sc)], .of (List.sublist_append_right _ _), rfl, rfl⟩

theorem writeText_fn (lb : Nat) (l : Ln) (hf : l.fits) (ta na sa : Option Addr) (tc nc sc : Nat) :
    FC Tryd.prog 49 [.pointer (some ⟨lb, 0, none⟩)] [LnB lb l.Word l.Id (.slice ta l.Text.length tc) (.slice na l.Numbers.length nc) l.Seed l.Guide (.slice sa l.Stops.length sc)] (fun h => lnK l ta na sa tc nc sc h) (fun v L => v = .string (strOf (32 :: quoteL l.Text)) ∧ L = [LnB lb l.Word l.Id (.slice ta l.Text.length tc) (.slice na l.Numbers.length nc) l.Seed l.Guide (.slice sa l.Stops.length sc)]) := by
  refine FC.sub2 ?_
  refine FC.intro Tryd.func49 rfl (by kernel_rfl) 9 [.tmp 2] rfl rfl rfl ?_
  rintro w0 ⟨hT, hN, hS⟩
  have hTl := quoteL_length l.Text
  have hf1 := hf.text
  (repeat (first | (with_reducible apply XL.op) | ((with_reducible apply XOp.p1); (case hg | hv => exact rfl)) | ((with_reducible apply XOp.load); (case hg | ht | hk | hx => exact rfl); (case hc => exact own_cell (i := 0) rfl rfl)) | (with_reducible apply XL.nilT) | (with_reducible apply XC.seq) | (with_reducible apply XC.region (Γ := Γ))))
  ((with_reducible apply XOp.callQ (hF := FC.nil (quote_fn l.Text _ _ (by omega)))); (case hg => exact rfl); (case hc => exact rfl); (case ha => exact rfl); try (case hA => exact Known.true))
  case hA => exact Known.of_old hT (Mono.sl _ _ _ _ _)
  rintro _ rfl
  (repeat (first | (with_reducible apply XL.op) | ((with_reducible apply XOp.p1); (case hg | hv => exact rfl)) | (with_reducible apply XL.nilT) | (with_reducible apply XQ.ret) | (first | ((with_reducible apply XOp.pr); (case hg => exact rfl); (case hr => (with_reducible apply PR.cat (xs := [32]) (ys := quoteL l.Text)); (case hx => exact rfl); (case hy => exact rfl); (case hl => ((try simp only [List.length_append, List.length_cons, List.length_nil]); omega)))) | ((with_reducible apply XP.pr); (case ho => exact rfl); (case hg => exact rfl); (case hr => (with_reducible apply PR.cat (xs := [32]) (ys := quoteL l.Text)); (case hx => exact rfl); (case hy => exact rfl); (case hl => ((try simp only [List.length_append, List.length_cons, List.length_nil]); omega)))))))
  ((with_reducible apply XQ.retE); (case hr => exact .t rfl .nil))
  exact ⟨_, .of (List.Sublist.refl _), rfl, rfl⟩
theorem empty_fn (lb : Nat) : FC Tryd.prog 51 [.pointer (some ⟨lb, 0, none⟩)] [] (fun _ => True) (fun v L => v = .string (strOf []) ∧ L = []) := by
  refine FC.intro Tryd.func51 rfl (by kernel_rfl) 3 [.tmp 2] rfl rfl rfl ?_
  intro w0 _
  (repeat (first | (with_reducible apply XL.op) | ((with_reducible apply XOp.p1); (case hg | hv => exact rfl)) | (with_reducible apply XL.nilT) | (with_reducible apply XC.seq) | (with_reducible apply XC.region (Γ := Γ)) | (with_reducible apply XQ.ret)))
  ((with_reducible apply XQ.retE); (case hr => exact .t rfl .nil))
  exact ⟨rfl, rfl⟩
theorem numT_bound {ns : List Int} (h : ∀ n ∈ ns, inK .i64 n) (hl : ns.length ≤ 6) (j : Nat) : (numT (ns.take j)).length ≤ 1000 := by
  have h2 : ∀ l : List Int, (∀ n ∈ l, inK .i64 n) → (numT l).length ≤ 22 * l.length := by
    intro l
    induction l with
    | nil => intro _; simp [numT]
    | cons a l ih =>
      intro hh
      have e : numT (a :: l) = (32 :: intL a) ++ numT l := by simp [numT]
      have h3 := intL_len _ (hh a (List.mem_cons_self ..))
      have h4 := ih fun n hn => hh n (List.mem_cons_of_mem _ hn)
      rw [e, List.length_append, List.length_cons, List.length_cons]; omega
  have h5 := h2 (ns.take j) fun n hn => h n (List.mem_of_mem_take hn)
  have h6 : (ns.take j).length ≤ 6 := by rw [List.length_take]; omega
  omega
theorem tailT_bound {l : Ln} (hl : l.ok) (hf : l.fits) : (tailT l).length ≤ 2000000000000 := by
  have h1 := quoteL_length l.Text
  have h2 := quoteL_length l.Guide
  have h3 := decL_len l.Seed.toNat (by have := hl.seed; omega)
  have hf1 := hf.text
  have hf2 := hf.guide
  have hf3 := hf.all
  unfold tailT
  split <;> split <;> simp only [List.length_append, List.length_cons, List.length_nil] <;> omega
theorem printS_bad {l : Ln} (h : ¬ l.may) : printS l = none := by unfold printS; rw [if_neg h]
set_option maxHeartbeats 16000000 in
theorem print_fn (l : Ln) (hl : l.ok) (hf : l.fits) (ta na sa : Option Addr) (tc nc sc : Nat) :
    FC Tryd.prog 18 [.agg ⟨lnC l.Word l.Id (.slice ta l.Text.length tc) (.slice na l.Numbers.length nc) l.Seed l.Guide (.slice sa l.Stops.length sc)⟩] [] (fun h => libK h ∧ lnK l ta na sa tc nc sc h)
      (fun v L => v = (match printS l with | some t => .tuple #[.string (strOf t), .int .i64 0] | none => .tuple #[.string (strOf []), .int .i64 220]) ∧ L = []) := by
  refine FC.nil ?_
  refine FC.intro Tryd.func18 rfl (by kernel_rfl) 97 [.tmp 2, .tmp 3] rfl rfl rfl ?_
  rintro w0 ⟨hK, hT, hN, hS⟩
  have hns := hN.small (by decide)
  have hss := hS.small (by decide)
  have hts := hT.small (by decide)
  have hid := inK_i64.1 hl.id
  (repeat (first | (with_reducible apply XL.op) | (with_reducible apply XC.seq) | (with_reducible apply XC.region (Γ := Γ))))
  ((with_reducible apply XOp.box); (case hg | hx' => exact rfl); intro lb)
  (repeat (first | (with_reducible apply XL.op) | ((with_reducible apply XOp.p1); (case hg | hv => exact rfl)) | ((with_reducible apply XOp.load); (case hg | ht | hk | hx => exact rfl); (case hc => exact own_cell (i := 0) rfl rfl)) | (with_reducible apply XL.nilT) | (with_reducible apply XC.seq) | (with_reducible apply XC.region (Γ := Γ))))
  ((with_reducible apply XOp.callQ (hF := of_fn l.Word hl.word)); (case hg => exact rfl); (case hc => exact rfl); (case ha => exact rfl); try (case hA => exact Known.true))
  case hA => exact Known.of_old hK lib_mono
  rintro _ rfl
  by_cases hnw : 0 ≤ numsW l.Word
  case neg =>
    have hp := printS_bad fun h : l.may => hnw h.word
    rw [if_neg hnw]
    (repeat (first | (with_reducible apply XL.op) | ((with_reducible apply XOp.p1); (case hg | hv => exact rfl))))
    ((with_reducible apply XOp.alloc); (case hg | ht | hx' => exact rfl); intro wb)
    (repeat (first | (with_reducible apply XL.op) | ((with_reducible apply XOp.p1); (case hg | hv => exact rfl)) | ((with_reducible apply XOp.p0); (case hg => exact rfl)) | ((with_reducible apply XOp.storeN (i := 0)); (case hg | ht | hx | hv' | hk | h1 | hi | hs | ha => exact rfl)) | (with_reducible apply XL.nilT) | (with_reducible apply XC.seq) | (with_reducible apply XC.region (Γ := Γ)) | (with_reducible apply XQ.ret) | (with_reducible apply XQ.rt) | ((with_reducible apply XC.condT); (case hc => exact rfl))))
    ((with_reducible apply XQ.retE); (case hr => exact .t rfl (.t rfl .nil)))
    rw [hp]; rfl
  rw [if_pos hnw]
  (repeat (first | (with_reducible apply XL.op) | ((with_reducible apply XOp.p1); (case hg | hv => exact rfl))))
  ((with_reducible apply XOp.alloc); (case hg | ht | hx' => exact rfl); intro wb)
  by_cases hln : (l.Numbers.length : Int) = numsW l.Word
  case neg =>
    have hp := printS_bad fun h : l.may => hln h.nums
    (repeat (first | (with_reducible apply XL.op) | ((with_reducible apply XOp.p1); (case hg | hv => exact rfl)) | ((with_reducible apply XOp.p0); (case hg => exact rfl)) | ((with_reducible apply XOp.load); (case hg | ht | hk | hx => exact rfl); (case hc => exact own_cell (i := 0) rfl rfl)) | ((with_reducible apply XOp.load); (case hg | ht | hk | hx => exact rfl); (case hc => exact own_cell (i := 1) rfl rfl)) | ((with_reducible apply XOp.storeN (i := 0)); (case hg | ht | hx | hv' | hk | h1 | hi | hs | ha => exact rfl)) | (with_reducible apply XL.nilT) | (with_reducible apply XC.seq) | (with_reducible apply XC.region (Γ := Γ)) | (with_reducible apply XQ.ret) | (with_reducible apply XQ.rt) | ((with_reducible apply XC.condT); (case hc => exact rfl)) | (first | ((with_reducible apply XOp.split); (case hg | hj | hd | hb => exact rfl); (fail_if_success (case hf => exact fun h => Bool.noConfusion h)); (fail_if_success (case ht => exact fun h => Bool.noConfusion h)); (first | (case ht => intro hb_; try simp only [pd_true, pd_false, Bool.not_eq_true', Bool.not_eq_false', Bool.and_eq_true, Bool.and_eq_false_iff, Bool.or_eq_true, Bool.or_eq_false_iff, not_true_eq_false, not_false_eq_true, Int.not_lt, Int.not_le] at hb_; first | done | (exfalso; first | omega | contradiction)) | (case hf => intro hb_; try simp only [pd_true, pd_false, Bool.not_eq_true', Bool.not_eq_false', Bool.and_eq_true, Bool.and_eq_false_iff, Bool.or_eq_true, Bool.or_eq_false_iff, not_true_eq_false, not_false_eq_true, Int.not_lt, Int.not_le] at hb_; first | done | (exfalso; first | omega | contradiction))); intro hb_; try simp only [pd_true, pd_false, Bool.not_eq_true', Bool.not_eq_false', Bool.and_eq_true, Bool.and_eq_false_iff, Bool.or_eq_true, Bool.or_eq_false_iff, not_true_eq_false, not_false_eq_true, Int.not_lt, Int.not_le] at hb_) | ((with_reducible apply XP.split); (case ho | hg | hj | hd | hb => exact rfl); (fail_if_success (case hf => exact fun h => Bool.noConfusion h)); (fail_if_success (case ht => exact fun h => Bool.noConfusion h)); (first | (case ht => intro hb_; try simp only [pd_true, pd_false, Bool.not_eq_true', Bool.not_eq_false', Bool.and_eq_true, Bool.and_eq_false_iff, Bool.or_eq_true, Bool.or_eq_false_iff, not_true_eq_false, not_false_eq_true, Int.not_lt, Int.not_le] at hb_; first | done | (exfalso; first | omega | contradiction)) | (case hf => intro hb_; try simp only [pd_true, pd_false, Bool.not_eq_true', Bool.not_eq_false', Bool.and_eq_true, Bool.and_eq_false_iff, Bool.or_eq_true, Bool.or_eq_false_iff, not_true_eq_false, not_false_eq_true, Int.not_lt, Int.not_le] at hb_; first | done | (exfalso; first | omega | contradiction))); intro hb_; try simp only [pd_true, pd_false, Bool.not_eq_true', Bool.not_eq_false', Bool.and_eq_true, Bool.and_eq_false_iff, Bool.or_eq_true, Bool.or_eq_false_iff, not_true_eq_false, not_false_eq_true, Int.not_lt, Int.not_le] at hb_) | ((with_reducible apply XC.cond); (case hc => exact rfl); (first | (case ht => intro hb_; try simp only [pd_true, pd_false, Bool.not_eq_true', Bool.not_eq_false', Bool.and_eq_true, Bool.and_eq_false_iff, Bool.or_eq_true, Bool.or_eq_false_iff, not_true_eq_false, not_false_eq_true, Int.not_lt, Int.not_le] at hb_; first | done | (exfalso; first | omega | contradiction)) | (case hf => intro hb_; try simp only [pd_true, pd_false, Bool.not_eq_true', Bool.not_eq_false', Bool.and_eq_true, Bool.and_eq_false_iff, Bool.or_eq_true, Bool.or_eq_false_iff, not_true_eq_false, not_false_eq_true, Int.not_lt, Int.not_le] at hb_; first | done | (exfalso; first | omega | contradiction))); intro hb_; try simp only [pd_true, pd_false, Bool.not_eq_true', Bool.not_eq_false', Bool.and_eq_true, Bool.and_eq_false_iff, Bool.or_eq_true, Bool.or_eq_false_iff, not_true_eq_false, not_false_eq_true, Int.not_lt, Int.not_le] at hb_))))
    ((with_reducible apply XQ.retE); (case hr => exact .t rfl (.t rfl .nil)))
    rw [hp]; rfl
  by_cases hi0 : 0 ≤ l.Id
  case neg =>
    have hp := printS_bad fun h : l.may => hi0 h.id.1
    (repeat (first | (with_reducible apply XL.op) | ((with_reducible apply XOp.p1); (case hg | hv => exact rfl)) | ((with_reducible apply XOp.p0); (case hg => exact rfl)) | ((with_reducible apply XOp.load); (case hg | ht | hk | hx => exact rfl); (case hc => exact own_cell (i := 0) rfl rfl)) | ((with_reducible apply XOp.load); (case hg | ht | hk | hx => exact rfl); (case hc => exact own_cell (i := 1) rfl rfl)) | ((with_reducible apply XOp.storeN (i := 0)); (case hg | ht | hx | hv' | hk | h1 | hi | hs | ha => exact rfl)) | (with_reducible apply XL.nilT) | (with_reducible apply XC.seq) | (with_reducible apply XC.region (Γ := Γ)) | (with_reducible apply XQ.ret) | (with_reducible apply XQ.rt) | ((with_reducible apply XC.condT); (case hc => exact rfl)) | (first | ((with_reducible apply XOp.split); (case hg | hj | hd | hb => exact rfl); (fail_if_success (case hf => exact fun h => Bool.noConfusion h)); (fail_if_success (case ht => exact fun h => Bool.noConfusion h)); (first | (case ht => intro hb_; try simp only [pd_true, pd_false, Bool.not_eq_true', Bool.not_eq_false', Bool.and_eq_true, Bool.and_eq_false_iff, Bool.or_eq_true, Bool.or_eq_false_iff, not_true_eq_false, not_false_eq_true, Int.not_lt, Int.not_le] at hb_; first | done | (exfalso; first | omega | contradiction)) | (case hf => intro hb_; try simp only [pd_true, pd_false, Bool.not_eq_true', Bool.not_eq_false', Bool.and_eq_true, Bool.and_eq_false_iff, Bool.or_eq_true, Bool.or_eq_false_iff, not_true_eq_false, not_false_eq_true, Int.not_lt, Int.not_le] at hb_; first | done | (exfalso; first | omega | contradiction))); intro hb_; try simp only [pd_true, pd_false, Bool.not_eq_true', Bool.not_eq_false', Bool.and_eq_true, Bool.and_eq_false_iff, Bool.or_eq_true, Bool.or_eq_false_iff, not_true_eq_false, not_false_eq_true, Int.not_lt, Int.not_le] at hb_) | ((with_reducible apply XP.split); (case ho | hg | hj | hd | hb => exact rfl); (fail_if_success (case hf => exact fun h => Bool.noConfusion h)); (fail_if_success (case ht => exact fun h => Bool.noConfusion h)); (first | (case ht => intro hb_; try simp only [pd_true, pd_false, Bool.not_eq_true', Bool.not_eq_false', Bool.and_eq_true, Bool.and_eq_false_iff, Bool.or_eq_true, Bool.or_eq_false_iff, not_true_eq_false, not_false_eq_true, Int.not_lt, Int.not_le] at hb_; first | done | (exfalso; first | omega | contradiction)) | (case hf => intro hb_; try simp only [pd_true, pd_false, Bool.not_eq_true', Bool.not_eq_false', Bool.and_eq_true, Bool.and_eq_false_iff, Bool.or_eq_true, Bool.or_eq_false_iff, not_true_eq_false, not_false_eq_true, Int.not_lt, Int.not_le] at hb_; first | done | (exfalso; first | omega | contradiction))); intro hb_; try simp only [pd_true, pd_false, Bool.not_eq_true', Bool.not_eq_false', Bool.and_eq_true, Bool.and_eq_false_iff, Bool.or_eq_true, Bool.or_eq_false_iff, not_true_eq_false, not_false_eq_true, Int.not_lt, Int.not_le] at hb_) | ((with_reducible apply XC.cond); (case hc => exact rfl); (first | (case ht => intro hb_; try simp only [pd_true, pd_false, Bool.not_eq_true', Bool.not_eq_false', Bool.and_eq_true, Bool.and_eq_false_iff, Bool.or_eq_true, Bool.or_eq_false_iff, not_true_eq_false, not_false_eq_true, Int.not_lt, Int.not_le] at hb_; first | done | (exfalso; first | omega | contradiction)) | (case hf => intro hb_; try simp only [pd_true, pd_false, Bool.not_eq_true', Bool.not_eq_false', Bool.and_eq_true, Bool.and_eq_false_iff, Bool.or_eq_true, Bool.or_eq_false_iff, not_true_eq_false, not_false_eq_true, Int.not_lt, Int.not_le] at hb_; first | done | (exfalso; first | omega | contradiction))); intro hb_; try simp only [pd_true, pd_false, Bool.not_eq_true', Bool.not_eq_false', Bool.and_eq_true, Bool.and_eq_false_iff, Bool.or_eq_true, Bool.or_eq_false_iff, not_true_eq_false, not_false_eq_true, Int.not_lt, Int.not_le] at hb_))))
    ((with_reducible apply XQ.retE); (case hr => exact .t rfl (.t rfl .nil)))
    rw [hp]; rfl
  by_cases hi1 : l.Id ≤ 2147483647
  case neg =>
    have hp := printS_bad fun h : l.may => hi1 h.id.2
    (repeat (first | (with_reducible apply XL.op) | ((with_reducible apply XOp.p1); (case hg | hv => exact rfl)) | ((with_reducible apply XOp.load); (case hg | ht | hk | hx => exact rfl); (case hc => exact own_cell (i := 0) rfl rfl)) | ((with_reducible apply XOp.load); (case hg | ht | hk | hx => exact rfl); (case hc => exact own_cell (i := 1) rfl rfl)) | ((with_reducible apply XOp.storeN (i := 0)); (case hg | ht | hx | hv' | hk | h1 | hi | hs | ha => exact rfl)) | (with_reducible apply XL.nilT) | (with_reducible apply XC.seq) | (with_reducible apply XC.region (Γ := Γ)) | (with_reducible apply XQ.ret) | (with_reducible apply XQ.rt) | (first | ((with_reducible apply XOp.split); (case hg | hj | hd | hb => exact rfl); (fail_if_success (case hf => exact fun h => Bool.noConfusion h)); (fail_if_success (case ht => exact fun h => Bool.noConfusion h)); (first | (case ht => intro hb_; try simp only [pd_true, pd_false, Bool.not_eq_true', Bool.not_eq_false', Bool.and_eq_true, Bool.and_eq_false_iff, Bool.or_eq_true, Bool.or_eq_false_iff, not_true_eq_false, not_false_eq_true, Int.not_lt, Int.not_le] at hb_; first | done | (exfalso; first | omega | contradiction)) | (case hf => intro hb_; try simp only [pd_true, pd_false, Bool.not_eq_true', Bool.not_eq_false', Bool.and_eq_true, Bool.and_eq_false_iff, Bool.or_eq_true, Bool.or_eq_false_iff, not_true_eq_false, not_false_eq_true, Int.not_lt, Int.not_le] at hb_; first | done | (exfalso; first | omega | contradiction))); intro hb_; try simp only [pd_true, pd_false, Bool.not_eq_true', Bool.not_eq_false', Bool.and_eq_true, Bool.and_eq_false_iff, Bool.or_eq_true, Bool.or_eq_false_iff, not_true_eq_false, not_false_eq_true, Int.not_lt, Int.not_le] at hb_) | ((with_reducible apply XP.split); (case ho | hg | hj | hd | hb => exact rfl); (fail_if_success (case hf => exact fun h => Bool.noConfusion h)); (fail_if_success (case ht => exact fun h => Bool.noConfusion h)); (first | (case ht => intro hb_; try simp only [pd_true, pd_false, Bool.not_eq_true', Bool.not_eq_false', Bool.and_eq_true, Bool.and_eq_false_iff, Bool.or_eq_true, Bool.or_eq_false_iff, not_true_eq_false, not_false_eq_true, Int.not_lt, Int.not_le] at hb_; first | done | (exfalso; first | omega | contradiction)) | (case hf => intro hb_; try simp only [pd_true, pd_false, Bool.not_eq_true', Bool.not_eq_false', Bool.and_eq_true, Bool.and_eq_false_iff, Bool.or_eq_true, Bool.or_eq_false_iff, not_true_eq_false, not_false_eq_true, Int.not_lt, Int.not_le] at hb_; first | done | (exfalso; first | omega | contradiction))); intro hb_; try simp only [pd_true, pd_false, Bool.not_eq_true', Bool.not_eq_false', Bool.and_eq_true, Bool.and_eq_false_iff, Bool.or_eq_true, Bool.or_eq_false_iff, not_true_eq_false, not_false_eq_true, Int.not_lt, Int.not_le] at hb_) | ((with_reducible apply XC.cond); (case hc => exact rfl); (first | (case ht => intro hb_; try simp only [pd_true, pd_false, Bool.not_eq_true', Bool.not_eq_false', Bool.and_eq_true, Bool.and_eq_false_iff, Bool.or_eq_true, Bool.or_eq_false_iff, not_true_eq_false, not_false_eq_true, Int.not_lt, Int.not_le] at hb_; first | done | (exfalso; first | omega | contradiction)) | (case hf => intro hb_; try simp only [pd_true, pd_false, Bool.not_eq_true', Bool.not_eq_false', Bool.and_eq_true, Bool.and_eq_false_iff, Bool.or_eq_true, Bool.or_eq_false_iff, not_true_eq_false, not_false_eq_true, Int.not_lt, Int.not_le] at hb_; first | done | (exfalso; first | omega | contradiction))); intro hb_; try simp only [pd_true, pd_false, Bool.not_eq_true', Bool.not_eq_false', Bool.and_eq_true, Bool.and_eq_false_iff, Bool.or_eq_true, Bool.or_eq_false_iff, not_true_eq_false, not_false_eq_true, Int.not_lt, Int.not_le] at hb_))))
    ((with_reducible apply XQ.retE); (case hr => exact .t rfl (.t rfl .nil)))
    rw [hp]; rfl
  (repeat (first | (with_reducible apply XL.op) | ((with_reducible apply XOp.p1); (case hg | hv => exact rfl)) | ((with_reducible apply XOp.load); (case hg | ht | hk | hx => exact rfl); (case hc => exact own_cell (i := 0) rfl rfl)) | ((with_reducible apply XOp.load); (case hg | ht | hk | hx => exact rfl); (case hc => exact own_cell (i := 1) rfl rfl)) | ((with_reducible apply XOp.storeN (i := 0)); (case hg | ht | hx | hv' | hk | h1 | hi | hs | ha => exact rfl)) | (with_reducible apply XL.nilT) | (with_reducible apply XC.seq) | (with_reducible apply XC.region (Γ := Γ)) | (with_reducible apply XQ.skip) | (with_reducible apply XQ.nt) | (first | ((with_reducible apply XOp.split); (case hg | hj | hd | hb => exact rfl); (fail_if_success (case hf => exact fun h => Bool.noConfusion h)); (fail_if_success (case ht => exact fun h => Bool.noConfusion h)); (first | (case ht => intro hb_; try simp only [pd_true, pd_false, Bool.not_eq_true', Bool.not_eq_false', Bool.and_eq_true, Bool.and_eq_false_iff, Bool.or_eq_true, Bool.or_eq_false_iff, not_true_eq_false, not_false_eq_true, Int.not_lt, Int.not_le] at hb_; first | done | (exfalso; first | omega | contradiction)) | (case hf => intro hb_; try simp only [pd_true, pd_false, Bool.not_eq_true', Bool.not_eq_false', Bool.and_eq_true, Bool.and_eq_false_iff, Bool.or_eq_true, Bool.or_eq_false_iff, not_true_eq_false, not_false_eq_true, Int.not_lt, Int.not_le] at hb_; first | done | (exfalso; first | omega | contradiction))); intro hb_; try simp only [pd_true, pd_false, Bool.not_eq_true', Bool.not_eq_false', Bool.and_eq_true, Bool.and_eq_false_iff, Bool.or_eq_true, Bool.or_eq_false_iff, not_true_eq_false, not_false_eq_true, Int.not_lt, Int.not_le] at hb_) | ((with_reducible apply XP.split); (case ho | hg | hj | hd | hb => exact rfl); (fail_if_success (case hf => exact fun h => Bool.noConfusion h)); (fail_if_success (case ht => exact fun h => Bool.noConfusion h)); (first | (case ht => intro hb_; try simp only [pd_true, pd_false, Bool.not_eq_true', Bool.not_eq_false', Bool.and_eq_true, Bool.and_eq_false_iff, Bool.or_eq_true, Bool.or_eq_false_iff, not_true_eq_false, not_false_eq_true, Int.not_lt, Int.not_le] at hb_; first | done | (exfalso; first | omega | contradiction)) | (case hf => intro hb_; try simp only [pd_true, pd_false, Bool.not_eq_true', Bool.not_eq_false', Bool.and_eq_true, Bool.and_eq_false_iff, Bool.or_eq_true, Bool.or_eq_false_iff, not_true_eq_false, not_false_eq_true, Int.not_lt, Int.not_le] at hb_; first | done | (exfalso; first | omega | contradiction))); intro hb_; try simp only [pd_true, pd_false, Bool.not_eq_true', Bool.not_eq_false', Bool.and_eq_true, Bool.and_eq_false_iff, Bool.or_eq_true, Bool.or_eq_false_iff, not_true_eq_false, not_false_eq_true, Int.not_lt, Int.not_le] at hb_) | ((with_reducible apply XC.cond); (case hc => exact rfl); (first | (case ht => intro hb_; try simp only [pd_true, pd_false, Bool.not_eq_true', Bool.not_eq_false', Bool.and_eq_true, Bool.and_eq_false_iff, Bool.or_eq_true, Bool.or_eq_false_iff, not_true_eq_false, not_false_eq_true, Int.not_lt, Int.not_le] at hb_; first | done | (exfalso; first | omega | contradiction)) | (case hf => intro hb_; try simp only [pd_true, pd_false, Bool.not_eq_true', Bool.not_eq_false', Bool.and_eq_true, Bool.and_eq_false_iff, Bool.or_eq_true, Bool.or_eq_false_iff, not_true_eq_false, not_false_eq_true, Int.not_lt, Int.not_le] at hb_; first | done | (exfalso; first | omega | contradiction))); intro hb_; try simp only [pd_true, pd_false, Bool.not_eq_true', Bool.not_eq_false', Bool.and_eq_true, Bool.and_eq_false_iff, Bool.or_eq_true, Bool.or_eq_false_iff, not_true_eq_false, not_false_eq_true, Int.not_lt, Int.not_le] at hb_))))
  rw [kAsk, strOf_eq (isB_ok hl.word) (isB_ok (by unfold isB; decide))]
  have hwl : l.Word.length ≤ 6 := by rcases words_of hnw with h | h | h | h | h | h <;> rw [h] <;> decide
  have hidl := intL_len _ hl.id
  have hn6 : numsW l.Word ≤ 6 := by rcases words_of hnw with h | h | h | h | h | h <;> rw [h] <;> decide
  have hnb : ∀ j, (numT (l.Numbers.take j)).length ≤ 1000 := fun j => numT_bound hl.nums (by omega) j
  have hTl := quoteL_length l.Text
  have hf1 := hf.text
  by_cases h1 : l.Word = wAsk
  · rw [pdt h1]
    have hmay : l.may := ⟨hnw, hln, ⟨hi0, hi1⟩, fun h => absurd h1 h, fun h => absurd h1 h⟩
    have hwf : writeF l.Word = 47 := by unfold writeF; rw [if_pos h1]
    rw [hwf]
    have htl := tailT_bound hl hf
    (repeat (first | (with_reducible apply XL.op) | ((with_reducible apply XOp.p1); (case hg | hv => exact rfl)) | ((with_reducible apply XOp.p0); (case hg => exact rfl)) | (with_reducible apply XL.nilT) | (with_reducible apply XC.seq) | (with_reducible apply XQ.skip) | (with_reducible apply XQ.nt) | ((with_reducible apply XC.condF); (case hc => exact rfl))))
    ((with_reducible apply XC.regionL (Γ := Γ) mixed (.q 0 (.q 1 (.q 2 (.q 3 (.q 4 (.e 5 (.q 6 (.q 7 (.done))))))))) [] ([(wb, Obj.cells ⟨[.string (strOf l.Word), .int .i64 (numsW l.Word), .func (.func (readF l.Word)) #[] #[], .func (.func 47) #[] #[]]⟩ 64 (0, 0)), LnB lb l.Word l.Id (.slice ta l.Text.length tc) (.slice na l.Numbers.length nc) l.Seed l.Guide (.slice sa l.Stops.length sc)])); (case hc => kernel_rfl); (case hs => first | exact List.nil_sublist _ | exact List.Sublist.refl _ | exact List.sublist_append_right _ _ | (refine List.Sublist.cons_cons _ (List.nil_sublist _)) | (refine List.Sublist.cons_cons _ (List.Sublist.cons_cons _ (List.nil_sublist _))) | (refine List.Sublist.cons_cons _ (List.Sublist.cons_cons _ (List.Sublist.cons_cons _ (List.nil_sublist _)))) | (refine List.Sublist.cons_cons _ (List.Sublist.cons_cons _ (List.Sublist.cons_cons _ (List.Sublist.cons_cons _ (List.nil_sublist _))))) | ((try simp only [List.append_eq, List.cons_append, List.nil_append, List.append_assoc]); (repeat (first | exact List.Sublist.refl _ | exact List.nil_sublist _ | (with_reducible apply List.Sublist.cons_cons) | (with_reducible apply List.Sublist.cons))); done)))
    (repeat (first | ((with_reducible apply XP.p1); (case ho | hg | hv => exact rfl)) | ((with_reducible apply XP.load); (case ho | hg | ht | hk | hx => exact rfl); (case hc => exact own_cell (i := 1) rfl rfl)) | ((with_reducible apply XP.e); (first | ((with_reducible apply XE.d); (case ho => exact rfl); (case hd => exact rfl)) | ((with_reducible apply XE.e); (case ho => exact rfl)))) | (first | ((with_reducible apply XOp.pr); (case hg => exact rfl); (case hr => (with_reducible apply PR.cat (xs := l.Word) (ys := [32])); (case hx => exact rfl); (case hy => exact rfl); (case hl => ((try simp only [List.length_append, List.length_cons, List.length_nil]); omega)))) | ((with_reducible apply XP.pr); (case ho => exact rfl); (case hg => exact rfl); (case hr => (with_reducible apply PR.cat (xs := l.Word) (ys := [32])); (case hx => exact rfl); (case hy => exact rfl); (case hl => ((try simp only [List.length_append, List.length_cons, List.length_nil]); omega)))))))
    ((with_reducible apply XOp.callQ (hF := itoa_fn l.Id hl.id)); (case hg => exact rfl); (case hc => exact rfl); (case ha => exact rfl); try (case hA => exact Known.true))
    case hA => exact Known.of_old hK lib_mono
    rintro _ rfl
    refine ⟨fun y_ hy_ => hy_, ?_⟩
    (repeat (first | (with_reducible apply XL.op) | ((with_reducible apply XOp.p1); (case hg | hv => exact rfl)) | ((with_reducible apply XOp.load); (case hg | ht | hk | hx => exact rfl); (case hc => exact own_cell (i := 1) rfl rfl)) | (with_reducible apply XL.nilT) | (with_reducible apply XC.seq) | (with_reducible apply XC.region (Γ := Γ)) | (with_reducible apply XQ.nt) | (with_reducible apply XC.block) | ((with_reducible apply XP.p1); (case ho | hg | hv => exact rfl)) | (with_reducible apply XP.done) | (first | ((with_reducible apply XOp.pr); (case hg => exact rfl); (case hr => (with_reducible apply PR.cat (xs := l.Word ++ [32]) (ys := intL l.Id)); (case hx => exact rfl); (case hy => exact rfl); (case hl => ((try simp only [List.length_append, List.length_cons, List.length_nil]); omega)))) | ((with_reducible apply XP.pr); (case ho => exact rfl); (case hg => exact rfl); (case hr => (with_reducible apply PR.cat (xs := l.Word ++ [32]) (ys := intL l.Id)); (case hx => exact rfl); (case hy => exact rfl); (case hl => ((try simp only [List.length_append, List.length_cons, List.length_nil]); omega)))))))
    obtain ⟨H, hH⟩ : ∃ H, H = l.Word ++ [32] ++ intL l.Id := ⟨_, rfl⟩
    have hHl : H.length ≤ 100 := by rw [hH]; simp only [List.length_append, List.length_cons, List.length_nil]; omega
    rw [← hH]
    refine XC.loopP (fun k ρ L => ∃ (j : Nat), j + k = l.Numbers.length ∧ L = [(wb, Obj.cells ⟨[.string (strOf l.Word), .int .i64 (numsW l.Word), .func (.func (readF l.Word)) #[] #[], .func (.func 47) #[] #[]]⟩ 64 (0, 0)), LnB lb l.Word l.Id (.slice ta l.Text.length tc) (.slice na l.Numbers.length nc) l.Seed l.Guide (.slice sa l.Stops.length sc)] ∧
        Slots ρ [(1, .pointer (some ⟨lb, 0, none⟩)), (4, .pointer (some ⟨wb, 0, none⟩)), (7, .string (strOf (H ++ numT (l.Numbers.take j)))), (76, .slice na l.Numbers.length nc), (77, .int .i64 l.Numbers.length), (78, .int .i64 j)])
      l.Numbers.length ⟨0, by simp, rfl, rfl, rfl, ?_, rfl, rfl, rfl, trivial⟩ ?_
    · show _ = Value.string (strOf (H ++ [])); rw [List.append_nil]; rfl
    rintro k ρ L ⟨j, hjk, rfl, hs⟩
    refine XC.slots _ hs ?_
    (repeat (first | (with_reducible apply XL.op) | ((with_reducible apply XOp.p1); (case hg | hv => exact rfl)) | (with_reducible apply XL.nilT) | (with_reducible apply XC.seq) | (with_reducible apply XC.region (Γ := Γ))))
    ((with_reducible apply XC.cond); (case hc => exact rfl); all_goals (intro hb_; try simp only [pd_true, pd_false, Bool.not_eq_true', Bool.not_eq_false', Bool.and_eq_true, Bool.and_eq_false_iff, Bool.or_eq_true, Bool.or_eq_false_iff, not_true_eq_false, not_false_eq_true, Int.not_lt, Int.not_le] at hb_))
    · obtain ⟨s, hsj⟩ : ∃ s, l.Numbers[j]? = some s := ⟨_, List.getElem?_eq_getElem (by omega)⟩
      have hsm := List.mem_of_getElem? hsj
      have hsi := hl.nums s hsm
      have hj := hnb j
      have hil := intL_len _ hsi
      have e0 : l.Numbers[j]?.getD 0 = s := by rw [hsj]; rfl
      (repeat (first | (with_reducible apply XL.op) | ((with_reducible apply XOp.p1); (case hg | hv => exact rfl)) | ((with_reducible apply XOp.pr); (case hg => exact rfl); (case hr => ((with_reducible apply PR.idxA); (case ht | hk | he | hx | hi => exact rfl); (case hr => first | assumption | omega); (case ha => first | assumption | exact SlA.at_ (by assumption))))) | (with_reducible apply XL.nilT) | (with_reducible apply XC.seq) | (with_reducible apply XC.region (Γ := Γ)) | (with_reducible apply XQ.skip) | (with_reducible apply XQ.nt) | (with_reducible apply XC.block) | (first | ((with_reducible apply XOp.load); (case hg | ht | hk | hx => exact rfl); (case hc => exact Known.of_old (hN.int j (by omega)).1 (Mono.cell _ _))) | ((with_reducible apply XP.load); (case ho | hg | ht | hk | hx => exact rfl); (case hc => exact Known.of_old (hN.int j (by omega)).1 (Mono.cell _ _))))))
      rw [e0]
      ((with_reducible apply XOp.callQ (hF := itoa_fn s hsi)); (case hg => exact rfl); (case hc => exact rfl); (case ha => exact rfl); try (case hA => exact Known.true))
      case hA => exact Known.of_old hK lib_mono
      rintro _ rfl
      (repeat (first | (with_reducible apply XL.op) | ((with_reducible apply XOp.p1); (case hg | hv => exact rfl)) | (with_reducible apply XL.nilT) | (with_reducible apply XC.region (Γ := Γ)) | (with_reducible apply XL.nilQ) | (with_reducible apply XQ.nt) | (with_reducible apply XQ.nb) | (first | ((with_reducible apply XOp.pr); (case hg => exact rfl); (case hr => (with_reducible apply PR.cat (xs := [32]) (ys := intL s)); (case hx => exact rfl); (case hy => exact rfl); (case hl => ((try simp only [List.length_append, List.length_cons, List.length_nil]); omega)))) | ((with_reducible apply XP.pr); (case ho => exact rfl); (case hg => exact rfl); (case hr => (with_reducible apply PR.cat (xs := [32]) (ys := intL s)); (case hx => exact rfl); (case hy => exact rfl); (case hl => ((try simp only [List.length_append, List.length_cons, List.length_nil]); omega))))) | (first | ((with_reducible apply XOp.pr); (case hg => exact rfl); (case hr => (with_reducible apply PR.cat (xs := H ++ numT (l.Numbers.take j)) (ys := [32] ++ intL s)); (case hx => exact rfl); (case hy => exact rfl); (case hl => ((try simp only [List.length_append, List.length_cons, List.length_nil]); omega)))) | ((with_reducible apply XP.pr); (case ho => exact rfl); (case hg => exact rfl); (case hr => (with_reducible apply PR.cat (xs := H ++ numT (l.Numbers.take j)) (ys := [32] ++ intL s)); (case hx => exact rfl); (case hy => exact rfl); (case hl => ((try simp only [List.length_append, List.length_cons, List.length_nil]); omega)))))))
      rw [show H ++ numT (l.Numbers.take j) ++ ([32] ++ intL s) = H ++ numT (l.Numbers.take (j + 1)) by rw [take_snoc hsj]; simp [numT]]
      exact ⟨k - 1, by omega, _, .of (List.Sublist.refl _), j + 1, by omega, rfl, rfl, rfl, rfl, rfl, rfl, intS (m := l.Numbers.length) (by omega) (by omega), trivial⟩
    obtain rfl : j = l.Numbers.length := by omega
    rw [List.take_length] at hs ⊢
    have hj := hnb l.Numbers.length
    rw [List.take_length] at hj
    (repeat (first | (with_reducible apply XL.op) | ((with_reducible apply XOp.p1); (case hg | hv => exact rfl)) | ((with_reducible apply XOp.load); (case hg | ht | hk | hx => exact rfl); (case hc => exact own_cell (i := 0) rfl rfl)) | (with_reducible apply XC.seq) | (with_reducible apply XC.region (Γ := Γ)) | (with_reducible apply XQ.exit) | (with_reducible apply XQ.nt) | (with_reducible apply XQ.et) | ((with_reducible apply XQ.eb); (case hb => exact rfl))))
    (refine (show XOp _ _ _ _ _ _ _ _ ([(wb, Obj.cells ⟨[.string (strOf l.Word), .int .i64 (numsW l.Word), .func (.func (readF l.Word)) #[] #[], .func (.func 47) #[] #[]]⟩ 64 (0, 0)), LnB lb l.Word l.Id (.slice ta l.Text.length tc) (.slice na l.Numbers.length nc) l.Seed l.Guide (.slice sa l.Stops.length sc)]) from XOp.perm (L' :=  [LnB lb l.Word l.Id (.slice ta l.Text.length tc) (.slice na l.Numbers.length nc) l.Seed l.Guide (.slice sa l.Stops.length sc), (wb, Obj.cells ⟨[.string (strOf l.Word), .int .i64 (numsW l.Word), .func (.func (readF l.Word)) #[] #[], .func (.func 47) #[] #[]]⟩ 64 (0, 0))]) rfl ?_ (by (first | (with_reducible exact List.Perm.refl _) | refine perm_of_cnt fun p_ => ?_; simp only [List.countP_append, List.countP_cons, List.countP_nil]; omega))))
    ((with_reducible apply XOp.call (L0 := [LnB lb l.Word l.Id (.slice ta l.Text.length tc) (.slice na l.Numbers.length nc) l.Seed l.Guide (.slice sa l.Stops.length sc)]) (hF :=  writeAsk_fn lb l hl hf h1 ta na sa tc nc sc)); (case hg => exact rfl); (case hc => exact rfl); (case ha => exact rfl); (case hL => exact rfl))
    case hA => exact Known.of_old ⟨hK, hT, hN, hS⟩ (lib_mono.and (lnK_mono l ta na sa tc nc sc))
    rintro _ _ ⟨rfl, rfl⟩
    (repeat (first | (with_reducible apply XL.op) | ((with_reducible apply XOp.p1); (case hg | hv => exact rfl)) | (with_reducible apply XL.nilT) | (with_reducible apply XC.seq) | (with_reducible apply XC.region (Γ := Γ)) | (first | ((with_reducible apply XOp.pr); (case hg => exact rfl); (case hr => (with_reducible apply PR.cat (xs := H ++ numT l.Numbers) (ys := tailT l)); (case hx => exact rfl); (case hy => exact rfl); (case hl => ((try simp only [List.length_append, List.length_cons, List.length_nil]); omega)))) | ((with_reducible apply XP.pr); (case ho => exact rfl); (case hg => exact rfl); (case hr => (with_reducible apply PR.cat (xs := H ++ numT l.Numbers) (ys := tailT l)); (case hx => exact rfl); (case hy => exact rfl); (case hl => ((try simp only [List.length_append, List.length_cons, List.length_nil]); omega)))))))
    have hsz := strOf_size (H ++ numT l.Numbers ++ tailT l)
    have hlt : lineT l = H ++ numT l.Numbers ++ tailT l := by rw [hH]; unfold lineT; simp
    rw [← hlt] at hsz ⊢
    by_cases h8 : (lineT l).length ≤ 8192
    · have hp : printS l = some (lineT l) := by unfold printS; rw [if_pos hmay, if_pos h8]
      (repeat (first | (with_reducible apply XL.op) | ((with_reducible apply XOp.p1); (case hg | hv => exact rfl)) | (with_reducible apply XL.nilT) | (with_reducible apply XC.seq) | (with_reducible apply XC.region (Γ := Γ)) | (with_reducible apply XQ.skip) | (with_reducible apply XQ.ret) | (with_reducible apply XQ.nt) | (first | ((with_reducible apply XOp.split); (case hg | hj | hd | hb => exact rfl); (fail_if_success (case hf => exact fun h => Bool.noConfusion h)); (fail_if_success (case ht => exact fun h => Bool.noConfusion h)); (first | (case ht => intro hb_; try simp only [pd_true, pd_false, Bool.not_eq_true', Bool.not_eq_false', Bool.and_eq_true, Bool.and_eq_false_iff, Bool.or_eq_true, Bool.or_eq_false_iff, not_true_eq_false, not_false_eq_true, Int.not_lt, Int.not_le] at hb_; first | done | (exfalso; first | omega | contradiction)) | (case hf => intro hb_; try simp only [pd_true, pd_false, Bool.not_eq_true', Bool.not_eq_false', Bool.and_eq_true, Bool.and_eq_false_iff, Bool.or_eq_true, Bool.or_eq_false_iff, not_true_eq_false, not_false_eq_true, Int.not_lt, Int.not_le] at hb_; first | done | (exfalso; first | omega | contradiction))); intro hb_; try simp only [pd_true, pd_false, Bool.not_eq_true', Bool.not_eq_false', Bool.and_eq_true, Bool.and_eq_false_iff, Bool.or_eq_true, Bool.or_eq_false_iff, not_true_eq_false, not_false_eq_true, Int.not_lt, Int.not_le] at hb_) | ((with_reducible apply XP.split); (case ho | hg | hj | hd | hb => exact rfl); (fail_if_success (case hf => exact fun h => Bool.noConfusion h)); (fail_if_success (case ht => exact fun h => Bool.noConfusion h)); (first | (case ht => intro hb_; try simp only [pd_true, pd_false, Bool.not_eq_true', Bool.not_eq_false', Bool.and_eq_true, Bool.and_eq_false_iff, Bool.or_eq_true, Bool.or_eq_false_iff, not_true_eq_false, not_false_eq_true, Int.not_lt, Int.not_le] at hb_; first | done | (exfalso; first | omega | contradiction)) | (case hf => intro hb_; try simp only [pd_true, pd_false, Bool.not_eq_true', Bool.not_eq_false', Bool.and_eq_true, Bool.and_eq_false_iff, Bool.or_eq_true, Bool.or_eq_false_iff, not_true_eq_false, not_false_eq_true, Int.not_lt, Int.not_le] at hb_; first | done | (exfalso; first | omega | contradiction))); intro hb_; try simp only [pd_true, pd_false, Bool.not_eq_true', Bool.not_eq_false', Bool.and_eq_true, Bool.and_eq_false_iff, Bool.or_eq_true, Bool.or_eq_false_iff, not_true_eq_false, not_false_eq_true, Int.not_lt, Int.not_le] at hb_) | ((with_reducible apply XC.cond); (case hc => exact rfl); (first | (case ht => intro hb_; try simp only [pd_true, pd_false, Bool.not_eq_true', Bool.not_eq_false', Bool.and_eq_true, Bool.and_eq_false_iff, Bool.or_eq_true, Bool.or_eq_false_iff, not_true_eq_false, not_false_eq_true, Int.not_lt, Int.not_le] at hb_; first | done | (exfalso; first | omega | contradiction)) | (case hf => intro hb_; try simp only [pd_true, pd_false, Bool.not_eq_true', Bool.not_eq_false', Bool.and_eq_true, Bool.and_eq_false_iff, Bool.or_eq_true, Bool.or_eq_false_iff, not_true_eq_false, not_false_eq_true, Int.not_lt, Int.not_le] at hb_; first | done | (exfalso; first | omega | contradiction))); intro hb_; try simp only [pd_true, pd_false, Bool.not_eq_true', Bool.not_eq_false', Bool.and_eq_true, Bool.and_eq_false_iff, Bool.or_eq_true, Bool.or_eq_false_iff, not_true_eq_false, not_false_eq_true, Int.not_lt, Int.not_le] at hb_))))
      ((with_reducible apply XQ.retE); (case hr => exact .t rfl (.t rfl .nil)))
      rw [hp]; rfl
    · have hp : printS l = none := by unfold printS; rw [if_pos hmay, if_neg h8]
      (repeat (first | (with_reducible apply XL.op) | ((with_reducible apply XOp.p1); (case hg | hv => exact rfl)) | (with_reducible apply XL.nilT) | (with_reducible apply XC.seq) | (with_reducible apply XC.region (Γ := Γ)) | (with_reducible apply XQ.ret) | (with_reducible apply XQ.rt) | (first | ((with_reducible apply XOp.split); (case hg | hj | hd | hb => exact rfl); (fail_if_success (case hf => exact fun h => Bool.noConfusion h)); (fail_if_success (case ht => exact fun h => Bool.noConfusion h)); (first | (case ht => intro hb_; try simp only [pd_true, pd_false, Bool.not_eq_true', Bool.not_eq_false', Bool.and_eq_true, Bool.and_eq_false_iff, Bool.or_eq_true, Bool.or_eq_false_iff, not_true_eq_false, not_false_eq_true, Int.not_lt, Int.not_le] at hb_; first | done | (exfalso; first | omega | contradiction)) | (case hf => intro hb_; try simp only [pd_true, pd_false, Bool.not_eq_true', Bool.not_eq_false', Bool.and_eq_true, Bool.and_eq_false_iff, Bool.or_eq_true, Bool.or_eq_false_iff, not_true_eq_false, not_false_eq_true, Int.not_lt, Int.not_le] at hb_; first | done | (exfalso; first | omega | contradiction))); intro hb_; try simp only [pd_true, pd_false, Bool.not_eq_true', Bool.not_eq_false', Bool.and_eq_true, Bool.and_eq_false_iff, Bool.or_eq_true, Bool.or_eq_false_iff, not_true_eq_false, not_false_eq_true, Int.not_lt, Int.not_le] at hb_) | ((with_reducible apply XP.split); (case ho | hg | hj | hd | hb => exact rfl); (fail_if_success (case hf => exact fun h => Bool.noConfusion h)); (fail_if_success (case ht => exact fun h => Bool.noConfusion h)); (first | (case ht => intro hb_; try simp only [pd_true, pd_false, Bool.not_eq_true', Bool.not_eq_false', Bool.and_eq_true, Bool.and_eq_false_iff, Bool.or_eq_true, Bool.or_eq_false_iff, not_true_eq_false, not_false_eq_true, Int.not_lt, Int.not_le] at hb_; first | done | (exfalso; first | omega | contradiction)) | (case hf => intro hb_; try simp only [pd_true, pd_false, Bool.not_eq_true', Bool.not_eq_false', Bool.and_eq_true, Bool.and_eq_false_iff, Bool.or_eq_true, Bool.or_eq_false_iff, not_true_eq_false, not_false_eq_true, Int.not_lt, Int.not_le] at hb_; first | done | (exfalso; first | omega | contradiction))); intro hb_; try simp only [pd_true, pd_false, Bool.not_eq_true', Bool.not_eq_false', Bool.and_eq_true, Bool.and_eq_false_iff, Bool.or_eq_true, Bool.or_eq_false_iff, not_true_eq_false, not_false_eq_true, Int.not_lt, Int.not_le] at hb_) | ((with_reducible apply XC.cond); (case hc => exact rfl); (first | (case ht => intro hb_; try simp only [pd_true, pd_false, Bool.not_eq_true', Bool.not_eq_false', Bool.and_eq_true, Bool.and_eq_false_iff, Bool.or_eq_true, Bool.or_eq_false_iff, not_true_eq_false, not_false_eq_true, Int.not_lt, Int.not_le] at hb_; first | done | (exfalso; first | omega | contradiction)) | (case hf => intro hb_; try simp only [pd_true, pd_false, Bool.not_eq_true', Bool.not_eq_false', Bool.and_eq_true, Bool.and_eq_false_iff, Bool.or_eq_true, Bool.or_eq_false_iff, not_true_eq_false, not_false_eq_true, Int.not_lt, Int.not_le] at hb_; first | done | (exfalso; first | omega | contradiction))); intro hb_; try simp only [pd_true, pd_false, Bool.not_eq_true', Bool.not_eq_false', Bool.and_eq_true, Bool.and_eq_false_iff, Bool.or_eq_true, Bool.or_eq_false_iff, not_true_eq_false, not_false_eq_true, Int.not_lt, Int.not_le] at hb_))))
      ((with_reducible apply XQ.retE); (case hr => exact .t rfl (.t rfl .nil)))
      rw [hp]; rfl
  rw [pdf h1]
  by_cases hsd : l.Seed = 0
  case neg =>
    have hp := printS_bad fun h : l.may => hsd (h.ask h1).1
    (repeat (first | (with_reducible apply XL.op) | ((with_reducible apply XOp.p1); (case hg | hv => exact rfl)) | ((with_reducible apply XOp.p0); (case hg => exact rfl)) | ((with_reducible apply XOp.load); (case hg | ht | hk | hx => exact rfl); (case hc => exact own_cell (i := 1) rfl rfl)) | (with_reducible apply XL.nilT) | (with_reducible apply XC.seq) | (with_reducible apply XC.region (Γ := Γ)) | (with_reducible apply XQ.ret) | (with_reducible apply XQ.rt) | ((with_reducible apply XC.condT); (case hc => exact rfl)) | (first | ((with_reducible apply XOp.split); (case hg | hj | hd | hb => exact rfl); (fail_if_success (case hf => exact fun h => Bool.noConfusion h)); (fail_if_success (case ht => exact fun h => Bool.noConfusion h)); (first | (case ht => intro hb_; try simp only [pd_true, pd_false, Bool.not_eq_true', Bool.not_eq_false', Bool.and_eq_true, Bool.and_eq_false_iff, Bool.or_eq_true, Bool.or_eq_false_iff, not_true_eq_false, not_false_eq_true, Int.not_lt, Int.not_le] at hb_; first | done | (exfalso; first | omega | contradiction)) | (case hf => intro hb_; try simp only [pd_true, pd_false, Bool.not_eq_true', Bool.not_eq_false', Bool.and_eq_true, Bool.and_eq_false_iff, Bool.or_eq_true, Bool.or_eq_false_iff, not_true_eq_false, not_false_eq_true, Int.not_lt, Int.not_le] at hb_; first | done | (exfalso; first | omega | contradiction))); intro hb_; try simp only [pd_true, pd_false, Bool.not_eq_true', Bool.not_eq_false', Bool.and_eq_true, Bool.and_eq_false_iff, Bool.or_eq_true, Bool.or_eq_false_iff, not_true_eq_false, not_false_eq_true, Int.not_lt, Int.not_le] at hb_) | ((with_reducible apply XP.split); (case ho | hg | hj | hd | hb => exact rfl); (fail_if_success (case hf => exact fun h => Bool.noConfusion h)); (fail_if_success (case ht => exact fun h => Bool.noConfusion h)); (first | (case ht => intro hb_; try simp only [pd_true, pd_false, Bool.not_eq_true', Bool.not_eq_false', Bool.and_eq_true, Bool.and_eq_false_iff, Bool.or_eq_true, Bool.or_eq_false_iff, not_true_eq_false, not_false_eq_true, Int.not_lt, Int.not_le] at hb_; first | done | (exfalso; first | omega | contradiction)) | (case hf => intro hb_; try simp only [pd_true, pd_false, Bool.not_eq_true', Bool.not_eq_false', Bool.and_eq_true, Bool.and_eq_false_iff, Bool.or_eq_true, Bool.or_eq_false_iff, not_true_eq_false, not_false_eq_true, Int.not_lt, Int.not_le] at hb_; first | done | (exfalso; first | omega | contradiction))); intro hb_; try simp only [pd_true, pd_false, Bool.not_eq_true', Bool.not_eq_false', Bool.and_eq_true, Bool.and_eq_false_iff, Bool.or_eq_true, Bool.or_eq_false_iff, not_true_eq_false, not_false_eq_true, Int.not_lt, Int.not_le] at hb_) | ((with_reducible apply XC.cond); (case hc => exact rfl); (first | (case ht => intro hb_; try simp only [pd_true, pd_false, Bool.not_eq_true', Bool.not_eq_false', Bool.and_eq_true, Bool.and_eq_false_iff, Bool.or_eq_true, Bool.or_eq_false_iff, not_true_eq_false, not_false_eq_true, Int.not_lt, Int.not_le] at hb_; first | done | (exfalso; first | omega | contradiction)) | (case hf => intro hb_; try simp only [pd_true, pd_false, Bool.not_eq_true', Bool.not_eq_false', Bool.and_eq_true, Bool.and_eq_false_iff, Bool.or_eq_true, Bool.or_eq_false_iff, not_true_eq_false, not_false_eq_true, Int.not_lt, Int.not_le] at hb_; first | done | (exfalso; first | omega | contradiction))); intro hb_; try simp only [pd_true, pd_false, Bool.not_eq_true', Bool.not_eq_false', Bool.and_eq_true, Bool.and_eq_false_iff, Bool.or_eq_true, Bool.or_eq_false_iff, not_true_eq_false, not_false_eq_true, Int.not_lt, Int.not_le] at hb_))))
    ((with_reducible apply XQ.retE); (case hr => exact .t rfl (.t rfl .nil)))
    rw [hp]; rfl
  (repeat (first | (with_reducible apply XL.op) | ((with_reducible apply XOp.p1); (case hg | hv => exact rfl)) | ((with_reducible apply XOp.load); (case hg | ht | hk | hx => exact rfl); (case hc => exact own_cell (i := 1) rfl rfl)) | (first | ((with_reducible apply XOp.split); (case hg | hj | hd | hb => exact rfl); (fail_if_success (case hf => exact fun h => Bool.noConfusion h)); (fail_if_success (case ht => exact fun h => Bool.noConfusion h)); (first | (case ht => intro hb_; try simp only [pd_true, pd_false, Bool.not_eq_true', Bool.not_eq_false', Bool.and_eq_true, Bool.and_eq_false_iff, Bool.or_eq_true, Bool.or_eq_false_iff, not_true_eq_false, not_false_eq_true, Int.not_lt, Int.not_le] at hb_; first | done | (exfalso; first | omega | contradiction)) | (case hf => intro hb_; try simp only [pd_true, pd_false, Bool.not_eq_true', Bool.not_eq_false', Bool.and_eq_true, Bool.and_eq_false_iff, Bool.or_eq_true, Bool.or_eq_false_iff, not_true_eq_false, not_false_eq_true, Int.not_lt, Int.not_le] at hb_; first | done | (exfalso; first | omega | contradiction))); intro hb_; try simp only [pd_true, pd_false, Bool.not_eq_true', Bool.not_eq_false', Bool.and_eq_true, Bool.and_eq_false_iff, Bool.or_eq_true, Bool.or_eq_false_iff, not_true_eq_false, not_false_eq_true, Int.not_lt, Int.not_le] at hb_) | ((with_reducible apply XP.split); (case ho | hg | hj | hd | hb => exact rfl); (fail_if_success (case hf => exact fun h => Bool.noConfusion h)); (fail_if_success (case ht => exact fun h => Bool.noConfusion h)); (first | (case ht => intro hb_; try simp only [pd_true, pd_false, Bool.not_eq_true', Bool.not_eq_false', Bool.and_eq_true, Bool.and_eq_false_iff, Bool.or_eq_true, Bool.or_eq_false_iff, not_true_eq_false, not_false_eq_true, Int.not_lt, Int.not_le] at hb_; first | done | (exfalso; first | omega | contradiction)) | (case hf => intro hb_; try simp only [pd_true, pd_false, Bool.not_eq_true', Bool.not_eq_false', Bool.and_eq_true, Bool.and_eq_false_iff, Bool.or_eq_true, Bool.or_eq_false_iff, not_true_eq_false, not_false_eq_true, Int.not_lt, Int.not_le] at hb_; first | done | (exfalso; first | omega | contradiction))); intro hb_; try simp only [pd_true, pd_false, Bool.not_eq_true', Bool.not_eq_false', Bool.and_eq_true, Bool.and_eq_false_iff, Bool.or_eq_true, Bool.or_eq_false_iff, not_true_eq_false, not_false_eq_true, Int.not_lt, Int.not_le] at hb_) | ((with_reducible apply XC.cond); (case hc => exact rfl); (first | (case ht => intro hb_; try simp only [pd_true, pd_false, Bool.not_eq_true', Bool.not_eq_false', Bool.and_eq_true, Bool.and_eq_false_iff, Bool.or_eq_true, Bool.or_eq_false_iff, not_true_eq_false, not_false_eq_true, Int.not_lt, Int.not_le] at hb_; first | done | (exfalso; first | omega | contradiction)) | (case hf => intro hb_; try simp only [pd_true, pd_false, Bool.not_eq_true', Bool.not_eq_false', Bool.and_eq_true, Bool.and_eq_false_iff, Bool.or_eq_true, Bool.or_eq_false_iff, not_true_eq_false, not_false_eq_true, Int.not_lt, Int.not_le] at hb_; first | done | (exfalso; first | omega | contradiction))); intro hb_; try simp only [pd_true, pd_false, Bool.not_eq_true', Bool.not_eq_false', Bool.and_eq_true, Bool.and_eq_false_iff, Bool.or_eq_true, Bool.or_eq_false_iff, not_true_eq_false, not_false_eq_true, Int.not_lt, Int.not_le] at hb_))))
  rw [kNil, strOf_eq (isB_ok hl.guide) (fun x hx => by cases hx)]
  by_cases hgd : l.Guide = []
  case neg =>
    have hp := printS_bad fun h : l.may => hgd (h.ask h1).2.1
    rw [pdf hgd]
    (repeat (first | (with_reducible apply XL.op) | ((with_reducible apply XOp.p1); (case hg | hv => exact rfl)) | ((with_reducible apply XOp.p0); (case hg => exact rfl)) | (with_reducible apply XL.nilT) | (with_reducible apply XC.seq) | (with_reducible apply XC.region (Γ := Γ)) | (with_reducible apply XQ.ret) | (with_reducible apply XQ.rt) | ((with_reducible apply XC.condT); (case hc => exact rfl))))
    ((with_reducible apply XQ.retE); (case hr => exact .t rfl (.t rfl .nil)))
    rw [hp]; rfl
  rw [pdt hgd]
  by_cases hst : l.Stops = []
  case neg =>
    have hp := printS_bad fun h : l.may => hst (h.ask h1).2.2
    have hst2 : 0 < l.Stops.length := List.length_pos_iff.2 hst
    (repeat (first | (with_reducible apply XL.op) | ((with_reducible apply XOp.p1); (case hg | hv => exact rfl)) | ((with_reducible apply XOp.p0); (case hg => exact rfl)) | ((with_reducible apply XOp.load); (case hg | ht | hk | hx => exact rfl); (case hc => exact own_cell (i := 1) rfl rfl)) | (with_reducible apply XL.nilT) | (with_reducible apply XC.seq) | (with_reducible apply XC.region (Γ := Γ)) | (with_reducible apply XQ.ret) | (with_reducible apply XQ.rt) | ((with_reducible apply XC.condT); (case hc => exact rfl)) | (first | ((with_reducible apply XOp.split); (case hg | hj | hd | hb => exact rfl); (fail_if_success (case hf => exact fun h => Bool.noConfusion h)); (fail_if_success (case ht => exact fun h => Bool.noConfusion h)); (first | (case ht => intro hb_; try simp only [pd_true, pd_false, Bool.not_eq_true', Bool.not_eq_false', Bool.and_eq_true, Bool.and_eq_false_iff, Bool.or_eq_true, Bool.or_eq_false_iff, not_true_eq_false, not_false_eq_true, Int.not_lt, Int.not_le] at hb_; first | done | (exfalso; first | omega | contradiction)) | (case hf => intro hb_; try simp only [pd_true, pd_false, Bool.not_eq_true', Bool.not_eq_false', Bool.and_eq_true, Bool.and_eq_false_iff, Bool.or_eq_true, Bool.or_eq_false_iff, not_true_eq_false, not_false_eq_true, Int.not_lt, Int.not_le] at hb_; first | done | (exfalso; first | omega | contradiction))); intro hb_; try simp only [pd_true, pd_false, Bool.not_eq_true', Bool.not_eq_false', Bool.and_eq_true, Bool.and_eq_false_iff, Bool.or_eq_true, Bool.or_eq_false_iff, not_true_eq_false, not_false_eq_true, Int.not_lt, Int.not_le] at hb_) | ((with_reducible apply XP.split); (case ho | hg | hj | hd | hb => exact rfl); (fail_if_success (case hf => exact fun h => Bool.noConfusion h)); (fail_if_success (case ht => exact fun h => Bool.noConfusion h)); (first | (case ht => intro hb_; try simp only [pd_true, pd_false, Bool.not_eq_true', Bool.not_eq_false', Bool.and_eq_true, Bool.and_eq_false_iff, Bool.or_eq_true, Bool.or_eq_false_iff, not_true_eq_false, not_false_eq_true, Int.not_lt, Int.not_le] at hb_; first | done | (exfalso; first | omega | contradiction)) | (case hf => intro hb_; try simp only [pd_true, pd_false, Bool.not_eq_true', Bool.not_eq_false', Bool.and_eq_true, Bool.and_eq_false_iff, Bool.or_eq_true, Bool.or_eq_false_iff, not_true_eq_false, not_false_eq_true, Int.not_lt, Int.not_le] at hb_; first | done | (exfalso; first | omega | contradiction))); intro hb_; try simp only [pd_true, pd_false, Bool.not_eq_true', Bool.not_eq_false', Bool.and_eq_true, Bool.and_eq_false_iff, Bool.or_eq_true, Bool.or_eq_false_iff, not_true_eq_false, not_false_eq_true, Int.not_lt, Int.not_le] at hb_) | ((with_reducible apply XC.cond); (case hc => exact rfl); (first | (case ht => intro hb_; try simp only [pd_true, pd_false, Bool.not_eq_true', Bool.not_eq_false', Bool.and_eq_true, Bool.and_eq_false_iff, Bool.or_eq_true, Bool.or_eq_false_iff, not_true_eq_false, not_false_eq_true, Int.not_lt, Int.not_le] at hb_; first | done | (exfalso; first | omega | contradiction)) | (case hf => intro hb_; try simp only [pd_true, pd_false, Bool.not_eq_true', Bool.not_eq_false', Bool.and_eq_true, Bool.and_eq_false_iff, Bool.or_eq_true, Bool.or_eq_false_iff, not_true_eq_false, not_false_eq_true, Int.not_lt, Int.not_le] at hb_; first | done | (exfalso; first | omega | contradiction))); intro hb_; try simp only [pd_true, pd_false, Bool.not_eq_true', Bool.not_eq_false', Bool.and_eq_true, Bool.and_eq_false_iff, Bool.or_eq_true, Bool.or_eq_false_iff, not_true_eq_false, not_false_eq_true, Int.not_lt, Int.not_le] at hb_))))
    ((with_reducible apply XQ.retE); (case hr => exact .t rfl (.t rfl .nil)))
    rw [hp]; rfl
  have hst2 : l.Stops.length = 0 := by rw [hst]; rfl
  (repeat (first | (with_reducible apply XL.op) | ((with_reducible apply XOp.p1); (case hg | hv => exact rfl)) | ((with_reducible apply XOp.load); (case hg | ht | hk | hx => exact rfl); (case hc => exact own_cell (i := 1) rfl rfl)) | (first | ((with_reducible apply XOp.split); (case hg | hj | hd | hb => exact rfl); (fail_if_success (case hf => exact fun h => Bool.noConfusion h)); (fail_if_success (case ht => exact fun h => Bool.noConfusion h)); (first | (case ht => intro hb_; try simp only [pd_true, pd_false, Bool.not_eq_true', Bool.not_eq_false', Bool.and_eq_true, Bool.and_eq_false_iff, Bool.or_eq_true, Bool.or_eq_false_iff, not_true_eq_false, not_false_eq_true, Int.not_lt, Int.not_le] at hb_; first | done | (exfalso; first | omega | contradiction)) | (case hf => intro hb_; try simp only [pd_true, pd_false, Bool.not_eq_true', Bool.not_eq_false', Bool.and_eq_true, Bool.and_eq_false_iff, Bool.or_eq_true, Bool.or_eq_false_iff, not_true_eq_false, not_false_eq_true, Int.not_lt, Int.not_le] at hb_; first | done | (exfalso; first | omega | contradiction))); intro hb_; try simp only [pd_true, pd_false, Bool.not_eq_true', Bool.not_eq_false', Bool.and_eq_true, Bool.and_eq_false_iff, Bool.or_eq_true, Bool.or_eq_false_iff, not_true_eq_false, not_false_eq_true, Int.not_lt, Int.not_le] at hb_) | ((with_reducible apply XP.split); (case ho | hg | hj | hd | hb => exact rfl); (fail_if_success (case hf => exact fun h => Bool.noConfusion h)); (fail_if_success (case ht => exact fun h => Bool.noConfusion h)); (first | (case ht => intro hb_; try simp only [pd_true, pd_false, Bool.not_eq_true', Bool.not_eq_false', Bool.and_eq_true, Bool.and_eq_false_iff, Bool.or_eq_true, Bool.or_eq_false_iff, not_true_eq_false, not_false_eq_true, Int.not_lt, Int.not_le] at hb_; first | done | (exfalso; first | omega | contradiction)) | (case hf => intro hb_; try simp only [pd_true, pd_false, Bool.not_eq_true', Bool.not_eq_false', Bool.and_eq_true, Bool.and_eq_false_iff, Bool.or_eq_true, Bool.or_eq_false_iff, not_true_eq_false, not_false_eq_true, Int.not_lt, Int.not_le] at hb_; first | done | (exfalso; first | omega | contradiction))); intro hb_; try simp only [pd_true, pd_false, Bool.not_eq_true', Bool.not_eq_false', Bool.and_eq_true, Bool.and_eq_false_iff, Bool.or_eq_true, Bool.or_eq_false_iff, not_true_eq_false, not_false_eq_true, Int.not_lt, Int.not_le] at hb_) | ((with_reducible apply XC.cond); (case hc => exact rfl); (first | (case ht => intro hb_; try simp only [pd_true, pd_false, Bool.not_eq_true', Bool.not_eq_false', Bool.and_eq_true, Bool.and_eq_false_iff, Bool.or_eq_true, Bool.or_eq_false_iff, not_true_eq_false, not_false_eq_true, Int.not_lt, Int.not_le] at hb_; first | done | (exfalso; first | omega | contradiction)) | (case hf => intro hb_; try simp only [pd_true, pd_false, Bool.not_eq_true', Bool.not_eq_false', Bool.and_eq_true, Bool.and_eq_false_iff, Bool.or_eq_true, Bool.or_eq_false_iff, not_true_eq_false, not_false_eq_true, Int.not_lt, Int.not_le] at hb_; first | done | (exfalso; first | omega | contradiction))); intro hb_; try simp only [pd_true, pd_false, Bool.not_eq_true', Bool.not_eq_false', Bool.and_eq_true, Bool.and_eq_false_iff, Bool.or_eq_true, Bool.or_eq_false_iff, not_true_eq_false, not_false_eq_true, Int.not_lt, Int.not_le] at hb_))))
  rw [kText, strOf_eq (isB_ok hl.word) (isB_ok (by unfold isB; decide))]
  by_cases h2 : l.Word = wText
  · rw [pdt h2]
    have hmay : l.may := ⟨hnw, hln, ⟨hi0, hi1⟩, fun h => ⟨hsd, hgd, hst⟩, fun _ h => absurd h2 h⟩
    have hwf : writeF l.Word = 49 := by unfold writeF; rw [if_neg h1, if_pos h2]
    rw [hwf]
    have hT2 : tailT l = 32 :: quoteL l.Text := by unfold tailT; rw [if_neg h1, if_pos (.inr h2), hst]; simp [litT]
    (repeat (first | (with_reducible apply XL.op) | ((with_reducible apply XOp.p1); (case hg | hv => exact rfl)) | ((with_reducible apply XOp.p0); (case hg => exact rfl)) | (with_reducible apply XL.nilT) | (with_reducible apply XC.seq) | (with_reducible apply XQ.skip) | (with_reducible apply XQ.nt) | ((with_reducible apply XC.condF); (case hc => exact rfl))))
    ((with_reducible apply XC.regionL (Γ := Γ) mixed (.q 0 (.q 1 (.q 2 (.q 3 (.q 4 (.e 5 (.q 6 (.q 7 (.done))))))))) [] ([(wb, Obj.cells ⟨[.string (strOf l.Word), .int .i64 (numsW l.Word), .func (.func (readF l.Word)) #[] #[], .func (.func 49) #[] #[]]⟩ 64 (0, 0)), LnB lb l.Word l.Id (.slice ta l.Text.length tc) (.slice na l.Numbers.length nc) l.Seed l.Guide (.slice sa l.Stops.length sc)])); (case hc => kernel_rfl); (case hs => first | exact List.nil_sublist _ | exact List.Sublist.refl _ | exact List.sublist_append_right _ _ | (refine List.Sublist.cons_cons _ (List.nil_sublist _)) | (refine List.Sublist.cons_cons _ (List.Sublist.cons_cons _ (List.nil_sublist _))) | (refine List.Sublist.cons_cons _ (List.Sublist.cons_cons _ (List.Sublist.cons_cons _ (List.nil_sublist _)))) | (refine List.Sublist.cons_cons _ (List.Sublist.cons_cons _ (List.Sublist.cons_cons _ (List.Sublist.cons_cons _ (List.nil_sublist _))))) | ((try simp only [List.append_eq, List.cons_append, List.nil_append, List.append_assoc]); (repeat (first | exact List.Sublist.refl _ | exact List.nil_sublist _ | (with_reducible apply List.Sublist.cons_cons) | (with_reducible apply List.Sublist.cons))); done)))
    (repeat (first | ((with_reducible apply XP.p1); (case ho | hg | hv => exact rfl)) | ((with_reducible apply XP.load); (case ho | hg | ht | hk | hx => exact rfl); (case hc => exact own_cell (i := 1) rfl rfl)) | ((with_reducible apply XP.e); (first | ((with_reducible apply XE.d); (case ho => exact rfl); (case hd => exact rfl)) | ((with_reducible apply XE.e); (case ho => exact rfl)))) | (first | ((with_reducible apply XOp.pr); (case hg => exact rfl); (case hr => (with_reducible apply PR.cat (xs := l.Word) (ys := [32])); (case hx => exact rfl); (case hy => exact rfl); (case hl => ((try simp only [List.length_append, List.length_cons, List.length_nil]); omega)))) | ((with_reducible apply XP.pr); (case ho => exact rfl); (case hg => exact rfl); (case hr => (with_reducible apply PR.cat (xs := l.Word) (ys := [32])); (case hx => exact rfl); (case hy => exact rfl); (case hl => ((try simp only [List.length_append, List.length_cons, List.length_nil]); omega)))))))
    ((with_reducible apply XOp.callQ (hF := itoa_fn l.Id hl.id)); (case hg => exact rfl); (case hc => exact rfl); (case ha => exact rfl); try (case hA => exact Known.true))
    case hA => exact Known.of_old hK lib_mono
    rintro _ rfl
    refine ⟨fun y_ hy_ => hy_, ?_⟩
    (repeat (first | (with_reducible apply XL.op) | ((with_reducible apply XOp.p1); (case hg | hv => exact rfl)) | ((with_reducible apply XOp.load); (case hg | ht | hk | hx => exact rfl); (case hc => exact own_cell (i := 1) rfl rfl)) | (with_reducible apply XL.nilT) | (with_reducible apply XC.seq) | (with_reducible apply XC.region (Γ := Γ)) | (with_reducible apply XQ.nt) | (with_reducible apply XC.block) | ((with_reducible apply XP.p1); (case ho | hg | hv => exact rfl)) | (with_reducible apply XP.done) | (first | ((with_reducible apply XOp.pr); (case hg => exact rfl); (case hr => (with_reducible apply PR.cat (xs := l.Word ++ [32]) (ys := intL l.Id)); (case hx => exact rfl); (case hy => exact rfl); (case hl => ((try simp only [List.length_append, List.length_cons, List.length_nil]); omega)))) | ((with_reducible apply XP.pr); (case ho => exact rfl); (case hg => exact rfl); (case hr => (with_reducible apply PR.cat (xs := l.Word ++ [32]) (ys := intL l.Id)); (case hx => exact rfl); (case hy => exact rfl); (case hl => ((try simp only [List.length_append, List.length_cons, List.length_nil]); omega)))))))
    obtain ⟨H, hH⟩ : ∃ H, H = l.Word ++ [32] ++ intL l.Id := ⟨_, rfl⟩
    have hHl : H.length ≤ 100 := by rw [hH]; simp only [List.length_append, List.length_cons, List.length_nil]; omega
    rw [← hH]
    refine XC.loopP (fun k ρ L => ∃ (j : Nat), j + k = l.Numbers.length ∧ L = [(wb, Obj.cells ⟨[.string (strOf l.Word), .int .i64 (numsW l.Word), .func (.func (readF l.Word)) #[] #[], .func (.func 49) #[] #[]]⟩ 64 (0, 0)), LnB lb l.Word l.Id (.slice ta l.Text.length tc) (.slice na l.Numbers.length nc) l.Seed l.Guide (.slice sa l.Stops.length sc)] ∧
        Slots ρ [(1, .pointer (some ⟨lb, 0, none⟩)), (4, .pointer (some ⟨wb, 0, none⟩)), (7, .string (strOf (H ++ numT (l.Numbers.take j)))), (76, .slice na l.Numbers.length nc), (77, .int .i64 l.Numbers.length), (78, .int .i64 j)])
      l.Numbers.length ⟨0, by simp, rfl, rfl, rfl, ?_, rfl, rfl, rfl, trivial⟩ ?_
    · show _ = Value.string (strOf (H ++ [])); rw [List.append_nil]; rfl
    rintro k ρ L ⟨j, hjk, rfl, hs⟩
    refine XC.slots _ hs ?_
    (repeat (first | (with_reducible apply XL.op) | ((with_reducible apply XOp.p1); (case hg | hv => exact rfl)) | (with_reducible apply XL.nilT) | (with_reducible apply XC.seq) | (with_reducible apply XC.region (Γ := Γ))))
    ((with_reducible apply XC.cond); (case hc => exact rfl); all_goals (intro hb_; try simp only [pd_true, pd_false, Bool.not_eq_true', Bool.not_eq_false', Bool.and_eq_true, Bool.and_eq_false_iff, Bool.or_eq_true, Bool.or_eq_false_iff, not_true_eq_false, not_false_eq_true, Int.not_lt, Int.not_le] at hb_))
    · obtain ⟨s, hsj⟩ : ∃ s, l.Numbers[j]? = some s := ⟨_, List.getElem?_eq_getElem (by omega)⟩
      have hsm := List.mem_of_getElem? hsj
      have hsi := hl.nums s hsm
      have hj := hnb j
      have hil := intL_len _ hsi
      have e0 : l.Numbers[j]?.getD 0 = s := by rw [hsj]; rfl
      (repeat (first | (with_reducible apply XL.op) | ((with_reducible apply XOp.p1); (case hg | hv => exact rfl)) | ((with_reducible apply XOp.pr); (case hg => exact rfl); (case hr => ((with_reducible apply PR.idxA); (case ht | hk | he | hx | hi => exact rfl); (case hr => first | assumption | omega); (case ha => first | assumption | exact SlA.at_ (by assumption))))) | (with_reducible apply XL.nilT) | (with_reducible apply XC.seq) | (with_reducible apply XC.region (Γ := Γ)) | (with_reducible apply XQ.skip) | (with_reducible apply XQ.nt) | (with_reducible apply XC.block) | (first | ((with_reducible apply XOp.load); (case hg | ht | hk | hx => exact rfl); (case hc => exact Known.of_old (hN.int j (by omega)).1 (Mono.cell _ _))) | ((with_reducible apply XP.load); (case ho | hg | ht | hk | hx => exact rfl); (case hc => exact Known.of_old (hN.int j (by omega)).1 (Mono.cell _ _))))))
      rw [e0]
      ((with_reducible apply XOp.callQ (hF := itoa_fn s hsi)); (case hg => exact rfl); (case hc => exact rfl); (case ha => exact rfl); try (case hA => exact Known.true))
      case hA => exact Known.of_old hK lib_mono
      rintro _ rfl
      (repeat (first | (with_reducible apply XL.op) | ((with_reducible apply XOp.p1); (case hg | hv => exact rfl)) | (with_reducible apply XL.nilT) | (with_reducible apply XC.region (Γ := Γ)) | (with_reducible apply XL.nilQ) | (with_reducible apply XQ.nt) | (with_reducible apply XQ.nb) | (first | ((with_reducible apply XOp.pr); (case hg => exact rfl); (case hr => (with_reducible apply PR.cat (xs := [32]) (ys := intL s)); (case hx => exact rfl); (case hy => exact rfl); (case hl => ((try simp only [List.length_append, List.length_cons, List.length_nil]); omega)))) | ((with_reducible apply XP.pr); (case ho => exact rfl); (case hg => exact rfl); (case hr => (with_reducible apply PR.cat (xs := [32]) (ys := intL s)); (case hx => exact rfl); (case hy => exact rfl); (case hl => ((try simp only [List.length_append, List.length_cons, List.length_nil]); omega))))) | (first | ((with_reducible apply XOp.pr); (case hg => exact rfl); (case hr => (with_reducible apply PR.cat (xs := H ++ numT (l.Numbers.take j)) (ys := [32] ++ intL s)); (case hx => exact rfl); (case hy => exact rfl); (case hl => ((try simp only [List.length_append, List.length_cons, List.length_nil]); omega)))) | ((with_reducible apply XP.pr); (case ho => exact rfl); (case hg => exact rfl); (case hr => (with_reducible apply PR.cat (xs := H ++ numT (l.Numbers.take j)) (ys := [32] ++ intL s)); (case hx => exact rfl); (case hy => exact rfl); (case hl => ((try simp only [List.length_append, List.length_cons, List.length_nil]); omega)))))))
      rw [show H ++ numT (l.Numbers.take j) ++ ([32] ++ intL s) = H ++ numT (l.Numbers.take (j + 1)) by rw [take_snoc hsj]; simp [numT]]
      exact ⟨k - 1, by omega, _, .of (List.Sublist.refl _), j + 1, by omega, rfl, rfl, rfl, rfl, rfl, rfl, intS (m := l.Numbers.length) (by omega) (by omega), trivial⟩
    obtain rfl : j = l.Numbers.length := by omega
    rw [List.take_length] at hs ⊢
    have hj := hnb l.Numbers.length
    rw [List.take_length] at hj
    (repeat (first | (with_reducible apply XL.op) | ((with_reducible apply XOp.p1); (case hg | hv => exact rfl)) | ((with_reducible apply XOp.load); (case hg | ht | hk | hx => exact rfl); (case hc => exact own_cell (i := 0) rfl rfl)) | (with_reducible apply XC.seq) | (with_reducible apply XC.region (Γ := Γ)) | (with_reducible apply XQ.exit) | (with_reducible apply XQ.nt) | (with_reducible apply XQ.et) | ((with_reducible apply XQ.eb); (case hb => exact rfl))))
    (refine (show XOp _ _ _ _ _ _ _ _ ([(wb, Obj.cells ⟨[.string (strOf l.Word), .int .i64 (numsW l.Word), .func (.func (readF l.Word)) #[] #[], .func (.func 49) #[] #[]]⟩ 64 (0, 0)), LnB lb l.Word l.Id (.slice ta l.Text.length tc) (.slice na l.Numbers.length nc) l.Seed l.Guide (.slice sa l.Stops.length sc)]) from XOp.perm (L' :=  [LnB lb l.Word l.Id (.slice ta l.Text.length tc) (.slice na l.Numbers.length nc) l.Seed l.Guide (.slice sa l.Stops.length sc), (wb, Obj.cells ⟨[.string (strOf l.Word), .int .i64 (numsW l.Word), .func (.func (readF l.Word)) #[] #[], .func (.func 49) #[] #[]]⟩ 64 (0, 0))]) rfl ?_ (by (first | (with_reducible exact List.Perm.refl _) | refine perm_of_cnt fun p_ => ?_; simp only [List.countP_append, List.countP_cons, List.countP_nil]; omega))))
    ((with_reducible apply XOp.call (L0 := [LnB lb l.Word l.Id (.slice ta l.Text.length tc) (.slice na l.Numbers.length nc) l.Seed l.Guide (.slice sa l.Stops.length sc)]) (hF :=  writeText_fn lb l hf ta na sa tc nc sc)); (case hg => exact rfl); (case hc => exact rfl); (case ha => exact rfl); (case hL => exact rfl))
    case hA => exact Known.of_old ⟨hT, hN, hS⟩ (lnK_mono l ta na sa tc nc sc)
    rintro _ _ ⟨rfl, rfl⟩
    (repeat (first | (with_reducible apply XL.op) | ((with_reducible apply XOp.p1); (case hg | hv => exact rfl)) | (with_reducible apply XL.nilT) | (with_reducible apply XC.seq) | (with_reducible apply XC.region (Γ := Γ)) | (first | ((with_reducible apply XOp.pr); (case hg => exact rfl); (case hr => (with_reducible apply PR.cat (xs := H ++ numT l.Numbers) (ys := (32 :: quoteL l.Text))); (case hx => exact rfl); (case hy => exact rfl); (case hl => ((try simp only [List.length_append, List.length_cons, List.length_nil]); omega)))) | ((with_reducible apply XP.pr); (case ho => exact rfl); (case hg => exact rfl); (case hr => (with_reducible apply PR.cat (xs := H ++ numT l.Numbers) (ys := (32 :: quoteL l.Text))); (case hx => exact rfl); (case hy => exact rfl); (case hl => ((try simp only [List.length_append, List.length_cons, List.length_nil]); omega)))))))
    have hsz := strOf_size (H ++ numT l.Numbers ++ (32 :: quoteL l.Text))
    have hlt : lineT l = H ++ numT l.Numbers ++ (32 :: quoteL l.Text) := by rw [hH]; unfold lineT; rw [hT2]; simp
    rw [← hlt] at hsz ⊢
    by_cases h8 : (lineT l).length ≤ 8192
    · have hp : printS l = some (lineT l) := by unfold printS; rw [if_pos hmay, if_pos h8]
      (repeat (first | (with_reducible apply XL.op) | ((with_reducible apply XOp.p1); (case hg | hv => exact rfl)) | (with_reducible apply XL.nilT) | (with_reducible apply XC.seq) | (with_reducible apply XC.region (Γ := Γ)) | (with_reducible apply XQ.skip) | (with_reducible apply XQ.ret) | (with_reducible apply XQ.nt) | (first | ((with_reducible apply XOp.split); (case hg | hj | hd | hb => exact rfl); (fail_if_success (case hf => exact fun h => Bool.noConfusion h)); (fail_if_success (case ht => exact fun h => Bool.noConfusion h)); (first | (case ht => intro hb_; try simp only [pd_true, pd_false, Bool.not_eq_true', Bool.not_eq_false', Bool.and_eq_true, Bool.and_eq_false_iff, Bool.or_eq_true, Bool.or_eq_false_iff, not_true_eq_false, not_false_eq_true, Int.not_lt, Int.not_le] at hb_; first | done | (exfalso; first | omega | contradiction)) | (case hf => intro hb_; try simp only [pd_true, pd_false, Bool.not_eq_true', Bool.not_eq_false', Bool.and_eq_true, Bool.and_eq_false_iff, Bool.or_eq_true, Bool.or_eq_false_iff, not_true_eq_false, not_false_eq_true, Int.not_lt, Int.not_le] at hb_; first | done | (exfalso; first | omega | contradiction))); intro hb_; try simp only [pd_true, pd_false, Bool.not_eq_true', Bool.not_eq_false', Bool.and_eq_true, Bool.and_eq_false_iff, Bool.or_eq_true, Bool.or_eq_false_iff, not_true_eq_false, not_false_eq_true, Int.not_lt, Int.not_le] at hb_) | ((with_reducible apply XP.split); (case ho | hg | hj | hd | hb => exact rfl); (fail_if_success (case hf => exact fun h => Bool.noConfusion h)); (fail_if_success (case ht => exact fun h => Bool.noConfusion h)); (first | (case ht => intro hb_; try simp only [pd_true, pd_false, Bool.not_eq_true', Bool.not_eq_false', Bool.and_eq_true, Bool.and_eq_false_iff, Bool.or_eq_true, Bool.or_eq_false_iff, not_true_eq_false, not_false_eq_true, Int.not_lt, Int.not_le] at hb_; first | done | (exfalso; first | omega | contradiction)) | (case hf => intro hb_; try simp only [pd_true, pd_false, Bool.not_eq_true', Bool.not_eq_false', Bool.and_eq_true, Bool.and_eq_false_iff, Bool.or_eq_true, Bool.or_eq_false_iff, not_true_eq_false, not_false_eq_true, Int.not_lt, Int.not_le] at hb_; first | done | (exfalso; first | omega | contradiction))); intro hb_; try simp only [pd_true, pd_false, Bool.not_eq_true', Bool.not_eq_false', Bool.and_eq_true, Bool.and_eq_false_iff, Bool.or_eq_true, Bool.or_eq_false_iff, not_true_eq_false, not_false_eq_true, Int.not_lt, Int.not_le] at hb_) | ((with_reducible apply XC.cond); (case hc => exact rfl); (first | (case ht => intro hb_; try simp only [pd_true, pd_false, Bool.not_eq_true', Bool.not_eq_false', Bool.and_eq_true, Bool.and_eq_false_iff, Bool.or_eq_true, Bool.or_eq_false_iff, not_true_eq_false, not_false_eq_true, Int.not_lt, Int.not_le] at hb_; first | done | (exfalso; first | omega | contradiction)) | (case hf => intro hb_; try simp only [pd_true, pd_false, Bool.not_eq_true', Bool.not_eq_false', Bool.and_eq_true, Bool.and_eq_false_iff, Bool.or_eq_true, Bool.or_eq_false_iff, not_true_eq_false, not_false_eq_true, Int.not_lt, Int.not_le] at hb_; first | done | (exfalso; first | omega | contradiction))); intro hb_; try simp only [pd_true, pd_false, Bool.not_eq_true', Bool.not_eq_false', Bool.and_eq_true, Bool.and_eq_false_iff, Bool.or_eq_true, Bool.or_eq_false_iff, not_true_eq_false, not_false_eq_true, Int.not_lt, Int.not_le] at hb_))))
      ((with_reducible apply XQ.retE); (case hr => exact .t rfl (.t rfl .nil)))
      rw [hp]; rfl
    · have hp : printS l = none := by unfold printS; rw [if_pos hmay, if_neg h8]
      (repeat (first | (with_reducible apply XL.op) | ((with_reducible apply XOp.p1); (case hg | hv => exact rfl)) | (with_reducible apply XL.nilT) | (with_reducible apply XC.seq) | (with_reducible apply XC.region (Γ := Γ)) | (with_reducible apply XQ.ret) | (with_reducible apply XQ.rt) | (first | ((with_reducible apply XOp.split); (case hg | hj | hd | hb => exact rfl); (fail_if_success (case hf => exact fun h => Bool.noConfusion h)); (fail_if_success (case ht => exact fun h => Bool.noConfusion h)); (first | (case ht => intro hb_; try simp only [pd_true, pd_false, Bool.not_eq_true', Bool.not_eq_false', Bool.and_eq_true, Bool.and_eq_false_iff, Bool.or_eq_true, Bool.or_eq_false_iff, not_true_eq_false, not_false_eq_true, Int.not_lt, Int.not_le] at hb_; first | done | (exfalso; first | omega | contradiction)) | (case hf => intro hb_; try simp only [pd_true, pd_false, Bool.not_eq_true', Bool.not_eq_false', Bool.and_eq_true, Bool.and_eq_false_iff, Bool.or_eq_true, Bool.or_eq_false_iff, not_true_eq_false, not_false_eq_true, Int.not_lt, Int.not_le] at hb_; first | done | (exfalso; first | omega | contradiction))); intro hb_; try simp only [pd_true, pd_false, Bool.not_eq_true', Bool.not_eq_false', Bool.and_eq_true, Bool.and_eq_false_iff, Bool.or_eq_true, Bool.or_eq_false_iff, not_true_eq_false, not_false_eq_true, Int.not_lt, Int.not_le] at hb_) | ((with_reducible apply XP.split); (case ho | hg | hj | hd | hb => exact rfl); (fail_if_success (case hf => exact fun h => Bool.noConfusion h)); (fail_if_success (case ht => exact fun h => Bool.noConfusion h)); (first | (case ht => intro hb_; try simp only [pd_true, pd_false, Bool.not_eq_true', Bool.not_eq_false', Bool.and_eq_true, Bool.and_eq_false_iff, Bool.or_eq_true, Bool.or_eq_false_iff, not_true_eq_false, not_false_eq_true, Int.not_lt, Int.not_le] at hb_; first | done | (exfalso; first | omega | contradiction)) | (case hf => intro hb_; try simp only [pd_true, pd_false, Bool.not_eq_true', Bool.not_eq_false', Bool.and_eq_true, Bool.and_eq_false_iff, Bool.or_eq_true, Bool.or_eq_false_iff, not_true_eq_false, not_false_eq_true, Int.not_lt, Int.not_le] at hb_; first | done | (exfalso; first | omega | contradiction))); intro hb_; try simp only [pd_true, pd_false, Bool.not_eq_true', Bool.not_eq_false', Bool.and_eq_true, Bool.and_eq_false_iff, Bool.or_eq_true, Bool.or_eq_false_iff, not_true_eq_false, not_false_eq_true, Int.not_lt, Int.not_le] at hb_) | ((with_reducible apply XC.cond); (case hc => exact rfl); (first | (case ht => intro hb_; try simp only [pd_true, pd_false, Bool.not_eq_true', Bool.not_eq_false', Bool.and_eq_true, Bool.and_eq_false_iff, Bool.or_eq_true, Bool.or_eq_false_iff, not_true_eq_false, not_false_eq_true, Int.not_lt, Int.not_le] at hb_; first | done | (exfalso; first | omega | contradiction)) | (case hf => intro hb_; try simp only [pd_true, pd_false, Bool.not_eq_true', Bool.not_eq_false', Bool.and_eq_true, Bool.and_eq_false_iff, Bool.or_eq_true, Bool.or_eq_false_iff, not_true_eq_false, not_false_eq_true, Int.not_lt, Int.not_le] at hb_; first | done | (exfalso; first | omega | contradiction))); intro hb_; try simp only [pd_true, pd_false, Bool.not_eq_true', Bool.not_eq_false', Bool.and_eq_true, Bool.and_eq_false_iff, Bool.or_eq_true, Bool.or_eq_false_iff, not_true_eq_false, not_false_eq_true, Int.not_lt, Int.not_le] at hb_))))
      ((with_reducible apply XQ.retE); (case hr => exact .t rfl (.t rfl .nil)))
      rw [hp]; rfl
  rw [pdf h2]
  by_cases htx : l.Text = []
  case neg =>
    have hp := printS_bad fun h : l.may => htx (h.text h1 h2)
    have htx2 : 0 < l.Text.length := List.length_pos_iff.2 htx
    (repeat (first | (with_reducible apply XL.op) | ((with_reducible apply XOp.p1); (case hg | hv => exact rfl)) | ((with_reducible apply XOp.load); (case hg | ht | hk | hx => exact rfl); (case hc => exact own_cell (i := 1) rfl rfl)) | (with_reducible apply XL.nilT) | (with_reducible apply XC.seq) | (with_reducible apply XC.region (Γ := Γ)) | (with_reducible apply XQ.ret) | (with_reducible apply XQ.rt) | (first | ((with_reducible apply XOp.split); (case hg | hj | hd | hb => exact rfl); (fail_if_success (case hf => exact fun h => Bool.noConfusion h)); (fail_if_success (case ht => exact fun h => Bool.noConfusion h)); (first | (case ht => intro hb_; try simp only [pd_true, pd_false, Bool.not_eq_true', Bool.not_eq_false', Bool.and_eq_true, Bool.and_eq_false_iff, Bool.or_eq_true, Bool.or_eq_false_iff, not_true_eq_false, not_false_eq_true, Int.not_lt, Int.not_le] at hb_; first | done | (exfalso; first | omega | contradiction)) | (case hf => intro hb_; try simp only [pd_true, pd_false, Bool.not_eq_true', Bool.not_eq_false', Bool.and_eq_true, Bool.and_eq_false_iff, Bool.or_eq_true, Bool.or_eq_false_iff, not_true_eq_false, not_false_eq_true, Int.not_lt, Int.not_le] at hb_; first | done | (exfalso; first | omega | contradiction))); intro hb_; try simp only [pd_true, pd_false, Bool.not_eq_true', Bool.not_eq_false', Bool.and_eq_true, Bool.and_eq_false_iff, Bool.or_eq_true, Bool.or_eq_false_iff, not_true_eq_false, not_false_eq_true, Int.not_lt, Int.not_le] at hb_) | ((with_reducible apply XP.split); (case ho | hg | hj | hd | hb => exact rfl); (fail_if_success (case hf => exact fun h => Bool.noConfusion h)); (fail_if_success (case ht => exact fun h => Bool.noConfusion h)); (first | (case ht => intro hb_; try simp only [pd_true, pd_false, Bool.not_eq_true', Bool.not_eq_false', Bool.and_eq_true, Bool.and_eq_false_iff, Bool.or_eq_true, Bool.or_eq_false_iff, not_true_eq_false, not_false_eq_true, Int.not_lt, Int.not_le] at hb_; first | done | (exfalso; first | omega | contradiction)) | (case hf => intro hb_; try simp only [pd_true, pd_false, Bool.not_eq_true', Bool.not_eq_false', Bool.and_eq_true, Bool.and_eq_false_iff, Bool.or_eq_true, Bool.or_eq_false_iff, not_true_eq_false, not_false_eq_true, Int.not_lt, Int.not_le] at hb_; first | done | (exfalso; first | omega | contradiction))); intro hb_; try simp only [pd_true, pd_false, Bool.not_eq_true', Bool.not_eq_false', Bool.and_eq_true, Bool.and_eq_false_iff, Bool.or_eq_true, Bool.or_eq_false_iff, not_true_eq_false, not_false_eq_true, Int.not_lt, Int.not_le] at hb_) | ((with_reducible apply XC.cond); (case hc => exact rfl); (first | (case ht => intro hb_; try simp only [pd_true, pd_false, Bool.not_eq_true', Bool.not_eq_false', Bool.and_eq_true, Bool.and_eq_false_iff, Bool.or_eq_true, Bool.or_eq_false_iff, not_true_eq_false, not_false_eq_true, Int.not_lt, Int.not_le] at hb_; first | done | (exfalso; first | omega | contradiction)) | (case hf => intro hb_; try simp only [pd_true, pd_false, Bool.not_eq_true', Bool.not_eq_false', Bool.and_eq_true, Bool.and_eq_false_iff, Bool.or_eq_true, Bool.or_eq_false_iff, not_true_eq_false, not_false_eq_true, Int.not_lt, Int.not_le] at hb_; first | done | (exfalso; first | omega | contradiction))); intro hb_; try simp only [pd_true, pd_false, Bool.not_eq_true', Bool.not_eq_false', Bool.and_eq_true, Bool.and_eq_false_iff, Bool.or_eq_true, Bool.or_eq_false_iff, not_true_eq_false, not_false_eq_true, Int.not_lt, Int.not_le] at hb_))))
    ((with_reducible apply XQ.retE); (case hr => exact .t rfl (.t rfl .nil)))
    rw [hp]; rfl
  have htx2 : l.Text.length = 0 := by rw [htx]; rfl
  have hmay : l.may := ⟨hnw, hln, ⟨hi0, hi1⟩, fun h => ⟨hsd, hgd, hst⟩, fun _ _ => htx⟩
  have hwf : writeF l.Word = 51 := by unfold writeF; rw [if_neg h1, if_neg h2]
  rw [hwf]
  have hT2 : tailT l = [] := by unfold tailT; rw [if_neg h1, if_neg (fun h => h.elim h1 h2), hst]; simp [litT]
  (repeat (first | (with_reducible apply XL.op) | ((with_reducible apply XOp.p1); (case hg | hv => exact rfl)) | ((with_reducible apply XOp.load); (case hg | ht | hk | hx => exact rfl); (case hc => exact own_cell (i := 1) rfl rfl)) | (with_reducible apply XL.nilT) | (with_reducible apply XC.seq) | (with_reducible apply XQ.skip) | (with_reducible apply XQ.nt) | (first | ((with_reducible apply XOp.split); (case hg | hj | hd | hb => exact rfl); (fail_if_success (case hf => exact fun h => Bool.noConfusion h)); (fail_if_success (case ht => exact fun h => Bool.noConfusion h)); (first | (case ht => intro hb_; try simp only [pd_true, pd_false, Bool.not_eq_true', Bool.not_eq_false', Bool.and_eq_true, Bool.and_eq_false_iff, Bool.or_eq_true, Bool.or_eq_false_iff, not_true_eq_false, not_false_eq_true, Int.not_lt, Int.not_le] at hb_; first | done | (exfalso; first | omega | contradiction)) | (case hf => intro hb_; try simp only [pd_true, pd_false, Bool.not_eq_true', Bool.not_eq_false', Bool.and_eq_true, Bool.and_eq_false_iff, Bool.or_eq_true, Bool.or_eq_false_iff, not_true_eq_false, not_false_eq_true, Int.not_lt, Int.not_le] at hb_; first | done | (exfalso; first | omega | contradiction))); intro hb_; try simp only [pd_true, pd_false, Bool.not_eq_true', Bool.not_eq_false', Bool.and_eq_true, Bool.and_eq_false_iff, Bool.or_eq_true, Bool.or_eq_false_iff, not_true_eq_false, not_false_eq_true, Int.not_lt, Int.not_le] at hb_) | ((with_reducible apply XP.split); (case ho | hg | hj | hd | hb => exact rfl); (fail_if_success (case hf => exact fun h => Bool.noConfusion h)); (fail_if_success (case ht => exact fun h => Bool.noConfusion h)); (first | (case ht => intro hb_; try simp only [pd_true, pd_false, Bool.not_eq_true', Bool.not_eq_false', Bool.and_eq_true, Bool.and_eq_false_iff, Bool.or_eq_true, Bool.or_eq_false_iff, not_true_eq_false, not_false_eq_true, Int.not_lt, Int.not_le] at hb_; first | done | (exfalso; first | omega | contradiction)) | (case hf => intro hb_; try simp only [pd_true, pd_false, Bool.not_eq_true', Bool.not_eq_false', Bool.and_eq_true, Bool.and_eq_false_iff, Bool.or_eq_true, Bool.or_eq_false_iff, not_true_eq_false, not_false_eq_true, Int.not_lt, Int.not_le] at hb_; first | done | (exfalso; first | omega | contradiction))); intro hb_; try simp only [pd_true, pd_false, Bool.not_eq_true', Bool.not_eq_false', Bool.and_eq_true, Bool.and_eq_false_iff, Bool.or_eq_true, Bool.or_eq_false_iff, not_true_eq_false, not_false_eq_true, Int.not_lt, Int.not_le] at hb_) | ((with_reducible apply XC.cond); (case hc => exact rfl); (first | (case ht => intro hb_; try simp only [pd_true, pd_false, Bool.not_eq_true', Bool.not_eq_false', Bool.and_eq_true, Bool.and_eq_false_iff, Bool.or_eq_true, Bool.or_eq_false_iff, not_true_eq_false, not_false_eq_true, Int.not_lt, Int.not_le] at hb_; first | done | (exfalso; first | omega | contradiction)) | (case hf => intro hb_; try simp only [pd_true, pd_false, Bool.not_eq_true', Bool.not_eq_false', Bool.and_eq_true, Bool.and_eq_false_iff, Bool.or_eq_true, Bool.or_eq_false_iff, not_true_eq_false, not_false_eq_true, Int.not_lt, Int.not_le] at hb_; first | done | (exfalso; first | omega | contradiction))); intro hb_; try simp only [pd_true, pd_false, Bool.not_eq_true', Bool.not_eq_false', Bool.and_eq_true, Bool.and_eq_false_iff, Bool.or_eq_true, Bool.or_eq_false_iff, not_true_eq_false, not_false_eq_true, Int.not_lt, Int.not_le] at hb_))))
  ((with_reducible apply XC.regionL (Γ := Γ) mixed (.q 0 (.q 1 (.q 2 (.q 3 (.q 4 (.e 5 (.q 6 (.q 7 (.done))))))))) [] ([(wb, Obj.cells ⟨[.string (strOf l.Word), .int .i64 (numsW l.Word), .func (.func (readF l.Word)) #[] #[], .func (.func 51) #[] #[]]⟩ 64 (0, 0)), LnB lb l.Word l.Id (.slice ta l.Text.length tc) (.slice na l.Numbers.length nc) l.Seed l.Guide (.slice sa l.Stops.length sc)])); (case hc => kernel_rfl); (case hs => first | exact List.nil_sublist _ | exact List.Sublist.refl _ | exact List.sublist_append_right _ _ | (refine List.Sublist.cons_cons _ (List.nil_sublist _)) | (refine List.Sublist.cons_cons _ (List.Sublist.cons_cons _ (List.nil_sublist _))) | (refine List.Sublist.cons_cons _ (List.Sublist.cons_cons _ (List.Sublist.cons_cons _ (List.nil_sublist _)))) | (refine List.Sublist.cons_cons _ (List.Sublist.cons_cons _ (List.Sublist.cons_cons _ (List.Sublist.cons_cons _ (List.nil_sublist _))))) | ((try simp only [List.append_eq, List.cons_append, List.nil_append, List.append_assoc]); (repeat (first | exact List.Sublist.refl _ | exact List.nil_sublist _ | (with_reducible apply List.Sublist.cons_cons) | (with_reducible apply List.Sublist.cons))); done)))
  (repeat (first | ((with_reducible apply XP.p1); (case ho | hg | hv => exact rfl)) | ((with_reducible apply XP.load); (case ho | hg | ht | hk | hx => exact rfl); (case hc => exact own_cell (i := 1) rfl rfl)) | ((with_reducible apply XP.e); (first | ((with_reducible apply XE.d); (case ho => exact rfl); (case hd => exact rfl)) | ((with_reducible apply XE.e); (case ho => exact rfl)))) | (first | ((with_reducible apply XOp.pr); (case hg => exact rfl); (case hr => (with_reducible apply PR.cat (xs := l.Word) (ys := [32])); (case hx => exact rfl); (case hy => exact rfl); (case hl => ((try simp only [List.length_append, List.length_cons, List.length_nil]); omega)))) | ((with_reducible apply XP.pr); (case ho => exact rfl); (case hg => exact rfl); (case hr => (with_reducible apply PR.cat (xs := l.Word) (ys := [32])); (case hx => exact rfl); (case hy => exact rfl); (case hl => ((try simp only [List.length_append, List.length_cons, List.length_nil]); omega)))))))
  ((with_reducible apply XOp.callQ (hF := itoa_fn l.Id hl.id)); (case hg => exact rfl); (case hc => exact rfl); (case ha => exact rfl); try (case hA => exact Known.true))
  case hA => exact Known.of_old hK lib_mono
  rintro _ rfl
  refine ⟨fun y_ hy_ => hy_, ?_⟩
  (repeat (first | (with_reducible apply XL.op) | ((with_reducible apply XOp.p1); (case hg | hv => exact rfl)) | ((with_reducible apply XOp.load); (case hg | ht | hk | hx => exact rfl); (case hc => exact own_cell (i := 1) rfl rfl)) | (with_reducible apply XL.nilT) | (with_reducible apply XC.seq) | (with_reducible apply XC.region (Γ := Γ)) | (with_reducible apply XQ.nt) | (with_reducible apply XC.block) | ((with_reducible apply XP.p1); (case ho | hg | hv => exact rfl)) | (with_reducible apply XP.done) | (first | ((with_reducible apply XOp.pr); (case hg => exact rfl); (case hr => (with_reducible apply PR.cat (xs := l.Word ++ [32]) (ys := intL l.Id)); (case hx => exact rfl); (case hy => exact rfl); (case hl => ((try simp only [List.length_append, List.length_cons, List.length_nil]); omega)))) | ((with_reducible apply XP.pr); (case ho => exact rfl); (case hg => exact rfl); (case hr => (with_reducible apply PR.cat (xs := l.Word ++ [32]) (ys := intL l.Id)); (case hx => exact rfl); (case hy => exact rfl); (case hl => ((try simp only [List.length_append, List.length_cons, List.length_nil]); omega)))))))
  obtain ⟨H, hH⟩ : ∃ H, H = l.Word ++ [32] ++ intL l.Id := ⟨_, rfl⟩
  have hHl : H.length ≤ 100 := by rw [hH]; simp only [List.length_append, List.length_cons, List.length_nil]; omega
  rw [← hH]
  refine XC.loopP (fun k ρ L => ∃ (j : Nat), j + k = l.Numbers.length ∧ L = [(wb, Obj.cells ⟨[.string (strOf l.Word), .int .i64 (numsW l.Word), .func (.func (readF l.Word)) #[] #[], .func (.func 51) #[] #[]]⟩ 64 (0, 0)), LnB lb l.Word l.Id (.slice ta l.Text.length tc) (.slice na l.Numbers.length nc) l.Seed l.Guide (.slice sa l.Stops.length sc)] ∧
      Slots ρ [(1, .pointer (some ⟨lb, 0, none⟩)), (4, .pointer (some ⟨wb, 0, none⟩)), (7, .string (strOf (H ++ numT (l.Numbers.take j)))), (76, .slice na l.Numbers.length nc), (77, .int .i64 l.Numbers.length), (78, .int .i64 j)])
    l.Numbers.length ⟨0, by simp, rfl, rfl, rfl, ?_, rfl, rfl, rfl, trivial⟩ ?_
  · show _ = Value.string (strOf (H ++ [])); rw [List.append_nil]; rfl
  rintro k ρ L ⟨j, hjk, rfl, hs⟩
  refine XC.slots _ hs ?_
  (repeat (first | (with_reducible apply XL.op) | ((with_reducible apply XOp.p1); (case hg | hv => exact rfl)) | (with_reducible apply XL.nilT) | (with_reducible apply XC.seq) | (with_reducible apply XC.region (Γ := Γ))))
  ((with_reducible apply XC.cond); (case hc => exact rfl); all_goals (intro hb_; try simp only [pd_true, pd_false, Bool.not_eq_true', Bool.not_eq_false', Bool.and_eq_true, Bool.and_eq_false_iff, Bool.or_eq_true, Bool.or_eq_false_iff, not_true_eq_false, not_false_eq_true, Int.not_lt, Int.not_le] at hb_))
  · obtain ⟨s, hsj⟩ : ∃ s, l.Numbers[j]? = some s := ⟨_, List.getElem?_eq_getElem (by omega)⟩
    have hsm := List.mem_of_getElem? hsj
    have hsi := hl.nums s hsm
    have hj := hnb j
    have hil := intL_len _ hsi
    have e0 : l.Numbers[j]?.getD 0 = s := by rw [hsj]; rfl
    (repeat (first | (with_reducible apply XL.op) | ((with_reducible apply XOp.p1); (case hg | hv => exact rfl)) | ((with_reducible apply XOp.pr); (case hg => exact rfl); (case hr => ((with_reducible apply PR.idxA); (case ht | hk | he | hx | hi => exact rfl); (case hr => first | assumption | omega); (case ha => first | assumption | exact SlA.at_ (by assumption))))) | (with_reducible apply XL.nilT) | (with_reducible apply XC.seq) | (with_reducible apply XC.region (Γ := Γ)) | (with_reducible apply XQ.skip) | (with_reducible apply XQ.nt) | (with_reducible apply XC.block) | (first | ((with_reducible apply XOp.load); (case hg | ht | hk | hx => exact rfl); (case hc => exact Known.of_old (hN.int j (by omega)).1 (Mono.cell _ _))) | ((with_reducible apply XP.load); (case ho | hg | ht | hk | hx => exact rfl); (case hc => exact Known.of_old (hN.int j (by omega)).1 (Mono.cell _ _))))))
    rw [e0]
    ((with_reducible apply XOp.callQ (hF := itoa_fn s hsi)); (case hg => exact rfl); (case hc => exact rfl); (case ha => exact rfl); try (case hA => exact Known.true))
    case hA => exact Known.of_old hK lib_mono
    rintro _ rfl
    (repeat (first | (with_reducible apply XL.op) | ((with_reducible apply XOp.p1); (case hg | hv => exact rfl)) | (with_reducible apply XL.nilT) | (with_reducible apply XC.region (Γ := Γ)) | (with_reducible apply XL.nilQ) | (with_reducible apply XQ.nt) | (with_reducible apply XQ.nb) | (first | ((with_reducible apply XOp.pr); (case hg => exact rfl); (case hr => (with_reducible apply PR.cat (xs := [32]) (ys := intL s)); (case hx => exact rfl); (case hy => exact rfl); (case hl => ((try simp only [List.length_append, List.length_cons, List.length_nil]); omega)))) | ((with_reducible apply XP.pr); (case ho => exact rfl); (case hg => exact rfl); (case hr => (with_reducible apply PR.cat (xs := [32]) (ys := intL s)); (case hx => exact rfl); (case hy => exact rfl); (case hl => ((try simp only [List.length_append, List.length_cons, List.length_nil]); omega))))) | (first | ((with_reducible apply XOp.pr); (case hg => exact rfl); (case hr => (with_reducible apply PR.cat (xs := H ++ numT (l.Numbers.take j)) (ys := [32] ++ intL s)); (case hx => exact rfl); (case hy => exact rfl); (case hl => ((try simp only [List.length_append, List.length_cons, List.length_nil]); omega)))) | ((with_reducible apply XP.pr); (case ho => exact rfl); (case hg => exact rfl); (case hr => (with_reducible apply PR.cat (xs := H ++ numT (l.Numbers.take j)) (ys := [32] ++ intL s)); (case hx => exact rfl); (case hy => exact rfl); (case hl => ((try simp only [List.length_append, List.length_cons, List.length_nil]); omega)))))))
    rw [show H ++ numT (l.Numbers.take j) ++ ([32] ++ intL s) = H ++ numT (l.Numbers.take (j + 1)) by rw [take_snoc hsj]; simp [numT]]
    exact ⟨k - 1, by omega, _, .of (List.Sublist.refl _), j + 1, by omega, rfl, rfl, rfl, rfl, rfl, rfl, intS (m := l.Numbers.length) (by omega) (by omega), trivial⟩
  obtain rfl : j = l.Numbers.length := by omega
  rw [List.take_length] at hs ⊢
  have hj := hnb l.Numbers.length
  rw [List.take_length] at hj
  (repeat (first | (with_reducible apply XL.op) | ((with_reducible apply XOp.p1); (case hg | hv => exact rfl)) | ((with_reducible apply XOp.load); (case hg | ht | hk | hx => exact rfl); (case hc => exact own_cell (i := 0) rfl rfl)) | (with_reducible apply XC.seq) | (with_reducible apply XC.region (Γ := Γ)) | (with_reducible apply XQ.exit) | (with_reducible apply XQ.nt) | (with_reducible apply XQ.et) | ((with_reducible apply XQ.eb); (case hb => exact rfl))))
  ((with_reducible apply XOp.callQ (hF := empty_fn lb)); (case hg => exact rfl); (case hc => exact rfl); (case ha => exact rfl); try (case hA => exact Known.true))
  rintro _ rfl
  (repeat (first | (with_reducible apply XL.op) | ((with_reducible apply XOp.p1); (case hg | hv => exact rfl)) | (with_reducible apply XL.nilT) | (with_reducible apply XC.seq) | (with_reducible apply XC.region (Γ := Γ)) | (first | ((with_reducible apply XOp.pr); (case hg => exact rfl); (case hr => (with_reducible apply PR.cat (xs := H ++ numT l.Numbers) (ys := [])); (case hx => exact rfl); (case hy => exact rfl); (case hl => ((try simp only [List.length_append, List.length_cons, List.length_nil]); omega)))) | ((with_reducible apply XP.pr); (case ho => exact rfl); (case hg => exact rfl); (case hr => (with_reducible apply PR.cat (xs := H ++ numT l.Numbers) (ys := [])); (case hx => exact rfl); (case hy => exact rfl); (case hl => ((try simp only [List.length_append, List.length_cons, List.length_nil]); omega)))))))
  have hsz := strOf_size (H ++ numT l.Numbers ++ [])
  have hlt : lineT l = H ++ numT l.Numbers ++ [] := by rw [hH]; unfold lineT; rw [hT2]; simp
  rw [← hlt] at hsz ⊢
  by_cases h8 : (lineT l).length ≤ 8192
  · have hp : printS l = some (lineT l) := by unfold printS; rw [if_pos hmay, if_pos h8]
    (repeat (first | (with_reducible apply XL.op) | ((with_reducible apply XOp.p1); (case hg | hv => exact rfl)) | (with_reducible apply XL.nilT) | (with_reducible apply XC.seq) | (with_reducible apply XC.region (Γ := Γ)) | (with_reducible apply XQ.skip) | (with_reducible apply XQ.ret) | (with_reducible apply XQ.nt) | (first | ((with_reducible apply XOp.split); (case hg | hj | hd | hb => exact rfl); (fail_if_success (case hf => exact fun h => Bool.noConfusion h)); (fail_if_success (case ht => exact fun h => Bool.noConfusion h)); (first | (case ht => intro hb_; try simp only [pd_true, pd_false, Bool.not_eq_true', Bool.not_eq_false', Bool.and_eq_true, Bool.and_eq_false_iff, Bool.or_eq_true, Bool.or_eq_false_iff, not_true_eq_false, not_false_eq_true, Int.not_lt, Int.not_le] at hb_; first | done | (exfalso; first | omega | contradiction)) | (case hf => intro hb_; try simp only [pd_true, pd_false, Bool.not_eq_true', Bool.not_eq_false', Bool.and_eq_true, Bool.and_eq_false_iff, Bool.or_eq_true, Bool.or_eq_false_iff, not_true_eq_false, not_false_eq_true, Int.not_lt, Int.not_le] at hb_; first | done | (exfalso; first | omega | contradiction))); intro hb_; try simp only [pd_true, pd_false, Bool.not_eq_true', Bool.not_eq_false', Bool.and_eq_true, Bool.and_eq_false_iff, Bool.or_eq_true, Bool.or_eq_false_iff, not_true_eq_false, not_false_eq_true, Int.not_lt, Int.not_le] at hb_) | ((with_reducible apply XP.split); (case ho | hg | hj | hd | hb => exact rfl); (fail_if_success (case hf => exact fun h => Bool.noConfusion h)); (fail_if_success (case ht => exact fun h => Bool.noConfusion h)); (first | (case ht => intro hb_; try simp only [pd_true, pd_false, Bool.not_eq_true', Bool.not_eq_false', Bool.and_eq_true, Bool.and_eq_false_iff, Bool.or_eq_true, Bool.or_eq_false_iff, not_true_eq_false, not_false_eq_true, Int.not_lt, Int.not_le] at hb_; first | done | (exfalso; first | omega | contradiction)) | (case hf => intro hb_; try simp only [pd_true, pd_false, Bool.not_eq_true', Bool.not_eq_false', Bool.and_eq_true, Bool.and_eq_false_iff, Bool.or_eq_true, Bool.or_eq_false_iff, not_true_eq_false, not_false_eq_true, Int.not_lt, Int.not_le] at hb_; first | done | (exfalso; first | omega | contradiction))); intro hb_; try simp only [pd_true, pd_false, Bool.not_eq_true', Bool.not_eq_false', Bool.and_eq_true, Bool.and_eq_false_iff, Bool.or_eq_true, Bool.or_eq_false_iff, not_true_eq_false, not_false_eq_true, Int.not_lt, Int.not_le] at hb_) | ((with_reducible apply XC.cond); (case hc => exact rfl); (first | (case ht => intro hb_; try simp only [pd_true, pd_false, Bool.not_eq_true', Bool.not_eq_false', Bool.and_eq_true, Bool.and_eq_false_iff, Bool.or_eq_true, Bool.or_eq_false_iff, not_true_eq_false, not_false_eq_true, Int.not_lt, Int.not_le] at hb_; first | done | (exfalso; first | omega | contradiction)) | (case hf => intro hb_; try simp only [pd_true, pd_false, Bool.not_eq_true', Bool.not_eq_false', Bool.and_eq_true, Bool.and_eq_false_iff, Bool.or_eq_true, Bool.or_eq_false_iff, not_true_eq_false, not_false_eq_true, Int.not_lt, Int.not_le] at hb_; first | done | (exfalso; first | omega | contradiction))); intro hb_; try simp only [pd_true, pd_false, Bool.not_eq_true', Bool.not_eq_false', Bool.and_eq_true, Bool.and_eq_false_iff, Bool.or_eq_true, Bool.or_eq_false_iff, not_true_eq_false, not_false_eq_true, Int.not_lt, Int.not_le] at hb_))))
    ((with_reducible apply XQ.retE); (case hr => exact .t rfl (.t rfl .nil)))
    rw [hp]; rfl
  · have hp : printS l = none := by unfold printS; rw [if_pos hmay, if_neg h8]
    (repeat (first | (with_reducible apply XL.op) | ((with_reducible apply XOp.p1); (case hg | hv => exact rfl)) | (with_reducible apply XL.nilT) | (with_reducible apply XC.seq) | (with_reducible apply XC.region (Γ := Γ)) | (with_reducible apply XQ.ret) | (with_reducible apply XQ.rt) | (first | ((with_reducible apply XOp.split); (case hg | hj | hd | hb => exact rfl); (fail_if_success (case hf => exact fun h => Bool.noConfusion h)); (fail_if_success (case ht => exact fun h => Bool.noConfusion h)); (first | (case ht => intro hb_; try simp only [pd_true, pd_false, Bool.not_eq_true', Bool.not_eq_false', Bool.and_eq_true, Bool.and_eq_false_iff, Bool.or_eq_true, Bool.or_eq_false_iff, not_true_eq_false, not_false_eq_true, Int.not_lt, Int.not_le] at hb_; first | done | (exfalso; first | omega | contradiction)) | (case hf => intro hb_; try simp only [pd_true, pd_false, Bool.not_eq_true', Bool.not_eq_false', Bool.and_eq_true, Bool.and_eq_false_iff, Bool.or_eq_true, Bool.or_eq_false_iff, not_true_eq_false, not_false_eq_true, Int.not_lt, Int.not_le] at hb_; first | done | (exfalso; first | omega | contradiction))); intro hb_; try simp only [pd_true, pd_false, Bool.not_eq_true', Bool.not_eq_false', Bool.and_eq_true, Bool.and_eq_false_iff, Bool.or_eq_true, Bool.or_eq_false_iff, not_true_eq_false, not_false_eq_true, Int.not_lt, Int.not_le] at hb_) | ((with_reducible apply XP.split); (case ho | hg | hj | hd | hb => exact rfl); (fail_if_success (case hf => exact fun h => Bool.noConfusion h)); (fail_if_success (case ht => exact fun h => Bool.noConfusion h)); (first | (case ht => intro hb_; try simp only [pd_true, pd_false, Bool.not_eq_true', Bool.not_eq_false', Bool.and_eq_true, Bool.and_eq_false_iff, Bool.or_eq_true, Bool.or_eq_false_iff, not_true_eq_false, not_false_eq_true, Int.not_lt, Int.not_le] at hb_; first | done | (exfalso; first | omega | contradiction)) | (case hf => intro hb_; try simp only [pd_true, pd_false, Bool.not_eq_true', Bool.not_eq_false', Bool.and_eq_true, Bool.and_eq_false_iff, Bool.or_eq_true, Bool.or_eq_false_iff, not_true_eq_false, not_false_eq_true, Int.not_lt, Int.not_le] at hb_; first | done | (exfalso; first | omega | contradiction))); intro hb_; try simp only [pd_true, pd_false, Bool.not_eq_true', Bool.not_eq_false', Bool.and_eq_true, Bool.and_eq_false_iff, Bool.or_eq_true, Bool.or_eq_false_iff, not_true_eq_false, not_false_eq_true, Int.not_lt, Int.not_le] at hb_) | ((with_reducible apply XC.cond); (case hc => exact rfl); (first | (case ht => intro hb_; try simp only [pd_true, pd_false, Bool.not_eq_true', Bool.not_eq_false', Bool.and_eq_true, Bool.and_eq_false_iff, Bool.or_eq_true, Bool.or_eq_false_iff, not_true_eq_false, not_false_eq_true, Int.not_lt, Int.not_le] at hb_; first | done | (exfalso; first | omega | contradiction)) | (case hf => intro hb_; try simp only [pd_true, pd_false, Bool.not_eq_true', Bool.not_eq_false', Bool.and_eq_true, Bool.and_eq_false_iff, Bool.or_eq_true, Bool.or_eq_false_iff, not_true_eq_false, not_false_eq_true, Int.not_lt, Int.not_le] at hb_; first | done | (exfalso; first | omega | contradiction))); intro hb_; try simp only [pd_true, pd_false, Bool.not_eq_true', Bool.not_eq_false', Bool.and_eq_true, Bool.and_eq_false_iff, Bool.or_eq_true, Bool.or_eq_false_iff, not_true_eq_false, not_false_eq_true, Int.not_lt, Int.not_le] at hb_))))
    ((with_reducible apply XQ.retE); (case hr => exact .t rfl (.t rfl .nil)))
    rw [hp]; rfl
end Go.Proofs.YtepfnakabafhlaaDoorX
