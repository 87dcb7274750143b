/- The law of heads: a literal with anything behind it; cut short. -/
import Derived.Test.YtepfnakabafhlaaDoorXPWH4
import Derived.Test.YtepfnakabafhlaaDoorXPWH3
import Derived.Test.YtepfnakabafhlaaDoorXPWH1
import Derived.Test.YtepfnakabafhlaaDoorRows
import Derived.LaidMore
import Derived.LaidHandle
import Derived.MakeChecks
set_option linter.unusedSimpArgs false
set_option linter.unusedVariables false
namespace Go.SX
open Go
theorem unq_cut {b : List Int} (h : isB b) {k : Nat} (hk : k < (quoteL b).length) : unqS ((quoteL b).take k) = none := by
  cases e : unqS ((quoteL b).take k) with
  | none => rfl
  | some p =>
    obtain ⟨c, r⟩ := p
    obtain ⟨hc, hq⟩ := unq_iff.1 e
    have h2 : quoteL b = quoteL c ++ (r ++ (quoteL b).drop k) := by rw [← List.append_assoc, ← hq, List.take_append_drop]
    have h3 : unqS (quoteL b) = some (c, r ++ (quoteL b).drop k) := unq_iff.2 ⟨hc, h2⟩
    have h4 : unqS (quoteL b) = some (b, []) := unq_iff.2 ⟨h, (List.append_nil _).symm⟩
    rw [h4] at h3
    have h5 := (Prod.mk.inj (Option.some.inj h3)).2
    have h6 := congrArg List.length h5
    rw [List.length_append, List.length_drop, List.length_nil] at h6
    omega
end Go.SX
namespace Go.Proofs.YtepfnakabafhlaaDoorX
open Go Go.SX
theorem ascii_fn (t : List Int) (hA : isA t) (hl : t.length ≤ 1073741824) : FC Tryd.prog 23 [.string (strOf t)] [] (fun _ => True) (fun v L => v = .bool true ∧ L = []) := by
  refine FC.intro Tryd.func23 rfl (by kernel_rfl) 20 [.tmp 2] rfl rfl rfl ?_
  intro w0 _
  have hsz : ((strOf t).size : Int) = (t.length : Int) := by rw [strOf_size]
  have hok := isB_ok (isA_B hA)
  (repeat (first | (with_reducible apply XL.op) | ((with_reducible apply XOp.p1); (case hg | hv => exact rfl)) | (with_reducible apply XL.nilT) | (with_reducible apply XC.seq) | (with_reducible apply XC.region (Γ := Γ)) | (with_reducible apply XC.block)))
  refine XC.loop (fun k ρ L => ∃ (i : Nat), i + k = t.length ∧ L = [] ∧ Slots ρ [(0, .string (strOf t)), (3, .int .i64 i)])
    t.length ⟨0, by simp, rfl, rfl, rfl, trivial⟩ ?_
  rintro k ρ L ⟨i, hik, rfl, hs⟩
  refine XC.slots _ hs ?_
  (repeat (first | (with_reducible apply XL.op) | ((with_reducible apply XOp.p1); (case hg | hv => exact rfl)) | (with_reducible apply XL.nilT) | (with_reducible apply XC.seq) | (with_reducible apply XC.region (Γ := Γ))))
  rw [hsz]
  ((with_reducible apply XC.cond); (case hc => exact rfl); all_goals (intro hb_; try simp only [pd_true, pd_false, Bool.not_eq_true', Bool.not_eq_false', Bool.and_eq_true, Bool.and_eq_false_iff, Bool.or_eq_true, Bool.or_eq_false_iff, not_true_eq_false, not_false_eq_true, Int.not_lt, Int.not_le] at hb_))
  · obtain ⟨c, hc⟩ : ∃ c, t[i]? = some c := ⟨_, List.getElem?_eq_getElem (by omega)⟩
    have hcA := hA c (List.mem_of_getElem? hc)
    have e : byteAt (strOf t) ((i : Nat) : Int).toNat = c := by rw [Int.toNat_natCast]; exact byteAt_strOf hok hc
    (repeat (first | (with_reducible apply XL.op) | ((with_reducible apply XOp.p1); (case hg | hv => exact rfl)) | ((with_reducible apply XOp.pr); (case hg => exact rfl); (case hr => ((with_reducible apply PR.sidx); (case ht | hk | hx | hi => exact rfl); (case hr => first | assumption | omega)))) | (with_reducible apply XC.seq) | (with_reducible apply XC.region (Γ := Γ)) | (with_reducible apply XQ.skip) | (with_reducible apply XQ.nt) | (with_reducible apply XC.block)))
    rw [e]
    (repeat (first | (with_reducible apply XL.op) | ((with_reducible apply XOp.p1); (case hg | hv => exact rfl)) | ((with_reducible apply XOp.pr); (case hg => exact rfl); (case hr => ((with_reducible apply PR.sidx); (case ht | hk | hx | hi => exact rfl); (case hr => first | assumption | omega)))) | (with_reducible apply XL.nilT) | (with_reducible apply XC.region (Γ := Γ)) | (with_reducible apply XQ.skip) | (with_reducible apply XQ.nt) | (with_reducible apply XQ.nb) | (first | ((with_reducible apply XOp.split); (case hg | hj | hd | hb => exact rfl); (fail_if_success (case hf => exact fun h => Bool.noConfusion h)); (fail_if_success (case ht => exact fun h => Bool.noConfusion h)); (first | (case ht => intro hb_; try simp only [pd_true, pd_false, Bool.not_eq_true', Bool.not_eq_false', Bool.and_eq_true, Bool.and_eq_false_iff, Bool.or_eq_true, Bool.or_eq_false_iff, not_true_eq_false, not_false_eq_true, Int.not_lt, Int.not_le] at hb_; first | done | (exfalso; first | omega | contradiction)) | (case hf => intro hb_; try simp only [pd_true, pd_false, Bool.not_eq_true', Bool.not_eq_false', Bool.and_eq_true, Bool.and_eq_false_iff, Bool.or_eq_true, Bool.or_eq_false_iff, not_true_eq_false, not_false_eq_true, Int.not_lt, Int.not_le] at hb_; first | done | (exfalso; first | omega | contradiction))); intro hb_; try simp only [pd_true, pd_false, Bool.not_eq_true', Bool.not_eq_false', Bool.and_eq_true, Bool.and_eq_false_iff, Bool.or_eq_true, Bool.or_eq_false_iff, not_true_eq_false, not_false_eq_true, Int.not_lt, Int.not_le] at hb_) | ((with_reducible apply XP.split); (case ho | hg | hj | hd | hb => exact rfl); (fail_if_success (case hf => exact fun h => Bool.noConfusion h)); (fail_if_success (case ht => exact fun h => Bool.noConfusion h)); (first | (case ht => intro hb_; try simp only [pd_true, pd_false, Bool.not_eq_true', Bool.not_eq_false', Bool.and_eq_true, Bool.and_eq_false_iff, Bool.or_eq_true, Bool.or_eq_false_iff, not_true_eq_false, not_false_eq_true, Int.not_lt, Int.not_le] at hb_; first | done | (exfalso; first | omega | contradiction)) | (case hf => intro hb_; try simp only [pd_true, pd_false, Bool.not_eq_true', Bool.not_eq_false', Bool.and_eq_true, Bool.and_eq_false_iff, Bool.or_eq_true, Bool.or_eq_false_iff, not_true_eq_false, not_false_eq_true, Int.not_lt, Int.not_le] at hb_; first | done | (exfalso; first | omega | contradiction))); intro hb_; try simp only [pd_true, pd_false, Bool.not_eq_true', Bool.not_eq_false', Bool.and_eq_true, Bool.and_eq_false_iff, Bool.or_eq_true, Bool.or_eq_false_iff, not_true_eq_false, not_false_eq_true, Int.not_lt, Int.not_le] at hb_) | ((with_reducible apply XC.cond); (case hc => exact rfl); (first | (case ht => intro hb_; try simp only [pd_true, pd_false, Bool.not_eq_true', Bool.not_eq_false', Bool.and_eq_true, Bool.and_eq_false_iff, Bool.or_eq_true, Bool.or_eq_false_iff, not_true_eq_false, not_false_eq_true, Int.not_lt, Int.not_le] at hb_; first | done | (exfalso; first | omega | contradiction)) | (case hf => intro hb_; try simp only [pd_true, pd_false, Bool.not_eq_true', Bool.not_eq_false', Bool.and_eq_true, Bool.and_eq_false_iff, Bool.or_eq_true, Bool.or_eq_false_iff, not_true_eq_false, not_false_eq_true, Int.not_lt, Int.not_le] at hb_; first | done | (exfalso; first | omega | contradiction))); intro hb_; try simp only [pd_true, pd_false, Bool.not_eq_true', Bool.not_eq_false', Bool.and_eq_true, Bool.and_eq_false_iff, Bool.or_eq_true, Bool.or_eq_false_iff, not_true_eq_false, not_false_eq_true, Int.not_lt, Int.not_le] at hb_)) | (first | ((with_reducible apply XOp.pr); (case hg => exact rfl); (case hr => (with_reducible apply PR.sidx); (case ht => exact rfl); (case hk => exact rfl); (case hx => exact rfl); (case hi => exact rfl); (case hr => exact (show 0 ≤ ((i : Nat) : Int) ∧ ((i : Nat) : Int) < ((strOf t).size : Int) by rw [hsz]; omega)))) | ((with_reducible apply XP.pr); (case ho => exact rfl); (case hg => exact rfl); (case hr => (with_reducible apply PR.sidx); (case ht => exact rfl); (case hk => exact rfl); (case hx => exact rfl); (case hi => exact rfl); (case hr => exact (show 0 ≤ ((i : Nat) : Int) ∧ ((i : Nat) : Int) < ((strOf t).size : Int) by rw [hsz]; omega)))))))
    rw [e]
    skip
    exact ⟨k - 1, by omega, i + 1, by omega, rfl, rfl, intS (m := t.length) (by omega) (by omega), trivial⟩
  (repeat (first | (with_reducible apply XL.op) | ((with_reducible apply XOp.p1); (case hg | hv => exact rfl)) | (with_reducible apply XL.nilT) | (with_reducible apply XC.seq) | (with_reducible apply XC.region (Γ := Γ)) | (with_reducible apply XQ.ret) | (with_reducible apply XQ.exit) | (with_reducible apply XQ.nt) | (with_reducible apply XQ.et) | ((with_reducible apply XQ.eb); (case hb => exact rfl))))
  ((with_reducible apply XQ.retE); (case hr => exact .t rfl .nil))
  exact ⟨rfl, rfl⟩
theorem wireHeads_fn (b : List Int) (a : Option Addr) (cap : Nat) (t : List Int) (hB : isB t) (cut : Int) (hcut : inK .i64 cut) (hl : b.length + t.length ≤ 1048576) :
    FC Tryd.prog 8 [.slice a b.length cap, .string (strOf t), .int .i64 cut] [] (fun h => libK h ∧ byAt h b a cap) (fun v _ => v = .bool true) := by
  refine FC.intro Tryd.func8 rfl (by kernel_rfl) 88 [.tmp 6] rfl rfl rfl ?_
  rintro w0 ⟨hK, hS⟩
  have hb : isB b := fun x hx => inK_u8.1 (all_ok hS x hx)
  have hQ := quoteL_length b
  have hQA := quoteL_A hb
  have hci := inK_i64.1 hcut
  have hqs : ((strOf (quoteL b)).size : Int) = ((quoteL b).length : Int) := by rw [strOf_size]
  (repeat (first | (with_reducible apply XL.op) | ((with_reducible apply XOp.p1); (case hg | hv => exact rfl)) | (with_reducible apply XL.nilT) | (with_reducible apply XC.seq) | (with_reducible apply XC.region (Γ := Γ))))
  ((with_reducible apply XOp.callQ (hF := works_fn)); (case hg => exact rfl); (case hc => exact rfl); (case ha => exact rfl); try (case hA => exact Known.true))
  case hA => exact Known.of_old hK lib_mono
  rintro _ rfl
  (repeat (first | (with_reducible apply XL.op) | ((with_reducible apply XOp.p1); (case hg | hv => exact rfl)) | (with_reducible apply XL.nilT) | (with_reducible apply XC.seq) | (with_reducible apply XC.region (Γ := Γ))))
  ((with_reducible apply XOp.callQ (hF := FC.nil (quote_fn b a cap (by omega)))); (case hg => exact rfl); (case hc => exact rfl); (case ha => exact rfl); try (case hA => exact Known.true))
  case hA => exact Known.of_old hS (Mono.sl _ _ _ _ _)
  rintro _ rfl
  (repeat (first | (with_reducible apply XL.op) | ((with_reducible apply XOp.p1); (case hg | hv => exact rfl)) | (with_reducible apply XL.nilT) | (with_reducible apply XC.seq) | (with_reducible apply XC.region (Γ := Γ)) | (first | ((with_reducible apply XOp.pr); (case hg => exact rfl); (case hr => (with_reducible apply PR.cat (xs := quoteL b) (ys := t)); (case hx => exact rfl); (case hy => exact rfl); (case hl => ((try simp only [List.length_append, List.length_cons, List.length_nil]); omega)))) | ((with_reducible apply XP.pr); (case ho => exact rfl); (case hg => exact rfl); (case hr => (with_reducible apply PR.cat (xs := quoteL b) (ys := t)); (case hx => exact rfl); (case hy => exact rfl); (case hl => ((try simp only [List.length_append, List.length_cons, List.length_nil]); omega)))))))
  have hBB : isB (quoteL b ++ t) := fun x hx => by
    rcases List.mem_append.1 hx with h | h
    · exact isA_B hQA x h
    · exact hB x h
  ((with_reducible apply XOp.callN (hF := unquote_fn (quoteL b ++ t) hBB (by rw [List.length_append]; omega))); (case hg => exact rfl); (case hc => exact rfl); (case ha => exact rfl); try (case hA => exact Known.true))
  rintro v1 F1 h1
  unfold UnqR at h1
  rw [unq_iff.2 ⟨hb, rfl⟩] at h1
  obtain ⟨u, rfl, h1⟩ := h1
  simp only [] at h1 ⊢
  obtain ⟨a1, c1, rfl, _, k1⟩ := own_by h1 hb (by omega)
  have hn : (quoteL b ++ t).length - t.length = (quoteL b).length := by rw [List.length_append]; omega
  rw [hn]
  (repeat (first | (with_reducible apply XL.op) | ((with_reducible apply XOp.p1); (case hg | hv => exact rfl)) | (with_reducible apply XL.nilT) | (with_reducible apply XC.seq) | (with_reducible apply XC.region (Γ := Γ))))
  ((with_reducible apply XOp.callQ (hF := eqBytes_fn b b a1 a c1 cap)); (case hg => exact rfl); (case hc => exact rfl); (case ha => exact rfl); try (case hA => exact Known.true))
  case hA => exact (k1.known fun y hy => by simp [hy]).and (Known.of_old hS (Mono.sl _ _ _ _ _))
  rintro _ rfl
  rw [pdt (rfl : b = b)]
  (repeat (first | (with_reducible apply XL.op) | ((with_reducible apply XOp.p1); (case hg | hv => exact rfl)) | (with_reducible apply XL.nilT) | (with_reducible apply XC.seq) | (with_reducible apply XC.region (Γ := Γ)) | (first | ((with_reducible apply XOp.split); (case hg | hj | hd | hb => exact rfl); (fail_if_success (case hf => exact fun h => Bool.noConfusion h)); (fail_if_success (case ht => exact fun h => Bool.noConfusion h)); (first | (case ht => intro hb_; try simp only [pd_true, pd_false, Bool.not_eq_true', Bool.not_eq_false', Bool.and_eq_true, Bool.and_eq_false_iff, Bool.or_eq_true, Bool.or_eq_false_iff, not_true_eq_false, not_false_eq_true, Int.not_lt, Int.not_le] at hb_; first | done | (exfalso; first | omega | contradiction)) | (case hf => intro hb_; try simp only [pd_true, pd_false, Bool.not_eq_true', Bool.not_eq_false', Bool.and_eq_true, Bool.and_eq_false_iff, Bool.or_eq_true, Bool.or_eq_false_iff, not_true_eq_false, not_false_eq_true, Int.not_lt, Int.not_le] at hb_; first | done | (exfalso; first | omega | contradiction))); intro hb_; try simp only [pd_true, pd_false, Bool.not_eq_true', Bool.not_eq_false', Bool.and_eq_true, Bool.and_eq_false_iff, Bool.or_eq_true, Bool.or_eq_false_iff, not_true_eq_false, not_false_eq_true, Int.not_lt, Int.not_le] at hb_) | ((with_reducible apply XP.split); (case ho | hg | hj | hd | hb => exact rfl); (fail_if_success (case hf => exact fun h => Bool.noConfusion h)); (fail_if_success (case ht => exact fun h => Bool.noConfusion h)); (first | (case ht => intro hb_; try simp only [pd_true, pd_false, Bool.not_eq_true', Bool.not_eq_false', Bool.and_eq_true, Bool.and_eq_false_iff, Bool.or_eq_true, Bool.or_eq_false_iff, not_true_eq_false, not_false_eq_true, Int.not_lt, Int.not_le] at hb_; first | done | (exfalso; first | omega | contradiction)) | (case hf => intro hb_; try simp only [pd_true, pd_false, Bool.not_eq_true', Bool.not_eq_false', Bool.and_eq_true, Bool.and_eq_false_iff, Bool.or_eq_true, Bool.or_eq_false_iff, not_true_eq_false, not_false_eq_true, Int.not_lt, Int.not_le] at hb_; first | done | (exfalso; first | omega | contradiction))); intro hb_; try simp only [pd_true, pd_false, Bool.not_eq_true', Bool.not_eq_false', Bool.and_eq_true, Bool.and_eq_false_iff, Bool.or_eq_true, Bool.or_eq_false_iff, not_true_eq_false, not_false_eq_true, Int.not_lt, Int.not_le] at hb_) | ((with_reducible apply XC.cond); (case hc => exact rfl); (first | (case ht => intro hb_; try simp only [pd_true, pd_false, Bool.not_eq_true', Bool.not_eq_false', Bool.and_eq_true, Bool.and_eq_false_iff, Bool.or_eq_true, Bool.or_eq_false_iff, not_true_eq_false, not_false_eq_true, Int.not_lt, Int.not_le] at hb_; first | done | (exfalso; first | omega | contradiction)) | (case hf => intro hb_; try simp only [pd_true, pd_false, Bool.not_eq_true', Bool.not_eq_false', Bool.and_eq_true, Bool.and_eq_false_iff, Bool.or_eq_true, Bool.or_eq_false_iff, not_true_eq_false, not_false_eq_true, Int.not_lt, Int.not_le] at hb_; first | done | (exfalso; first | omega | contradiction))); intro hb_; try simp only [pd_true, pd_false, Bool.not_eq_true', Bool.not_eq_false', Bool.and_eq_true, Bool.and_eq_false_iff, Bool.or_eq_true, Bool.or_eq_false_iff, not_true_eq_false, not_false_eq_true, Int.not_lt, Int.not_le] at hb_))))
  have ew : IntKind.i64.wrap ((b.length : Int) + 2) = (b.length : Int) + 2 := wrap64_of (by omega) (by omega)
  rw [ew]
  (repeat (first | (with_reducible apply XL.op) | ((with_reducible apply XOp.p1); (case hg | hv => exact rfl)) | (first | ((with_reducible apply XOp.split); (case hg | hj | hd | hb => exact rfl); (fail_if_success (case hf => exact fun h => Bool.noConfusion h)); (fail_if_success (case ht => exact fun h => Bool.noConfusion h)); (first | (case ht => intro hb_; try simp only [pd_true, pd_false, Bool.not_eq_true', Bool.not_eq_false', Bool.and_eq_true, Bool.and_eq_false_iff, Bool.or_eq_true, Bool.or_eq_false_iff, not_true_eq_false, not_false_eq_true, Int.not_lt, Int.not_le] at hb_; first | done | (exfalso; first | omega | contradiction)) | (case hf => intro hb_; try simp only [pd_true, pd_false, Bool.not_eq_true', Bool.not_eq_false', Bool.and_eq_true, Bool.and_eq_false_iff, Bool.or_eq_true, Bool.or_eq_false_iff, not_true_eq_false, not_false_eq_true, Int.not_lt, Int.not_le] at hb_; first | done | (exfalso; first | omega | contradiction))); intro hb_; try simp only [pd_true, pd_false, Bool.not_eq_true', Bool.not_eq_false', Bool.and_eq_true, Bool.and_eq_false_iff, Bool.or_eq_true, Bool.or_eq_false_iff, not_true_eq_false, not_false_eq_true, Int.not_lt, Int.not_le] at hb_) | ((with_reducible apply XP.split); (case ho | hg | hj | hd | hb => exact rfl); (fail_if_success (case hf => exact fun h => Bool.noConfusion h)); (fail_if_success (case ht => exact fun h => Bool.noConfusion h)); (first | (case ht => intro hb_; try simp only [pd_true, pd_false, Bool.not_eq_true', Bool.not_eq_false', Bool.and_eq_true, Bool.and_eq_false_iff, Bool.or_eq_true, Bool.or_eq_false_iff, not_true_eq_false, not_false_eq_true, Int.not_lt, Int.not_le] at hb_; first | done | (exfalso; first | omega | contradiction)) | (case hf => intro hb_; try simp only [pd_true, pd_false, Bool.not_eq_true', Bool.not_eq_false', Bool.and_eq_true, Bool.and_eq_false_iff, Bool.or_eq_true, Bool.or_eq_false_iff, not_true_eq_false, not_false_eq_true, Int.not_lt, Int.not_le] at hb_; first | done | (exfalso; first | omega | contradiction))); intro hb_; try simp only [pd_true, pd_false, Bool.not_eq_true', Bool.not_eq_false', Bool.and_eq_true, Bool.and_eq_false_iff, Bool.or_eq_true, Bool.or_eq_false_iff, not_true_eq_false, not_false_eq_true, Int.not_lt, Int.not_le] at hb_) | ((with_reducible apply XC.cond); (case hc => exact rfl); (first | (case ht => intro hb_; try simp only [pd_true, pd_false, Bool.not_eq_true', Bool.not_eq_false', Bool.and_eq_true, Bool.and_eq_false_iff, Bool.or_eq_true, Bool.or_eq_false_iff, not_true_eq_false, not_false_eq_true, Int.not_lt, Int.not_le] at hb_; first | done | (exfalso; first | omega | contradiction)) | (case hf => intro hb_; try simp only [pd_true, pd_false, Bool.not_eq_true', Bool.not_eq_false', Bool.and_eq_true, Bool.and_eq_false_iff, Bool.or_eq_true, Bool.or_eq_false_iff, not_true_eq_false, not_false_eq_true, Int.not_lt, Int.not_le] at hb_; first | done | (exfalso; first | omega | contradiction))); intro hb_; try simp only [pd_true, pd_false, Bool.not_eq_true', Bool.not_eq_false', Bool.and_eq_true, Bool.and_eq_false_iff, Bool.or_eq_true, Bool.or_eq_false_iff, not_true_eq_false, not_false_eq_true, Int.not_lt, Int.not_le] at hb_))))
  ((with_reducible apply XOp.callQ (hF := ascii_fn (quoteL b) hQA (by omega))); (case hg => exact rfl); (case hc => exact rfl); (case ha => exact rfl); try (case hA => exact Known.true))
  rintro _ rfl
  (repeat (first | (with_reducible apply XL.op) | ((with_reducible apply XOp.p1); (case hg | hv => exact rfl)) | (with_reducible apply XL.nilT) | (with_reducible apply XC.seq) | (with_reducible apply XC.region (Γ := Γ)) | (with_reducible apply XQ.skip) | (with_reducible apply XQ.nt) | ((with_reducible apply XC.condF); (case hc => exact rfl))))
  rw [hqs]
  have hm1 : -((quoteL b).length : Int) < cut.tmod ((quoteL b).length : Int) := by have := Int.tmod_lt_of_pos (-cut) (show (0 : Int) < ((quoteL b).length : Int) by omega); rw [Int.neg_tmod] at this; omega
  have hm2 := Int.tmod_lt_of_pos cut (show (0 : Int) < ((quoteL b).length : Int) by omega)
  generalize cut.tmod ((quoteL b).length : Int) = z at *
  refine XC.cut (fun ρ L => ∃ (k : Nat), k < (quoteL b).length ∧ L = [] ++ F1 ∧ Slots ρ [(7, .bool true), (8, .string (strOf (quoteL b))), (13, .int .i64 k)]) _ ?_ ?_
  · ((with_reducible apply XC.cond); (case hc => exact rfl); all_goals (intro hb_; try simp only [pd_true, pd_false, Bool.not_eq_true', Bool.not_eq_false', Bool.and_eq_true, Bool.and_eq_false_iff, Bool.or_eq_true, Bool.or_eq_false_iff, not_true_eq_false, not_false_eq_true, Int.not_lt, Int.not_le] at hb_))
    · (repeat (first | (with_reducible apply XL.op) | ((with_reducible apply XOp.p1); (case hg | hv => exact rfl)) | (with_reducible apply XL.nilT) | (with_reducible apply XC.region (Γ := Γ))))
      rw [hqs, wrap64_of (by omega) (by omega)]
      refine ⟨(z + ((quoteL b).length : Int)).toNat, by omega, rfl, rfl, rfl, ?_, trivial⟩
      show _ = Value.int .i64 _
      rw [Int.toNat_of_nonneg (by omega)]; rfl
    · (repeat (first | (with_reducible apply XQ.skip) | (with_reducible apply XQ.nt)))
      refine ⟨z.toNat, by omega, rfl, rfl, rfl, ?_, trivial⟩
      show _ = Value.int .i64 _
      rw [Int.toNat_of_nonneg (by omega)]; rfl
  rintro ρ L ⟨k, hk, rfl, hs⟩
  refine XC.slots _ hs ?_
  (repeat (first | (with_reducible apply XL.op) | ((with_reducible apply XOp.p1); (case hg | hv => exact rfl)) | (with_reducible apply XC.seq) | (with_reducible apply XC.region (Γ := Γ)) | (first | ((with_reducible apply XOp.pr); (case hg => exact rfl); (case hr => (with_reducible apply PR.strTo); (case ht => exact rfl); (case hk => exact rfl); (case hx => exact rfl); (case hy => exact rfl); (case hb => exact (show 0 ≤ ((k : Nat) : Int) ∧ ((k : Nat) : Int) ≤ ((quoteL b).length : Int) by omega)))) | ((with_reducible apply XP.pr); (case ho => exact rfl); (case hg => exact rfl); (case hr => (with_reducible apply PR.strTo); (case ht => exact rfl); (case hk => exact rfl); (case hx => exact rfl); (case hy => exact rfl); (case hb => exact (show 0 ≤ ((k : Nat) : Int) ∧ ((k : Nat) : Int) ≤ ((quoteL b).length : Int) by omega)))))))
  rw [Int.toNat_natCast]
  have hQB := isA_B hQA
  have hTB : isB ((quoteL b).take k) := fun x hx => hQB x (List.mem_of_mem_take hx)
  ((with_reducible apply XOp.callN (hF := unquote_fn ((quoteL b).take k) hTB (by rw [List.length_take]; omega))); (case hg => exact rfl); (case hc => exact rfl); (case ha => exact rfl); try (case hA => exact Known.true))
  rintro v2 F2 h2
  unfold UnqR at h2
  rw [unq_cut hb hk] at h2
  obtain ⟨rfl, rfl⟩ := h2
  (repeat (first | (with_reducible apply XL.op) | ((with_reducible apply XOp.p1); (case hg | hv => exact rfl)) | (with_reducible apply XL.nilT) | (with_reducible apply XC.seq) | (with_reducible apply XC.region (Γ := Γ)) | (with_reducible apply XQ.ret) | (first | ((with_reducible apply XOp.split); (case hg | hj | hd | hb => exact rfl); (fail_if_success (case hf => exact fun h => Bool.noConfusion h)); (fail_if_success (case ht => exact fun h => Bool.noConfusion h)); (first | (case ht => intro hb_; try simp only [pd_true, pd_false, Bool.not_eq_true', Bool.not_eq_false', Bool.and_eq_true, Bool.and_eq_false_iff, Bool.or_eq_true, Bool.or_eq_false_iff, not_true_eq_false, not_false_eq_true, Int.not_lt, Int.not_le] at hb_; first | done | (exfalso; first | omega | contradiction)) | (case hf => intro hb_; try simp only [pd_true, pd_false, Bool.not_eq_true', Bool.not_eq_false', Bool.and_eq_true, Bool.and_eq_false_iff, Bool.or_eq_true, Bool.or_eq_false_iff, not_true_eq_false, not_false_eq_true, Int.not_lt, Int.not_le] at hb_; first | done | (exfalso; first | omega | contradiction))); intro hb_; try simp only [pd_true, pd_false, Bool.not_eq_true', Bool.not_eq_false', Bool.and_eq_true, Bool.and_eq_false_iff, Bool.or_eq_true, Bool.or_eq_false_iff, not_true_eq_false, not_false_eq_true, Int.not_lt, Int.not_le] at hb_) | ((with_reducible apply XP.split); (case ho | hg | hj | hd | hb => exact rfl); (fail_if_success (case hf => exact fun h => Bool.noConfusion h)); (fail_if_success (case ht => exact fun h => Bool.noConfusion h)); (first | (case ht => intro hb_; try simp only [pd_true, pd_false, Bool.not_eq_true', Bool.not_eq_false', Bool.and_eq_true, Bool.and_eq_false_iff, Bool.or_eq_true, Bool.or_eq_false_iff, not_true_eq_false, not_false_eq_true, Int.not_lt, Int.not_le] at hb_; first | done | (exfalso; first | omega | contradiction)) | (case hf => intro hb_; try simp only [pd_true, pd_false, Bool.not_eq_true', Bool.not_eq_false', Bool.and_eq_true, Bool.and_eq_false_iff, Bool.or_eq_true, Bool.or_eq_false_iff, not_true_eq_false, not_false_eq_true, Int.not_lt, Int.not_le] at hb_; first | done | (exfalso; first | omega | contradiction))); intro hb_; try simp only [pd_true, pd_false, Bool.not_eq_true', Bool.not_eq_false', Bool.and_eq_true, Bool.and_eq_false_iff, Bool.or_eq_true, Bool.or_eq_false_iff, not_true_eq_false, not_false_eq_true, Int.not_lt, Int.not_le] at hb_) | ((with_reducible apply XC.cond); (case hc => exact rfl); (first | (case ht => intro hb_; try simp only [pd_true, pd_false, Bool.not_eq_true', Bool.not_eq_false', Bool.and_eq_true, Bool.and_eq_false_iff, Bool.or_eq_true, Bool.or_eq_false_iff, not_true_eq_false, not_false_eq_true, Int.not_lt, Int.not_le] at hb_; first | done | (exfalso; first | omega | contradiction)) | (case hf => intro hb_; try simp only [pd_true, pd_false, Bool.not_eq_true', Bool.not_eq_false', Bool.and_eq_true, Bool.and_eq_false_iff, Bool.or_eq_true, Bool.or_eq_false_iff, not_true_eq_false, not_false_eq_true, Int.not_lt, Int.not_le] at hb_; first | done | (exfalso; first | omega | contradiction))); intro hb_; try simp only [pd_true, pd_false, Bool.not_eq_true', Bool.not_eq_false', Bool.and_eq_true, Bool.and_eq_false_iff, Bool.or_eq_true, Bool.or_eq_false_iff, not_true_eq_false, not_false_eq_true, Int.not_lt, Int.not_le] at hb_))))
  ((with_reducible apply XQ.retE); (case hr => exact .t rfl .nil))
  rw [pdt (show ((0 : Nat) : Int) = 0 from rfl)]; rfl
end Go.Proofs.YtepfnakabafhlaaDoorX
/- What the seat's laid variables hold. -/
namespace Go.Proofs.YtepfnakabafhlaaDoorX
open Go Go.SX

theorem len2w {α : Type} {l : List α} (h : l.length = 2) : ∃ a b, l = [a, b] := by
  match l, h with
  | [a, b], _ => exact ⟨a, b, rfl⟩
theorem len6w {α : Type} {l : List α} (h : l.length = 6) : ∃ x0 x1 x2 x3 x4 x5, l = [x0, x1, x2, x3, x4, x5] := by
  match l, h with
  | [x0, x1, x2, x3, x4, x5], _ => exact ⟨x0, x1, x2, x3, x4, x5, rfl⟩
theorem len12w {α : Type} {l : List α} (h : l.length = 12) : ∃ c0 c1 c2 c3 c4 c5 c6 c7 c8 c9 c10 c11, l = [c0, c1, c2, c3, c4, c5, c6, c7, c8, c9, c10, c11] := by
  match l, h with
  | [c0, c1, c2, c3, c4, c5, c6, c7, c8, c9, c10, c11], _ => exact ⟨c0, c1, c2, c3, c4, c5, c6, c7, c8, c9, c10, c11, rfl⟩
theorem laid_at {P : Program} {w : World} : ∀ {laid : List (String × DataW Unit)} {ps : List MemPlace}, DataW.LaidVars P w laid ps → ∀ {n : String} {d : DataW Unit}, (n, d) ∈ laid →
    ∃ g t cs f p, P.globalNamed n = some g ∧ (P.globals[g]?).map (·.type) = some t ∧ w.var? P n = some cs ∧ DataW.trod (fun _ => ()) P w 0 (fun _ => true) false f t cs.toList = some (d, p)
  | [], _, _, _, _, hx => by cases hx
  | (m, e) :: r, _, ⟨g, t, cs, f, p, q, h1, h2, h3, h4, h5, _⟩, n, d, hx => by
    rcases List.mem_cons.1 hx with h | h
    · cases h; exact ⟨g, t, cs, f, p, h1, h2, h3, h4⟩
    · exact laid_at h5 h
theorem var_blk {w : World} {nm : String} {g : Nat} {cs : Array Value} {l : List Value} (hg : Tryd.prog.globalNamed nm = some g) (h : w.var? Tryd.prog nm = some cs) (hl : cs.toList = l) : ∃ t fz, hv w g = some (.cells ⟨l⟩ t fz) := by
  obtain ⟨l2⟩ := cs
  obtain rfl : l2 = l := hl
  simp only [World.var?, hg, Option.bind_some] at h
  split at h
  · rename_i c t fz e
    cases h
    exact ⟨t, fz, e⟩
  · cases h
theorem ints_of {W : World} {t e n : Nat} {k : IntKind} {l : List Int} {cs : List Value} {f : Nat} {p : List MemPlace} (ht : Tryd.prog.underlying t = some (.array n e)) (he : Tryd.prog.underlying e = some (.int k)) (hk : Tryd.prog.cellsOf e = 1) (hc : Tryd.prog.cellsOf t = n)
    (h : DataW.trod (fun _ => ()) Tryd.prog W 0 (fun _ => true) false f t cs = some (.agg (l.map fun i => DataW.lit (.int k i)), p)) : cs = l.map (.int k) := by
  obtain ⟨xs, m, rfl, hx, hl, hn, hf⟩ := DataW.trod_array ht h
  have hx1 : l.map (fun i => (DataW.lit (.int k i) : DataW Unit)) = xs.map (·.1) := DataW.agg.inj (congrArg Prod.fst hx)
  have hlen : l.length = n := by have := congrArg List.length hx1; simp only [List.length_map] at this; omega
  refine List.ext_getElem? fun i => ?_
  by_cases hi : i < n
  · have hh := hf i hi
    rw [hk] at hh
    obtain ⟨y, hy⟩ : ∃ y, xs[i]? = some y := ⟨_, List.getElem?_eq_getElem (by omega)⟩
    obtain ⟨v, hv, hy1, _⟩ := DataW.trod_int he (hh.trans hy)
    have e1 : cs[i]? = some (.int k v) := by
      have := congrArg (fun z : List Value => z[0]?) hv
      simpa using this
    obtain ⟨u, hu⟩ : ∃ u, l[i]? = some u := ⟨_, List.getElem?_eq_getElem (by omega)⟩
    have e2 := congrArg (fun z : List (DataW Unit) => z[i]?) hx1
    simp only [List.getElem?_map, hu, hy, hy1, Option.map_some, Option.some.injEq, DataW.lit.injEq, Lit.int.injEq, true_and] at e2
    rw [e1, List.getElem?_map, hu, e2]; rfl
  · rw [List.getElem?_eq_none (by omega), List.getElem?_eq_none (by rw [List.length_map]; omega)]
theorem wpair_of {W : World} {f : Nat} {cs : List Value} {d : DataW Unit} {p : List MemPlace} {a : List UInt8} {b : Int} (h : DataW.trod (fun _ => ()) Tryd.prog W 0 (fun _ => true) false f 83 cs = some (d, p))
    (hd : d = .agg [.lit (.string a), .lit (.int .i64 b)]) : cs = [.string ⟨⟨a⟩⟩, .int .i64 b] := by
  obtain ⟨y0, y1, n, hx, hl, h0, h1⟩ := Go.ChangeShapes.trod_struct2 Tryd.underlying83 h
  obtain ⟨s, e0, r0, _⟩ := DataW.trod_string Tryd.underlying9 h0
  obtain ⟨n1, e1, r1, _⟩ := DataW.trod_int Tryd.underlying3 h1
  subst hd
  simp only [Prod.mk.injEq, DataW.agg.injEq, List.cons.injEq, and_true] at hx
  rw [r0, r1] at hx
  simp only [DataW.lit.injEq, Lit.int.injEq, Lit.string.injEq, true_and] at hx
  obtain ⟨⟨rfl, rfl⟩, _⟩ := hx
  have hl2 : cs.length = 2 := hl.trans (by kernel_rfl)
  obtain ⟨c0, c1, rfl⟩ := len2w hl2
  have k1 : Tryd.prog.cellsOf 3 = 1 := by kernel_rfl
  have k2 : Tryd.prog.cellsOf 9 = 1 := by kernel_rfl
  simp only [k1, k2] at e0 e1
  simp at e0 e1
  rw [e0, e1]
theorem iface_of {P : Program} {W : World} {f t : Nat} {cs : List Value} {nm : String} {d : DataW Unit} {p : List MemPlace} {ms : Array (String × Nat)} (ht : P.underlying t = some (.interface ms)) (h : DataW.trod (fun _ => ()) P W 0 (fun _ => true) false f t cs = some (.iface nm d, p)) :
    ∃ u v, cs = [.iface u v] := by
  cases f with
  | zero => simp [DataW.trod] at h
  | succ f =>
    unfold DataW.trod at h
    rw [ht] at h
    split at h <;> simp_all
theorem lib_of {W : World} (h : laidMetH Tryd.prog [("math/bits.deBruijn32tab", Go.Proofs.YtepfnakabafhlaaDoor.Rows.laid_math_bits_deBruijn32tab), ("math/bits.deBruijn64tab", Go.Proofs.YtepfnakabafhlaaDoor.Rows.laid_math_bits_deBruijn64tab), ("internal/strconv.uint64pow10", Go.Proofs.YtepfnakabafhlaaDoor.Rows.laid_internal_strconv_uint64pow10), ("strconv.ErrRange", Go.Proofs.YtepfnakabafhlaaDoor.Rows.laid_strconv_ErrRange), ("strconv.ErrSyntax", Go.Proofs.YtepfnakabafhlaaDoor.Rows.laid_strconv_ErrSyntax), ("augur/wire.words", Go.Proofs.YtepfnakabafhlaaDoor.Rows.laid_augur_wire_words)] W) : libK (hv W) := by
  rw [MakeChecks.laidMetH_plain _ _ _ (by kernel_rfl)] at h
  obtain ⟨ps, hL, _, _⟩ := h
  refine ⟨?_, ?_, ?_, ?_⟩
  · obtain ⟨g, t, cs, f, p, h1, h2, h3, h4⟩ := laid_at hL (n := "internal/strconv.uint64pow10") (d := Go.Proofs.YtepfnakabafhlaaDoor.Rows.laid_internal_strconv_uint64pow10) (by simp)
    obtain rfl := Option.some.inj (gPow.symm.trans h1)
    obtain rfl : t = 112 := (Option.some.inj ((show (Tryd.prog.globals[4]?).map (·.type) = some 112 by kernel_rfl).symm.trans h2)).symm
    have e : Go.Proofs.YtepfnakabafhlaaDoor.Rows.laid_internal_strconv_uint64pow10 (H := Unit) = .agg (Lib.pow10Tab.map fun i => DataW.lit (.int .u64 i)) := by with_unfolding_all rfl
    rw [e] at h4
    exact var_blk gPow h3 (ints_of Tryd.underlying112 Tryd.underlying30 (by kernel_rfl) (by kernel_rfl) h4)
  · obtain ⟨g, t, cs, f, p, h1, h2, h3, h4⟩ := laid_at hL (n := "strconv.ErrSyntax") (d := Go.Proofs.YtepfnakabafhlaaDoor.Rows.laid_strconv_ErrSyntax) (by simp)
    obtain rfl := Option.some.inj (gSyn.symm.trans h1)
    obtain rfl : t = 86 := (Option.some.inj ((show (Tryd.prog.globals[2]?).map (·.type) = some 86 by kernel_rfl).symm.trans h2)).symm
    obtain ⟨u, v, e⟩ := iface_of Tryd.underlying86 h4
    obtain ⟨t, fz, hb⟩ := var_blk gSyn h3 e
    exact ⟨u, v, t, fz, hb⟩
  · obtain ⟨g, t, cs, f, p, h1, h2, h3, h4⟩ := laid_at hL (n := "strconv.ErrRange") (d := Go.Proofs.YtepfnakabafhlaaDoor.Rows.laid_strconv_ErrRange) (by simp)
    obtain rfl := Option.some.inj (gRng.symm.trans h1)
    obtain rfl : t = 86 := (Option.some.inj ((show (Tryd.prog.globals[3]?).map (·.type) = some 86 by kernel_rfl).symm.trans h2)).symm
    obtain ⟨u, v, e⟩ := iface_of Tryd.underlying86 h4
    obtain ⟨t, fz, hb⟩ := var_blk gRng h3 e
    exact ⟨u, v, t, fz, hb⟩
  · obtain ⟨g, t, cs, f, p, h1, h2, h3, h4⟩ := laid_at hL (n := "augur/wire.words") (d := Go.Proofs.YtepfnakabafhlaaDoor.Rows.laid_augur_wire_words) (by simp)
    obtain rfl := Option.some.inj (gWords.symm.trans h1)
    obtain rfl : t = 84 := (Option.some.inj ((show (Tryd.prog.globals[0]?).map (·.type) = some 84 by kernel_rfl).symm.trans h2)).symm
    obtain ⟨xs, m, rfl, hx, hl, hn, hf⟩ := DataW.trod_array Tryd.underlying84 h4
    have hl12 : cs.toList.length = 12 := hl.trans (by kernel_rfl)
    have k2 : Tryd.prog.cellsOf 83 = 2 := by kernel_rfl
    simp only [Go.Proofs.YtepfnakabafhlaaDoor.Rows.laid_augur_wire_words, Prod.mk.injEq, DataW.agg.injEq] at hx
    obtain ⟨hx, _⟩ := hx
    obtain ⟨x0, x1, x2, x3, x4, x5, rfl⟩ := len6w hn
    simp only [List.map_cons, List.map_nil, List.cons.injEq, and_true] at hx
    obtain ⟨d0, d1, d2, d3, d4, d5⟩ := hx
    have g0 := wpair_of (f := m) (d := x0.1) (p := x0.2) (hf 0 (by omega)) d0.symm
    have g1 := wpair_of (f := m) (d := x1.1) (p := x1.2) (hf 1 (by omega)) d1.symm
    have g2 := wpair_of (f := m) (d := x2.1) (p := x2.2) (hf 2 (by omega)) d2.symm
    have g3 := wpair_of (f := m) (d := x3.1) (p := x3.2) (hf 3 (by omega)) d3.symm
    have g4 := wpair_of (f := m) (d := x4.1) (p := x4.2) (hf 4 (by omega)) d4.symm
    have g5 := wpair_of (f := m) (d := x5.1) (p := x5.2) (hf 5 (by omega)) d5.symm
    obtain ⟨c0, c1, c2, c3, c4, c5, c6, c7, c8, c9, c10, c11, hcs⟩ := len12w hl12
    rw [hcs] at g0 g1 g2 g3 g4 g5
    simp [k2] at g0 g1 g2 g3 g4 g5
    refine var_blk gWords h3 ?_
    rw [hcs, g0.1, g0.2, g1.1, g1.2, g2.1, g2.2, g3.1, g3.2, g4.1, g4.2, g5.1, g5.2]; rfl
end Go.Proofs.YtepfnakabafhlaaDoorX
