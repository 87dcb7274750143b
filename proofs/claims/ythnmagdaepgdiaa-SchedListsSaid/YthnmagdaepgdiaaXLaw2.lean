/- The laws' own helpers: the plan of copies. -/
import Derived.Test.YthnmagdaepgdiaaXLaw1
set_option linter.unusedSimpArgs false
set_option linter.unusedVariables false
namespace Go.Proofs.YthnmagdaepgdiaaX
open Go Go.SX

def cW : Srv := ⟨4, 2, 6, 3, 4⟩
def sW : Seat := ⟨1, 6, 0, 0, []⟩
theorem okW : cW.okS 1 := by unfold Go.SX.Srv.okS cW; decide
theorem seatsW : seatsOk cW [sW] := ⟨by decide, fun s hs => by rw [List.mem_singleton.1 hs]; exact ⟨by decide, by decide, by decide, by simp [sW], by simp [sW]⟩, by simp⟩
theorem planW : planOf cW [sW] [sW] [1] = ([], [⟨1, 3, 0⟩], 0) := by
  unfold planOf; rw [pdt okW, pdt seatsW]; rfl
theorem slNone {k : IntKind} {by_ : Nat} {h : HV} : SlA (Kd.int k) by_ h [] none 0 := ⟨by simp, by simp, fun _ => rfl, fun h => absurd h (by simp), fun i x h => by simp at h⟩
theorem slW {h : HV} {b : Nat} (hr : rowv h b 0 (sW.cells (.slice none 0 0))) : SlA seatK 56 h [sW] (some ⟨b, 0, none⟩) 1 := by
  refine ⟨by simp, by simp, (fun h => by cases h), fun _ => rfl, fun i x hx => ?_⟩
  match i, hx with
  | 0, hx =>
    obtain rfl : sW = x := by simpa using hx
    exact ⟨_, ⟨none, 0, rfl, slNone, by unfold Go.SX.Seat.ok inK; decide⟩, by simpa [ablk, aoff] using (show rowv h b 0 (sW.cells (.slice none sW.Held.length 0)) from hr)⟩
  | i + 1, hx => simp at hx
theorem sl1 {h : HV} {b : Nat} {x : Int} (hx : inK .i64 x) (hr : rowv h b 0 [.int .i64 x]) : SlA (Kd.int .i64) 8 h [x] (some ⟨b, 0, none⟩) 1 := by
  refine ⟨by simp, by simp, (fun h => by cases h), fun _ => rfl, fun i y hy => ?_⟩
  match i, hy with
  | 0, hy =>
    obtain rfl : x = y := by simpa using hy
    exact ⟨_, ⟨rfl, hx⟩, by simpa [ablk, aoff] using hr⟩
  | i + 1, hy => simp at hy

theorem works_fn : FC Try.prog 14 [] [] (fun _ => True) (fun v L => v = .bool true ∧ L = []) := by
  refine FC.nil ?_
  refine FC.intro Try.func14 rfl (by kernel_rfl) 29 [.tmp 0] rfl rfl rfl ?_
  intro w0 _
  (repeat (first | (with_reducible apply XL.op) | ((with_reducible apply XOp.p1); (case hg | hv => exact rfl)) | ((with_reducible apply XOp.pr); (case hg => exact rfl); (case hr => ((with_reducible apply PR.build); (case ht | hk | hok | hz | hf => exact rfl)))) | (with_reducible apply XL.nilT) | (with_reducible apply XC.seq) | (with_reducible apply XC.region (Γ := Γ))))
  ((with_reducible apply XOp.alloc); (case hg | ht | hx' => exact rfl); intro cb)
  (repeat (first | (with_reducible apply XL.op) | ((with_reducible apply XOp.loadO (i := 0)); (case hg | ht | hk | hx | hi | hc => exact rfl)) | ((with_reducible apply XOp.storeN (i := 0)); (case hg | ht | hx | hv' | hk | h1 | hi | hs | ha => exact rfl)) | ((with_reducible apply XOp.pr); (case hg => exact rfl); (case hr => ((with_reducible apply PR.build); (case ht | hk | hok | hz | hf => exact rfl)))) | (with_reducible apply XL.nilT) | (with_reducible apply XC.seq) | (with_reducible apply XC.region (Γ := Γ))))
  ((with_reducible apply XOp.buildSlice); (case hg | ht | hk | he | hz | hzl | hf => exact rfl); intro sb)
  (repeat ((with_reducible apply XL.op)))
  ((with_reducible apply XOp.buildSlice); (case hg | ht | hk | he | hz | hzl | hf => exact rfl); intro kb)
  (repeat ((with_reducible apply XL.op)))
  ((with_reducible apply XOp.call (hF := make_fn cW [sW] [sW] (fun _ => ⟨by simp [Rising], List.Perm.refl _⟩) (some ⟨sb, 0, none⟩) 1 [1] (some ⟨kb, 0, none⟩) 1)); (case hg => exact rfl); (case hc => exact rfl); (case ha => exact rfl); (case hL => exact (List.nil_append _).symm); try (case hA => exact Known.true))
  · exact ((Known.blk (List.mem_cons_of_mem _ (List.mem_cons_self ..))).imp (fun h hr => slW hr)).and ((Known.blk (List.mem_cons_self ..)).imp (fun h hr => sl1 (by unfold inK; decide) hr))
  rintro v L' ⟨vo, vs, Fo, Fs, rfl, rfl, hoi, hoc⟩
  rw [planW] at hoi hoc ⊢
  obtain ⟨va, vc, rfl⟩ := hoi.1.val
  obtain ⟨g, cap, sp, rfl, rfl, _⟩ : ∃ g cap sp, vs = .slice (some ⟨g, 0, none⟩) 1 cap ∧ Fs = [(g, .cells ⟨[.int .i64 1, .int .i64 3, .int .i64 0] ++ sp⟩ 42 (0, 0))] ∧ True := by
    rcases hoc.1.2 with ⟨_, h0, _⟩ | ⟨g, cap, sp, hv, hF, _⟩
    · simp at h0
    · exact ⟨g, cap, sp, hv, hF, trivial⟩
  (repeat (first | (with_reducible apply XL.op) | ((with_reducible apply XOp.p1); (case hg | hv => exact rfl))))
  ((with_reducible apply XOp.alloc); (case hg | ht | hx' => exact rfl); intro pb)
  (repeat' (first | (with_reducible apply XL.op) | ((with_reducible apply XOp.p1); (case hg | hv => exact rfl)) | ((with_reducible apply XOp.p0); (case hg => exact rfl)) | ((with_reducible apply XOp.load); (case hg | ht | hk | hx => exact rfl); (case hc => exact own_cell (i := 0) rfl rfl)) | ((with_reducible apply XOp.storeN (i := 0)); (case hg | ht | hx | hv' | hk | h1 | hi | hs | ha => exact rfl)) | (with_reducible apply XL.nilT) | (with_reducible apply XC.seq) | (with_reducible apply XC.region (Γ := Γ)) | (with_reducible apply XQ.ret) | (first | ((with_reducible apply XOp.load); (case hg | ht | hk | hx => exact rfl); (case hc => exact Known.bcell (t := 42) (fz := (0, 0)) (cs := [.int .i64 1, .int .i64 3, .int .i64 0] ++ sp) (by simp) rfl)) | ((with_reducible apply XP.load); (case ho | hg | ht | hk | hx => exact rfl); (case hc => exact Known.bcell (t := 42) (fz := (0, 0)) (cs := [.int .i64 1, .int .i64 3, .int .i64 0] ++ sp) (by simp) rfl))) | ((with_reducible apply XOp.split); (case hg | hj | hd | hb => exact rfl); (fail_if_success (case hf => exact fun h => Bool.noConfusion h)); (fail_if_success (case ht => exact fun h => Bool.noConfusion h)); all_goals (intro hb_; try simp only [pd_true, pd_false, Bool.not_eq_true', Bool.not_eq_false', Bool.and_eq_true, Bool.and_eq_false_iff, Bool.or_eq_true, Bool.or_eq_false_iff, not_true_eq_false, not_false_eq_true, Int.not_lt, Int.not_le] at hb_))))
  all_goals first | (exfalso; exact hb_ rfl) | skip
  · ((with_reducible apply XQ.retE); (case hr => exact .t rfl .nil))
    show Value.bool _ = Value.bool _
    rw [pdt (show (3 : Int) = 3 from rfl)]
end Go.Proofs.YthnmagdaepgdiaaX
