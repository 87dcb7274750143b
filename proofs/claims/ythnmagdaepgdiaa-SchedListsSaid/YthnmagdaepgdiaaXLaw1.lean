/- The laws' own helpers: copies, and one seat that is served. -/
import Derived.Test.YthnmagdaepgdiaaXPrg12
set_option linter.unusedSimpArgs false
set_option linter.unusedVariables false
namespace Go.Proofs.YthnmagdaepgdiaaX
open Go Go.SX

theorem exT (c : Srv) (seats : List Seat) : ∃ T, seatsOk c seats → Rising T ∧ T.Perm seats := by
  refine ⟨seats.mergeSort (fun a b => decide (a.Id ≤ b.Id)), fun h => ⟨?_, List.mergeSort_perm _ _⟩⟩
  have hp : (seats.mergeSort (fun a b => decide (a.Id ≤ b.Id))).Perm seats := List.mergeSort_perm _ _
  have hs := List.pairwise_mergeSort (le := fun a b : Seat => decide (a.Id ≤ b.Id)) (fun a b c h1 h2 => by simp at *; omega) (fun a b => by simp; omega) seats
  have hn : ((seats.mergeSort (fun a b => decide (a.Id ≤ b.Id))).map (·.Id)).Nodup := ((hp.map (·.Id)).nodup_iff).2 h.2.2
  unfold Rising
  rw [List.nodup_iff_pairwise_ne, List.pairwise_map] at hn
  refine (hs.and hn).imp fun ⟨h1, h2⟩ => ?_
  simp at h1; simp only [ne_eq] at h2; omega
theorem sl_seat {h : HV} {tv : List SV} {a : Option Addr} {cap : Nat} (s : SlA svK 56 h tv a cap) : SlA seatK 56 h (tv.map (·.1)) a cap := by
  refine ⟨by rw [List.length_map]; exact s.le, by rw [List.length_map]; exact s.bytes, s.nil, fun hp => s.at_ (by rwa [List.length_map] at hp), fun i x hx => ?_⟩
  rw [List.getElem?_map] at hx
  obtain ⟨y, hy, rfl⟩ := Option.map_eq_some_iff.1 hx
  obtain ⟨h1, h2, h3⟩ := sv_at s hy
  exact ⟨sxv y, ⟨y.2.1, y.2.2, rfl, h2, h3⟩, h1⟩
/-- Seats that a call has made, with their blocks' numbers. -/
def OwnSeats (v : Value) (seats : List Seat) (L : HL) : Prop :=
  ∃ (tv : List SV) (Fs Fh : HL), tv.map (·.1) = seats ∧ OwnS 46 5 v seats.length (tv.flatMap sxv) Fs ∧ L = Fs ++ Fh ∧ (∀ x ∈ tv, x.1.ok ∧ ∃ F : HL, (∀ z ∈ F, z ∈ Fh) ∧ SlA (Kd.int .i64) 8 (fv F) x.1.Held x.2.1 x.2.2)
theorem OwnSeats.known {v : Value} {seats : List Seat} {F : HL} (h : OwnSeats v seats F) (hb : seats.length * 56 ≤ 140737488355328) : ∃ a cap, v = .slice a seats.length cap ∧ ∀ {w0 : World} {K : List Nat} {L : HL}, (∀ z ∈ F, z ∈ L) → Known w0 K L (fun h => SlA seatK 56 h seats a cap) := by
  obtain ⟨tv, Fs, Fh, rfl, hown, rfl, hx⟩ := h
  rw [List.length_map] at hb
  obtain ⟨a, cap, e, hraw⟩ := hown.raw (f := sxv) (k := 5) (hk := sxv_len) (by_ := 56) (by rw [List.length_map]) hb
  refine ⟨a, cap, by rw [e, List.length_map], fun {w0 K L} hs => ?_⟩
  refine (known_sv (Known.of_frag hraw (Mono.sl _ _ _ _ _) (fun z hz => hs z (List.mem_append_left _ hz))) (fun x hxm => ?_) (fun x hxm => (hx x hxm).1)).imp (fun h hh => sl_seat hh)
  obtain ⟨F, hF, hS⟩ := (hx x hxm).2
  exact Known.of_frag hS (Mono.sl _ _ _ _ _) (fun z hz => hs z (List.mem_append_right _ (hF z hz)))

theorem copySeats_fn (seats : List Seat) (a : Option Addr) (cap : Nat) : FC Try.prog 22 [.slice a seats.length cap] [] (fun h => SlA seatK 56 h seats a cap)
    (fun v L => OwnSeats v seats L) := by
  refine FC.sub2 ?_
  refine FC.intro Try.func22 rfl (by kernel_rfl) 28 [.tmp 2] rfl rfl rfl ?_
  intro w0 hA
  have hsm := hA.bytes
  (repeat (first | (with_reducible apply XL.op) | ((with_reducible apply XOp.p1); (case hg | hv => exact rfl)) | (with_reducible apply XL.nilT) | (with_reducible apply XC.seq) | (with_reducible apply XC.region (Γ := Γ)) | (with_reducible apply XC.block)))
  refine XC.loopP (fun k ρ L => ∃ (i : Nat) (tv : List SV) (v : Value) (Fs Fh : HL), i + k = seats.length ∧ tv.map (·.1) = seats.take i ∧ OwnS 46 5 v i (tv.flatMap sxv) Fs ∧ L = Fs ++ Fh ∧
      (∀ x ∈ tv, x.1.ok ∧ ∃ F : HL, (∀ z ∈ F, z ∈ Fh) ∧ SlA (Kd.int .i64) 8 (fv F) x.1.Held x.2.1 x.2.2) ∧ Slots ρ [(0, .slice a seats.length cap), (3, v), (4, .int .i64 i)])
    seats.length ⟨0, [], _, [], [], by simp, rfl, OwnS.nil _ _, rfl, by simp, rfl, rfl, rfl, trivial⟩ ?_
  rintro k ρ L ⟨i, tv, v, Fs, Fh, hik, htv, hown, rfl, hx, hs⟩
  obtain ⟨va, vc, rfl⟩ := hown.val
  refine XC.slots _ hs ?_
  (repeat (first | (with_reducible apply XL.op) | ((with_reducible apply XOp.p1); (case hg | hv => exact rfl)) | (with_reducible apply XL.nilT) | (with_reducible apply XC.seq) | (with_reducible apply XC.region (Γ := Γ))))
  ((with_reducible apply XC.cond); (case hc => exact rfl); all_goals (intro hb_; try simp only [pd_true, pd_false, Bool.not_eq_true', Bool.not_eq_false', Bool.and_eq_true, Bool.and_eq_false_iff, Bool.or_eq_true, Bool.or_eq_false_iff, not_true_eq_false, not_false_eq_true, Int.not_lt, Int.not_le] at hb_))
  · obtain ⟨s, hi⟩ : ∃ s, seats[i]? = some s := ⟨_, List.getElem?_eq_getElem (by omega)⟩
    obtain ⟨ah, ch, hrow, hH, hsk⟩ := SlA_seat hA hi
    have hs4 : cellv (oldv w0 (keys [])) ⟨ablk a, aoff a + i * 5 + 4, none⟩ = some (.slice ah s.Held.length ch) := hrow 4 _ rfl
    (repeat (first | (with_reducible apply XL.op) | ((with_reducible apply XOp.p1); (case hg | hv => exact rfl)) | ((with_reducible apply XOp.pr); (case hg => exact rfl); (case hr => ((with_reducible apply PR.idxA); (case ht | hk | he | hx | hi => exact rfl); (case hr => first | assumption | omega); (case ha => first | assumption | exact SlA.at_ (by assumption))))) | (with_reducible apply XC.seq) | (with_reducible apply XC.region (Γ := Γ)) | (with_reducible apply XQ.skip) | (with_reducible apply XQ.nt) | (with_reducible apply XC.block) | (first | ((with_reducible apply XOp.loadN); (case hg | ht | hk | hx => exact rfl); (case hc => exact Known.of_old hrow (Mono.row _ _ _)); (case hl => exact rfl)) | ((with_reducible apply XP.loadN); (case ho | hg | ht | hk | hx => exact rfl); (case hc => exact Known.of_old hrow (Mono.row _ _ _)); (case hl => exact rfl)))))
    ((with_reducible apply XOp.alloc); (case hg | ht | hx' => exact rfl); intro sb)
    (repeat (first | (with_reducible apply XL.op) | ((with_reducible apply XOp.p1); (case hg | hv => exact rfl)) | ((with_reducible apply XOp.storeN (i := 0)); (case hg | ht | hx | hv' | hk | h1 | hi | hs | ha => exact rfl)) | ((with_reducible apply XOp.pr); (case hg => exact rfl); (case hr => ((with_reducible apply PR.idxA); (case ht | hk | he | hx | hi => exact rfl); (case hr => first | assumption | omega); (case ha => first | assumption | exact SlA.at_ (by assumption))))) | (with_reducible apply XL.nilT) | (with_reducible apply XC.seq) | (with_reducible apply XC.region (Γ := Γ)) | (first | ((with_reducible apply XOp.load); (case hg | ht | hk | hx => exact rfl); (case hc => exact Known.of_old hs4 (Mono.cell _ _))) | ((with_reducible apply XP.load); (case ho | hg | ht | hk | hx => exact rfl); (case hc => exact Known.of_old hs4 (Mono.cell _ _))))))
    ((with_reducible apply XOp.call (hF := copyInts_fn s.Held ah ch)); (case hg => exact rfl); (case hc => exact rfl); (case ha => exact rfl); (case hL => exact (List.nil_append _).symm); try (case hA => exact Known.true))
    · exact Known.of_old hH (Mono.sl _ _ _ _ _)
    intro v1 F1 hown1
    have hhb := hH.bytes
    obtain ⟨a1, c1, rfl, _, hS1⟩ := hown1.slA (by_ := 8) hH.okAll hhb
    refine XL.perm (L := F1 ++ ((sb, .cells ⟨s.cells (.slice ah s.Held.length ch)⟩ 46 (0, 0)) :: (Fs ++ Fh))) (L' := (sb, .cells ⟨s.cells (.slice ah s.Held.length ch)⟩ 46 (0, 0)) :: (F1 ++ (Fs ++ Fh))) ?_ (by (first | (with_reducible exact List.Perm.refl _) | refine perm_of_cnt fun p_ => ?_; simp only [List.countP_append, List.countP_cons, List.countP_nil]; omega))
    (repeat (first | (with_reducible apply XL.op) | ((with_reducible apply XOp.p1); (case hg | hv => exact rfl)) | ((with_reducible apply XOp.loadO (i := 0)); (case hg | ht | hk | hx | hi | hc => exact rfl)) | ((with_reducible apply XOp.store (i := 0)); (case hg | ht | hk | hx | hv | h1 | hi | hs | ha => exact rfl)) | (with_reducible apply XL.nilT) | (with_reducible apply XC.region (Γ := Γ))))
    ((with_reducible apply XOp.buildSlice); (case hg | ht | hk | he | hz | hzl | hf => exact rfl); intro bb)
    (repeat ((with_reducible apply XL.op)))
    (refine XOp.perm (L := (bb, .cells ⟨s.cells (.slice a1 s.Held.length c1)⟩ 46 (0, 0)) :: (sb, .cells ⟨s.cells (.slice a1 s.Held.length c1)⟩ 46 (0, 0)) :: (F1 ++ (Fs ++ Fh))) (L' :=  (bb, .cells ⟨s.cells (.slice a1 s.Held.length c1)⟩ 46 (0, 0)) :: (Fs ++ ((sb, .cells ⟨s.cells (.slice a1 s.Held.length c1)⟩ 46 (0, 0)) :: (F1 ++ Fh)))) rfl ?_ (by (first | (with_reducible exact List.Perm.refl _) | refine perm_of_cnt fun p_ => ?_; simp only [List.countP_append, List.countP_cons, List.countP_nil]; omega)))
    ((with_reducible apply XOp.append1); (case hg => exact rfl); (case ht => exact rfl); (case hk => exact rfl); (case he => exact rfl); (case hown => exact hown); (case hs => exact rfl); (case hx => exact rfl); (case hL => exact rfl); (case hl => exact rfl); (case h1 => exact rfl); (case hz => exact rfl); (case hsz => exact Nat.zero_lt_succ _); (case hk0 => exact Nat.zero_lt_succ _); (case h63 => simp only [maxLen]; omega); (case hb => simp only []; omega); intro v_ F_ hown_; obtain ⟨a_, c_, rfl⟩ := hown_.val)
    (repeat (first | (with_reducible apply XL.op) | ((with_reducible apply XOp.p1); (case hg | hv => exact rfl)) | (with_reducible apply XL.nilT) | (with_reducible apply XC.region (Γ := Γ)) | (with_reducible apply XL.nilQ) | (with_reducible apply XQ.nt) | (with_reducible apply XQ.nb)))
    refine ⟨k - 1, by omega, _, ⟨(F_ ++ (F1 ++ Fh)) ++ [(sb, .cells ⟨s.cells (.slice a1 s.Held.length c1)⟩ 46 (0, 0))], by (first | (with_reducible exact List.Perm.refl _) | refine perm_of_cnt fun p_ => ?_; simp only [List.countP_append, List.countP_cons, List.countP_nil]; omega), List.sublist_append_left _ _⟩, i + 1, tv ++ [(s, a1, c1)], _, F_, F1 ++ Fh, by omega, by rw [take_snoc hi, List.map_append, htv]; rfl, hown_.conv rfl (by simp [sxv, zerosL, Go.SX.Seat.cells]), rfl, ?_, rfl, rfl, intS (m := seats.length) (by omega) (by omega), trivial⟩
    intro x hxm
    rcases List.mem_append.1 hxm with h | h
    · obtain ⟨h1, F, hF, hS⟩ := hx x h
      exact ⟨h1, F, fun z hz => List.mem_append_right _ (hF z hz), hS⟩
    · rw [List.mem_singleton.1 h]
      exact ⟨hsk, F1, fun z hz => List.mem_append_left _ hz, hS1⟩
  · obtain rfl : i = seats.length := by omega
    rw [List.take_length] at htv
    (repeat (first | (with_reducible apply XL.op) | ((with_reducible apply XOp.p1); (case hg | hv => exact rfl)) | (with_reducible apply XL.nilT) | (with_reducible apply XC.seq) | (with_reducible apply XC.region (Γ := Γ)) | (with_reducible apply XQ.ret) | (with_reducible apply XQ.exit) | (with_reducible apply XQ.nt) | (with_reducible apply XQ.et) | ((with_reducible apply XQ.eb); (case hb => exact rfl))))
    ((with_reducible apply XQ.retE); (case hr => exact .t rfl .nil))
    exact ⟨_, .of (List.Sublist.refl _), tv, Fs, Fh, htv, hown, rfl, hx⟩
end Go.Proofs.YthnmagdaepgdiaaX
