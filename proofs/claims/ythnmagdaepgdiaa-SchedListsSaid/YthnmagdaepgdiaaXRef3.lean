/- The reference: who must go; a seat served; the plan. -/
import Derived.Test.YthnmagdaepgdiaaXRef2
set_option linter.unusedSimpArgs false
set_option linter.unusedVariables false
namespace Go.Proofs.YthnmagdaepgdiaaX
open Go Go.SX

theorem FC_subl {f : Nat} {vs : List Value} {L0 : HL} {A : HV → Prop} {Post : Value → HL → Prop} (h : FC Try.prog f vs L0 A (fun v L => ∃ L'', L''.Sublist L ∧ Post v L'')) : FC Try.prog f vs L0 A Post :=
  ⟨h.1, fun w h1 h2 h3 => (h.2 w h1 h2 h3).mono fun _ _ ⟨v, L', he, ho, L'', hs, hq⟩ => ⟨v, L'', he, ho.sub (fun x hx => hs.subset hx) ((hs.map _).nodup ho.nodup), hq⟩⟩

theorem all_ok {k : IntKind} {by_ : Nat} {h : HV} {xs : List Int} {a : Option Addr} {cap : Nat} (s : SlA (Kd.int k) by_ h xs a cap) : ∀ x ∈ xs, inK k x := by
  intro x hx
  obtain ⟨i, hi⟩ := List.getElem?_of_mem hx
  have := (s.int i (List.getElem?_eq_some_iff.1 hi).1).2
  rw [hi] at this; exact this
theorem known_blk {w0 : World} {K : List Nat} {L : HL} {b t : Nat} {fz : Nat × Nat} {cs : List Value} (hm : (b, Obj.cells ⟨cs⟩ t fz) ∈ L) : Known w0 K L (fun h => rowv h b 0 cs) := fun h e i v hv => by
  have := e.1 _ hm
  simp only at this
  simp [cellv, this, hv]
theorem known_cell {w0 : World} {K : List Nat} {L : HL} {b t : Nat} {fz : Nat × Nat} {cs : List Value} {i : Nat} {v : Value} (hm : (b, Obj.cells ⟨cs⟩ t fz) ∈ L) (hv : cs[i]? = some v) : Known w0 K L (fun h => cellv h ⟨b, i, none⟩ = some v) := fun h e => by
  have := known_blk hm h e i v hv
  simpa using this

/-- What a list of numbers of a call's own is. -/
def OwnI (v : Value) (xs : List Int) (L : HL) : Prop := OwnS 3 1 v xs.length (xs.map (.int .i64)) L ∧ ∀ x ∈ xs, inK .i64 x

theorem refMade_fn (wb : Nat) (c : Srv) (hc : c.okS 1) (seats T : List Seat) (hT : Rising T) (hp : T.Perm seats) (hTl : T.length ≤ 16) (a : Option Addr) (cap : Nat) (out : List Int) (hol : out.length ≤ 400) (oa : Option Addr) (oc : Nat) (given left : Int) (hgv : -100000 ≤ given ∧ given ≤ 100000) (s : Seat) (hs : seatOk c s) (hsk : s.ok) (hcl : s.Held.length ≤ 140737488355328) (sv : Option Addr) (sc : Nat) (x : Int) (hx : 0 ≤ x ∧ x ≤ 1000) :
    FC Try.prog 50 [.pointer (some ⟨wb, 0, none⟩), .agg ⟨s.cells (.slice sv s.Held.length sc)⟩, .int .i64 x] [] (RW wb c seats a cap out oa oc given left)
    (fun v L => match made c T given s x (T.length + 1) out with
      | none => v = .tuple #[.slice none 0 0, .bool false] ∧ L = []
      | some o => ∃ vo, v = .tuple #[vo, .bool true] ∧ OwnI vo o L) := by
  refine FC_subl ?_
  refine FC.intro Try.func50 rfl (by kernel_rfl) 41 [.tmp 6, .tmp 7] rfl rfl rfl ?_
  intro w0 hA
  have hst := hA.seats
  have hout := hA.out
  (repeat (first | (with_reducible apply XL.op) | (with_reducible apply XC.seq) | (with_reducible apply XC.region (Γ := Γ))))
  ((with_reducible apply XOp.box); (case hg | hx' => exact rfl); intro sb)
  (repeat (first | (with_reducible apply XL.op) | ((with_reducible apply XOp.p1); (case hg | hv => exact rfl)) | (with_reducible apply XL.nilT) | (with_reducible apply XC.seq) | (with_reducible apply XC.region (Γ := Γ)) | (first | ((with_reducible apply XOp.load); (case hg | ht | hk | hx => exact rfl); (case hc => exact Known.of_old (hA.cell 6 rfl) (Mono.cell _ _))) | ((with_reducible apply XP.load); (case ho | hg | ht | hk | hx => exact rfl); (case hc => exact Known.of_old (hA.cell 6 rfl) (Mono.cell _ _)))) | (((with_reducible apply XOp.call (hF := copyInts_fn out oa oc)); (case hg => exact rfl); (case hc => exact rfl); (case ha => exact rfl); (case hL => exact (List.nil_append _).symm); try (case hA => exact Known.true)); (case hA => exact Known.of_old hout (Mono.sl _ _ _ _ _)))))
  intro v1 F1 hown1
  obtain ⟨a1, c1, rfl⟩ := hown1.val
  (repeat (first | (with_reducible apply XL.op) | ((with_reducible apply XOp.p1); (case hg | hv => exact rfl)) | (with_reducible apply XL.nilT) | (with_reducible apply XC.block)))
  refine XC.loop (fun k ρ L => ∃ (ol : List Int) (v : Value) (F : HL), L = F ++ [(sb, .cells ⟨s.cells (.slice sv s.Held.length sc)⟩ 46 (0, 0))] ∧ OwnI v ol F ∧ ol.length + k ≤ 450 ∧ goers T s.Id ol < k ∧ made c T given s x k ol = made c T given s x (T.length + 1) out ∧
      Slots ρ [(0, .pointer (some ⟨wb, 0, none⟩)), (2, .int .i64 x), (4, .pointer (some ⟨sb, 0, none⟩)), (8, v)]) (T.length + 1)
      ⟨out, _, F1, rfl, ⟨hown1, all_ok hout⟩, by omega, Nat.lt_succ_of_le (goers_le _ _ _), rfl, rfl, rfl, rfl, rfl, trivial⟩ ?_
  rintro k ρ L ⟨ol, v, F, rfl, ⟨hown, hok⟩, hlk, hgl, hmd, hs'⟩
  obtain ⟨k, rfl⟩ : ∃ k', k = k' + 1 := ⟨k - 1, by omega⟩
  obtain ⟨la, lc, rfl, _, hO⟩ := hown.slA (by_ := 8) hok (by omega)
  refine XC.slots _ hs' ?_
  (repeat (first | (with_reducible apply XL.op) | ((with_reducible apply XOp.p1); (case hg | hv => exact rfl)) | (with_reducible apply XC.seq) | (with_reducible apply XC.region (Γ := Γ)) | (with_reducible apply XC.block) | (first | ((with_reducible apply XOp.loadN); (case hg | ht | hk | hx => exact rfl); (case hc => exact known_blk (List.mem_append_right _ (List.mem_singleton.2 rfl))); (case hl => exact rfl)) | ((with_reducible apply XP.loadN); (case ho | hg | ht | hk | hx => exact rfl); (case hc => exact known_blk (List.mem_append_right _ (List.mem_singleton.2 rfl))); (case hl => exact rfl)))))
  ((with_reducible apply XOp.call (hF := refRoom_fn wb c hc seats a cap out oa oc given left hgv s hs hcl sv sc x hx ol la lc)); (case hg => exact rfl); (case hc => exact rfl); (case ha => exact rfl); (case hL => exact (List.nil_append _).symm); try (case hA => exact Known.true))
  · exact (Known.of_old hA RW.mono).and (Known.of_frag hO (Mono.sl _ _ _ _ _) (fun y hy => List.mem_append_left _ hy))
  rintro _ _ ⟨rfl, rfl⟩
  (repeat (first | (with_reducible apply XL.op) | ((with_reducible apply XOp.p1); (case hg | hv => exact rfl)) | (with_reducible apply XL.nilT) | (with_reducible apply XC.seq) | (with_reducible apply XC.region (Γ := Γ))))
  ((with_reducible apply XC.cond); (case hc => exact rfl); all_goals (intro hb_; try simp only [pd_true, pd_false, Bool.not_eq_true', Bool.not_eq_false', Bool.and_eq_true, Bool.and_eq_false_iff, Bool.or_eq_true, Bool.or_eq_false_iff, not_true_eq_false, not_false_eq_true, Int.not_lt, Int.not_le] at hb_))
  · (repeat (first | (with_reducible apply XL.op) | ((with_reducible apply XOp.p1); (case hg | hv => exact rfl)) | (with_reducible apply XL.nilT) | (with_reducible apply XC.seq) | (with_reducible apply XC.region (Γ := Γ)) | (with_reducible apply XQ.ret) | (with_reducible apply XQ.rt) | (with_reducible apply XQ.rb)))
    ((with_reducible apply XQ.retE); (case hr => exact .t rfl (.t rfl .nil)))
    have hm : made c T given s x (k + 1) ol = some ol := by unfold made; rw [if_pos (by rw [free_perm hp]; exact hb_)]
    rw [← hmd, hm]
    exact ⟨F, List.sublist_append_left _ _, _, rfl, hown, hok⟩
  have hnf : ¬ beyondS c s x ≤ freeS c T ol given := by rw [free_perm hp]; omega
  (repeat (first | (with_reducible apply XL.op) | ((with_reducible apply XOp.p1); (case hg | hv => exact rfl)) | (with_reducible apply XC.seq) | (with_reducible apply XC.region (Γ := Γ)) | (with_reducible apply XQ.skip) | (with_reducible apply XQ.nt) | (first | ((with_reducible apply XOp.load); (case hg | ht | hk | hx => exact rfl); (case hc => exact known_cell (i := 0) (List.mem_append_right _ (List.mem_append_right _ (List.mem_singleton.2 rfl))) rfl)) | ((with_reducible apply XP.load); (case ho | hg | ht | hk | hx => exact rfl); (case hc => exact known_cell (i := 0) (List.mem_append_right _ (List.mem_append_right _ (List.mem_singleton.2 rfl))) rfl)))))
  ((with_reducible apply XOp.call (hF := refYounger_fn wb c seats a cap out oa oc given left s.Id ol la lc)); (case hg => exact rfl); (case hc => exact rfl); (case ha => exact rfl); (case hL => exact (List.nil_append _).symm); try (case hA => exact Known.true))
  · exact (Known.of_old hA RW.mono).and (Known.of_frag hO (Mono.sl _ _ _ _ _) (fun y hy => List.mem_append_right _ (List.mem_append_left _ hy)))
  rintro _ _ ⟨⟨kk, rfl, hk⟩, rfl⟩
  rcases hk with ⟨rfl, hno⟩ | ⟨j, y, rfl, hj, hy⟩
  · have hm : made c T given s x (k + 1) ol = none := by
      unfold made; rw [if_neg hnf, cand_none (fun z hz => hno z (hp.mem_iff.1 hz))]
    (repeat' (first | (with_reducible apply XL.op) | ((with_reducible apply XOp.p1); (case hg | hv => exact rfl)) | (with_reducible apply XL.nilT) | (with_reducible apply XC.seq) | (with_reducible apply XC.region (Γ := Γ)) | (with_reducible apply XQ.skip) | (with_reducible apply XQ.ret) | (with_reducible apply XQ.nt) | (with_reducible apply XQ.rt) | (with_reducible apply XQ.rb) | ((with_reducible apply XC.cond); (case hc => exact rfl); all_goals (intro hb_; try simp only [pd_true, pd_false, Bool.not_eq_true', Bool.not_eq_false', Bool.and_eq_true, Bool.and_eq_false_iff, Bool.or_eq_true, Bool.or_eq_false_iff, not_true_eq_false, not_false_eq_true, Int.not_lt, Int.not_le] at hb_))))
    · ((with_reducible apply XQ.retE); (case hr => exact .t rfl (.t rfl .nil)))
      rw [← hmd, hm]
      exact ⟨[], List.nil_sublist _, rfl, rfl⟩
    · omega
  · have hyT := IsYng.perm hp.symm hy
    obtain ⟨ah, ch, hrow, _, hyk⟩ := SlA_seat hst hj
    have hjl := (List.getElem?_eq_some_iff.1 hj).1
    (repeat' (first | (with_reducible apply XL.op) | ((with_reducible apply XOp.p1); (case hg | hv => exact rfl)) | ((with_reducible apply XOp.pr); (case hg => exact rfl); (case hr => ((with_reducible apply PR.idxA); (case ht | hk | he | hx | hi => exact rfl); (case hr => first | assumption | omega); (case ha => first | assumption | exact SlA.at_ (by assumption))))) | ((with_reducible apply XOp.buildSlice); (case hg | ht | hk | he | hz | hzl | hf => exact rfl); intro bs_) | (with_reducible apply XL.nilT) | (with_reducible apply XC.seq) | (with_reducible apply XC.region (Γ := Γ)) | (with_reducible apply XL.nilQ) | (with_reducible apply XQ.skip) | (with_reducible apply XQ.ret) | (with_reducible apply XQ.nt) | (with_reducible apply XQ.nb) | (with_reducible apply XQ.rt) | (with_reducible apply XQ.rb) | (first | ((with_reducible apply XOp.load); (case hg | ht | hk | hx => exact rfl); (case hc => exact Known.of_old (hA.cell 5 rfl) (Mono.cell _ _))) | ((with_reducible apply XP.load); (case ho | hg | ht | hk | hx => exact rfl); (case hc => exact Known.of_old (hA.cell 5 rfl) (Mono.cell _ _)))) | (first | ((with_reducible apply XOp.load); (case hg | ht | hk | hx => exact rfl); (case hc => exact Known.of_old (seat_id hrow) (Mono.cell _ _))) | ((with_reducible apply XP.load); (case ho | hg | ht | hk | hx => exact rfl); (case hc => exact Known.of_old (seat_id hrow) (Mono.cell _ _)))) | ((with_reducible apply XOp.append1); (case hg => exact rfl); (case ht => exact rfl); (case hk => exact rfl); (case he => exact rfl); (case hown => exact hown); (case hs => exact rfl); (case hx => exact rfl); (case hL => exact rfl); (case hl => exact rfl); (case h1 => exact rfl); (case hz => exact rfl); (case hsz => exact Nat.zero_lt_succ _); (case hk0 => exact Nat.zero_lt_succ _); (case h63 => simp only [maxLen]; omega); (case hb => simp only []; omega); intro v_ F_ hown_; obtain ⟨a_, c_, rfl⟩ := hown_.val) | ((with_reducible apply XC.cond); (case hc => exact rfl); all_goals (intro hb_; try simp only [pd_true, pd_false, Bool.not_eq_true', Bool.not_eq_false', Bool.and_eq_true, Bool.and_eq_false_iff, Bool.or_eq_true, Bool.or_eq_false_iff, not_true_eq_false, not_false_eq_true, Int.not_lt, Int.not_le] at hb_))))
    · omega
    · have hm : made c T given s x (k + 1) ol = made c T given s x k (ol ++ [y.Id]) := by
        rw [made, if_neg hnf, cand_of hT hyT]
      refine ⟨k, by omega, ol ++ [y.Id], .slice a_ _ c_, F_, rfl, ⟨hown_.conv (by simp) (by simp [zerosL]), fun z hz => ?_⟩, by simp; omega, by have := goers_lt hyT; omega, by rw [← hm, hmd], rfl, rfl, rfl, rfl, trivial⟩
      rcases List.mem_append.1 hz with h | h
      · exact hok z h
      · rw [List.mem_singleton.1 h]; exact hyk.1
end Go.Proofs.YthnmagdaepgdiaaX
