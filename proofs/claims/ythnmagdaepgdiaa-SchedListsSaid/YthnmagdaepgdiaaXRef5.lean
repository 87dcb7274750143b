/- The reference: a seat servedS. -/
import Derived.Test.YthnmagdaepgdiaaXRef4
set_option linter.unusedSimpArgs false
set_option linter.unusedVariables false
namespace Go.Proofs.YthnmagdaepgdiaaX
open Go Go.SX

def wcells (c : Srv) (a : Option Addr) (n cap : Nat) (vo : Value) (given left : Int) : List Value := c.cells ++ [.slice a n cap, vo, .int .i64 given, .int .i64 left]
theorem known_RW {w0 : World} {K : List Nat} {L : HL} {wb : Nat} {c : Srv} {seats : List Seat} {a : Option Addr} {cap : Nat} {out : List Int} {oa : Option Addr} {oc : Nat} {given left : Int}
    (hm : (wb, Obj.cells ⟨wcells c a seats.length cap (.slice oa out.length oc) given left⟩ 63 (0, 0)) ∈ L) (hs : Known w0 K L (fun h => SlA seatK 56 h seats a cap)) (ho : Known w0 K L (fun h => SlA (Kd.int .i64) 8 h out oa oc)) :
    Known w0 K L (RW wb c seats a cap out oa oc given left) := fun h e => ⟨Known.blk hm h e, hs h e, ho h e⟩
def _root_.Go.SX.Slc.cells (x : Slc) : List Value := [.int .i64 x.Id, .int .i64 x.Prefill, .int .i64 x.Nodes]

theorem beyond_le {c : Srv} (hc : c.okS 1) {s : Seat} (hs : seatOk c s) {x : Int} (hx : 0 ≤ x ∧ x ≤ 1000) : 0 ≤ beyondS c s x ∧ beyondS c s x ≤ 1200 := by
  have hcb := hc.2.2.1
  have hca := hs.2.1
  have hkn := hs.1
  have e3 : needI (s.Cached + x) c.Block ≤ s.Cached + x + c.Block - 1 := Int.ediv_le_self _ (by omega)
  unfold beyondS; omega
theorem refServe_fn (wb : Nat) (c : Srv) (hc : c.okS 1) (seats T : List Seat) (hT : Rising T) (hp : T.Perm seats) (hTl : T.length ≤ 16) (a : Option Addr) (cap : Nat) (out : List Int) (hol : out.length ≤ 400) (oa : Option Addr) (oc : Nat) (given left : Int) (hgv : 0 ≤ given ∧ given ≤ 50000) (hlf : 1 ≤ left ∧ left ≤ 1024)
    (s : Seat) (hs : seatOk c s) (hsk : s.ok) (hcl : s.Held.length ≤ 140737488355328) (sv : Option Addr) (sc : Nat) :
    FC Try.prog 40 [.pointer (some ⟨wb, 0, none⟩), .agg ⟨s.cells (.slice sv s.Held.length sc)⟩] [(wb, .cells ⟨wcells c a seats.length cap (.slice oa out.length oc) given left⟩ 63 (0, 0))]
    (fun h => SlA seatK 56 h seats a cap ∧ SlA (Kd.int .i64) 8 h out oa oc)
    (fun v L => match servedS c T out given left s with
      | none => v = .tuple #[.agg #[.int .i64 0, .int .i64 0, .int .i64 0], .bool false] ∧ L = [(wb, .cells ⟨wcells c a seats.length cap (.slice oa out.length oc) given left⟩ 63 (0, 0))]
      | some (o, n, x) => ∃ vo F, v = .tuple #[.agg ⟨x.cells⟩, .bool true] ∧ OwnI vo o F ∧ L = (wb, .cells ⟨wcells c a seats.length cap vo (given + beyondS c s n) (left - n)⟩ 63 (0, 0)) :: F) := by
  refine FC_subl ?_
  refine FC.intro Try.func40 rfl (by kernel_rfl) 133 [.cell 4 42, .tmp 5] rfl rfl rfl ?_
  rintro w0 ⟨hst, hout⟩
  have hkn := hs.1
  have hca := hs.2.1
  have hch := hc.2.2.2.2
  (repeat (first | (with_reducible apply XL.op) | (with_reducible apply XC.seq) | (with_reducible apply XC.region (Γ := Γ))))
  ((with_reducible apply XOp.box); (case hg | hx' => exact rfl); intro sb)
  (repeat ((with_reducible apply XL.op)))
  ((with_reducible apply XOp.alloc); (case hg | ht | hx' => exact rfl); intro rb)
  have er : IntKind.i64.wrap (IntKind.i64.wrap (s.Known - 1) - s.Cached) = restS s := by
    rw [wrap64_of (x := s.Known - 1) (by omega) (by omega), wrap64_of (by omega) (by omega)]; rfl
  have hrs : 0 ≤ restS s ∧ restS s ≤ 63 := by unfold restS; omega
  (repeat (first | (with_reducible apply XL.op) | ((with_reducible apply XOp.p1); (case hg | hv => exact rfl)) | ((with_reducible apply XOp.load); (case hg | ht | hk | hx => exact rfl); (case hc => exact own_cell (i := 1) rfl rfl)) | (with_reducible apply XL.nilT) | (with_reducible apply XC.seq) | (with_reducible apply XC.region (Γ := Γ))))
  rw [er]
  ((with_reducible apply XC.cond); (case hc => exact rfl); all_goals (intro hb_; try simp only [pd_true, pd_false, Bool.not_eq_true', Bool.not_eq_false', Bool.and_eq_true, Bool.and_eq_false_iff, Bool.or_eq_true, Bool.or_eq_false_iff, not_true_eq_false, not_false_eq_true, Int.not_lt, Int.not_le] at hb_))
  · (repeat (first | (with_reducible apply XL.op) | ((with_reducible apply XOp.p1); (case hg | hv => exact rfl)) | ((with_reducible apply XOp.loadO (i := 1)); (case hg | ht | hk | hx | hi | hc => exact rfl)) | (with_reducible apply XC.seq) | (with_reducible apply XC.region (Γ := Γ)) | (with_reducible apply XQ.nt) | ((with_reducible apply XP.p1); (case ho | hg | hv => exact rfl)) | ((with_reducible apply XP.load); (case ho | hg | ht | hk | hx => exact rfl); (case hc => exact own_cell (i := 2) rfl rfl)) | (with_reducible apply XP.done) | ((with_reducible apply XP.e); (first | ((with_reducible apply XE.d); (case ho => exact rfl); (case hd => exact rfl)) | ((with_reducible apply XE.e); (case ho => exact rfl)))) | ((with_reducible apply XP.keep); (case hk => first | ((repeat' (first | exact List.forall_mem_nil _ | (with_reducible refine List.forall_mem_cons.2 ⟨?_, ?_⟩) | exact List.mem_cons_self .. | (with_reducible apply List.mem_cons_of_mem) | (with_reducible apply List.mem_append_right))); done) | (intro x hx; first | exact sel_in hx | exact List.mem_cons_of_mem _ (sel_in hx) | exact List.mem_append_right _ (sel_in hx) | exact hx | exact List.mem_cons_of_mem _ hx | exact List.mem_append_right _ hx | ((repeat (first | exact sel_in hx | exact hx | (with_reducible apply List.mem_cons_of_mem) | (with_reducible apply List.mem_append_right))); done) | cases hx))) | ((with_reducible apply XC.regionD (Γ := Γ) mixed (.q 0 (.q 1 (.q 2 (.q 3 (.q 4 (.q 5 (.q 6 (.q 7 (.q 8 (.q 9 (.e 10 (.q 11 (.done))))))))))))) [] []); (case hc => kernel_rfl)) | (((with_reducible apply XOp.callQ (hF := least_fn (restS s) c.Chunk left)); (case hg => exact rfl); (case hc => exact rfl); (case ha => exact rfl); try (case hA => exact Known.true)); rintro _ rfl)))
    ((with_reducible apply XOp.call (hF := refMade_fn wb c hc seats T hT hp hTl a cap out hol oa oc given left (by omega) s hs hsk hcl sv sc (min (min (restS s) c.Chunk) left) (by omega))); (case hg => exact rfl); (case hc => exact rfl); (case ha => exact rfl); (case hL => exact (List.nil_append _).symm); try (case hA => exact Known.true))
    · exact known_RW (List.mem_cons_of_mem _ (List.mem_cons_of_mem _ (List.mem_singleton.2 rfl))) (Known.of_old hst (Mono.sl _ _ _ _ _)) (Known.of_old hout (Mono.sl _ _ _ _ _))
    intro v L' hpost
    unfold servedS
    rw [if_pos hb_]
    rcases hm : made c T given s (min (min (restS s) c.Chunk) left) (T.length + 1) out with _ | o <;> rw [hm] at hpost
    · obtain ⟨rfl, rfl⟩ := hpost
      (repeat' (first | (with_reducible apply XL.op) | ((with_reducible apply XOp.p1); (case hg | hv => exact rfl)) | ((with_reducible apply XOp.storeN (i := 0)); (case hg | ht | hx | hv' | hk | h1 | hi | hs | ha => exact rfl)) | ((with_reducible apply XOp.pr); (case hg => exact rfl); (case hr => ((with_reducible apply PR.build); (case ht | hk | hok | hz | hf => exact rfl)))) | (with_reducible apply XL.nilT) | (with_reducible apply XC.seq) | (with_reducible apply XC.region (Γ := Γ)) | (with_reducible apply XQ.ret) | (with_reducible apply XQ.rt) | ((with_reducible apply XC.condT); (case hc => exact rfl))))
      ((with_reducible apply XQ.retE); (case hr => exact .row rfl (by kernel_rfl) (by kernel_rfl) (Known.blk (List.mem_cons_self ..)) (.t rfl .nil)))
      exact ⟨_, List.Sublist.cons _ (List.Sublist.cons _ (List.Sublist.refl _)), rfl, rfl⟩
    · obtain ⟨vo, rfl, hov⟩ := hpost
      have hlo := made_len hm
      obtain ⟨oa', oc', rfl, _, hO⟩ := hov.1.slA (by_ := 8) hov.2 (by omega)
      refine XL.perm ?_ List.perm_append_comm
      have hbx := beyond_le hc hs (x := min (min (restS s) c.Chunk) left) (by omega)
      have eg : IntKind.i64.wrap (given + beyondS c s (min (min (restS s) c.Chunk) left)) = given + beyondS c s (min (min (restS s) c.Chunk) left) := wrap64_of (by omega) (by omega)
      have el : IntKind.i64.wrap (left - min (min (restS s) c.Chunk) left) = left - min (min (restS s) c.Chunk) left := wrap64_of (by omega) (by omega)
      (repeat' (first | (with_reducible apply XL.op) | ((with_reducible apply XOp.p1); (case hg | hv => exact rfl)) | ((with_reducible apply XOp.store (i := 2)); (case hg | ht | hk | hx | hv | h1 | hi | hs | ha => exact rfl)) | (with_reducible apply XL.nilT) | (with_reducible apply XC.seq) | (with_reducible apply XC.region (Γ := Γ)) | (with_reducible apply XQ.skip) | (with_reducible apply XQ.nt) | ((with_reducible apply XP.p1); (case ho | hg | hv => exact rfl)) | ((with_reducible apply XP.load); (case ho | hg | ht | hk | hx => exact rfl); (case hc => exact own_cell (i := 2) rfl rfl)) | ((with_reducible apply XP.loadO (j := 1)); (case ho | hg | ht | hk | hx | hi | hc => exact rfl)) | ((with_reducible apply XP.e); (first | ((with_reducible apply XE.d); (case ho => exact rfl); (case hd => exact rfl)) | ((with_reducible apply XE.e); (case ho => exact rfl)))) | ((with_reducible apply XC.condF); (case hc => exact rfl)) | ((with_reducible apply XC.regionD (Γ := Γ) mixed (.q 0 (.q 1 (.q 2 (.q 3 (.q 4 (.q 5 (.q 6 (.q 7 (.e 8 (.q 9 (.q 10 (.q 11 (.e 12 (.done)))))))))))))) [12] []); (case hc => kernel_rfl))))
      ((with_reducible apply XOp.callQ (hF := refBeyond_fn wb c hc seats a cap o oa' oc' given left s hs hcl sv sc (min (min (restS s) c.Chunk) left) (by omega))); (case hg => exact rfl); (case hc => exact rfl); (case ha => exact rfl); try (case hA => exact Known.true))
      · exact known_RW (List.mem_cons_of_mem _ (List.mem_cons_of_mem _ (List.mem_cons_self ..))) (Known.of_old hst (Mono.sl _ _ _ _ _)) (Known.of_frag hO (Mono.sl _ _ _ _ _) (fun y hy => List.mem_cons_of_mem _ (List.mem_cons_of_mem _ (List.mem_cons_of_mem _ hy))))
      rintro _ rfl
      (repeat' (first | (with_reducible apply XL.op) | ((with_reducible apply XOp.p1); (case hg | hv => exact rfl)) | ((with_reducible apply XOp.load); (case hg | ht | hk | hx => exact rfl); (case hc => exact own_cell (i := 1) rfl rfl)) | ((with_reducible apply XOp.load); (case hg | ht | hk | hx => exact rfl); (case hc => exact own_cell (i := 2) rfl rfl)) | ((with_reducible apply XOp.store (i := 2)); (case hg | ht | hk | hx | hv | h1 | hi | hs | ha => exact rfl)) | ((with_reducible apply XOp.storeN (i := 0)); (case hg | ht | hx | hv' | hk | h1 | hi | hs | ha => exact rfl)) | ((with_reducible apply XOp.pr); (case hg => exact rfl); (case hr => ((with_reducible apply PR.build); (case ht | hk | hok | hz | hf => exact rfl)))) | (with_reducible apply XL.nilT) | (with_reducible apply XC.seq) | (with_reducible apply XC.region (Γ := Γ)) | (with_reducible apply XQ.ret) | (with_reducible apply XQ.nt) | (with_reducible apply XQ.rt) | ((with_reducible apply XP.p1); (case ho | hg | hv => exact rfl)) | (with_reducible apply XP.done) | ((with_reducible apply XP.e); (first | ((with_reducible apply XE.d); (case ho => exact rfl); (case hd => exact rfl)) | ((with_reducible apply XE.e); (case ho => exact rfl)))) | ((with_reducible apply XP.keep); (case hk => first | ((repeat' (first | exact List.forall_mem_nil _ | (with_reducible refine List.forall_mem_cons.2 ⟨?_, ?_⟩) | exact List.mem_cons_self .. | (with_reducible apply List.mem_cons_of_mem) | (with_reducible apply List.mem_append_right))); done) | (intro x hx; first | exact sel_in hx | exact List.mem_cons_of_mem _ (sel_in hx) | exact List.mem_append_right _ (sel_in hx) | exact hx | exact List.mem_cons_of_mem _ hx | exact List.mem_append_right _ hx | ((repeat (first | exact sel_in hx | exact hx | (with_reducible apply List.mem_cons_of_mem) | (with_reducible apply List.mem_append_right))); done) | cases hx)))))
      ((with_reducible apply XQ.retE); (case hr => exact .row rfl (by kernel_rfl) (by kernel_rfl) (Known.blk (List.mem_cons_self ..)) (.t rfl .nil)))
      refine ⟨(wb, .cells ⟨wcells c a seats.length cap (.slice oa' o.length oc') (IntKind.i64.wrap (given + beyondS c s (min (min (restS s) c.Chunk) left))) (IntKind.i64.wrap (left - min (min (restS s) c.Chunk) left))⟩ 63 (0, 0)) :: L',
        List.Sublist.cons _ (List.Sublist.cons _ (List.Sublist.refl _)), _, L', rfl, hov, by rw [eg, el]⟩
  · (repeat (first | (with_reducible apply XL.op) | ((with_reducible apply XOp.p1); (case hg | hv => exact rfl)) | ((with_reducible apply XOp.load); (case hg | ht | hk | hx => exact rfl); (case hc => exact own_cell (i := 1) rfl rfl)) | (with_reducible apply XL.nilT) | (with_reducible apply XC.seq) | (with_reducible apply XC.region (Γ := Γ)) | (with_reducible apply XQ.skip) | (with_reducible apply XQ.nt)))
    refine XC.cut (fun ρ L => L = [(rb, .cells ⟨[.int .i64 0, .int .i64 0, .int .i64 0]⟩ 42 (0, 0)), (sb, .cells ⟨s.cells (.slice sv s.Held.length sc)⟩ 46 (0, 0)), (wb, .cells ⟨wcells c a seats.length cap (.slice oa out.length oc) given left⟩ 63 (0, 0))] ∧
      Slots ρ [(0, .pointer (some ⟨wb, 0, none⟩)), (3, .pointer (some ⟨sb, 0, none⟩)), (4, .pointer (some ⟨rb, 0, none⟩)), (5, .bool false), (10, .int .i64 (max s.Want 1))]) _ ?_ ?_
    · ((with_reducible apply XC.cond); (case hc => exact rfl); all_goals (intro hb_; try simp only [pd_true, pd_false, Bool.not_eq_true', Bool.not_eq_false', Bool.and_eq_true, Bool.and_eq_false_iff, Bool.or_eq_true, Bool.or_eq_false_iff, not_true_eq_false, not_false_eq_true, Int.not_lt, Int.not_le] at hb_))
      · (repeat (first | (with_reducible apply XL.op) | ((with_reducible apply XOp.p1); (case hg | hv => exact rfl)) | (with_reducible apply XL.nilT) | (with_reducible apply XC.region (Γ := Γ))))
        exact ⟨rfl, rfl, rfl, rfl, rfl, by show Value.int _ _ = _; congr 1; omega, trivial⟩
      · (repeat (first | (with_reducible apply XQ.skip) | (with_reducible apply XQ.nt)))
        exact ⟨rfl, rfl, rfl, rfl, rfl, by show Value.int _ _ = _; congr 1; omega, trivial⟩
    rintro ρ L ⟨rfl, hsl⟩
    refine XC.slots _ hsl ?_
    (repeat (first | (with_reducible apply XL.op) | ((with_reducible apply XOp.p1); (case hg | hv => exact rfl)) | ((with_reducible apply XOp.loadO (i := 1)); (case hg | ht | hk | hx | hi | hc => exact rfl)) | (with_reducible apply XC.seq) | (with_reducible apply XC.region (Γ := Γ)) | (with_reducible apply XQ.nt) | ((with_reducible apply XP.p1); (case ho | hg | hv => exact rfl)) | ((with_reducible apply XP.load); (case ho | hg | ht | hk | hx => exact rfl); (case hc => exact own_cell (i := 2) rfl rfl)) | (with_reducible apply XP.done) | ((with_reducible apply XP.e); (first | ((with_reducible apply XE.d); (case ho => exact rfl); (case hd => exact rfl)) | ((with_reducible apply XE.e); (case ho => exact rfl)))) | ((with_reducible apply XP.keep); (case hk => first | ((repeat' (first | exact List.forall_mem_nil _ | (with_reducible refine List.forall_mem_cons.2 ⟨?_, ?_⟩) | exact List.mem_cons_self .. | (with_reducible apply List.mem_cons_of_mem) | (with_reducible apply List.mem_append_right))); done) | (intro x hx; first | exact sel_in hx | exact List.mem_cons_of_mem _ (sel_in hx) | exact List.mem_append_right _ (sel_in hx) | exact hx | exact List.mem_cons_of_mem _ hx | exact List.mem_append_right _ hx | ((repeat (first | exact sel_in hx | exact hx | (with_reducible apply List.mem_cons_of_mem) | (with_reducible apply List.mem_append_right))); done) | cases hx))) | ((with_reducible apply XC.regionD (Γ := Γ) mixed (.q 0 (.q 1 (.q 2 (.q 3 (.q 4 (.q 5 (.q 6 (.q 7 (.q 8 (.q 9 (.e 10 (.q 11 (.done))))))))))))) [] []); (case hc => kernel_rfl)) | (((with_reducible apply XOp.callQ (hF := least_fn (max s.Want 1) c.Tree left)); (case hg => exact rfl); (case hc => exact rfl); (case ha => exact rfl); try (case hA => exact Known.true)); rintro _ rfl)))
    ((with_reducible apply XOp.call (hF := refMade_fn wb c hc seats T hT hp hTl a cap out hol oa oc given left (by omega) s hs hsk hcl sv sc 1 (by omega))); (case hg => exact rfl); (case hc => exact rfl); (case ha => exact rfl); (case hL => exact (List.nil_append _).symm); try (case hA => exact Known.true))
    · exact known_RW (List.mem_cons_of_mem _ (List.mem_cons_of_mem _ (List.mem_singleton.2 rfl))) (Known.of_old hst (Mono.sl _ _ _ _ _)) (Known.of_old hout (Mono.sl _ _ _ _ _))
    intro v L' hpost
    unfold servedS
    rw [if_neg (by omega)]
    rcases hm : made c T given s 1 (T.length + 1) out with _ | o <;> rw [hm] at hpost
    · obtain ⟨rfl, rfl⟩ := hpost
      (repeat' (first | (with_reducible apply XL.op) | ((with_reducible apply XOp.p1); (case hg | hv => exact rfl)) | ((with_reducible apply XOp.storeN (i := 0)); (case hg | ht | hx | hv' | hk | h1 | hi | hs | ha => exact rfl)) | ((with_reducible apply XOp.pr); (case hg => exact rfl); (case hr => ((with_reducible apply PR.build); (case ht | hk | hok | hz | hf => exact rfl)))) | (with_reducible apply XL.nilT) | (with_reducible apply XC.seq) | (with_reducible apply XC.region (Γ := Γ)) | (with_reducible apply XQ.ret) | (with_reducible apply XQ.rt) | ((with_reducible apply XC.condT); (case hc => exact rfl))))
      ((with_reducible apply XQ.retE); (case hr => exact .row rfl (by kernel_rfl) (by kernel_rfl) (Known.blk (List.mem_cons_self ..)) (.t rfl .nil)))
      exact ⟨_, List.Sublist.cons _ (List.Sublist.cons _ (List.Sublist.refl _)), rfl, rfl⟩
    · obtain ⟨vo, rfl, hov⟩ := hpost
      have hlo := made_len hm
      obtain ⟨oa', oc', rfl, _, hO⟩ := hov.1.slA (by_ := 8) hov.2 (by omega)
      refine XL.perm ?_ List.perm_append_comm
      (repeat' (first | (with_reducible apply XL.op) | ((with_reducible apply XOp.p1); (case hg | hv => exact rfl)) | ((with_reducible apply XOp.store (i := 2)); (case hg | ht | hk | hx | hv | h1 | hi | hs | ha => exact rfl)) | (with_reducible apply XL.nilT) | (with_reducible apply XC.seq) | (with_reducible apply XC.region (Γ := Γ)) | (with_reducible apply XQ.skip) | (with_reducible apply XQ.nt) | (with_reducible apply XC.block) | ((with_reducible apply XC.condF); (case hc => exact rfl))))
      have hfit := made_fits hm
      obtain ⟨A0, hA0, hA1, hA2⟩ : ∃ A0 : Nat, (A0 : Int) = min (min (max s.Want 1) c.Tree) left ∧ 1 ≤ A0 ∧ A0 ≤ 32 := ⟨(min (min (max s.Want 1) c.Tree) left).toNat, by omega, by omega, by omega⟩
      have hA3 : (min (min (max s.Want 1) c.Tree) left).toNat = A0 := by omega
      rw [hA3]
      have hpos := fitN_pos hfit A0 hA1
      have hle := fitN_le c s (freeS c T o given) A0
      refine XC.loop (fun k ρ L => L = (rb, .cells ⟨[.int .i64 0, .int .i64 0, .int .i64 0]⟩ 42 (0, 0)) :: (sb, .cells ⟨s.cells (.slice sv s.Held.length sc)⟩ 46 (0, 0)) :: (wb, .cells ⟨wcells c a seats.length cap (.slice oa' o.length oc') given left⟩ 63 (0, 0)) :: L' ∧
        1 ≤ k ∧ k ≤ A0 ∧ fitN c s (freeS c T o given) k = fitN c s (freeS c T o given) A0 ∧
        Slots ρ [(0, .pointer (some ⟨wb, 0, none⟩)), (3, .pointer (some ⟨sb, 0, none⟩)), (4, .pointer (some ⟨rb, 0, none⟩)), (11, .int .i64 k), (12, .slice oa' o.length oc')]) A0 ⟨rfl, hA1, Nat.le_refl _, rfl, rfl, rfl, rfl, by show Value.int _ _ = _; rw [← hA0], rfl, trivial⟩ ?_
      rintro k ρ L ⟨rfl, hk1, hk2, hkf, hsl2⟩
      refine XC.slots _ hsl2 ?_
      (repeat (first | (with_reducible apply XL.op) | ((with_reducible apply XOp.p1); (case hg | hv => exact rfl)) | ((with_reducible apply XOp.loadO (i := 1)); (case hg | ht | hk | hx | hi | hc => exact rfl)) | (with_reducible apply XC.seq) | (with_reducible apply XC.region (Γ := Γ))))
      ((with_reducible apply XOp.callQ (hF := refRoom_fn wb c hc seats a cap o oa' oc' given left (by omega) s hs hcl sv sc k (by omega) o oa' oc')); (case hg => exact rfl); (case hc => exact rfl); (case ha => exact rfl); try (case hA => exact Known.true))
      · exact (known_RW (List.mem_cons_of_mem _ (List.mem_cons_of_mem _ (List.mem_cons_self ..))) (Known.of_old hst (Mono.sl _ _ _ _ _)) (Known.of_frag hO (Mono.sl _ _ _ _ _) (fun y hy => List.mem_cons_of_mem _ (List.mem_cons_of_mem _ (List.mem_cons_of_mem _ hy))))).and (Known.of_frag hO (Mono.sl _ _ _ _ _) (fun y hy => List.mem_cons_of_mem _ (List.mem_cons_of_mem _ (List.mem_cons_of_mem _ hy))))
      rintro _ rfl
      rw [← free_perm hp]
      (repeat (first | (with_reducible apply XL.op) | ((with_reducible apply XOp.p1); (case hg | hv => exact rfl)) | (with_reducible apply XL.nilT)))
      ((with_reducible apply XC.cond); (case hc => exact rfl); all_goals (intro hb_; try simp only [pd_true, pd_false, Bool.not_eq_true', Bool.not_eq_false', Bool.and_eq_true, Bool.and_eq_false_iff, Bool.or_eq_true, Bool.or_eq_false_iff, not_true_eq_false, not_false_eq_true, Int.not_lt, Int.not_le] at hb_))
      · obtain ⟨k, rfl⟩ : ∃ k', k = k' + 1 := ⟨k - 1, by omega⟩
        have hnf : ¬ beyondS c s ((k + 1 : Nat) : Int) ≤ freeS c T o given := by omega
        have hk0 : 1 ≤ k := by
          rcases Nat.eq_zero_or_pos k with h | h
          · subst h; exact absurd hfit hnf
          · exact h
        (repeat (first | (with_reducible apply XL.op) | ((with_reducible apply XOp.p1); (case hg | hv => exact rfl)) | (with_reducible apply XC.region (Γ := Γ)) | (with_reducible apply XL.nilQ) | (with_reducible apply XQ.skip) | (with_reducible apply XQ.nt) | (with_reducible apply XQ.nb) | (with_reducible apply XC.block)))
        refine ⟨k, by omega, rfl, hk0, by omega, by rw [← hkf, fitN_step hnf], rfl, rfl, rfl, ?_, rfl, trivial⟩
        show Value.int _ _ = _
        rw [wrap64_of (by omega) (by omega)]; congr 1; omega
      · have hka : k = fitN c s (freeS c T o given) A0 := by rw [← hkf, fitN_stop (by omega)]
        have hbx := beyond_le hc hs (x := k) (by omega)
        have eg : IntKind.i64.wrap (given + beyondS c s k) = given + beyondS c s k := wrap64_of (by omega) (by omega)
        have el : IntKind.i64.wrap (left - k) = left - k := wrap64_of (by omega) (by omega)
        (repeat' (first | (with_reducible apply XC.seq) | (with_reducible apply XQ.exit) | (with_reducible apply XQ.nt) | (with_reducible apply XQ.et) | ((with_reducible apply XP.p1); (case ho | hg | hv => exact rfl)) | ((with_reducible apply XP.load); (case ho | hg | ht | hk | hx => exact rfl); (case hc => exact own_cell (i := 2) rfl rfl)) | ((with_reducible apply XP.loadO (j := 1)); (case ho | hg | ht | hk | hx | hi | hc => exact rfl)) | ((with_reducible apply XP.e); (first | ((with_reducible apply XE.d); (case ho => exact rfl); (case hd => exact rfl)) | ((with_reducible apply XE.e); (case ho => exact rfl)))) | ((with_reducible apply XQ.eb); (case hb => exact rfl)) | ((with_reducible apply XC.regionD (Γ := Γ) mixed (.q 0 (.q 1 (.q 2 (.q 3 (.q 4 (.q 5 (.q 6 (.q 7 (.e 8 (.q 9 (.q 10 (.q 11 (.e 12 (.done)))))))))))))) [12] []); (case hc => kernel_rfl))))
        ((with_reducible apply XOp.callQ (hF := refBeyond_fn wb c hc seats a cap o oa' oc' given left s hs hcl sv sc k (by omega))); (case hg => exact rfl); (case hc => exact rfl); (case ha => exact rfl); try (case hA => exact Known.true))
        · exact known_RW (List.mem_cons_of_mem _ (List.mem_cons_of_mem _ (List.mem_cons_self ..))) (Known.of_old hst (Mono.sl _ _ _ _ _)) (Known.of_frag hO (Mono.sl _ _ _ _ _) (fun y hy => List.mem_cons_of_mem _ (List.mem_cons_of_mem _ (List.mem_cons_of_mem _ hy))))
        rintro _ rfl
        (repeat' (first | (with_reducible apply XL.op) | ((with_reducible apply XOp.p1); (case hg | hv => exact rfl)) | ((with_reducible apply XOp.load); (case hg | ht | hk | hx => exact rfl); (case hc => exact own_cell (i := 1) rfl rfl)) | ((with_reducible apply XOp.load); (case hg | ht | hk | hx => exact rfl); (case hc => exact own_cell (i := 2) rfl rfl)) | ((with_reducible apply XOp.store (i := 2)); (case hg | ht | hk | hx | hv | h1 | hi | hs | ha => exact rfl)) | ((with_reducible apply XOp.storeN (i := 0)); (case hg | ht | hx | hv' | hk | h1 | hi | hs | ha => exact rfl)) | ((with_reducible apply XOp.pr); (case hg => exact rfl); (case hr => ((with_reducible apply PR.build); (case ht | hk | hok | hz | hf => exact rfl)))) | (with_reducible apply XL.nilT) | (with_reducible apply XC.seq) | (with_reducible apply XC.region (Γ := Γ)) | (with_reducible apply XQ.ret) | (with_reducible apply XQ.nt) | ((with_reducible apply XP.p1); (case ho | hg | hv => exact rfl)) | (with_reducible apply XP.done) | ((with_reducible apply XP.e); (first | ((with_reducible apply XE.d); (case ho => exact rfl); (case hd => exact rfl)) | ((with_reducible apply XE.e); (case ho => exact rfl)))) | ((with_reducible apply XP.keep); (case hk => first | ((repeat' (first | exact List.forall_mem_nil _ | (with_reducible refine List.forall_mem_cons.2 ⟨?_, ?_⟩) | exact List.mem_cons_self .. | (with_reducible apply List.mem_cons_of_mem) | (with_reducible apply List.mem_append_right))); done) | (intro x hx; first | exact sel_in hx | exact List.mem_cons_of_mem _ (sel_in hx) | exact List.mem_append_right _ (sel_in hx) | exact hx | exact List.mem_cons_of_mem _ hx | exact List.mem_append_right _ hx | ((repeat (first | exact sel_in hx | exact hx | (with_reducible apply List.mem_cons_of_mem) | (with_reducible apply List.mem_append_right))); done) | cases hx)))))
        ((with_reducible apply XQ.retE); (case hr => exact .row rfl (by kernel_rfl) (by kernel_rfl) (Known.blk (List.mem_cons_self ..)) (.t rfl .nil)))
        refine ⟨(wb, .cells ⟨wcells c a seats.length cap (.slice oa' o.length oc') (IntKind.i64.wrap (given + beyondS c s k)) (IntKind.i64.wrap (left - k))⟩ 63 (0, 0)) :: L',
          List.Sublist.cons _ (List.Sublist.cons _ (List.Sublist.refl _)), _, L', ?_, hov, ?_⟩
        · show Value.tuple #[.agg ⟨[.int .i64 s.Id, .int .i64 0, .int .i64 k]⟩, .bool true] = Value.tuple #[.agg ⟨[.int .i64 s.Id, .int .i64 0, .int .i64 (fitN c s (freeS c T o given) A0)]⟩, .bool true]
          rw [← hka]
        · rw [← hka, eg, el]
end Go.Proofs.YthnmagdaepgdiaaX
