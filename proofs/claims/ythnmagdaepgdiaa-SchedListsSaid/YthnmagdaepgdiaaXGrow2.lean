/- Comparisons with nil; appending what lies elsewhere; an empty literal. -/
import Derived.Test.YthnmagdaepgdiaaXScp
import Derived.Laws.Cover3
set_option linter.unusedSimpArgs false
set_option linter.unusedVariables false
namespace Go.SX
open Go Go.RowKit
section
variable {P : Program} {Γ : Env P} {n : Nat} {w0 : World} {K : List Nat} {Q : Exit → Fr → HL → Prop} {ρ : Fr} {L R F : HL} {ops : List Oper} {N : Fr → HL → Prop}

theorem guard_slice (op : BinOp) (t : Nat) (x y : Operand) (a : Option Addr) (l c : Nat) (v : Value) (w : World) : (eqGuard op t x y (.slice a l c) v).run P w = .ok () w := by
  unfold eqGuard; cases op <;> first | rfl | (cases v <;> rfl)
/-- x == nil of a slice. -/
theorem PR.eqNilS {t ty e l c : Nat} {a : Option Addr} {x y : Operand} {r : TR} (ht : Γ.get t = some r) (hk : r.k = .slice e) (hx : ev n ρ x = .slice a l c) (hy : ev n ρ y = .slice none 0 0) :
    PR Γ n w0 K ρ L (.binOp .eql t x y ty) (.bool a.isNone) := ⟨fun o ho w ow => by
  unfold execOp; rw [ho]
  refine run_value ?_
  rw [hx, hy, bind_run (guard_slice _ _ _ _ _ _ _ _ w)]
  show (((Op.equal t (.slice a l c) (.slice none 0 0)) >>= fun b => pure (Value.bool b)) : Sem Value).run P w = _
  rw [bind_run (run_equal_slice_nil w t e a l c (tk_slice (Γ.is ht) hk))]; rfl⟩
theorem PR.neNilS {t ty e l c : Nat} {a : Option Addr} {x y : Operand} {r : TR} (ht : Γ.get t = some r) (hk : r.k = .slice e) (hx : ev n ρ x = .slice a l c) (hy : ev n ρ y = .slice none 0 0) :
    PR Γ n w0 K ρ L (.binOp .neq t x y ty) (.bool (!a.isNone)) := ⟨fun o ho w ow => by
  unfold execOp; rw [ho]
  refine run_value ?_
  rw [hx, hy, bind_run (guard_slice _ _ _ _ _ _ _ _ w)]
  show (((Op.equal t (.slice a l c) (.slice none 0 0)) >>= fun b => pure (Value.bool (!b))) : Sem Value).run P w = _
  rw [bind_run (run_equal_slice_nil w t e a l c (tk_slice (Γ.is ht) hk))]; rfl⟩
/-- []T{}. -/
theorem XOp.buildSlice0 {d t e : Nat} {ty : Nat} {pos : String} {af : Array Edge} {g : Option (Nat × Bool)} {r re : TR} (hg : gval n ρ ops g = some true) (ht : Γ.get t = some r) (hk : r.k = .slice e) (he : Γ.get e = some re)
    (h : ∀ b, N (upd ρ d (.slice (some ⟨b, 0, none⟩) 0 0)) ((b, .cells ⟨[]⟩ e (0, 0)) :: L)) :
    XOp Γ n w0 K ops { dst := some d, op := .buildSlice t 0 #[], type := ty, pos := pos, after := af, guard := g } N ρ L := by
  refine XOp.val hg fun w ow => ⟨.slice (some ⟨w.heap.size, 0, none⟩) 0 0, w.alloc (.cells ⟨[]⟩ e (0, 0)), _, ?_, ow.new _, h w.heap.size⟩
  refine run_value ?_
  unfold Instr.buildSlice
  rw [bind_run (underlying_run (tk_slice (Γ.is ht) hk) w)]
  simp only
  rw [bind_run (size_run (Γ.is he) w)]
  simp only [Nat.zero_mul]
  rw [if_neg (by decide), if_pos trivial]
  have e0 : (Array.map (fun x => (#[] : Array Value)[x % (#[] : Array Value).size]!) (Array.range 0)) = #[] := by simp
  have e1 : (Array.map (fun x : Nat × Operand => (x.fst, ev n ρ x.snd)) #[]).toList = [] := by simp
  rw [bind_run (show (pure #[] : Sem (Array Value)).run P w = .ok #[] w from rfl), e0, e1]
  rfl
theorem OwnS.empty {b e sz : Nat} : OwnS e sz (.slice (some ⟨b, 0, none⟩) 0 0) 0 [] [(b, .cells ⟨[]⟩ e (0, 0))] := ⟨by simp, .inr ⟨b, 0, [], rfl, rfl, Nat.le_refl _, Nat.zero_le _, by simp⟩⟩

theorem lenOf_slice (a : Option Addr) (l c : Nat) (w : World) : (Builtin.lenOf (.slice a l c)).run P w = .ok l w := rfl
/-- append(s, x..), x lying anywhere. -/
theorem XOp.appendG {d k c t e m : Nat} {ty : Nat} {s x : Operand} {pos : String} {af : Array Edge} {g : Option (Nat × Bool)} {a : Option Addr} {r re : TR} {v : Value} {xs news : List Value}
    (hg : gval n ρ ops g = some true) (ht : Γ.get t = some r) (hk : r.k = .slice e) (he : Γ.get e = some re) (hs : ev n ρ s = v) (hx : ev n ρ x = .slice a k c)
    (hown : OwnS e re.sz v m xs F) (hL : L = F ++ R) (ha : 0 < k → a = some ⟨ablk a, aoff a, none⟩) (hc : 0 < k → Known w0 K L (fun h => rowv h (ablk a) (aoff a) news)) (hl : news.length = k * re.sz) (h1 : news.all (·.oneCell') = true)
    (hz : (cellsL re.z).length = re.sz) (hsz : 0 < re.sz) (h63 : m + k ≤ maxLen) (hb : (m + k) * re.by_ ≤ 140737488355328)
    (h : ∀ v' F', OwnS e re.sz v' (m + k) (xs ++ news) F' → N (upd ρ d v') (F' ++ R)) :
    XOp Γ n w0 K ops { dst := some d, op := .call { callee := .builtin .append, args := #[s, x], argTypes := #[t, t] }, type := ty, pos := pos, after := af, guard := g } N ρ L := by
  refine XOp.val hg fun w ow => ?_
  subst hL
  have hbt := tk_slice (Γ.is ht) hk
  obtain ⟨i, hi, his, hib, hiz⟩ := (Γ.is he).i
  obtain ⟨cs, hrun⟩ := call_builtin (P := P) (n := n) (ρ := ρ) (b := .append) (ts := #[t, t]) (xs := #[s, x])
    (o := { dst := some d, op := .call { callee := .builtin .append, args := #[s, x], argTypes := #[t, t] }, type := ty, pos := pos, after := af, guard := g }) rfl w
  rw [hrun]
  have hargs : (args n ρ #[s, x]).toArray = #[v, .slice a k c] := by simp [args, hs, hx]
  rw [hargs]
  have hsm : m + k ≤ 9223372036854775807 := by simp only [maxLen] at h63; omega
  have hv : ∀ {v' w'}, (Builtin.append_ #[t, t] ty #[v, .slice a k c]).run P w = .ok v' w' →
      (builtin .append #[t, t] ty cs #[v, .slice a k c]).run P w = .ok (.value v') w' := fun h => run_value h
  have orr := ow.right
  by_cases hk0 : k = 0
  · subst hk0
    have hn : news = [] := List.eq_nil_of_length_eq_zero (by simpa using hl)
    subst hn
    refine ⟨v, w, F ++ R, hv ?_, ow, h _ _ (hown.conv rfl (by simp))⟩
    obtain ⟨a', c', rfl⟩ := hown.val
    have hmc : m ≤ c' := by
      rcases hown.2 with ⟨e1, e2, _⟩ | ⟨g, cap, sp, e1, _, hle, _⟩
      · omega
      · simp only [Value.slice.injEq] at e1; omega
    cases a <;> cases a' <;> simp [Builtin.append_, run_underlying hbt, sizeOf, typeInfo, hi, Builtin.lenOf, Builtin.firstCells, loadCells, loadCellsFrom, hmc, storeCells]
  have hax := ha (by omega)
  have hnews : ∀ j u, news[j]? = some u → w.cell? ((⟨ablk a, aoff a, none⟩ : Addr).add j) = some u := fun j u hj => by
    rw [add_off]; exact (hc (by omega)).at ow j u hj
  rw [hax] at hv
  have hall : ∀ u ∈ news, u.oneCell' = true := fun u hu => List.all_eq_true.1 h1 u hu
  have grown : ∀ (old : Nat), old < m + k → OwnS e re.sz (.slice (some ⟨w.heap.size, 0, none⟩) (m + k) (grownCap w (m + k) old e)) (m + k) (xs ++ news)
      [(w.heap.size, .cells ⟨(xs ++ news) ++ (Builtin.zeroCells i.zero.get!.cells (grownCap w (m + k) old e - (m + k))).toList⟩ e (0, 0))] := by
    intro old ho
    have hge := grownCap_ge w (m + k) old e
    have hcm : grownCap w (m + k) old e ≤ maxLen := grownCap_le_maxLen w (m + k) old e h63
    have hlen : (xs ++ news).length = (m + k) * re.sz := by rw [List.length_append, hown.1, hl, Nat.add_mul]
    refine ⟨hlen, .inr ⟨_, _, _, rfl, rfl, hge, hcm, ?_⟩⟩
    rw [List.length_append, hlen, Array.length_toList, size_zeroCells, hiz]
    simp only [Option.get!_some, cellsL_eq, List.size_toArray, hz, ← Nat.add_mul]
    congr 1; omega
  rw [hax]
  rcases hown.2 with ⟨rfl, rfl, rfl⟩ | ⟨gb, cap, sp, rfl, rfl, hnc, hcm, hcs⟩
  · have hx0 : xs = [] := List.eq_nil_of_length_eq_zero (by simpa using hown.1)
    subst hx0
    have hr := run_append_nil (P := P) w t ty e i re.z hbt hi hiz ⟨ablk a, aoff a, none⟩ k c news (by rw [hl, his]) hnews (by omega) (by omega) (by rw [hib]; simp only [Nat.zero_add] at hb; omega)
    have hg0 := grown 0 (by omega)
    simp only [Nat.zero_add, List.nil_append] at hg0 ⊢ hr
    refine ⟨_, _, _, hv hr, ?_, h _ _ (by simpa using hg0)⟩
    have := orr.new' (.cells (news.toArray ++ Builtin.zeroCells re.z.cells (grownCap w k 0 e - k)) e (0, 0))
    have e1 : (news.toArray ++ Builtin.zeroCells re.z.cells (grownCap w k 0 e - k)) = ⟨news ++ (Builtin.zeroCells i.zero.get!.cells (grownCap w k 0 e - k)).toList⟩ := by
      refine Array.ext' ?_; simp [hiz]
    rw [e1] at this ⊢
    exact this
  · by_cases hroom : m + k ≤ cap
    · have hgb := ow.has _ (List.mem_append_left _ (List.mem_singleton.2 rfl))
      have hfit : m * i.size + news.length ≤ (Array.mk (xs ++ sp)).size := by
        rw [his, hl, List.size_toArray, hcs, ← Nat.add_mul]; exact Nat.mul_le_mul_right _ hroom
      have hr := run_append_room (P := P) w t ty e i hbt hi gb m cap ⟨xs ++ sp⟩ hgb ⟨ablk a, aoff a, none⟩ k c news (by rw [hl, his]) hnews hall hroom hfit
      rw [setRow_putB hgb] at hr
      have hxl : xs.length = m * i.size := by rw [hown.1, his]
      have e1 : ((xs ++ sp).take (m * i.size) ++ news ++ (xs ++ sp).drop (m * i.size + news.length)) = (xs ++ news) ++ sp.drop news.length := by
        rw [← hxl, List.take_left, List.drop_append, List.drop_of_length_le (by omega)]
        simp
      rw [e1] at hr
      refine ⟨_, _, [(gb, .cells ⟨(xs ++ news) ++ sp.drop news.length⟩ e (0, 0))] ++ R, hv hr, ?_, h _ _ ⟨by rw [List.length_append, hown.1, hl, Nat.add_mul], .inr ⟨gb, cap, _, rfl, rfl, hroom, hcm, ?_⟩⟩⟩
      · exact ow.put (i := 0) (b := gb) (ob := .cells ⟨xs ++ sp⟩ e (0, 0)) rfl rfl
      · rw [← hcs]
        simp only [List.length_append, List.length_drop]
        rw [his] at hfit
        simp only [List.size_toArray, List.length_append] at hfit
        have := hown.1
        omega
    · have hgb := ow.has _ (List.mem_append_left _ (List.mem_singleton.2 rfl))
      have holds : ∀ j u, xs[j]? = some u → w.cell? ((⟨gb, 0, none⟩ : Addr).add j) = some u := fun j u hj => by
        rw [add_off]; simp only at hgb
        have hj' := (List.getElem?_eq_some_iff.1 hj).1
        simp [World.cell?, hgb, List.getElem?_append_left hj', hj]
      have hr := run_append_grow (P := P) w t ty e i re.z hbt hi hiz ⟨gb, 0, none⟩ m cap xs (by rw [hown.1, his]) holds ⟨ablk a, aoff a, none⟩ k c news (by rw [hl, his]) hnews (by omega) (by omega) (growslice_fits (by omega) (by rw [hib]; exact hb))
      refine ⟨_, _, _, hv hr, ?_, h _ _ (grown cap (by omega))⟩
      have := orr.new' (.cells (xs.toArray ++ news.toArray ++ Builtin.zeroCells re.z.cells (grownCap w (m + k) cap e - (m + k))) e (0, 0))
      have e1 : (xs.toArray ++ news.toArray ++ Builtin.zeroCells re.z.cells (grownCap w (m + k) cap e - (m + k))) = ⟨(xs ++ news) ++ (Builtin.zeroCells i.zero.get!.cells (grownCap w (m + k) cap e - (m + k))).toList⟩ := by
        refine Array.ext' ?_; simp [hiz]
      rw [e1] at this ⊢
      exact this
end
end Go.SX
