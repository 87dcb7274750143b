/- Slices that a call makes and lets grow; stores at reckoned places. -/
import Derived.Test.YthnmagdaepgdiaaXMem
set_option linter.unusedSimpArgs false
set_option linter.unusedVariables false
namespace Go.SX
open Go Go.RowKit

/-- A slice of the call's own: its value, how many elements, their cells; F: the block that it has. -/
def OwnS (e sz : Nat) (v : Value) (m : Nat) (xs : List Value) (F : HL) : Prop :=
  xs.length = m * sz ∧ ((v = .slice none 0 0 ∧ m = 0 ∧ F = []) ∨
    ∃ g cap sp, v = .slice (some ⟨g, 0, none⟩) m cap ∧ F = [(g, .cells ⟨xs ++ sp⟩ e (0, 0))] ∧ m ≤ cap ∧ cap ≤ maxLen ∧ (xs ++ sp).length = cap * sz)
theorem OwnS.val {e sz : Nat} {v : Value} {m : Nat} {xs : List Value} {F : HL} (h : OwnS e sz v m xs F) : ∃ a c, v = .slice a m c := by
  rcases h.2 with ⟨rfl, rfl, _⟩ | ⟨g, cap, sp, rfl, _⟩
  · exact ⟨_, _, rfl⟩
  · exact ⟨_, _, rfl⟩
theorem OwnS.conv {e sz : Nat} {v : Value} {m m' : Nat} {xs xs' : List Value} {F : HL} (h : OwnS e sz v m xs F) (hm : m = m') (hx : xs = xs') : OwnS e sz v m' xs' F := by subst hm; subst hx; exact h
theorem OwnS.nil (e sz : Nat) : OwnS e sz (.slice none 0 0) 0 [] [] := ⟨by simp, .inl ⟨rfl, rfl, rfl⟩⟩

section
variable {P : Program} {Γ : Env P} {n : Nat} {w0 : World} {K : List Nat} {Q : Exit → Fr → HL → Prop} {ρ : Fr} {L R F : HL} {ops : List Oper} {N : Fr → HL → Prop}

theorem setRow_putB {w : World} {g : Nat} {cs : Array Value} {t : Nat} (hg : w.heap[g]? = some (.cells cs t (0, 0))) (cs' : Array Value) : w.setRow g cs' = putB w g (.cells cs' t (0, 0)) := by
  unfold World.setRow putB
  obtain ⟨hb, he⟩ := Array.getElem?_eq_some_iff.1 hg
  congr 1
  refine Array.ext (by simp) fun j h1 h2 => ?_
  rw [Array.getElem_modify]
  by_cases hj : g = j
  · subst hj; simp [he]
  · rw [if_neg hj, getElem_set_ne hj]

theorem Own.tail {x : Nat × Obj} {w : World} (o : Own w0 K (x :: L) w) : Own w0 K L w :=
  o.sub (fun y hy => List.mem_cons_of_mem _ hy) (List.nodup_cons.1 o.nodup).2
theorem Own.right {w : World} (o : Own w0 K (F ++ R) w) : Own w0 K R w := by
  refine o.sub (fun y hy => List.mem_append_right _ hy) ?_
  have := o.nodup
  unfold keys at this; rw [List.map_append, List.nodup_append] at this; exact this.2.1
theorem Own.new' {w : World} (o : Own w0 K L w) (ob : Obj) : Own w0 K ((w.heap.size, ob) :: L) (w.drew.alloc ob) := by
  have h1 : Own w0 K L w.drew := o.drew
  exact h1.new ob

theorem call_builtin {b : Builtin} {ts : Array Nat} {xs : Array Operand} {o : Oper} (ho : o.op = .call { callee := .builtin b, args := xs, argTypes := ts }) (w : World) :
    ∃ cs, (execOp (ev n ρ) o).run P w = (builtin b ts o.type cs (args n ρ xs).toArray).run P w := by
  unfold execOp; rw [ho]
  simp only [resolve, map_args]
  exact ⟨_, rfl⟩

/-- append(s, x..), x lying in a block that was made for it. -/
theorem XOp.append1 {d b k c te t e m : Nat} {fz : Nat × Nat} {ty : Nat} {s x : Operand} {pos : String} {af : Array Edge} {g : Option (Nat × Bool)} {r re : TR} {v : Value} {xs news : List Value}
    (hg : gval n ρ ops g = some true) (ht : Γ.get t = some r) (hk : r.k = .slice e) (he : Γ.get e = some re) (hs : ev n ρ s = v) (hx : ev n ρ x = .slice (some ⟨b, 0, none⟩) k c)
    (hown : OwnS e re.sz v m xs F) (hL : L = (b, .cells ⟨news⟩ te fz) :: (F ++ R)) (hl : news.length = k * re.sz) (h1 : news.all (·.oneCell') = true)
    (hz : (cellsL re.z).length = re.sz) (hsz : 0 < re.sz) (h63 : m + k ≤ maxLen) (hb : (m + k) * re.by_ ≤ 140737488355328) (hk0 : 0 < k)
    (h : ∀ v' F', OwnS e re.sz v' (m + k) (xs ++ news) F' → N (upd ρ d v') (F' ++ R)) :
    XOp Γ n w0 K ops { dst := some d, op := .call { callee := .builtin .append, args := #[s, x], argTypes := #[t, t] }, type := ty, pos := pos, after := af, guard := g } N ρ L := by
  refine XOp.val hg fun w ow => ?_
  subst hL
  have hbt := tk_slice (Γ.is ht) hk
  obtain ⟨i, hi, his, hib, hiz⟩ := (Γ.is he).i
  obtain ⟨cs, hrun⟩ := call_builtin (P := P) (n := n) (ρ := ρ) (b := .append) (ts := #[t, t]) (xs := #[s, x])
    (o := { dst := some d, op := .call { callee := .builtin .append, args := #[s, x], argTypes := #[t, t] }, type := ty, pos := pos, after := af, guard := g }) rfl w
  rw [hrun]
  have hargs : (args n ρ #[s, x]).toArray = #[v, .slice (some ⟨b, 0, none⟩) k c] := by simp [args, hs, hx]
  rw [hargs]
  have hblk := ow.has _ (List.mem_cons_self ..)
  have hnews : ∀ j u, news[j]? = some u → w.cell? ((⟨b, 0, none⟩ : Addr).add j) = some u := fun j u hj => by
    rw [add_off]; simp only at hblk; simp [World.cell?, hblk, hj]
  have hsm : m + k ≤ 9223372036854775807 := by simp only [maxLen] at h63; omega
  have hv : ∀ {v' w'}, (Builtin.append_ #[t, t] ty #[v, .slice (some ⟨b, 0, none⟩) k c]).run P w = .ok v' w' →
      (builtin .append #[t, t] ty cs #[v, .slice (some ⟨b, 0, none⟩) k c]).run P w = .ok (.value v') w' := fun h => run_value h
  have otl := ow.tail
  have orr := otl.right
  have hall : ∀ u ∈ news, u.oneCell' = true := fun u hu => List.all_eq_true.1 h1 u hu
  have grown : ∀ (old : Nat), old < m + k → OwnS e re.sz (.slice (some ⟨w.heap.size, 0, none⟩) (m + k) (grownCap w (m + k) old e)) (m + k) (xs ++ news)
      [(w.heap.size, .cells ⟨(xs ++ news) ++ (Builtin.zeroCells i.zero.get!.cells (grownCap w (m + k) old e - (m + k))).toList⟩ e (0, 0))] := by
    intro old ho
    have hge := grownCap_ge w (m + k) old e
    have hcm : grownCap w (m + k) old e ≤ maxLen := grownCap_le_maxLen w (m + k) old e h63
    have hlen : (xs ++ news).length = (m + k) * re.sz := by rw [List.length_append, hown.1, hl, Nat.add_mul]
    refine ⟨hlen, .inr ⟨_, _, _, rfl, rfl, hge, hcm, ?_⟩⟩
    rw [List.length_append, hlen, Array.length_toList, size_zeroCells, hiz]
    simp only [Option.get!_some, cellsL_eq, List.size_toArray, hz, ← Nat.add_mul]
    congr 1; omega
  rcases hown.2 with ⟨rfl, rfl, rfl⟩ | ⟨gb, cap, sp, rfl, rfl, hnc, hcm, hcs⟩
  · have hx0 : xs = [] := List.eq_nil_of_length_eq_zero (by simpa using hown.1)
    subst hx0
    have hr := run_append_nil (P := P) w t ty e i re.z hbt hi hiz ⟨b, 0, none⟩ k c news (by rw [hl, his]) hnews hk0 (by omega) (by rw [hib]; simp only [Nat.zero_add] at hb; omega)
    have hg0 := grown 0 (by omega)
    simp only [Nat.zero_add, List.nil_append] at hg0 ⊢ hr
    refine ⟨_, _, _, hv hr, ?_, h _ _ (by simpa using hg0)⟩
    have := orr.new' (.cells (news.toArray ++ Builtin.zeroCells re.z.cells (grownCap w k 0 e - k)) e (0, 0))
    have e1 : (news.toArray ++ Builtin.zeroCells re.z.cells (grownCap w k 0 e - k)) = ⟨news ++ (Builtin.zeroCells i.zero.get!.cells (grownCap w k 0 e - k)).toList⟩ := by
      refine Array.ext' ?_; simp [hiz]
    rw [e1] at this ⊢
    exact this
  · by_cases hroom : m + k ≤ cap
    · have hgb := otl.has _ (List.mem_append_left _ (List.mem_singleton.2 rfl))
      have hfit : m * i.size + news.length ≤ (Array.mk (xs ++ sp)).size := by
        rw [his, hl, List.size_toArray, hcs, ← Nat.add_mul]; exact Nat.mul_le_mul_right _ hroom
      have hr := run_append_room (P := P) w t ty e i hbt hi gb m cap ⟨xs ++ sp⟩ hgb ⟨b, 0, none⟩ k c news (by rw [hl, his]) hnews hall hroom hfit
      rw [setRow_putB hgb] at hr
      have hxl : xs.length = m * i.size := by rw [hown.1, his]
      have e1 : ((xs ++ sp).take (m * i.size) ++ news ++ (xs ++ sp).drop (m * i.size + news.length)) = (xs ++ news) ++ sp.drop news.length := by
        rw [← hxl, List.take_left, List.drop_append, List.drop_of_length_le (by omega)]
        simp
      rw [e1] at hr
      refine ⟨_, _, [(gb, .cells ⟨(xs ++ news) ++ sp.drop news.length⟩ e (0, 0))] ++ R, hv hr, ?_, h _ _ ⟨by rw [List.length_append, hown.1, hl, Nat.add_mul], .inr ⟨gb, cap, _, rfl, rfl, hroom, hcm, ?_⟩⟩⟩
      · exact otl.put (i := 0) (b := gb) (ob := .cells ⟨xs ++ sp⟩ e (0, 0)) rfl rfl
      · rw [← hcs]
        simp only [List.length_append, List.length_drop]
        rw [his] at hfit
        simp only [List.size_toArray, List.length_append] at hfit
        have := hown.1
        omega
    · have hgb := otl.has _ (List.mem_append_left _ (List.mem_singleton.2 rfl))
      have holds : ∀ j u, xs[j]? = some u → w.cell? ((⟨gb, 0, none⟩ : Addr).add j) = some u := fun j u hj => by
        rw [add_off]; simp only at hgb
        have hj' := (List.getElem?_eq_some_iff.1 hj).1
        simp [World.cell?, hgb, List.getElem?_append_left hj', hj]
      have hr := run_append_grow (P := P) w t ty e i re.z hbt hi hiz ⟨gb, 0, none⟩ m cap xs (by rw [hown.1, his]) holds ⟨b, 0, none⟩ k c news (by rw [hl, his]) hnews (by omega) (by omega) (growslice_fits (by omega) (by rw [hib]; exact hb))
      refine ⟨_, _, _, hv hr, ?_, h _ _ (grown cap (by omega))⟩
      have := orr.new' (.cells (xs.toArray ++ news.toArray ++ Builtin.zeroCells re.z.cells (grownCap w (m + k) cap e - (m + k))) e (0, 0))
      have e1 : (xs.toArray ++ news.toArray ++ Builtin.zeroCells re.z.cells (grownCap w (m + k) cap e - (m + k))) = ⟨(xs ++ news) ++ (Builtin.zeroCells i.zero.get!.cells (grownCap w (m + k) cap e - (m + k))).toList⟩ := by
        refine Array.ext' ?_; simp [hiz]
      rw [e1] at this ⊢
      exact this
end
end Go.SX
