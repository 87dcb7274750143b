/- Scopes through which no goto goes. -/
import Derived.Test.YthnmagdaepgdiaaXStr
import Derived.Scope
set_option linter.unusedSimpArgs false
set_option linter.unusedVariables false
namespace Go.SX
open Go Go.RowKit
theorem XC.scope {P : Program} {n : Nat} {w0 : World} {K : List Nat} {Q : Exit → Fr → HL → Prop} {ρ : Fr} {L : HL} {c : Code} (hq : ∀ l ρ L, ¬ Q (.goto l) ρ L) (h : XC P n w0 K c Q ρ L) : XC P n w0 K (.scope c) Q ρ L :=
  ⟨fun w o => wp_scope_straight (Go.wp_mono (h.out w o) fun e a w ⟨h1, ρ, L, h2, h3, h4⟩ => by
    cases e with
    | goto l => exact absurd h4 (hq l ρ L)
    | _ => exact ⟨h1, ρ, L, h2, h3, h4⟩)⟩
theorem XC.labelQ {P : Program} {n : Nat} {w0 : World} {K : List Nat} {Q : Exit → Fr → HL → Prop} {ρ : Fr} {L : HL} {l : Nat} (h : XQ Q .normal ρ L) : XC P n w0 K (.label l) Q ρ L := .label h.out
theorem XOp.perm {P : Program} {Γ : Env P} {n : Nat} {w0 : World} {K : List Nat} {ρ : Fr} {L L' : HL} {ops : List Oper} {o : Oper} {N : Fr → HL → Prop} (hg : gval n ρ ops o.guard = some true) (h : XOp Γ n w0 K ops o N ρ L') (p : L.Perm L') : XOp Γ n w0 K ops o N ρ L :=
  ⟨fun Q' w ow => by have := h.out Q' w (ow.perm p); rw [if_pos (gval_spec hg)] at this ⊢; exact this⟩
/-- Some of these blocks, in whatever order. -/
def Sub2 (L' L : HL) : Prop := ∃ P, L.Perm P ∧ L'.Sublist P
theorem Sub2.of {L' L : HL} (h : L'.Sublist L) : Sub2 L' L := ⟨L, List.Perm.refl _, h⟩
theorem Sub2.perm {L' L : HL} (h : L.Perm L') : Sub2 L' L := ⟨L', h, List.Sublist.refl _⟩
theorem Sub2.trans {L1 L2 L3 : HL} (a : Sub2 L1 L2) (b : Sub2 L2 L3) : Sub2 L1 L3 := by
  obtain ⟨P, p, s⟩ := a
  obtain ⟨R, q, t⟩ := b
  obtain ⟨M, hM⟩ := t.exists_perm_append
  exact ⟨P ++ M, q.trans (hM.trans (p.append_right M)), s.trans (List.sublist_append_left _ _)⟩
section
variable {P : Program} {Γ : Env P} {n : Nat} {w0 : World} {K : List Nat} {Q : Exit → Fr → HL → Prop} {ρ : Fr} {L L' : HL}
theorem XC.sub2 {c : Code} (s : Sub2 L' L) (h : XC P n w0 K c Q ρ L') : XC P n w0 K c Q ρ L := by
  obtain ⟨R, p, t⟩ := s
  exact XC.perm (XC.subl t h) p
theorem XC.loopP {c : Code} (I : Nat → Fr → HL → Prop) (k : Nat) (h0 : I k ρ L)
    (round : ∀ k ρ L, I k ρ L → XC P n w0 K c (thenX (fun ρ' L' => ∃ k', k' < k ∧ ∃ L'', Sub2 L'' L' ∧ I k' ρ' L'') Q) ρ L) : XC P n w0 K (.loop c) Q ρ L :=
  XC.loop (fun k ρ L => ∃ L'', Sub2 L'' L ∧ I k ρ L'') k ⟨L, .of (List.Sublist.refl _), h0⟩ fun k ρ _ ⟨L'', hs, hi⟩ => XC.sub2 hs (round k ρ L'' hi)
theorem FC.sub2 {f : Nat} {vs : List Value} {L0 : HL} {A : HV → Prop} {Post : Value → HL → Prop} (h : FC P f vs L0 A (fun v L => ∃ L'', Sub2 L'' L ∧ Post v L'')) : FC P f vs L0 A Post :=
  ⟨h.1, fun w h1 h2 h3 => (h.2 w h1 h2 h3).mono fun _ _ ⟨v, L', he, ho, L'', ⟨R, p, t⟩, hq⟩ => ⟨v, L'', he, (ho.perm p).sub (fun x hx => t.subset hx) ((t.map _).nodup (ho.perm p).nodup), hq⟩⟩
end
end Go.SX
