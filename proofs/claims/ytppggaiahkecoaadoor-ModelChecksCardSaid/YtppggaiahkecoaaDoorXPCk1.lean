/- Bools beside bools. -/
import Derived.Test.YtppggaiahkecoaaDoorXPMR1
import Derived.Laws.Small
set_option linter.unusedSimpArgs false
set_option linter.unusedVariables false
namespace Go.SX
open Go Go.RowKit
section
variable {P : Program} {Γ : Env P} {n : Nat} {w0 : World} {K : List Nat} {ρ : Fr} {L : HL}
theorem guard_bool (op : BinOp) (t : Nat) (x y : Operand) (a : Bool) (v : Value) (w : World) : (eqGuard op t x y (.bool a) v).run P w = .ok () w := by
  unfold eqGuard; cases op <;> first | rfl | (cases v <;> rfl)
theorem PR.eqBB {t ty : Nat} {a b : Bool} {x y : Operand} {r : TR} (ht : Γ.get t = some r) (hk : r.k = .bool) (hx : ev n ρ x = .bool a) (hy : ev n ρ y = .bool b) :
    PR Γ n w0 K ρ L (.binOp .eql t x y ty) (.bool (a == b)) := ⟨fun o ho w ow => by
  unfold execOp; rw [ho]
  refine run_value ?_
  rw [hx, hy, bind_run (guard_bool _ _ _ _ _ _ w)]
  show (((Op.equal t (.bool a) (.bool b)) >>= fun b => pure (Value.bool b)) : Sem Value).run P w = _
  rw [bind_run (run_equal_bool w t a b (tk_bool (Γ.is ht) hk))]; rfl⟩
theorem PR.neBB {t ty : Nat} {a b : Bool} {x y : Operand} {r : TR} (ht : Γ.get t = some r) (hk : r.k = .bool) (hx : ev n ρ x = .bool a) (hy : ev n ρ y = .bool b) :
    PR Γ n w0 K ρ L (.binOp .neq t x y ty) (.bool (!(a == b))) := ⟨fun o ho w ow => by
  unfold execOp; rw [ho]
  refine run_value ?_
  rw [hx, hy, bind_run (guard_bool _ _ _ _ _ _ w)]
  show (((Op.equal t (.bool a) (.bool b)) >>= fun b => pure (Value.bool (!b))) : Sem Value).run P w = _
  rw [bind_run (run_equal_bool w t a b (tk_bool (Γ.is ht) hk))]; rfl⟩
end
end Go.SX
