-- PRINTED by print.py (a twelfth state) out of the translation. Not trusted: Lean checks it.
import Derived.Test.YtekjhfhlbkcklaaPAx0
namespace Go.Proofs.Ytekjhfhlbkcklaa.PA
open Go.RowKit Go.Proofs.YtekjhfhlbkcklaaW.PrintWords Go.Proofs.YtekjhfhlbkcklaaW.PrintLast Go.Proofs.YtekjhfhlbkcklaaW.PrintMore
attribute [local go_sem] max2_int min2_int max_two min_two max_three min_three max_four min_four   -- for this text's walks alone
set_option linter.unusedVariables false
set_option linter.unusedSimpArgs false

/-! ### order_Within: function 45 -/
def order_Within.f (a0 : Int) (a1 : Int) (a2 : Int) : Option (Bool) := some (decide ((IntKind.u64.wrap (a1 - a0)) < (IntKind.u64.wrap (a2 - a0))))
set_option maxHeartbeats 8000000 in
set_option maxRecDepth 100000 in
theorem order_Within.calls (a0 : Int) (a1 : Int) (a2 : Int) (r : Bool) (w : World) (h : order_Within.f a0 a1 a2 = some r) :
    Calls Try.prog 45 #[.int .u64 a0, .int .u64 a1, .int .u64 a2] w fun e w' => e = .returned (.bool r) ∧ Drawn0 w w' := by
  have H : (some (decide ((IntKind.u64.wrap (a1 - a0)) < (IntKind.u64.wrap (a2 - a0))))) = some r := h
  clear h
  obtain rfl := Option.some.inj H
  go_enter Try.func45, Try.ntmps45
  go_wp2
  go_ret
  exact ⟨by first | rfl | (simp; done) | (simp [*]; done), by repeat (first | exact Drawn0.refl _ | apply Drawn0.step)⟩

end Go.Proofs.Ytekjhfhlbkcklaa.PA
