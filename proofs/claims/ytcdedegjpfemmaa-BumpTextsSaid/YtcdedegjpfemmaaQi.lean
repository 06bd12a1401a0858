/- The call alive of law 14, evaluated. -/
import Derived.Test.YtcdedegjpfemmaaSh
import Derived.Test.YtcdedegjpfemmaaTy
namespace Go.Proofs.Ytcdedegjpfemmaa.Ce
open Go.RowKit
set_option linter.unusedVariables false
set_option linter.unusedSimpArgs false
theorem alive14_true : isTrue (acall Try.prog WW 30000 7 0 25 [] [] 0) = true := by kernel_rfl
theorem alive14 (cl : Nat) (h : Hp) (n : Nat) : Sp Try.prog (shut (acall Try.prog WW 30000 7)) cl 25 [] h n fun v h' n' => v = .bool true ∧ h' = h ∧ n' = n :=
  Sp.alive (by kernel_rfl) alive14_true
end Go.Proofs.Ytcdedegjpfemmaa.Ce
