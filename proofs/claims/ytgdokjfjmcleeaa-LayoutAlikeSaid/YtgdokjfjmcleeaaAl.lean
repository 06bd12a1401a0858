/- alive of law05, by the kernel. -/
import Derived.Test.YtgdokjfjmcleeaaTy
import Derived.Test.YtgdokjfjmcleeaaSm
namespace Go.Proofs.Ytgdokjfjmcleeaa.Ce
open Go.RowKit
set_option linter.unusedVariables false
set_option linter.unusedSimpArgs false
set_option maxRecDepth 100000
theorem alive5_true : isTrue (acall Try.prog WW 30000 50 0 33 [] [] 0) = true := by kernel_rfl
theorem alive5 (cl : Nat) (h : Hp) (n : Nat) : Sp Try.prog (shut (acall Try.prog WW 30000 50)) cl 33 [] h n fun v h' n' => v = .bool true ∧ h' = h ∧ n' = n :=
  Sp.alive (by kernel_rfl) alive5_true
end Go.Proofs.Ytgdokjfjmcleeaa.Ce
