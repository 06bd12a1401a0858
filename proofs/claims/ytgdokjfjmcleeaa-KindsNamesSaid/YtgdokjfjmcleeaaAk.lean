/- alive of law04, by the kernel. -/
import Derived.Test.YtgdokjfjmcleeaaTy
import Derived.Test.YtgdokjfjmcleeaaSm
namespace Go.Proofs.Ytgdokjfjmcleeaa.Ce
open Go.RowKit
set_option linter.unusedVariables false
set_option linter.unusedSimpArgs false
set_option maxRecDepth 100000
theorem alive4_true : isTrue (acall Try.prog WW 30000 30 0 45 [] [] 0) = true := by kernel_rfl
theorem alive4 (cl : Nat) (h : Hp) (n : Nat) : Sp Try.prog (shut (acall Try.prog WW 30000 30)) cl 45 [] h n fun v h' n' => v = .bool true ∧ h' = h ∧ n' = n :=
  Sp.alive (by kernel_rfl) alive4_true
end Go.Proofs.Ytgdokjfjmcleeaa.Ce
