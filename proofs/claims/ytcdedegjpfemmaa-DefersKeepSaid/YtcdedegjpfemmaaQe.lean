/- alive of law17, by the kernel. -/
import Derived.Test.YtcdedegjpfemmaaPp
namespace Go.Proofs.Ytcdedegjpfemmaa.Ce
open Go.RowKit
set_option linter.unusedVariables false
set_option linter.unusedSimpArgs false
theorem alive17_true : isTrue (acall Try.prog WW 30000 7 0 32 [] [] 0) = true := by kernel_rfl
theorem alive17 (cl : Nat) (h : Hp) (n : Nat) : Sp Try.prog (shut (acall Try.prog WW 30000 7)) cl 32 [] h n fun v h' n' => v = .bool true ∧ h' = h ∧ n' = n :=
  Sp.alive (by kernel_rfl) alive17_true
end Go.Proofs.Ytcdedegjpfemmaa.Ce
