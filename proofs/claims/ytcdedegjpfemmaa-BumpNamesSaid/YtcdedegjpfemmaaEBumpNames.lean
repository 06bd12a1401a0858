/- The call BumpNames, evaluated. -/
import Derived.Test.YtcdedegjpfemmaaProg
import Derived.Test.YtcdedegjpfemmaaCn
namespace Go.Proofs.Ytcdedegjpfemmaa
open Go.Proofs.Ytcdedegjpfemmaa.Ce
open Go.RowKit
set_option linter.unusedVariables false
set_option linter.unusedSimpArgs false
set_option maxRecDepth 100000

theorem bumpNames_eval : isTrue (acall Try.prog (fun f => false) 30000 8 0 5 [] [] 0) = true := by kernel_rfl
theorem bumpNames_walk (w : World) : Calls Try.prog 5 #[] w fun e w' => e = .returned (.bool true) ∧ Below w.heap.size w w' :=
  calls_true (by kernel_rfl) (by kernel_rfl) bumpNames_eval w
end Go.Proofs.Ytcdedegjpfemmaa
