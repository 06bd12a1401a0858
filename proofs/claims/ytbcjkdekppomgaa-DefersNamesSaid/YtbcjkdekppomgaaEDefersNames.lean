/- The call DefersNames, evaluated. -/
import Derived.Test.YtbcjkdekppomgaaProg
import Derived.Test.YtbcjkdekppomgaaCn
namespace Go.Proofs.Ytbcjkdekppomgaa
open Go.Proofs.Ytbcjkdekppomgaa.Ce
open Go.RowKit
set_option maxRecDepth 100000

theorem defersNames_eval : isTrue (acall Try.prog (fun f => Nat.beq f 81) 400 30 0 18 [] [] 0) = true := by kernel_rfl
theorem defersNames_walk (w : World) : Calls Try.prog 18 #[] w fun e w' => e = .returned (.bool true) ∧ Below w.heap.size w w' :=
  calls_true (by kernel_rfl) (by kernel_rfl) defersNames_eval w
end Go.Proofs.Ytbcjkdekppomgaa
