/- The call RegionNames, evaluated. -/
import Derived.Test.YtbcjkdekppomgaaProg
import Derived.Test.YtbcjkdekppomgaaCn
namespace Go.Proofs.Ytbcjkdekppomgaa
open Go.Proofs.Ytbcjkdekppomgaa.Ce
open Go.RowKit
set_option maxRecDepth 100000

theorem regionNames_eval : isTrue (acall Try.prog (fun f => Nat.beq f 81) 400 30 0 16 [] [] 0) = true := by kernel_rfl
theorem regionNames_walk (w : World) : Calls Try.prog 16 #[] w fun e w' => e = .returned (.bool true) ∧ Below w.heap.size w w' :=
  calls_true (by kernel_rfl) (by kernel_rfl) regionNames_eval w
end Go.Proofs.Ytbcjkdekppomgaa
