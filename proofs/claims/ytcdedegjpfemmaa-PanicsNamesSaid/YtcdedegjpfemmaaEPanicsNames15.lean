/- The call PanicsNames, evaluated: joined. -/
import Derived.Test.YtcdedegjpfemmaaProg
import Derived.Test.YtcdedegjpfemmaaCut
import Derived.Test.YtcdedegjpfemmaaEPanicsNames2
import Derived.Test.YtcdedegjpfemmaaEPanicsNames3
import Derived.Test.YtcdedegjpfemmaaEPanicsNames4
import Derived.Test.YtcdedegjpfemmaaEPanicsNames5
import Derived.Test.YtcdedegjpfemmaaEPanicsNames6
import Derived.Test.YtcdedegjpfemmaaEPanicsNames7
import Derived.Test.YtcdedegjpfemmaaEPanicsNames8
import Derived.Test.YtcdedegjpfemmaaEPanicsNames9
import Derived.Test.YtcdedegjpfemmaaEPanicsNames10
import Derived.Test.YtcdedegjpfemmaaEPanicsNames11
import Derived.Test.YtcdedegjpfemmaaEPanicsNames12
import Derived.Test.YtcdedegjpfemmaaEPanicsNames13
import Derived.Test.YtcdedegjpfemmaaEPanicsNames14
import Derived.Test.YtcdedegjpfemmaaEAlive187
import Derived.Test.YtcdedegjpfemmaaEFound185
namespace Go.Proofs.Ytcdedegjpfemmaa.panicsNamesParts
open Go.Proofs.Ytcdedegjpfemmaa Go.Proofs.Ytcdedegjpfemmaa.Ce
open Go.RowKit
set_option maxRecDepth 1000000
set_option linter.unusedVariables false
set_option linter.unusedSimpArgs false
theorem run2 : acode Try.prog fs 400 0 (tk 1 (dr 1 (dr 3 body))) st2 = some (0, st3) :=
  tk_one (x := lp2) (by kernel_rfl) ((congrArg (fun c => acode Try.prog fs 400 0 c st2) (show lp2 = .block 0 (.loop (lbody lp2)) from by kernel_rfl)).trans (block_at (ex := 2) rfl (show aloop (acode Try.prog fs 400 0 (lbody lp2)) 400 st2 = some (2, st3) from (loop_at (j := 396) 4 seg2_0 (loop_at (j := 393) 3 seg2_1 (loop_at (j := 390) 3 seg2_2 (loop_at (j := 387) 3 seg2_3 (loop_at (j := 384) 3 seg2_4 fin2))))))))
theorem evalTab : ∃ h n, afunc Try.prog fs mayWrite 400 0 11 [] [] 0 = some ((.bool true), h, n) :=
  cut_law (P := Try.prog) (W := mayWrite) (k := 400) (F := fs) (f := 11) (c := bodyOf Try.prog 11) (nt := ntOf Try.prog 11) (rs := Try.f11.results.toList) (v := (.bool true)) (by kernel_rfl) (by kernel_rfl) (by kernel_rfl) rfl (flat_law (show acode Try.prog fs 400 0 body st0 = some (1, st8) from (cut_at 3 run0 (cut_at 1 run1 (cut_at 1 run2 (cut_at 16 run3 (cut_at 2 run4 (cut_at 2 run5 (cut_at 3 run6 run7))))))))) rfl (by kernel_rfl) (by kernel_rfl)
theorem walk (w : World) : Calls Try.prog 11 #[] w fun e w' => e = .returned (.bool true) ∧ Below w.heap.size w w' :=
  calls_tab (W := mayWrite) (k := 400) (d := 19) (l := known) (by kernel_rfl) (fun x hx => (by unfold known at hx; simp only [List.mem_cons, List.not_mem_nil, or_false] at hx; rcases hx with rfl | rfl; exact alive18Parts.eval; exact found18Parts.eval)) (by kernel_rfl) evalTab w
end Go.Proofs.Ytcdedegjpfemmaa.panicsNamesParts
