/- The call LayoutNames, evaluated: joined. -/
import Derived.Test.YtgdokjfjmcleeaaProg
import Derived.Test.YtgdokjfjmcleeaaCut
import Derived.Test.YtgdokjfjmcleeaaELayoutNames1
import Derived.Test.YtgdokjfjmcleeaaELayoutNames2
import Derived.Test.YtgdokjfjmcleeaaELayoutNames3
import Derived.Test.YtgdokjfjmcleeaaELayoutNames4
import Derived.Test.YtgdokjfjmcleeaaELayoutNames5
import Derived.Test.YtgdokjfjmcleeaaELayoutNames6
import Derived.Test.YtgdokjfjmcleeaaELayoutNames7
import Derived.Test.YtgdokjfjmcleeaaELayoutNames8
import Derived.Test.YtgdokjfjmcleeaaELayoutNames9
import Derived.Test.YtgdokjfjmcleeaaELayoutNames10
import Derived.Test.YtgdokjfjmcleeaaELayoutNames11
import Derived.Test.YtgdokjfjmcleeaaELayoutNames12
import Derived.Test.YtgdokjfjmcleeaaELayoutNames13
import Derived.Test.YtgdokjfjmcleeaaELayoutNames14
import Derived.Test.YtgdokjfjmcleeaaELayoutNames15
import Derived.Test.YtgdokjfjmcleeaaELayoutNames16
namespace Go.Proofs.Ytgdokjfjmcleeaa.layoutNamesParts
open Go.Proofs.Ytgdokjfjmcleeaa Go.Proofs.Ytgdokjfjmcleeaa.Ce
open Go.RowKit
set_option maxRecDepth 1000000
set_option linter.unusedVariables false
set_option linter.unusedSimpArgs false
theorem eval : isTrue (acall Try.prog mayWrite 400 20 0 8 [] [] 0) = true :=
  cut_law (P := Try.prog) (W := mayWrite) (k := 400) (d := 19) (f := 8) (c := body) (nt := ntOf Try.prog 8) (rs := Try.f8.results.toList) (v := .bool true) (by kernel_rfl) (by kernel_rfl) (by kernel_rfl) rfl (show acode Try.prog fs 400 0 body st0 = some (1, st16) from (cut_at 10 run0 (cut_at 1 run1 (cut_at 1 run2 (cut_at 1 run3 (cut_at 1 run4 (cut_at 1 run5 (cut_at 1 run6 (cut_at 1 run7 (cut_at 1 run8 (cut_at 1 run9 (cut_at 3 run10 (cut_at 1 run11 (cut_at 1 run12 (cut_at 5 run13 (cut_at 1 run14 run15)))))))))))))))) rfl (by kernel_rfl) (by kernel_rfl)
theorem walk (w : World) : Calls Try.prog 8 #[] w fun e w' => e = .returned (.bool true) ∧ Below w.heap.size w w' :=
  calls_true (by kernel_rfl) (by kernel_rfl) eval w
end Go.Proofs.Ytgdokjfjmcleeaa.layoutNamesParts
