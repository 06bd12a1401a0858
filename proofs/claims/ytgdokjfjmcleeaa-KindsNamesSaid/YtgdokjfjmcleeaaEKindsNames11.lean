/- The call KindsNames, evaluated: joined. -/
import Derived.Test.YtgdokjfjmcleeaaProg
import Derived.Test.YtgdokjfjmcleeaaFk
import Derived.Test.YtgdokjfjmcleeaaEKindsNames1
import Derived.Test.YtgdokjfjmcleeaaEKindsNames2
import Derived.Test.YtgdokjfjmcleeaaEKindsNames3
import Derived.Test.YtgdokjfjmcleeaaEKindsNames4
import Derived.Test.YtgdokjfjmcleeaaEKindsNames5
import Derived.Test.YtgdokjfjmcleeaaEKindsNames6
import Derived.Test.YtgdokjfjmcleeaaEKindsNames7
import Derived.Test.YtgdokjfjmcleeaaEKindsNames8
import Derived.Test.YtgdokjfjmcleeaaEKindsNames9
import Derived.Test.YtgdokjfjmcleeaaEKindsNames10
import Derived.Test.YtgdokjfjmcleeaaTy
import Derived.Test.YtgdokjfjmcleeaaAk
namespace Go.Proofs.Ytgdokjfjmcleeaa.kindsNamesParts
open Go.Proofs.Ytgdokjfjmcleeaa Go.Proofs.Ytgdokjfjmcleeaa.Ce
open Go.RowKit
set_option maxRecDepth 1000000
set_option linter.unusedVariables false
set_option linter.unusedSimpArgs false
theorem hm : Try.prog.follows .mixedOrders = true := by kernel_rfl
theorem kn : ∀ x ∈ known, flatT x.2 = true ∧ ∃ h0 n0, acall Try.prog mayWrite 30000 30 0 x.1 [] [] 0 = some (x.2, h0, n0) := fun x hx => by
  unfold known at hx
  simp only [List.mem_cons, List.not_mem_nil, or_false] at hx
  rcases hx with rfl
  · exact ⟨rfl, true_some alive4_true⟩
theorem hF : SoundF Try.prog fs := (tab_both kn (acall_both hm mayWrite 30000 30).1 (acall_both (P := Try.prog) hm mayWrite 30000 30).2).1
theorem hF2 : StatF fs := (tab_both (P := Try.prog) kn (acall_both hm mayWrite 30000 30).1 (acall_both (P := Try.prog) hm mayWrite 30000 30).2).2
theorem walk (w : World) : Calls Try.prog 9 #[] w fun e w' => e = .returned (.bool true) ∧ Below w.heap.size w w' :=
  goes_calls (fn := Try.f9) (c := body) (by kernel_rfl) (by kernel_rfl) (show Goes Try.prog Try.f9 w body st0 from goes_cut hm hF hF2 7 run0 (goes_cut hm hF hF2 1 run1 (goes_cut hm hF hF2 8 run2 (goes_fork (c := (dr 8 (dr 1 (dr 7 body)))) (rest := (dr 1 (dr 8 (dr 1 (dr 7 body))))) (rid := regId ((hd (dr 8 (dr 1 (dr 7 body)))).getD .skip)) (ops := ops) (l1 := ops.toList.take 22) (l2 := ops.toList.drop 23) (dst := 276) (a := apArg op0 0) (b := apArg op0 1) (t := 22) (ty := op0.type) (pos := op0.pos) (af := op0.after) (gd := op0.guard) (e := 60) (s := 4) (m := 1) (id := 34) (len := 4) (c0 := 4) (news := fkNews op0 stB 4) (rd := fkRd op0 stB 4) (cells := fkCells stB 34) hF (by kernel_rfl) (by kernel_rfl) frk1 (by kernel_rfl) apT22 (by kernel_rfl) (by kernel_rfl) (by decide) (by kernel_rfl) (by decide) (by decide) (by kernel_rfl) (of_decide_eq_true (by kernel_rfl)) frkA frkB (goes_cut hm hF hF2 1 run4 (goes_cut hm hF hF2 1 run5 (goes_cut hm hF hF2 2 run6 (goes_end (k := 30000) hm hF hF2 run7 rfl (by kernel_rfl)))))))))
end Go.Proofs.Ytgdokjfjmcleeaa.kindsNamesParts
