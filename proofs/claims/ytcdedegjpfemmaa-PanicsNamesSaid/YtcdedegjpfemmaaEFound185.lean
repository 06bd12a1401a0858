/- The call Found18, evaluated: joined. -/
import Derived.Test.YtcdedegjpfemmaaProg
import Derived.Test.YtcdedegjpfemmaaCut
import Derived.Test.YtcdedegjpfemmaaEFound181
import Derived.Test.YtcdedegjpfemmaaEFound182
import Derived.Test.YtcdedegjpfemmaaEFound183
import Derived.Test.YtcdedegjpfemmaaEFound184
namespace Go.Proofs.Ytcdedegjpfemmaa.found18Parts
open Go.Proofs.Ytcdedegjpfemmaa Go.Proofs.Ytcdedegjpfemmaa.Ce
open Go.RowKit
set_option maxRecDepth 1000000
set_option linter.unusedVariables false
set_option linter.unusedSimpArgs false
theorem evalTab : ∃ h n, afunc Try.prog fs mayWrite 400 0 52 [] [] 0 = some ((.tuple ⟨[(.bool true), (.int .i64 5), (.bool true), (.int .i64 0)]⟩), h, n) :=
  cut_law (P := Try.prog) (W := mayWrite) (k := 400) (F := fs) (f := 52) (c := bodyOf Try.prog 52) (nt := ntOf Try.prog 52) (rs := Try.f52.results.toList) (v := (.tuple ⟨[(.bool true), (.int .i64 5), (.bool true), (.int .i64 0)]⟩)) (by kernel_rfl) (by kernel_rfl) (by kernel_rfl) rfl (flat_law (show acode Try.prog fs 400 0 body st0 = some (1, st4) from (cut_at 3 run0 (cut_at 2 run1 (cut_at 1 run2 run3))))) rfl (by kernel_rfl) (by kernel_rfl)
theorem eval : flatT (.tuple ⟨[(.bool true), (.int .i64 5), (.bool true), (.int .i64 0)]⟩) = true ∧ ∃ h n, acall Try.prog mayWrite 400 19 0 52 [] [] 0 = some ((.tuple ⟨[(.bool true), (.int .i64 5), (.bool true), (.int .i64 0)]⟩), h, n) := by
  have h := evalTab
  unfold fs known at h
  rw [tab_nil] at h
  exact ⟨rfl, h⟩
end Go.Proofs.Ytcdedegjpfemmaa.found18Parts
