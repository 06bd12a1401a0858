/- The call Alive18, evaluated: joined. -/
import Derived.Test.YtlaagojidcbpeaaProg
import Derived.Test.YtlaagojidcbpeaaCut
import Derived.Test.YtlaagojidcbpeaaEAlive181
import Derived.Test.YtlaagojidcbpeaaEAlive182
import Derived.Test.YtlaagojidcbpeaaEAlive183
import Derived.Test.YtlaagojidcbpeaaEAlive184
import Derived.Test.YtlaagojidcbpeaaEAlive185
import Derived.Test.YtlaagojidcbpeaaEAlive186
namespace Go.Proofs.Ytlaagojidcbpeaa.alive18Parts
open Go.Proofs.Ytlaagojidcbpeaa Go.Proofs.Ytlaagojidcbpeaa.Ce
open Go.RowKit
set_option maxRecDepth 1000000
set_option linter.unusedVariables false
set_option linter.unusedSimpArgs false
theorem evalTab : ∃ h n, afunc Try.prog fs mayWrite 400 0 14 [] [] 0 = some ((.bool true), h, n) :=
  cut_law (P := Try.prog) (W := mayWrite) (k := 400) (F := fs) (f := 14) (c := bodyOf Try.prog 14) (nt := ntOf Try.prog 14) (rs := Try.f14.results.toList) (v := (.bool true)) (by kernel_rfl) (by kernel_rfl) (by kernel_rfl) rfl (flat_law (show acode Try.prog fs 400 0 body st0 = some (1, st6) from (cut_at 2 run0 (cut_at 1 run1 (cut_at 2 run2 (cut_at 1 run3 (cut_at 1 run4 run5))))))) rfl (by kernel_rfl) (by kernel_rfl)
theorem eval : flatT (.bool true) = true ∧ ∃ h n, acall Try.prog mayWrite 400 20 0 14 [] [] 0 = some ((.bool true), h, n) := by
  have h := evalTab
  unfold fs known at h
  rw [tab_nil] at h
  exact ⟨rfl, h⟩
end Go.Proofs.Ytlaagojidcbpeaa.alive18Parts
