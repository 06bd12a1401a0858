/- The call Alive18, evaluated: a part. -/
import Derived.Test.YtlaagojidcbpeaaProg
import Derived.Test.YtlaagojidcbpeaaCut
import Derived.Test.YtlaagojidcbpeaaEAlive180
namespace Go.Proofs.Ytlaagojidcbpeaa.alive18Parts
open Go.Proofs.Ytlaagojidcbpeaa Go.Proofs.Ytlaagojidcbpeaa.Ce
open Go.RowKit
set_option maxRecDepth 1000000
set_option linter.unusedVariables false
set_option linter.unusedSimpArgs false
theorem run0 : acode Try.prog fs 400 0 (tk 2 body) st0 = some (0, st1) := by kernel_rfl
end Go.Proofs.Ytlaagojidcbpeaa.alive18Parts
