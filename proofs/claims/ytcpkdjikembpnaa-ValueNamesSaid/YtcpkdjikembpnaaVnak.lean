/- Parts of the proof of ValueNames: EValueNames3. No condition of its own. -/
import Derived.Test.YtcpkdjikembpnaaProg
import Derived.Test.YtcpkdjikembpnaaVnag
import Derived.Test.YtcpkdjikembpnaaVnai
set_option linter.unusedVariables false
set_option linter.unusedSimpArgs false
set_option maxRecDepth 1000000
set_option maxHeartbeats 4000000
namespace Go.Proofs.Ytcpkdjikembpnaa.valueNamesParts
open Go.Proofs.Ytcpkdjikembpnaa Go.Proofs.Ytcpkdjikembpnaa.Ce
open Go.RowKit
theorem run1 : acode Try.prog fs 2000 0 (tk 1 (dr 6 body)) st1 = some (0, st2) := by kernel_rfl
end Go.Proofs.Ytcpkdjikembpnaa.valueNamesParts
