/- Parts of the proof of ValueNames: EVN1. No condition of its own. -/
import Derived.Test.YtcpkdjikembpnaaProg
import Derived.Test.YtcpkdjikembpnaaVnai
import Derived.Test.YtcpkdjikembpnaaVnbg
import Derived.Test.YtcpkdjikembpnaaVnbh
set_option linter.unusedVariables false
set_option linter.unusedSimpArgs false
set_option maxRecDepth 1000000
set_option maxHeartbeats 4000000
namespace Go.Proofs.Ytcpkdjikembpnaa.valueNamesParts
open Go.Proofs.Ytcpkdjikembpnaa Go.Proofs.Ytcpkdjikembpnaa.Ce
open Go.RowKit
theorem nrun1 : acode Try.prog fsN 2000 176 (tk 6 (dr 2 bodyN)) sn1 = some (0, sn2) := by kernel_rfl
end Go.Proofs.Ytcpkdjikembpnaa.valueNamesParts
