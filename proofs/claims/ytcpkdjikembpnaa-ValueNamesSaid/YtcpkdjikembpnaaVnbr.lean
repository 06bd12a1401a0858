/- Parts of the proof of ValueNames: EMisfits151, EMisfits152, EMisfits153. No condition of its own. -/
import Derived.Test.YtcpkdjikembpnaaProg
import Derived.Test.YtcpkdjikembpnaaVnag
import Derived.Test.YtcpkdjikembpnaaVnbq
set_option linter.unusedVariables false
set_option linter.unusedSimpArgs false
set_option maxRecDepth 1000000
set_option maxHeartbeats 4000000
namespace Go.Proofs.Ytcpkdjikembpnaa.misfits15Parts
open Go.Proofs.Ytcpkdjikembpnaa Go.Proofs.Ytcpkdjikembpnaa.Ce
open Go.RowKit
theorem run0 : acode Try.prog fs 2000 0 (tk 5 body) st0 = some (0, st1) := by kernel_rfl
end Go.Proofs.Ytcpkdjikembpnaa.misfits15Parts
namespace Go.Proofs.Ytcpkdjikembpnaa.misfits15Parts
open Go.Proofs.Ytcpkdjikembpnaa Go.Proofs.Ytcpkdjikembpnaa.Ce
open Go.RowKit
theorem seg1_0 : nrounds (acode Try.prog fs 2000 0 (lbody lp1)) 1 st1 = some st1_0 := by kernel_rfl
end Go.Proofs.Ytcpkdjikembpnaa.misfits15Parts
namespace Go.Proofs.Ytcpkdjikembpnaa.misfits15Parts
open Go.Proofs.Ytcpkdjikembpnaa Go.Proofs.Ytcpkdjikembpnaa.Ce
open Go.RowKit
theorem seg1_1 : nrounds (acode Try.prog fs 2000 0 (lbody lp1)) 2 st1_0 = some st1_1 := by kernel_rfl
end Go.Proofs.Ytcpkdjikembpnaa.misfits15Parts
