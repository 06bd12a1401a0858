/- Parts of the proof of ValueNames: EMisfits1510, EMisfits1511, EMisfits1512. No condition of its own. -/
import Derived.Test.YtcpkdjikembpnaaProg
import Derived.Test.YtcpkdjikembpnaaVnag
import Derived.Test.YtcpkdjikembpnaaVnbq
set_option linter.unusedVariables false
set_option linter.unusedSimpArgs false
set_option maxRecDepth 1000000
set_option maxHeartbeats 4000000
namespace Go.Proofs.Ytcpkdjikembpnaa.misfits15Parts
open Go.Proofs.Ytcpkdjikembpnaa Go.Proofs.Ytcpkdjikembpnaa.Ce
open Go.RowKit
theorem seg4_3 : nrounds (acode Try.prog fs 2000 0 (lbody lp4)) 1 st4_2 = some st4_3 := by kernel_rfl
end Go.Proofs.Ytcpkdjikembpnaa.misfits15Parts
namespace Go.Proofs.Ytcpkdjikembpnaa.misfits15Parts
open Go.Proofs.Ytcpkdjikembpnaa Go.Proofs.Ytcpkdjikembpnaa.Ce
open Go.RowKit
theorem seg4_4 : nrounds (acode Try.prog fs 2000 0 (lbody lp4)) 1 st4_3 = some st4_4 := by kernel_rfl
end Go.Proofs.Ytcpkdjikembpnaa.misfits15Parts
namespace Go.Proofs.Ytcpkdjikembpnaa.misfits15Parts
open Go.Proofs.Ytcpkdjikembpnaa Go.Proofs.Ytcpkdjikembpnaa.Ce
open Go.RowKit
theorem seg4_5 : nrounds (acode Try.prog fs 2000 0 (lbody lp4)) 1 st4_4 = some st4_5 := by kernel_rfl
end Go.Proofs.Ytcpkdjikembpnaa.misfits15Parts
