/- Parts of the proof of ValueNames: EMisfits157, EMisfits158, EMisfits159. No condition of its own. -/
import Derived.Test.YtcpkdjikembpnaaProg
import Derived.Test.YtcpkdjikembpnaaVnag
import Derived.Test.YtcpkdjikembpnaaVnbq
set_option linter.unusedVariables false
set_option linter.unusedSimpArgs false
set_option maxRecDepth 1000000
set_option maxHeartbeats 4000000
namespace Go.Proofs.Ytcpkdjikembpnaa.misfits15Parts
open Go.Proofs.Ytcpkdjikembpnaa Go.Proofs.Ytcpkdjikembpnaa.Ce
open Go.RowKit
theorem seg4_0 : nrounds (acode Try.prog fs 2000 0 (lbody lp4)) 2 st4 = some st4_0 := by kernel_rfl
end Go.Proofs.Ytcpkdjikembpnaa.misfits15Parts
namespace Go.Proofs.Ytcpkdjikembpnaa.misfits15Parts
open Go.Proofs.Ytcpkdjikembpnaa Go.Proofs.Ytcpkdjikembpnaa.Ce
open Go.RowKit
theorem seg4_1 : nrounds (acode Try.prog fs 2000 0 (lbody lp4)) 1 st4_0 = some st4_1 := by kernel_rfl
end Go.Proofs.Ytcpkdjikembpnaa.misfits15Parts
namespace Go.Proofs.Ytcpkdjikembpnaa.misfits15Parts
open Go.Proofs.Ytcpkdjikembpnaa Go.Proofs.Ytcpkdjikembpnaa.Ce
open Go.RowKit
theorem seg4_2 : nrounds (acode Try.prog fs 2000 0 (lbody lp4)) 2 st4_1 = some st4_2 := by kernel_rfl
end Go.Proofs.Ytcpkdjikembpnaa.misfits15Parts
