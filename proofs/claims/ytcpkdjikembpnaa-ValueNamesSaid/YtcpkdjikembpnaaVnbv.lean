/- Parts of the proof of ValueNames: EMisfits1513, EMisfits1514, EMisfits1515. No condition of its own. -/
import Derived.Test.YtcpkdjikembpnaaProg
import Derived.Test.YtcpkdjikembpnaaVnag
import Derived.Test.YtcpkdjikembpnaaVnbq
set_option linter.unusedVariables false
set_option linter.unusedSimpArgs false
set_option maxRecDepth 1000000
set_option maxHeartbeats 4000000
namespace Go.Proofs.Ytcpkdjikembpnaa.misfits15Parts
open Go.Proofs.Ytcpkdjikembpnaa Go.Proofs.Ytcpkdjikembpnaa.Ce
open Go.RowKit
theorem seg4_6 : nrounds (acode Try.prog fs 2000 0 (lbody lp4)) 1 st4_5 = some st4_6 := by kernel_rfl
end Go.Proofs.Ytcpkdjikembpnaa.misfits15Parts
namespace Go.Proofs.Ytcpkdjikembpnaa.misfits15Parts
open Go.Proofs.Ytcpkdjikembpnaa Go.Proofs.Ytcpkdjikembpnaa.Ce
open Go.RowKit
theorem seg4_7 : nrounds (acode Try.prog fs 2000 0 (lbody lp4)) 1 st4_6 = some st4_7 := by kernel_rfl
end Go.Proofs.Ytcpkdjikembpnaa.misfits15Parts
namespace Go.Proofs.Ytcpkdjikembpnaa.misfits15Parts
open Go.Proofs.Ytcpkdjikembpnaa Go.Proofs.Ytcpkdjikembpnaa.Ce
open Go.RowKit
theorem seg4_8 : nrounds (acode Try.prog fs 2000 0 (lbody lp4)) 1 st4_7 = some st4_8 := by kernel_rfl
end Go.Proofs.Ytcpkdjikembpnaa.misfits15Parts
