/- Parts of the proof of ValueNames: EMisfits1516, EMisfits1517, EMisfits1518. No condition of its own. -/
import Derived.Test.YtcpkdjikembpnaaProg
import Derived.Test.YtcpkdjikembpnaaVnag
import Derived.Test.YtcpkdjikembpnaaVnbq
set_option linter.unusedVariables false
set_option linter.unusedSimpArgs false
set_option maxRecDepth 1000000
set_option maxHeartbeats 4000000
namespace Go.Proofs.Ytcpkdjikembpnaa.misfits15Parts
open Go.Proofs.Ytcpkdjikembpnaa Go.Proofs.Ytcpkdjikembpnaa.Ce
open Go.RowKit
theorem fin4 : aloop (acode Try.prog fs 2000 0 (lbody lp4)) 1989 st4_8 = some (4, st5) := by kernel_rfl
end Go.Proofs.Ytcpkdjikembpnaa.misfits15Parts
namespace Go.Proofs.Ytcpkdjikembpnaa.misfits15Parts
open Go.Proofs.Ytcpkdjikembpnaa Go.Proofs.Ytcpkdjikembpnaa.Ce
open Go.RowKit
theorem run5 : acode Try.prog fs 2000 0 (tk 1 (dr 1 (dr 4 (dr 1 (dr 1 (dr 5 body)))))) st5 = some (0, st6) := by kernel_rfl
end Go.Proofs.Ytcpkdjikembpnaa.misfits15Parts
namespace Go.Proofs.Ytcpkdjikembpnaa.misfits15Parts
open Go.Proofs.Ytcpkdjikembpnaa Go.Proofs.Ytcpkdjikembpnaa.Ce
open Go.RowKit
theorem run6 : acode Try.prog fs 2000 0 (dr 1 (dr 1 (dr 4 (dr 1 (dr 1 (dr 5 body)))))) st6 = some (1, st7) := by kernel_rfl
end Go.Proofs.Ytcpkdjikembpnaa.misfits15Parts
