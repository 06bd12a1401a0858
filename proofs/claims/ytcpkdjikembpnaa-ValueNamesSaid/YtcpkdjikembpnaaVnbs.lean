/- Parts of the proof of ValueNames: EMisfits154, EMisfits155, EMisfits156. No condition of its own. -/
import Derived.Test.YtcpkdjikembpnaaProg
import Derived.Test.YtcpkdjikembpnaaVnag
import Derived.Test.YtcpkdjikembpnaaVnbq
set_option linter.unusedVariables false
set_option linter.unusedSimpArgs false
set_option maxRecDepth 1000000
set_option maxHeartbeats 4000000
namespace Go.Proofs.Ytcpkdjikembpnaa.misfits15Parts
open Go.Proofs.Ytcpkdjikembpnaa Go.Proofs.Ytcpkdjikembpnaa.Ce
open Go.RowKit
theorem fin1 : aloop (acode Try.prog fs 2000 0 (lbody lp1)) 1997 st1_1 = some (2, st2) := by kernel_rfl
end Go.Proofs.Ytcpkdjikembpnaa.misfits15Parts
namespace Go.Proofs.Ytcpkdjikembpnaa.misfits15Parts
open Go.Proofs.Ytcpkdjikembpnaa Go.Proofs.Ytcpkdjikembpnaa.Ce
open Go.RowKit
theorem run2 : acode Try.prog fs 2000 0 (tk 1 (dr 1 (dr 5 body))) st2 = some (0, st3) := by kernel_rfl
end Go.Proofs.Ytcpkdjikembpnaa.misfits15Parts
namespace Go.Proofs.Ytcpkdjikembpnaa.misfits15Parts
open Go.Proofs.Ytcpkdjikembpnaa Go.Proofs.Ytcpkdjikembpnaa.Ce
open Go.RowKit
theorem run3 : acode Try.prog fs 2000 0 (tk 4 (dr 1 (dr 1 (dr 5 body)))) st3 = some (0, st4) := by kernel_rfl
end Go.Proofs.Ytcpkdjikembpnaa.misfits15Parts
