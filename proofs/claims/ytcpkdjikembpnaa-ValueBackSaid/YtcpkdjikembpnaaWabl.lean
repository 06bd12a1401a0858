/- Parts of the proof of ValueBack: EAlive151, EAlive152, EAlive153. No condition of its own. -/
import Derived.Test.YtcpkdjikembpnaaProg
import Derived.Test.YtcpkdjikembpnaaWabh
import Derived.Test.YtcpkdjikembpnaaWabk
set_option linter.unusedVariables false
set_option linter.unusedSimpArgs false
set_option maxRecDepth 1000000
set_option maxHeartbeats 4000000
namespace Go.Proofs.Ytcpkdjikembpnaa.alive15Parts
section
open Go.Proofs.Ytcpkdjikembpnaa Go.Proofs.Ytcpkdjikembpnaa.Ce
open Go.RowKit
theorem run0:acode Try.prog fs 2000 0 (tk 2 body) st0=some (0,st1):=by kernel_rfl
end
section
open Go.Proofs.Ytcpkdjikembpnaa Go.Proofs.Ytcpkdjikembpnaa.Ce
open Go.RowKit
theorem run1:acode Try.prog fs 2000 0 (tk 2 (dr 2 body)) st1=some (0,st2):=by kernel_rfl
end
section
open Go.Proofs.Ytcpkdjikembpnaa Go.Proofs.Ytcpkdjikembpnaa.Ce
open Go.RowKit
theorem run2:acode Try.prog fs 2000 0 (tk 1 (dr 2 (dr 2 body))) st2=some (0,st3):=by kernel_rfl
end
end Go.Proofs.Ytcpkdjikembpnaa.alive15Parts
