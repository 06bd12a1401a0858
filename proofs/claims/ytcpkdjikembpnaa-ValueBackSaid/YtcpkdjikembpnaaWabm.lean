/- Parts of the proof of ValueBack: EAlive154, EAlive155. No condition of its own. -/
import Derived.Test.YtcpkdjikembpnaaProg
import Derived.Test.YtcpkdjikembpnaaWabh
import Derived.Test.YtcpkdjikembpnaaWabk
import Derived.Test.YtcpkdjikembpnaaWabl
set_option linter.unusedVariables false
set_option linter.unusedSimpArgs false
set_option maxRecDepth 1000000
set_option maxHeartbeats 4000000
namespace Go.Proofs.Ytcpkdjikembpnaa.alive15Parts
section
open Go.Proofs.Ytcpkdjikembpnaa Go.Proofs.Ytcpkdjikembpnaa.Ce
open Go.RowKit
theorem run3:acode Try.prog fs 2000 0 (dr 1 (dr 2 (dr 2 body))) st3=some (1,st4):=by kernel_rfl
end
section
open Go.Proofs.Ytcpkdjikembpnaa Go.Proofs.Ytcpkdjikembpnaa.Ce
open Go.RowKit
theorem evalTab:∃ h n,afunc Try.prog fs mayWrite 2000 0 25 [] [] 0=some ((.bool true),h,n):=
 cut_law (P:=Try.prog) (W:=mayWrite) (k:=2000) (F:=fs) (f:=25) (c:=bodyOf Try.prog 25) (nt:=ntOf Try.prog 25) (rs:=Try.f25.results.toList) (v:=(.bool true)) kz kz kz rfl (flat_law (show acode Try.prog fs 2000 0 body st0=some (1,st4) from (cut_at 2 run0 (cut_at 2 run1 (cut_at 1 run2 run3))))) rfl kz kz
theorem eval:flatT (.bool true)=true∧∃ h n,acall Try.prog mayWrite 2000 41 0 25 [] [] 0=some ((.bool true),h,n):=by
 have h:=evalTab
 unfold fs known at h
 rw [tab_nil] at h
 exact ⟨rfl,h⟩
end
end Go.Proofs.Ytcpkdjikembpnaa.alive15Parts
