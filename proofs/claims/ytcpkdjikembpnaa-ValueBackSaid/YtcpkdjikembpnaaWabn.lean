/- Parts of the proof of ValueBack: Ed. No condition of its own. -/
import Derived.Test.YtcpkdjikembpnaaWabh
import Derived.Test.YtcpkdjikembpnaaWabm
set_option linter.unusedVariables false
set_option linter.unusedSimpArgs false
set_option maxRecDepth 1000000
set_option maxHeartbeats 4000000
namespace Go.Proofs.Ytcpkdjikembpnaa.Ce
open Go.RowKit
theorem tb15_ok:∀ x∈tb15,flatT x.2=true∧∃ (W0:FuncId→Bool) (k0 d0:Nat) (h0:Hp) (n0:Nat),acall Try.prog W0 k0 d0 0 x.1 [] [] 0=some (x.2,h0,n0):=by
 intro x hx
 unfold tb15 at hx
 simp only [List.mem_cons,List.not_mem_nil,or_false] at hx
 subst hx
 obtain ⟨h1,h0,n0,h2⟩:=alive15Parts.eval
 exact ⟨h1,_,_,_,h0,n0,h2⟩
end Go.Proofs.Ytcpkdjikembpnaa.Ce
