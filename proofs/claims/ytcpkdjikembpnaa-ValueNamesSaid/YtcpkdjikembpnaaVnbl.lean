/- Parts of the proof of ValueNames: EValueNames25. No condition of its own. -/
import Derived.Test.YtcpkdjikembpnaaProg
import Derived.Test.YtcpkdjikembpnaaVnai
import Derived.Test.YtcpkdjikembpnaaVnbg
import Derived.Test.YtcpkdjikembpnaaVnbh
import Derived.Test.YtcpkdjikembpnaaVnbi
import Derived.Test.YtcpkdjikembpnaaVnbj
import Derived.Test.YtcpkdjikembpnaaVnbk
set_option linter.unusedVariables false
set_option linter.unusedSimpArgs false
set_option maxRecDepth 1000000
set_option maxHeartbeats 4000000
namespace Go.Proofs.Ytcpkdjikembpnaa.valueNamesParts
open Go.Proofs.Ytcpkdjikembpnaa Go.Proofs.Ytcpkdjikembpnaa.Ce
open Go.RowKit
theorem nrun3 : acode Try.prog fsN 2000 176 (dr 4 (dr 6 (dr 2 bodyN))) sn3 = some (1, sn4) := by kernel_rfl
theorem call19 : afunc Try.prog fsN mayWrite 2000 0 19 args stA.h 176 = some (resV, stA.h, 176) :=
  call_cut (P := Try.prog) (W := mayWrite) (k := 2000) (F := fsN) (c := bodyOf Try.prog 19) (nt := 69) (rs := Try.f19.results.toList) (st0 := sn0) (st := sn4) (v := resV) (by kernel_rfl) (by kernel_rfl) (by kernel_rfl) rfl (flat_law (show acode Try.prog fsN 2000 176 bodyN sn0 = some (1, sn4) from (cut_at 2 nrun0 (cut_at 6 nrun1 (cut_at 4 nrun2 nrun3))))) rfl (by kernel_rfl) (by kernel_rfl)
noncomputable def theO : Oper := (ops.drop 3).headD ⟨none, .move (.tmp 0), 0, "", #[], none⟩
noncomputable def theC : Call := (callO theO).getD ⟨.value (.tmp 0), #[], #[]⟩
noncomputable def theX : Operand := match theC.callee with
  | .value x => x
  | _ => .tmp 0
theorem opA : aops Try.prog fs 0 0 ops (ops.take 3) st23 = some stA := by kernel_rfl
theorem opB : (aopS Try.prog GG 0 0 ops theO stA).map (·.1) = some stB := by kernel_rfl
theorem opC : aops Try.prog fs 0 0 ops (ops.drop 4) stB = some st24 := by kernel_rfl
theorem swap : aopS Try.prog fs 0 0 ops theO stA = aopS Try.prog GG 0 0 ops theO stA :=
  aopS_call (c := theC) (x := theX) (g := 19) (av := args) (by kernel_rfl) (by kernel_rfl) (by kernel_rfl) (by kernel_rfl) call19
theorem joinO : ops.take 3 ++ ([theO] ++ ops.drop 4) = ops := by kernel_rfl
theorem runOps : aops Try.prog fs 0 0 ops ops st23 = some st24 := region_call joinO opA swap opB opC
theorem run23 : acode Try.prog fs 2000 0 (tk 1 (dr 1 (dr 1 (dr 2 (dr 3 (dr 1 (dr 1 (dr 1 (dr 1 (dr 1 (dr 1 (dr 1 (dr 1 (dr 1 (dr 1 (dr 1 (dr 1 (dr 1 (dr 1 (dr 1 (dr 1 (dr 1 (dr 1 (dr 6 body)))))))))))))))))))))))) st23 = some (0, st24) :=
  tk_one (x := .region (idR reg) ⟨ops⟩ false) (by kernel_rfl) (region_cut runOps)
end Go.Proofs.Ytcpkdjikembpnaa.valueNamesParts
