/- Parts of the proof of ValueNames: EMisfits1519. No condition of its own. -/
import Derived.Test.YtcpkdjikembpnaaProg
import Derived.Test.YtcpkdjikembpnaaVnag
import Derived.Test.YtcpkdjikembpnaaVnbr
import Derived.Test.YtcpkdjikembpnaaVnbs
import Derived.Test.YtcpkdjikembpnaaVnbt
import Derived.Test.YtcpkdjikembpnaaVnbu
import Derived.Test.YtcpkdjikembpnaaVnbv
import Derived.Test.YtcpkdjikembpnaaVnbw
set_option linter.unusedVariables false
set_option linter.unusedSimpArgs false
set_option maxRecDepth 1000000
set_option maxHeartbeats 4000000
namespace Go.Proofs.Ytcpkdjikembpnaa.misfits15Parts
open Go.Proofs.Ytcpkdjikembpnaa Go.Proofs.Ytcpkdjikembpnaa.Ce
open Go.RowKit
theorem run1 : acode Try.prog fs 2000 0 (tk 1 (dr 5 body)) st1 = some (0, st2) :=
  tk_one (x := lp1) (by kernel_rfl) ((congrArg (fun c => acode Try.prog fs 2000 0 c st1) (show lp1 = .block 0 (.loop (lbody lp1)) from by kernel_rfl)).trans (block_at (ex := 2) rfl (show aloop (acode Try.prog fs 2000 0 (lbody lp1)) 2000 st1 = some (2, st2) from (loop_at (j := 1999) 1 seg1_0 (loop_at (j := 1997) 2 seg1_1 fin1)))))
theorem run4 : acode Try.prog fs 2000 0 (tk 1 (dr 4 (dr 1 (dr 1 (dr 5 body))))) st4 = some (0, st5) :=
  tk_one (x := lp4) (by kernel_rfl) ((congrArg (fun c => acode Try.prog fs 2000 0 c st4) (show lp4 = .block 2 (.loop (lbody lp4)) from by kernel_rfl)).trans (block_at (ex := 4) rfl (show aloop (acode Try.prog fs 2000 0 (lbody lp4)) 2000 st4 = some (4, st5) from (loop_at (j := 1998) 2 seg4_0 (loop_at (j := 1997) 1 seg4_1 (loop_at (j := 1995) 2 seg4_2 (loop_at (j := 1994) 1 seg4_3 (loop_at (j := 1993) 1 seg4_4 (loop_at (j := 1992) 1 seg4_5 (loop_at (j := 1991) 1 seg4_6 (loop_at (j := 1990) 1 seg4_7 (loop_at (j := 1989) 1 seg4_8 fin4))))))))))))
theorem evalTab : ∃ h n, afunc Try.prog fs mayWrite 2000 0 35 [] [] 0 = some ((.bool true), h, n) :=
  cut_law (P := Try.prog) (W := mayWrite) (k := 2000) (F := fs) (f := 35) (c := bodyOf Try.prog 35) (nt := ntOf Try.prog 35) (rs := Try.f35.results.toList) (v := (.bool true)) (by kernel_rfl) (by kernel_rfl) (by kernel_rfl) rfl (flat_law (show acode Try.prog fs 2000 0 body st0 = some (1, st7) from (cut_at 5 run0 (cut_at 1 run1 (cut_at 1 run2 (cut_at 4 run3 (cut_at 1 run4 (cut_at 1 run5 run6)))))))) rfl (by kernel_rfl) (by kernel_rfl)
theorem eval : flatT (.bool true) = true ∧ ∃ h n, acall Try.prog mayWrite 2000 41 0 35 [] [] 0 = some ((.bool true), h, n) := by
  have h := evalTab
  unfold fs known at h
  rw [tab_nil] at h
  exact ⟨rfl, h⟩
end Go.Proofs.Ytcpkdjikembpnaa.misfits15Parts
