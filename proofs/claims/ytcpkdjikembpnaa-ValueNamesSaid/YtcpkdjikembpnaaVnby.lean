/- Parts of the proof of ValueNames: EValueNames27. No condition of its own. -/
import Derived.Test.YtcpkdjikembpnaaProg
import Derived.Test.YtcpkdjikembpnaaVnag
import Derived.Test.YtcpkdjikembpnaaVnaj
import Derived.Test.YtcpkdjikembpnaaVnak
import Derived.Test.YtcpkdjikembpnaaVnal
import Derived.Test.YtcpkdjikembpnaaVnam
import Derived.Test.YtcpkdjikembpnaaVnan
import Derived.Test.YtcpkdjikembpnaaVnao
import Derived.Test.YtcpkdjikembpnaaVnap
import Derived.Test.YtcpkdjikembpnaaVnaq
import Derived.Test.YtcpkdjikembpnaaVnar
import Derived.Test.YtcpkdjikembpnaaVnas
import Derived.Test.YtcpkdjikembpnaaVnat
import Derived.Test.YtcpkdjikembpnaaVnau
import Derived.Test.YtcpkdjikembpnaaVnav
import Derived.Test.YtcpkdjikembpnaaVnaw
import Derived.Test.YtcpkdjikembpnaaVnax
import Derived.Test.YtcpkdjikembpnaaVnay
import Derived.Test.YtcpkdjikembpnaaVnaz
import Derived.Test.YtcpkdjikembpnaaVnba
import Derived.Test.YtcpkdjikembpnaaVnbb
import Derived.Test.YtcpkdjikembpnaaVnbc
import Derived.Test.YtcpkdjikembpnaaVnbd
import Derived.Test.YtcpkdjikembpnaaVnbe
import Derived.Test.YtcpkdjikembpnaaVnbf
import Derived.Test.YtcpkdjikembpnaaVnbl
import Derived.Test.YtcpkdjikembpnaaVnbm
import Derived.Test.YtcpkdjikembpnaaVnbp
import Derived.Test.YtcpkdjikembpnaaVnbx
set_option linter.unusedVariables false
set_option linter.unusedSimpArgs false
set_option maxRecDepth 1000000
set_option maxHeartbeats 4000000
namespace Go.Proofs.Ytcpkdjikembpnaa.valueNamesParts
open Go.Proofs.Ytcpkdjikembpnaa Go.Proofs.Ytcpkdjikembpnaa.Ce
open Go.RowKit
theorem evalTab : ∃ h n, afunc Try.prog fs mayWrite 2000 0 7 [] [] 0 = some ((.bool true), h, n) :=
  cut_law (P := Try.prog) (W := mayWrite) (k := 2000) (F := fs) (f := 7) (c := bodyOf Try.prog 7) (nt := ntOf Try.prog 7) (rs := Try.f7.results.toList) (v := (.bool true)) (by kernel_rfl) (by kernel_rfl) (by kernel_rfl) rfl (flat_law (show acode Try.prog fs 2000 0 body st0 = some (1, st25) from (cut_at 6 run0 (cut_at 1 run1 (cut_at 1 run2 (cut_at 1 run3 (cut_at 1 run4 (cut_at 1 run5 (cut_at 1 run6 (cut_at 1 run7 (cut_at 1 run8 (cut_at 1 run9 (cut_at 1 run10 (cut_at 1 run11 (cut_at 1 run12 (cut_at 1 run13 (cut_at 1 run14 (cut_at 1 run15 (cut_at 1 run16 (cut_at 1 run17 (cut_at 1 run18 (cut_at 3 run19 (cut_at 2 run20 (cut_at 1 run21 (cut_at 1 run22 (cut_at 1 run23 run24)))))))))))))))))))))))))) rfl (by kernel_rfl) (by kernel_rfl)
theorem walk (w : World) : Calls Try.prog 7 #[] w fun e w' => e = .returned (.bool true) ∧ Below w.heap.size w w' :=
  calls_tab (W := mayWrite) (k := 2000) (d := 41) (l := known) (by kernel_rfl) (fun x hx => (by unfold known at hx; simp only [List.mem_cons, List.not_mem_nil, or_false] at hx; rcases hx with rfl | rfl; exact alive15Parts.eval; exact misfits15Parts.eval)) (by kernel_rfl) evalTab w
end Go.Proofs.Ytcpkdjikembpnaa.valueNamesParts
