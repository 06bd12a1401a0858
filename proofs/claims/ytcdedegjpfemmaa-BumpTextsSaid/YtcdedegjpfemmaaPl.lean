/- Plain functions: what package bump and its reference compute. No program in sight. -/
import Derived.Test.YtcdedegjpfemmaaSa
namespace Go.Proofs.Ytcdedegjpfemmaa
set_option linter.unusedVariables false
set_option linter.unusedSimpArgs false

def sizeI (n : Int) : Int := max 8 ((n + 7) / 8 * 8)
theorem sizeI_ge (n : Int) : 8 ≤ sizeI n ∧ n ≤ sizeI n ∧ sizeI n % 8 = 0 := by unfold sizeI; omega
theorem sizeI_le {n : Int} (h : n ≤ 4096) : sizeI n ≤ 4096 := by unfold sizeI; omega
def chkB (b : Int) (n : Nat) (lim : Int) : Int := if b = 65536 ∧ n % 8 = 0 ∧ n ≤ 16384 then (if 0 ≤ lim ∧ lim ≤ 16384 then 0 else 2) else 8
theorem chkB_ok {b : Int} {n : Nat} {lim : Int} (h : chkB b n lim = 0) : b = 65536 ∧ n % 8 = 0 ∧ n ≤ 16384 ∧ 0 ≤ lim ∧ lim ≤ 16384 := by unfold chkB at h; grind
theorem chkB_R {n : Nat} (h : n ≤ 16384) : chkR 65536 n = 0 := by unfold chkR basedB; grind
def roomS (b : Int) (n : Nat) (lim : Int) : Int × Int := if chkB b n lim = 0 then (max 0 ((lim - n) / 8 * 8), 0) else (0, chkB b n lim)
def allocE (b : Int) (len : Nat) (n lim : Int) : Int := if chkB b len lim = 0 then (if n < 0 ∨ 4096 < n then 2 else if lim < len + sizeI n then 18 else 0) else chkB b len lim
def grown (xs : List UInt8) (n : Int) : List UInt8 := xs ++ List.replicate (sizeI n).toNat 0
theorem room_lt {len : Nat} {n lim : Int} (h8 : len % 8 = 0) : max 0 ((lim - len) / 8 * 8) < sizeI n ↔ lim < len + sizeI n := by
  unfold sizeI; omega
def greatB (n : Nat) : Bool := decide ((2000 < n ∧ n < 16300) ∨ 16500 < n)
def isB (b : Int) (n : Nat) : Bool := decide (b = 65536 ∧ n % 8 = 0 ∧ n ≤ 16384)
def fitsB (n : Nat) (k lim : Int) : Bool := decide ((n : Int) + sizeI k ≤ lim)
def great13 (n : Nat) : Bool := decide ((500 < n ∧ n ≤ 20000) ∨ 20100 < n)
def sameB (b : Int) (xs : List UInt8) (b2 : Int) (ys : List UInt8) : Bool := b == b2 && xs == ys
theorem sameB_self (b : Int) (xs : List UInt8) : sameB b xs b xs = true := by simp [sameB]
end Go.Proofs.Ytcdedegjpfemmaa
