/- Records of deferred calls, in plain Lean. -/
import Derived.Test.YtcdedegjpfemmaaPl
namespace Go.Proofs.Ytcdedegjpfemmaa
open Go.RowKit
set_option linter.unusedVariables false
set_option linter.unusedSimpArgs false

structure Dn where
  nx : Int
  fr : Int
  fn : Int
  has : Bool
  ag : Int
def Dn.v (d : Dn) : Value := .agg ⟨[.int .u64 d.nx, .int .u64 d.fr, .int .i64 d.fn, .bool d.has, .int .u64 d.ag]⟩
def DnOk (d : Dn) : Prop := 0 ≤ d.nx ∧ d.nx < 18446744073709551616 ∧ 0 ≤ d.fr ∧ d.fr < 18446744073709551616 ∧ -9223372036854775808 ≤ d.fn ∧ d.fn ≤ 9223372036854775807 ∧ 0 ≤ d.ag ∧ d.ag < 18446744073709551616
def validD (d : Dn) : Bool := decide (0 ≤ d.fn ∧ d.fn < 32) && (d.has || d.ag == 0)
/-- a heap behind which a record grows: L is written, m bytes are still 0 -/
def grow (xs L : List UInt8) (m : Nat) : List UInt8 := xs ++ (L ++ List.replicate m 0)
theorem grow_length (xs L : List UInt8) (m : Nat) : (grow xs L m).length = xs.length + (L.length + m) := by simp [grow]
theorem put_grow (xs L : List UInt8) (m : Nat) (v : Int) : put (grow xs L (8 + m)) (xs.length + L.length) (toLE 8 v) = grow xs (L ++ toLE 8 v) m := by
  have hl := toLE_length 8 v
  generalize toLE 8 v = ys at *
  unfold put grow
  apply List.ext_getElem?
  intro i
  simp only [List.getElem?_append, List.getElem?_take, List.getElem?_drop, List.length_take, List.length_append, List.length_replicate, List.getElem?_replicate]
  grind
theorem byteAt_zero (j : Nat) : byteAt 0 j = 0 := by
  have h := byteAt_nat 0 j
  simp at h
  exact UInt8.toNat_inj.1 (by simpa using h)
theorem toLE_zeros (w : Nat) : toLE w 0 = List.replicate w 0 := by
  unfold toLE
  apply List.ext_getElem
  · simp
  · intro i h1 h2
    simp [byteAt_zero]
theorem grow_skip (xs L : List UInt8) (m : Nat) : grow xs L (8 + m) = grow xs (L ++ toLE 8 0) m := by
  unfold grow; rw [toLE_zeros, List.append_assoc, ← List.replicate_append_replicate]
theorem grown_grow (xs : List UInt8) : grown xs 40 = grow xs [] 40 := rfl
def hasW (d : Dn) : Int := if d.has = true then 1 else 0
def recL (d : Dn) : List UInt8 := toLE 8 d.nx ++ toLE 8 d.fr ++ toLE 8 d.fn ++ toLE 8 (hasW d) ++ toLE 8 d.ag
def pushE (b : Int) (n : Nat) (d : Dn) (lim : Int) : Int := if chkB b n lim = 0 then (if validD d = true then (if lim < n + 40 then 18 else 0) else 2) else chkB b n lim
def pushS (b : Int) (xs : List UInt8) (d : Dn) (lim : Int) : ((Int × List UInt8) × Int) × Int :=
  if pushE b xs.length d lim = 0 then (((b, xs ++ recL d), b + xs.length), 0) else (((0, []), 0), pushE b xs.length d lim)
end Go.Proofs.Ytcdedegjpfemmaa
