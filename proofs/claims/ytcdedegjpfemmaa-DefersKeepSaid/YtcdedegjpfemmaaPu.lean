/- Words written and read back, in plain Lean. -/
import Derived.Test.YtcdedegjpfemmaaPt
import Derived.Test.YtcdedegjpfemmaaSa
namespace Go.Proofs.Ytcdedegjpfemmaa
set_option linter.unusedVariables false
set_option linter.unusedSimpArgs false

theorem le_snoc : ∀ (l : List UInt8) (x : UInt8), le (l ++ [x]) = le l + 256 ^ l.length * x.toNat
  | [], x => by simp [le]
  | y :: l, x => by
    rw [List.cons_append, le_cons, le_cons, le_snoc l x, List.length_cons, Int.pow_succ]
    generalize (256 : Int) ^ l.length = p
    rw [Int.mul_add, Int.mul_comm p 256, Int.mul_assoc]
    omega
theorem le_toLE_mod (n : Nat) : ∀ w : Nat, le (toLE w (n : Int)) = ((n % 256 ^ w : Nat) : Int)
  | 0 => by simp [toLE, le, Nat.mod_one]
  | w + 1 => by
    rw [toLE_succ, le_snoc, toLE_length, le_toLE_mod n w, byteAt_nat, Nat.pow_succ, Nat.mod_mul]
    have hp : (256 : Int) ^ w = ((256 ^ w : Nat) : Int) := (Int.natCast_pow 256 w).symm
    rw [hp]
    generalize 256 ^ w = p
    have h1 : (n : Int) / (p : Int) % 256 = ((n / p % 256 : Nat) : Int) := by
      rw [Int.natCast_emod, Int.natCast_ediv]; rfl
    rw [h1, Int.natCast_add, Int.natCast_mul]
theorem le_toLE {v : Int} {w : Nat} (h0 : 0 ≤ v) (h1 : v < 256 ^ w) : le (toLE w v) = v := by
  obtain ⟨n, rfl⟩ := Int.eq_ofNat_of_zero_le h0
  rw [le_toLE_mod]
  have hp : (256 : Int) ^ w = ((256 ^ w : Nat) : Int) := (Int.natCast_pow 256 w).symm
  rw [hp] at h1
  have : n < 256 ^ w := Int.ofNat_lt.1 h1
  rw [Nat.mod_eq_of_lt this]
theorem rdW_at (xs Ls R : List UInt8) (v : Int) (j : Nat) (hl : Ls.length = 8 * j) (h0 : 0 ≤ v) (h1 : v < 18446744073709551616) : rdW (xs ++ (Ls ++ (toLE 8 v ++ R))) xs.length j = v := by
  unfold rdW wordV
  rw [← List.append_assoc, List.drop_left' (by rw [List.length_append]; omega), List.take_left' (toLE_length 8 v)]
  exact le_toLE h0 (by omega)
end Go.Proofs.Ytcdedegjpfemmaa
