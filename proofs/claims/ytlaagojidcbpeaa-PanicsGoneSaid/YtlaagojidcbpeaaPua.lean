/- Words written and read back, in plain Lean. -/
import Derived.Test.YtlaagojidcbpeaaSa
namespace Go.Proofs.Ytlaagojidcbpeaa
set_option linter.unusedVariables false
set_option linter.unusedSimpArgs false
theorem le_snoc : ∀ (l : List UInt8) (x : UInt8), le (l ++ [x]) = le l + 256 ^ l.length * x.toNat
  | [], x => by simp [le]
  | y :: l, x => by
    rw [List.cons_append, le_cons, le_cons, le_snoc l x, List.length_cons, Int.pow_succ]
    generalize (256 : Int) ^ l.length = p
    rw [Int.mul_add, Int.mul_comm p 256, Int.mul_assoc]
    omega
theorem le_toLE_mod (n : Nat) : ∀ w : Nat, le (toLE w (n : Int)) = ((n % 256 ^ w : Nat) : Int)
  | 0 => by simp [toLE, le, Nat.mod_one]
  | w + 1 => by
    rw [toLE_succ, le_snoc, toLE_length, le_toLE_mod n w, byteAt_nat, Nat.pow_succ, Nat.mod_mul]
    have hp : (256 : Int) ^ w = ((256 ^ w : Nat) : Int) := (Int.natCast_pow 256 w).symm
    rw [hp]
    generalize 256 ^ w = p
    have h1 : (n : Int) / (p : Int) % 256 = ((n / p % 256 : Nat) : Int) := by
      rw [Int.natCast_emod, Int.natCast_ediv]; rfl
    rw [h1, Int.natCast_add, Int.natCast_mul]
theorem le_toLE {v : Int} {w : Nat} (h0 : 0 ≤ v) (h1 : v < 256 ^ w) : le (toLE w v) = v := by
  obtain ⟨n, rfl⟩ := Int.eq_ofNat_of_zero_le h0
  rw [le_toLE_mod]
  have hp : (256 : Int) ^ w = ((256 ^ w : Nat) : Int) := (Int.natCast_pow 256 w).symm
  rw [hp] at h1
  have : n < 256 ^ w := Int.ofNat_lt.1 h1
  rw [Nat.mod_eq_of_lt this]

theorem wordV_lo {xs : List UInt8} {p q : Nat} (ys : List UInt8) (hp : p ≤ xs.length) (h : q + 8 ≤ p) : wordV (put xs p ys) q 8 = wordV xs q 8 := by
  unfold wordV put
  rw [List.drop_append_of_le_length (by rw [List.length_take]; omega), List.take_append_of_le_length (by rw [List.length_drop, List.length_take]; omega), List.drop_take, List.take_take, Nat.min_eq_left (by omega)]
theorem wordV_hi {xs : List UInt8} {p q : Nat} (v : Int) (hp : p + 8 ≤ xs.length) (h : p + 8 ≤ q) : wordV (put xs p (toLE 8 v)) q 8 = wordV xs q 8 := by
  unfold wordV put
  have hl := toLE_length 8 v
  have e1 : (xs.take p).length = p := by rw [List.length_take]; omega
  rw [← List.append_assoc]
  have e2 : (xs.take p ++ toLE 8 v).length = p + 8 := by rw [List.length_append, e1, hl]
  rw [List.drop_append, List.drop_eq_nil_of_le (by omega), List.nil_append, e2, List.drop_drop, hl]
  congr 3
  omega
theorem wordV_at {xs : List UInt8} {p : Nat} {v : Int} (hp : p + 8 ≤ xs.length) (h0 : 0 ≤ v) (h1 : v < 18446744073709551616) : wordV (put xs p (toLE 8 v)) p 8 = v := by
  unfold wordV put
  have e1 : (xs.take p).length = p := by rw [List.length_take]; omega
  rw [List.drop_left' e1, List.take_left' (toLE_length 8 v)]
  exact le_toLE h0 (by omega)
end Go.Proofs.Ytlaagojidcbpeaa
