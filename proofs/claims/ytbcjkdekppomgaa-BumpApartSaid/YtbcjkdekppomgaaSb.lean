/- Plain laws of what the region's functions compute: a word that was stored, and what lies beside it. -/
import Derived.Test.YtbcjkdekppomgaaRe
namespace Go.Proofs.Ytbcjkdekppomgaa

theorem le_toLE_mod (n : Nat) : ∀ w : Nat, le (toLE w (n : Int)) = ((n % 256 ^ w : Nat) : Int)
  | 0 => by simp [toLE, le, Nat.mod_one]
  | w + 1 => by
    rw [toLE_succ, le_snoc, toLE_length, le_toLE_mod n w, byteAt_nat, Nat.pow_succ, Nat.mod_mul]
    have hp : (256 : Int) ^ w = ((256 ^ w : Nat) : Int) := (Int.natCast_pow 256 w).symm
    rw [hp]
    generalize 256 ^ w = p
    have h1 : (n : Int) / (p : Int) % 256 = ((n / p % 256 : Nat) : Int) := by
      rw [Int.natCast_emod, Int.natCast_ediv]; rfl
    rw [h1, Int.natCast_add, Int.natCast_mul]
theorem le_toLE {v : Int} {w : Nat} (h0 : 0 ≤ v) (h1 : v < 256 ^ w) : le (toLE w v) = v := by
  obtain ⟨n, rfl⟩ := Int.eq_ofNat_of_zero_le h0
  rw [le_toLE_mod]
  have hp : (256 : Int) ^ w = ((256 ^ w : Nat) : Int) := (Int.natCast_pow 256 w).symm
  rw [hp] at h1
  have : n < 256 ^ w := Int.ofNat_lt.1 h1
  rw [Nat.mod_eq_of_lt this]
theorem put_at {xs ys : List UInt8} {k : Nat} (h : k + ys.length ≤ xs.length) : ((put xs k ys).drop k).take ys.length = ys := by
  unfold put
  rw [List.drop_append_of_le_length (by simp; omega), List.drop_of_length_le (by simp; omega)]
  simp
theorem put_before {xs ys : List UInt8} {k j m : Nat} (h : j + m ≤ k) (hk : k ≤ xs.length) : ((put xs k ys).drop j).take m = (xs.drop j).take m := by
  unfold put
  apply List.ext_getElem?
  intro i
  simp only [List.getElem?_take, List.getElem?_drop, List.getElem?_append, List.length_take]
  grind
theorem put_behind {xs ys : List UInt8} {k j : Nat} (h : k + ys.length ≤ j) (hk : k + ys.length ≤ xs.length) : (put xs k ys).drop j = xs.drop j := by
  unfold put
  apply List.ext_getElem?
  intro i
  simp only [List.getElem?_drop, List.getElem?_append, List.length_take]
  grind

/-- after a store that was done: the word is loaded -/
theorem load_stored {b : Int} {xs : List UInt8} {a k v : Int} (h : storeE b xs.length a k v = 0) (hv0 : 0 ≤ v) (hv1 : v < 18446744073709551616) :
    loadS b (put xs (a - b).toNat (toLE k.toNat v)) a k = (v, 0) := by
  obtain ⟨hE, hk, h2, h3, h4, h5, h6, hc⟩ := storeE_zero h
  have hl : (put xs (a - b).toNat (toLE k.toNat v)).length = xs.length := put_length (by rw [toLE_length]; omega)
  unfold loadS
  rw [hl, if_pos hE]
  congr 1
  unfold wordV
  have hp := put_at (xs := xs) (ys := toLE k.toNat v) (k := (a - b).toNat) (by rw [toLE_length]; omega)
  rw [toLE_length] at hp
  rw [hp]
  refine le_toLE hv0 ?_
  rcases hk with ⟨rfl, hv⟩ | rfl
  · show v < 256
    omega
  · exact hv1
/-- what lies beside a stored word is as before -/
theorem load_beside {b : Int} {xs : List UInt8} {a k v a2 k2 : Int} (h : storeE b xs.length a k v = 0) (h2 : (loadS b xs a2 k2).2 = 0) (hap : a + k ≤ a2 ∨ a2 + k2 ≤ a) :
    loadS b (put xs (a - b).toNat (toLE k.toNat v)) a2 k2 = loadS b xs a2 k2 := by
  obtain ⟨hE, hk, h2', h3, h4, h5, h6, hc⟩ := storeE_zero h
  have hl : (put xs (a - b).toNat (toLE k.toNat v)).length = xs.length := put_length (by rw [toLE_length]; omega)
  unfold loadS at *
  rw [hl]
  by_cases hw : wordE b xs.length a2 k2 = 0
  · rw [if_pos hw] at h2 ⊢
    rw [if_pos hw]
    have hw' : (k2 = 1 ∨ k2 = 8) ∧ b ≤ a2 ∧ a2 + k2 ≤ b + xs.length := by
      unfold wordE chkR basedB inb at hw; grind
    obtain ⟨hk2, h8, h9⟩ := hw'
    congr 1
    unfold wordV
    rcases hap with hap | hap
    · rw [put_behind (by rw [toLE_length]; omega) (by rw [toLE_length]; omega)]
    · rw [put_before (by omega) (by omega)]
  · rw [if_neg hw] at h2
    exact absurd h2 hw
theorem load_err {b : Int} {xs ys : List UInt8} {a k : Int} (h : ys.length = xs.length) : (loadS b ys a k).2 = (loadS b xs a k).2 := by
  unfold loadS; rw [h]; split <;> rfl
end Go.Proofs.Ytbcjkdekppomgaa
