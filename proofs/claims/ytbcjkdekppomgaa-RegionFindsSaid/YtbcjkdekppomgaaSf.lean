/- Lists of regions, and what Find computes, in plain Lean. -/
import Derived.Test.YtbcjkdekppomgaaSb
namespace Go.Proofs.Ytbcjkdekppomgaa
open Go.RowKit

/-- a region's head: its base, where its bytes lie, how many, the capacity -/
structure Hd where
  b : Int
  A : Option Addr
  n : Nat
  c : Nat
def Hd.v (r : Hd) : Value := .agg #[.int .u64 r.b, .slice r.A r.n r.c]
def hv (l : List Hd) : List Value := l.flatMap fun r => [.int .u64 r.b, .slice r.A r.n r.c]
theorem hv_length : ∀ l : List Hd, (hv l).length = l.length * 2
  | [] => rfl
  | r :: l => by rw [hv, List.flatMap_cons, List.length_append, ← hv, hv_length l]; simp; omega
theorem hv_get0 : ∀ (l : List Hd) (i : Nat) (h : i < l.length), (hv l)[i * 2]? = some (.int .u64 (l[i]).b)
  | r :: l, 0, _ => rfl
  | r :: l, i + 1, h => by
    have := hv_get0 l i (by simpa using h)
    rw [hv, List.flatMap_cons, ← hv]
    simpa [Nat.add_mul] using this
theorem hv_get1 : ∀ (l : List Hd) (i : Nat) (h : i < l.length), (hv l)[i * 2 + 1]? = some (.slice (l[i]).A (l[i]).n (l[i]).c)
  | r :: l, 0, _ => rfl
  | r :: l, i + 1, h => by
    have := hv_get1 l i (by simpa using h)
    rw [hv, List.flatMap_cons, ← hv]
    simpa [Nat.add_mul] using this
/-- what a list of regions must keep to -/
def HdOk (r : Hd) : Prop := 0 ≤ r.b ∧ r.b < 18446744073709551616 ∧ r.n ≤ 9223372036854775807
def overB (x y : Hd) : Bool := decide (0 < x.n ∧ 0 < y.n ∧ x.b < y.b + y.n ∧ y.b < x.b + x.n)
def badB (r : Hd) : Bool := chkR r.b r.n != 0
/-- the first index, counted from k on, or -1 -/
def firstI (p : Hd → Bool) : List Hd → Int → Int
  | [], _ => -1
  | r :: l, k => if p r = true then k else firstI p l (k + 1)
theorem firstI_none {p : Hd → Bool} : ∀ {l : List Hd} {k : Int}, (∀ r ∈ l, p r = false) → firstI p l k = -1
  | [], _, _ => rfl
  | r :: l, k, h => by
    rw [firstI, if_neg (by rw [h r (by simp)]; simp)]
    exact firstI_none fun r' h' => h r' (by simp [h'])
theorem firstI_at {p : Hd → Bool} : ∀ {l : List Hd} {k : Int} {j : Nat} (hj : j < l.length), (∀ i (h : i < j), p (l[i]'(by omega)) = false) → p l[j] = true → firstI p l k = k + j
  | r :: l, k, 0, _, _, ht => by
    rw [firstI, if_pos (by simpa using ht)]; simp
  | r :: l, k, j + 1, hj, hf, ht => by
    rw [firstI, if_neg (by have := hf 0 (by omega); simp at this; rw [this]; simp)]
    rw [firstI_at (l := l) (k := k + 1) (j := j) (by simpa using hj) (fun i h => by have := hf (i + 1) (by omega); simpa using this) (by simpa using ht)]
    simp; omega
def twiceB (l : List Hd) : Bool := (List.range l.length).any fun i => (List.range i).any fun k => match l[i]?, l[k]? with | some x, some y => overB x y | _, _ => false
theorem twice_at {l : List Hd} {i k : Nat} (hi : i < l.length) (hk : k < i) (h : overB (l[i]) (l[k]'(by omega)) = true) : twiceB l = true := by
  unfold twiceB
  rw [List.any_eq_true]
  refine ⟨i, by simpa using hi, ?_⟩
  rw [List.any_eq_true]
  refine ⟨k, by simpa using hk, ?_⟩
  rw [List.getElem?_eq_getElem hi, List.getElem?_eq_getElem (by omega)]
  exact h
theorem twice_none {l : List Hd} (h : ∀ i k (hi : i < l.length) (hk : k < i), overB (l[i]) (l[k]'(by omega)) = false) : twiceB l = false := by
  unfold twiceB
  rw [List.any_eq_false]
  intro i hi
  simp at hi
  rw [Bool.not_eq_true, List.any_eq_false]
  intro k hk
  simp at hk
  rw [List.getElem?_eq_getElem hi, List.getElem?_eq_getElem (by omega)]
  simp [h i k hi hk]
def listedS (l : List Hd) : Int := if 17 < l.length then 4 else if l.any badB = true then 8 else if twiceB l = true then 14 else 0
def findS (l : List Hd) (a n : Int) : Int × Int :=
  if listedS l ≠ 0 then (0, listedS l) else if n < 1 then (0, 2) else if firstI (fun r => inb r.b r.n a n) l 0 < 0 then (0, 6) else (firstI (fun r => inb r.b r.n a n) l 0, 0)
end Go.Proofs.Ytbcjkdekppomgaa
