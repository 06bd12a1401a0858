/- What the region's functions compute, in plain Lean. Plain functions: what package bump and its reference compute. No program in sight. -/
import Derived.Test.YtlaagojidcbpeaaMem
namespace Go.Proofs.Ytlaagojidcbpeaa
set_option linter.unusedVariables false
set_option linter.unusedSimpArgs false

def basedB (a : Int) : Bool := decide (8 ≤ a ∧ a ≤ 1099511627776 ∧ a % 8 = 0)
/-- the error of a region -/
def chkR (b : Int) (n : Nat) : Int := if basedB b = true ∧ n ≤ 20000 then 0 else 8
theorem chkR_cases (b : Int) (n : Nat) : chkR b n = 0 ∨ chkR b n = 8 := by unfold chkR; split <;> simp
theorem chkR_ok {b : Int} {n : Nat} (h : chkR b n = 0) : 8 ≤ b ∧ b ≤ 1099511627776 ∧ b % 8 = 0 ∧ n ≤ 20000 := by
  unfold chkR basedB at h; grind
/-- has k bytes at a -/
def inb (b : Int) (n : Nat) (a k : Int) : Bool := decide (b ≤ a ∧ a + k ≤ b + n)
def indexS (b : Int) (n : Nat) (a k : Int) : Int × Bool := if b ≤ a ∧ a - b ≤ n then (a - b, decide (k ≤ n - (a - b))) else (0, false)
theorem indexS_snd {b : Int} {n : Nat} {a k : Int} (h : 0 ≤ k) : (indexS b n a k).2 = inb b n a k := by
  unfold indexS inb; grind
theorem indexS_fst {b : Int} {n : Nat} {a k : Int} (h : inb b n a k = true) (hk : 0 ≤ k) : (indexS b n a k).1 = a - b := by
  unfold indexS inb at *; grind
theorem inb_iff {b : Int} {n : Nat} {a k : Int} : inb b n a k = true ↔ b ≤ a ∧ a + k ≤ b + n := by unfold inb; simp
def hasS (b : Int) (n : Nat) (a k : Int) : Bool × Int := if chkR b n = 0 then (if k < 0 then (false, 2) else (inb b n a k, 0)) else (false, 8)
def wordE (b : Int) (n : Nat) (a w : Int) : Int := if chkR b n = 0 then (if w = 1 ∨ w = 8 then (if inb b n a w = true then 0 else 16) else 2) else 8
/-- a word of bytes, the lowest first -/
def le (l : List UInt8) : Int := l.foldr (fun x acc => x.toNat + 256 * acc) 0
def wordV (xs : List UInt8) (at_ w : Nat) : Int := le ((xs.drop at_).take w)
def loadS (b : Int) (xs : List UInt8) (a w : Int) : Int × Int := if wordE b xs.length a w = 0 then (wordV xs (a - b).toNat w.toNat, 0) else (0, wordE b xs.length a w)
def byteAt (v : Int) (j : Nat) : UInt8 := UInt8.ofNat (v / 256 ^ j % 256).toNat
def toLE (w : Nat) (v : Int) : List UInt8 := (List.range w).map (byteAt v)
/-- ys in the place of what lies at a place -/
def put (xs : List UInt8) (at_ : Nat) (ys : List UInt8) : List UInt8 := xs.take at_ ++ (ys ++ xs.drop (at_ + ys.length))
def storeE (b : Int) (n : Nat) (a w v : Int) : Int := if chkR b n = 0 then (if (w = 1 ∧ v ≤ 255) ∨ w = 8 then (if inb b n a w = true then 0 else 16) else 2) else 8
def storeS (b : Int) (xs : List UInt8) (a w v : Int) : (Int × List UInt8) × Int :=
  if storeE b xs.length a w v = 0 then ((b, put xs (a - b).toNat (toLE w.toNat v)), 0) else ((0, []), storeE b xs.length a w v)
def bytesS (b : Int) (xs : List UInt8) (a k : Int) : List UInt8 × Int :=
  if chkR b xs.length = 0 then (if k < 0 then ([], 2) else if inb b xs.length a k = true then ((xs.drop (a - b).toNat).take k.toNat, 0) else ([], 16)) else ([], 8)
def writeS (b : Int) (xs : List UInt8) (a : Int) (ys : List UInt8) : (Int × List UInt8) × Int :=
  if chkR b xs.length = 0 then (if inb b xs.length a ys.length = true then ((b, put xs (a - b).toNat ys), 0) else ((0, []), 16)) else ((0, []), 8)
def resized (xs : List UInt8) (k : Nat) : List UInt8 := xs.take k ++ List.replicate (k - xs.length) 0
def resizeS (b : Int) (xs : List UInt8) (k : Int) : (Int × List UInt8) × Int :=
  if chkR b xs.length = 0 then (if 0 ≤ k ∧ k ≤ 20000 then ((b, resized xs k.toNat), 0) else ((0, []), 2)) else ((0, []), 8)
def newS (b : Int) (k : Int) : (Int × List UInt8) × Int := if basedB b = true ∧ 0 ≤ k ∧ k ≤ 20000 then ((b, List.replicate k.toNat 0), 0) else ((0, []), 2)

theorem le_nil : le [] = 0 := rfl
theorem le_cons (x : UInt8) (l : List UInt8) : le (x :: l) = x.toNat + 256 * le l := rfl
theorem le_nonneg : ∀ l : List UInt8, 0 ≤ le l
  | [] => by simp [le]
  | x :: l => by rw [le_cons]; have := le_nonneg l; omega
theorem le_lt : ∀ l : List UInt8, le l < 256 ^ l.length
  | [] => by simp [le]
  | x :: l => by
    rw [le_cons, List.length_cons, Int.pow_succ]
    have := le_lt l
    have h := UInt8.toNat_lt x
    omega
theorem le_lt7 {l : List UInt8} (h : l.length ≤ 7) : le l < 72057594037927936 := by
  have h1 := le_lt l
  have h2 : (256 : Int) ^ l.length ≤ 256 ^ 7 := by
    rw [show l.length = 7 - (7 - l.length) from by omega]
    generalize 7 - l.length = k at *
    match k with
    | 0 => simp
    | 1 => decide
    | 2 => decide
    | 3 => decide
    | 4 => decide
    | 5 => decide
    | 6 => decide
    | k + 7 => simp
  have h3 : (256 : Int) ^ 7 = 72057594037927936 := by decide
  omega
theorem wordV_step {xs : List UInt8} {at_ m k : Nat} (h : at_ + k ≤ xs.length) (hm : m < k) :
    le ((xs.drop (at_ + m)).take (k - m)) = (xs[at_ + m]'(by omega)).toNat + 256 * le ((xs.drop (at_ + (m + 1))).take (k - (m + 1))) := by
  rw [List.drop_eq_getElem_cons (by omega), show k - m = (k - (m + 1)) + 1 from by omega, List.take_succ_cons, le_cons]
  rfl

theorem storeE_eq (b : Int) (n : Nat) (a k v : Int) : storeE b n a k v = if k = 1 ∧ 255 < v ∧ wordE b n a k ≠ 8 then 2 else wordE b n a k := by
  unfold storeE wordE; grind
theorem storeE_zero {b : Int} {n : Nat} {a k v : Int} (h : storeE b n a k v = 0) :
    wordE b n a k = 0 ∧ (k = 1 ∧ v ≤ 255 ∨ k = 8) ∧ 8 ≤ b ∧ b ≤ 1099511627776 ∧ n ≤ 20000 ∧ b ≤ a ∧ a + k ≤ b + n ∧ chkR b n = 0 := by
  unfold storeE at h; unfold wordE; unfold inb at *
  have := @chkR_ok b n
  grind
theorem toLE_length (w : Nat) (v : Int) : (toLE w v).length = w := by simp [toLE]
theorem toLE_zero (v : Int) : toLE 0 v = [] := rfl
theorem toLE_succ (w : Nat) (v : Int) : toLE (w + 1) v = toLE w v ++ [byteAt v w] := by simp [toLE, List.range_succ]
theorem byteAt_nat (v : Int) (j : Nat) : ((byteAt v j).toNat : Int) = v / 256 ^ j % 256 := by
  unfold byteAt
  have h0 : 0 ≤ v / 256 ^ j % 256 := Int.emod_nonneg _ (by decide)
  have h1 : v / 256 ^ j % 256 < 256 := Int.emod_lt_of_pos _ (by decide)
  generalize v / 256 ^ j % 256 = z at *
  obtain ⟨n, rfl⟩ := Int.eq_ofNat_of_zero_le h0
  have : n < 256 := by omega
  simp [Nat.mod_eq_of_lt this]
theorem put_length {xs ys : List UInt8} {k : Nat} (h : k + ys.length ≤ xs.length) : (put xs k ys).length = xs.length := by
  unfold put; simp; omega
theorem put_nil (xs : List UInt8) (k : Nat) : put xs k [] = xs := by simp [put]
theorem put_snoc {xs ys : List UInt8} {k : Nat} (y : UInt8) (h : k + ys.length < xs.length) : put xs k (ys ++ [y]) = (put xs k ys).set (k + ys.length) y := by
  unfold put
  apply List.ext_getElem
  · simp; omega
  · intro i h1 h2
    simp only [List.getElem_append, List.getElem_set, List.length_take, List.length_append, List.length_cons, List.length_nil, List.getElem_take, List.getElem_drop, List.getElem_singleton]
    grind
theorem bv_set (xs : List UInt8) (k : Nat) (y : UInt8) : bv (xs.set k y) = (bv xs).set k (.int .u8 y.toNat) := by simp [bv, List.map_set]

theorem byteAt_shr (v : Int) (j : Nat) : v / 2 ^ (8 * j) % 256 = ((byteAt v j).toNat : Int) := by
  rw [byteAt_nat, Int.pow_mul]; rfl
end Go.Proofs.Ytlaagojidcbpeaa
namespace Go.Proofs.Ytlaagojidcbpeaa

def sizeI (n : Int) : Int := max 8 ((n + 7) / 8 * 8)
theorem sizeI_ge (n : Int) : 8 ≤ sizeI n ∧ n ≤ sizeI n ∧ sizeI n % 8 = 0 := by unfold sizeI; omega
theorem sizeI_le {n : Int} (h : n ≤ 4096) : sizeI n ≤ 4096 := by unfold sizeI; omega
def chkB (b : Int) (n : Nat) (lim : Int) : Int := if b = 65536 ∧ n % 8 = 0 ∧ n ≤ 16384 then (if 0 ≤ lim ∧ lim ≤ 16384 then 0 else 2) else 8
theorem chkB_ok {b : Int} {n : Nat} {lim : Int} (h : chkB b n lim = 0) : b = 65536 ∧ n % 8 = 0 ∧ n ≤ 16384 ∧ 0 ≤ lim ∧ lim ≤ 16384 := by unfold chkB at h; grind
theorem chkB_R {n : Nat} (h : n ≤ 16384) : chkR 65536 n = 0 := by unfold chkR basedB; grind
def roomS (b : Int) (n : Nat) (lim : Int) : Int × Int := if chkB b n lim = 0 then (max 0 ((lim - n) / 8 * 8), 0) else (0, chkB b n lim)
def allocE (b : Int) (len : Nat) (n lim : Int) : Int := if chkB b len lim = 0 then (if n < 0 ∨ 4096 < n then 2 else if lim < len + sizeI n then 18 else 0) else chkB b len lim
def grown (xs : List UInt8) (n : Int) : List UInt8 := xs ++ List.replicate (sizeI n).toNat 0
theorem room_lt {len : Nat} {n lim : Int} (h8 : len % 8 = 0) : max 0 ((lim - len) / 8 * 8) < sizeI n ↔ lim < len + sizeI n := by
  unfold sizeI; omega
def greatB (n : Nat) : Bool := decide ((2000 < n ∧ n < 16300) ∨ 16500 < n)
def isB (b : Int) (n : Nat) : Bool := decide (b = 65536 ∧ n % 8 = 0 ∧ n ≤ 16384)
def fitsB (n : Nat) (k lim : Int) : Bool := decide ((n : Int) + sizeI k ≤ lim)
def great13 (n : Nat) : Bool := decide ((500 < n ∧ n ≤ 20000) ∨ 20100 < n)
def sameB (b : Int) (xs : List UInt8) (b2 : Int) (ys : List UInt8) : Bool := b == b2 && xs == ys
theorem sameB_self (b : Int) (xs : List UInt8) : sameB b xs b xs = true := by simp [sameB]
end Go.Proofs.Ytlaagojidcbpeaa
