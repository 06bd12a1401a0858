/- Parts of the proof of ValueLoads: Ha, Hb. No condition of its own. -/
import Derived.Test.YtcpkdjikembpnaaVlaj
import Derived.Test.YtcpkdjikembpnaaVlak
set_option linter.unusedVariables false
set_option linter.unusedSimpArgs false
set_option maxRecDepth 100000
set_option maxHeartbeats 4000000
namespace Go.Proofs.Ytcpkdjikembpnaa.Ce
open Go.RowKit
theorem le_snocG : ∀ (l : List UInt8) (x : UInt8), le (l ++ [x]) = le l + 256 ^ l.length * x.toNat
  | [], x => by simp [le]
  | y :: l, x => by
    rw [List.cons_append, le_cons, le_cons, le_snocG l x, List.length_cons, Int.pow_succ]
    generalize (256 : Int) ^ l.length = p
    rw [Int.mul_add, Int.mul_comm p 256, Int.mul_assoc]
    omega
theorem wordV_snocG {xs : List UInt8} {q m : Nat} (h : q + m < xs.length) : le ((xs.drop q).take (m + 1)) = le ((xs.drop q).take m) + 256 ^ m * (xs[q + m]'h).toNat := by
  have h1 : (xs.drop q).take (m + 1) = (xs.drop q).take m ++ [xs[q + m]'h] := by
    rw [List.take_add_one, List.getElem?_drop, List.getElem?_eq_getElem h]; rfl
  rw [h1, le_snocG, List.length_take, List.length_drop, Nat.min_eq_left (by omega)]
variable (k d cl : Nat) (h : Hp) (n : Nat)
theorem rinG_ev (b : Int) (A : Option Addr) (m c : Nat) (hc : chkR b m = 0) (a w : Int) (ha0 : 0 ≤ a) (ha1 : a < 18446744073709551616) (hw0 : 0 ≤ w) (hw1 : w ≤ 9223372036854775807) :
    SQ k (d + 1) cl 76 [.agg ⟨[.int .u64 b, .slice A m c]⟩, .int .u64 a, .int .i64 w] h n fun v h' n' => v = .bool (inb b m a w) ∧ h = h' ∧ n = n' := by
  have hi := @inb_iff b m a w
  obtain ⟨x2, x3, x4, x5⟩ := chkR_ok hc
  refine enter Try.func76 (by kernel_rfl) rfl (by kernel_rfl) rfl rfl rfl ?_
  (repeat' first | refine zcd ?_ | intro K' hK | (with_reducible refine zn hK ?_; clear hK) | fail | ((with_reducible first | apply zo1 | apply zo2 | apply o_guard rfl | apply x_cond | apply k_e1 rfl | apply k_e2 rfl | apply k_e0 rfl | apply k_e3 rfl | apply k_e4 rfl); (case he => exact ez0); (try case hok => exact ezO); all_goals try (intro hb; (try simp only [hbs, reduceCtorEq] at hb); try exact ezX)) | ((with_reducible apply o_undef rfl); (case hb => exact ez0)))
  all_goals exact sw_flat rfl rfl ⟨by congr 1; rw [Bool.eq_iff_iff, hi]; simp; try omega, rfl, rfl⟩
theorem rwordG_ev (hk : 30000 ≤ k) (b : Int) (A : Option Addr) (xs : List UInt8) (c : Nat) (a : Int) (q : Nat) (hr : RdH h n A (bv xs)) (hc : chkR b xs.length = 0) (ha : a = b + q) (hq : q + 8 ≤ xs.length) :
    SQ k (d + 1) cl 124 [.agg ⟨[.int .u64 b, .slice A xs.length c]⟩, .int .u64 a, .int .i64 8] h n fun v h' n' => v = .int .u64 (wordV xs q 8) ∧ h = h' ∧ n = n' := by
  obtain ⟨x2, x3, x4, x5⟩ := chkR_ok hc
  obtain ⟨id, off, rfl, hid, hcell⟩ := hr.bytes (by omega)
  refine enter Try.func124 (by kernel_rfl) rfl (by kernel_rfl) rfl rfl rfl ?_
  (repeat' first | refine zcd ?_ | intro K' hK | (with_reducible refine zn hK ?_; clear hK) | fail | ((with_reducible first | apply zo1 | apply zo2 | apply o_guard rfl | apply x_cond | apply k_e1 rfl | apply k_e2 rfl | apply k_e0 rfl | apply k_e3 rfl | apply k_e4 rfl); (case he => exact ez0); (try case hok => exact ezO); all_goals try (intro hb; (try simp only [hbs, reduceCtorEq] at hb); try exact ezX)) | ((with_reducible apply o_undef rfl); (case hb => exact ez0)))
  refine x_loopF [7, 8, 9, 10, 11, 12, 13, 14, 15, 16, 17, 18, 19, 20, 21, 22, 23, 24, 25, 26, 27, 28, 29, 30, 31, 32] [7, 8, 9] (fun m vs => m ≤ 8 ∧ vs = [.int .u64 (le ((xs.drop q).take (8 - m))), .int .u64 (IntKind.u64.wrap (256 ^ (8 - m))), .int .i64 ((8 - m : Nat) : Int)]) 8 rfl (by omega) ⟨by omega, by simp (disch := first | assumption | omega | rfl | decide) only [go_sem, Nat.reduceBEq, ↓reduceIte, Nat.reduceEqDiff, Nat.reduceAdd, Nat.reduceMul, Int.reduceToNat, Int.reduceAdd, Int.reduceMul, Int.reduceSub, tys]; rfl⟩ ?_
  rintro m g _ ⟨i0, rfl⟩
  rcases m with _ | m
  · (repeat' first | refine zcd ?_ | intro K' hK | (with_reducible refine zn hK ?_; clear hK) | fail | ((with_reducible first | apply zo1 | apply zo2 | apply o_guard rfl | apply x_cond | apply k_e1 rfl | apply k_e2 rfl | apply k_e0 rfl | apply k_e3 rfl | apply k_e4 rfl); (case he => exact ez0); (try case hok => exact ezO); all_goals try (intro hb; (try simp only [hbs, reduceCtorEq] at hb); try exact ezX)) | ((with_reducible apply o_undef rfl); (case hb => exact ez0)))
    all_goals exact sw_flat rfl rfl ⟨rfl, rfl, rfl⟩
  · have hms : m = 0 ∨ m = 1 ∨ m = 2 ∨ m = 3 ∨ m = 4 ∨ m = 5 ∨ m = 6 ∨ m = 7 := by omega
    rcases hms with rfl | rfl | rfl | rfl | rfl | rfl | rfl | rfl
    · have hw : IntKind.u64.wrap (256 ^ (8 - (0 + 1))) = 72057594037927936 := by decide
      have hw2 : IntKind.u64.wrap (256 ^ (8 - 0)) = IntKind.u64.wrap (72057594037927936 * 256) := by decide
      have hce := hcell (q + 7) (by omega)
      have hb := UInt8.toNat_lt (xs[q + 7]'(by omega))
      have hv0 := le_nonneg ((xs.drop q).take 7)
      have hv1 : le ((xs.drop q).take 7) < 72057594037927936 := by
        have := le_lt ((xs.drop q).take 7)
        rw [List.length_take, List.length_drop, Nat.min_eq_left (by omega)] at this
        exact this
      have hsn : le ((xs.drop q).take (7 + 1)) = le ((xs.drop q).take 7) + 256 ^ 7 * (xs[q + 7]'(by omega)).toNat := wordV_snocG (xs := xs) (q := q) (m := 7) (by omega)
      rw [show (256 : Int) ^ 7 = 72057594037927936 from by decide] at hsn
      have ht : (a - b + 7).toNat = q + 7 := by omega
      rw [hw]
      show X _ _ _ _ _ (fputs _ _ [.int .u64 (le ((xs.drop q).take 7)), .int .u64 72057594037927936, .int .i64 7]) _ _ _
      (repeat' first | refine zcd ?_ | intro K' hK | (with_reducible refine zn hK ?_; clear hK) | fail | ((with_reducible first | apply zo1 | apply zo2 | apply o_guard rfl | apply x_cond | apply k_e1 rfl | apply k_e2 rfl | apply k_e0 rfl | apply k_e3 rfl | apply k_e4 rfl); (case he => exact ez2 hce ht); (try case hok => exact ezO); all_goals try (intro hb; (try simp only [hbs, reduceCtorEq] at hb); try exact ezX)) | ((with_reducible apply o_undef rfl); (case hb => exact ez0)))
      refine k_round 0 (by omega) ⟨⟨rfl, rfl⟩, by omega, ?_⟩
      rw [hw2]
      simp (disch := first | assumption | omega | rfl | decide) only [go_sem, Nat.reduceBEq, ↓reduceIte, Nat.reduceEqDiff, Nat.reduceAdd, Nat.reduceMul, Int.reduceToNat, Int.reduceAdd, Int.reduceMul, Int.reduceSub, tys]
      rw [← hsn]
      rfl
    · have hw : IntKind.u64.wrap (256 ^ (8 - (1 + 1))) = 281474976710656 := by decide
      have hw2 : IntKind.u64.wrap (256 ^ (8 - 1)) = IntKind.u64.wrap (281474976710656 * 256) := by decide
      have hce := hcell (q + 6) (by omega)
      have hb := UInt8.toNat_lt (xs[q + 6]'(by omega))
      have hv0 := le_nonneg ((xs.drop q).take 6)
      have hv1 : le ((xs.drop q).take 6) < 281474976710656 := by
        have := le_lt ((xs.drop q).take 6)
        rw [List.length_take, List.length_drop, Nat.min_eq_left (by omega)] at this
        exact this
      have hsn : le ((xs.drop q).take (6 + 1)) = le ((xs.drop q).take 6) + 256 ^ 6 * (xs[q + 6]'(by omega)).toNat := wordV_snocG (xs := xs) (q := q) (m := 6) (by omega)
      rw [show (256 : Int) ^ 6 = 281474976710656 from by decide] at hsn
      have ht : (a - b + 6).toNat = q + 6 := by omega
      rw [hw]
      show X _ _ _ _ _ (fputs _ _ [.int .u64 (le ((xs.drop q).take 6)), .int .u64 281474976710656, .int .i64 6]) _ _ _
      (repeat' first | refine zcd ?_ | intro K' hK | (with_reducible refine zn hK ?_; clear hK) | fail | ((with_reducible first | apply zo1 | apply zo2 | apply o_guard rfl | apply x_cond | apply k_e1 rfl | apply k_e2 rfl | apply k_e0 rfl | apply k_e3 rfl | apply k_e4 rfl); (case he => exact ez2 hce ht); (try case hok => exact ezO); all_goals try (intro hb; (try simp only [hbs, reduceCtorEq] at hb); try exact ezX)) | ((with_reducible apply o_undef rfl); (case hb => exact ez0)))
      refine k_round 1 (by omega) ⟨⟨rfl, rfl⟩, by omega, ?_⟩
      rw [hw2]
      simp (disch := first | assumption | omega | rfl | decide) only [go_sem, Nat.reduceBEq, ↓reduceIte, Nat.reduceEqDiff, Nat.reduceAdd, Nat.reduceMul, Int.reduceToNat, Int.reduceAdd, Int.reduceMul, Int.reduceSub, tys]
      rw [← hsn]
      rfl
    · have hw : IntKind.u64.wrap (256 ^ (8 - (2 + 1))) = 1099511627776 := by decide
      have hw2 : IntKind.u64.wrap (256 ^ (8 - 2)) = IntKind.u64.wrap (1099511627776 * 256) := by decide
      have hce := hcell (q + 5) (by omega)
      have hb := UInt8.toNat_lt (xs[q + 5]'(by omega))
      have hv0 := le_nonneg ((xs.drop q).take 5)
      have hv1 : le ((xs.drop q).take 5) < 1099511627776 := by
        have := le_lt ((xs.drop q).take 5)
        rw [List.length_take, List.length_drop, Nat.min_eq_left (by omega)] at this
        exact this
      have hsn : le ((xs.drop q).take (5 + 1)) = le ((xs.drop q).take 5) + 256 ^ 5 * (xs[q + 5]'(by omega)).toNat := wordV_snocG (xs := xs) (q := q) (m := 5) (by omega)
      rw [show (256 : Int) ^ 5 = 1099511627776 from by decide] at hsn
      have ht : (a - b + 5).toNat = q + 5 := by omega
      rw [hw]
      show X _ _ _ _ _ (fputs _ _ [.int .u64 (le ((xs.drop q).take 5)), .int .u64 1099511627776, .int .i64 5]) _ _ _
      (repeat' first | refine zcd ?_ | intro K' hK | (with_reducible refine zn hK ?_; clear hK) | fail | ((with_reducible first | apply zo1 | apply zo2 | apply o_guard rfl | apply x_cond | apply k_e1 rfl | apply k_e2 rfl | apply k_e0 rfl | apply k_e3 rfl | apply k_e4 rfl); (case he => exact ez2 hce ht); (try case hok => exact ezO); all_goals try (intro hb; (try simp only [hbs, reduceCtorEq] at hb); try exact ezX)) | ((with_reducible apply o_undef rfl); (case hb => exact ez0)))
      refine k_round 2 (by omega) ⟨⟨rfl, rfl⟩, by omega, ?_⟩
      rw [hw2]
      simp (disch := first | assumption | omega | rfl | decide) only [go_sem, Nat.reduceBEq, ↓reduceIte, Nat.reduceEqDiff, Nat.reduceAdd, Nat.reduceMul, Int.reduceToNat, Int.reduceAdd, Int.reduceMul, Int.reduceSub, tys]
      rw [← hsn]
      rfl
    · have hw : IntKind.u64.wrap (256 ^ (8 - (3 + 1))) = 4294967296 := by decide
      have hw2 : IntKind.u64.wrap (256 ^ (8 - 3)) = IntKind.u64.wrap (4294967296 * 256) := by decide
      have hce := hcell (q + 4) (by omega)
      have hb := UInt8.toNat_lt (xs[q + 4]'(by omega))
      have hv0 := le_nonneg ((xs.drop q).take 4)
      have hv1 : le ((xs.drop q).take 4) < 4294967296 := by
        have := le_lt ((xs.drop q).take 4)
        rw [List.length_take, List.length_drop, Nat.min_eq_left (by omega)] at this
        exact this
      have hsn : le ((xs.drop q).take (4 + 1)) = le ((xs.drop q).take 4) + 256 ^ 4 * (xs[q + 4]'(by omega)).toNat := wordV_snocG (xs := xs) (q := q) (m := 4) (by omega)
      rw [show (256 : Int) ^ 4 = 4294967296 from by decide] at hsn
      have ht : (a - b + 4).toNat = q + 4 := by omega
      rw [hw]
      show X _ _ _ _ _ (fputs _ _ [.int .u64 (le ((xs.drop q).take 4)), .int .u64 4294967296, .int .i64 4]) _ _ _
      (repeat' first | refine zcd ?_ | intro K' hK | (with_reducible refine zn hK ?_; clear hK) | fail | ((with_reducible first | apply zo1 | apply zo2 | apply o_guard rfl | apply x_cond | apply k_e1 rfl | apply k_e2 rfl | apply k_e0 rfl | apply k_e3 rfl | apply k_e4 rfl); (case he => exact ez2 hce ht); (try case hok => exact ezO); all_goals try (intro hb; (try simp only [hbs, reduceCtorEq] at hb); try exact ezX)) | ((with_reducible apply o_undef rfl); (case hb => exact ez0)))
      refine k_round 3 (by omega) ⟨⟨rfl, rfl⟩, by omega, ?_⟩
      rw [hw2]
      simp (disch := first | assumption | omega | rfl | decide) only [go_sem, Nat.reduceBEq, ↓reduceIte, Nat.reduceEqDiff, Nat.reduceAdd, Nat.reduceMul, Int.reduceToNat, Int.reduceAdd, Int.reduceMul, Int.reduceSub, tys]
      rw [← hsn]
      rfl
    · have hw : IntKind.u64.wrap (256 ^ (8 - (4 + 1))) = 16777216 := by decide
      have hw2 : IntKind.u64.wrap (256 ^ (8 - 4)) = IntKind.u64.wrap (16777216 * 256) := by decide
      have hce := hcell (q + 3) (by omega)
      have hb := UInt8.toNat_lt (xs[q + 3]'(by omega))
      have hv0 := le_nonneg ((xs.drop q).take 3)
      have hv1 : le ((xs.drop q).take 3) < 16777216 := by
        have := le_lt ((xs.drop q).take 3)
        rw [List.length_take, List.length_drop, Nat.min_eq_left (by omega)] at this
        exact this
      have hsn : le ((xs.drop q).take (3 + 1)) = le ((xs.drop q).take 3) + 256 ^ 3 * (xs[q + 3]'(by omega)).toNat := wordV_snocG (xs := xs) (q := q) (m := 3) (by omega)
      rw [show (256 : Int) ^ 3 = 16777216 from by decide] at hsn
      have ht : (a - b + 3).toNat = q + 3 := by omega
      rw [hw]
      show X _ _ _ _ _ (fputs _ _ [.int .u64 (le ((xs.drop q).take 3)), .int .u64 16777216, .int .i64 3]) _ _ _
      (repeat' first | refine zcd ?_ | intro K' hK | (with_reducible refine zn hK ?_; clear hK) | fail | ((with_reducible first | apply zo1 | apply zo2 | apply o_guard rfl | apply x_cond | apply k_e1 rfl | apply k_e2 rfl | apply k_e0 rfl | apply k_e3 rfl | apply k_e4 rfl); (case he => exact ez2 hce ht); (try case hok => exact ezO); all_goals try (intro hb; (try simp only [hbs, reduceCtorEq] at hb); try exact ezX)) | ((with_reducible apply o_undef rfl); (case hb => exact ez0)))
      refine k_round 4 (by omega) ⟨⟨rfl, rfl⟩, by omega, ?_⟩
      rw [hw2]
      simp (disch := first | assumption | omega | rfl | decide) only [go_sem, Nat.reduceBEq, ↓reduceIte, Nat.reduceEqDiff, Nat.reduceAdd, Nat.reduceMul, Int.reduceToNat, Int.reduceAdd, Int.reduceMul, Int.reduceSub, tys]
      rw [← hsn]
      rfl
    · have hw : IntKind.u64.wrap (256 ^ (8 - (5 + 1))) = 65536 := by decide
      have hw2 : IntKind.u64.wrap (256 ^ (8 - 5)) = IntKind.u64.wrap (65536 * 256) := by decide
      have hce := hcell (q + 2) (by omega)
      have hb := UInt8.toNat_lt (xs[q + 2]'(by omega))
      have hv0 := le_nonneg ((xs.drop q).take 2)
      have hv1 : le ((xs.drop q).take 2) < 65536 := by
        have := le_lt ((xs.drop q).take 2)
        rw [List.length_take, List.length_drop, Nat.min_eq_left (by omega)] at this
        exact this
      have hsn : le ((xs.drop q).take (2 + 1)) = le ((xs.drop q).take 2) + 256 ^ 2 * (xs[q + 2]'(by omega)).toNat := wordV_snocG (xs := xs) (q := q) (m := 2) (by omega)
      rw [show (256 : Int) ^ 2 = 65536 from by decide] at hsn
      have ht : (a - b + 2).toNat = q + 2 := by omega
      rw [hw]
      show X _ _ _ _ _ (fputs _ _ [.int .u64 (le ((xs.drop q).take 2)), .int .u64 65536, .int .i64 2]) _ _ _
      (repeat' first | refine zcd ?_ | intro K' hK | (with_reducible refine zn hK ?_; clear hK) | fail | ((with_reducible first | apply zo1 | apply zo2 | apply o_guard rfl | apply x_cond | apply k_e1 rfl | apply k_e2 rfl | apply k_e0 rfl | apply k_e3 rfl | apply k_e4 rfl); (case he => exact ez2 hce ht); (try case hok => exact ezO); all_goals try (intro hb; (try simp only [hbs, reduceCtorEq] at hb); try exact ezX)) | ((with_reducible apply o_undef rfl); (case hb => exact ez0)))
      refine k_round 5 (by omega) ⟨⟨rfl, rfl⟩, by omega, ?_⟩
      rw [hw2]
      simp (disch := first | assumption | omega | rfl | decide) only [go_sem, Nat.reduceBEq, ↓reduceIte, Nat.reduceEqDiff, Nat.reduceAdd, Nat.reduceMul, Int.reduceToNat, Int.reduceAdd, Int.reduceMul, Int.reduceSub, tys]
      rw [← hsn]
      rfl
    · have hw : IntKind.u64.wrap (256 ^ (8 - (6 + 1))) = 256 := by decide
      have hw2 : IntKind.u64.wrap (256 ^ (8 - 6)) = IntKind.u64.wrap (256 * 256) := by decide
      have hce := hcell (q + 1) (by omega)
      have hb := UInt8.toNat_lt (xs[q + 1]'(by omega))
      have hv0 := le_nonneg ((xs.drop q).take 1)
      have hv1 : le ((xs.drop q).take 1) < 256 := by
        have := le_lt ((xs.drop q).take 1)
        rw [List.length_take, List.length_drop, Nat.min_eq_left (by omega)] at this
        exact this
      have hsn : le ((xs.drop q).take (1 + 1)) = le ((xs.drop q).take 1) + 256 ^ 1 * (xs[q + 1]'(by omega)).toNat := wordV_snocG (xs := xs) (q := q) (m := 1) (by omega)
      rw [show (256 : Int) ^ 1 = 256 from by decide] at hsn
      have ht : (a - b + 1).toNat = q + 1 := by omega
      rw [hw]
      show X _ _ _ _ _ (fputs _ _ [.int .u64 (le ((xs.drop q).take 1)), .int .u64 256, .int .i64 1]) _ _ _
      (repeat' first | refine zcd ?_ | intro K' hK | (with_reducible refine zn hK ?_; clear hK) | fail | ((with_reducible first | apply zo1 | apply zo2 | apply o_guard rfl | apply x_cond | apply k_e1 rfl | apply k_e2 rfl | apply k_e0 rfl | apply k_e3 rfl | apply k_e4 rfl); (case he => exact ez2 hce ht); (try case hok => exact ezO); all_goals try (intro hb; (try simp only [hbs, reduceCtorEq] at hb); try exact ezX)) | ((with_reducible apply o_undef rfl); (case hb => exact ez0)))
      refine k_round 6 (by omega) ⟨⟨rfl, rfl⟩, by omega, ?_⟩
      rw [hw2]
      simp (disch := first | assumption | omega | rfl | decide) only [go_sem, Nat.reduceBEq, ↓reduceIte, Nat.reduceEqDiff, Nat.reduceAdd, Nat.reduceMul, Int.reduceToNat, Int.reduceAdd, Int.reduceMul, Int.reduceSub, tys]
      rw [← hsn]
      rfl
    · have hw : IntKind.u64.wrap (256 ^ (8 - (7 + 1))) = 1 := by decide
      have hw2 : IntKind.u64.wrap (256 ^ (8 - 7)) = IntKind.u64.wrap (1 * 256) := by decide
      have hce := hcell (q) (by omega)
      have hb := UInt8.toNat_lt (xs[q]'(by omega))
      have hv0 := le_nonneg ((xs.drop q).take 0)
      have hv1 : le ((xs.drop q).take 0) < 1 := by
        have := le_lt ((xs.drop q).take 0)
        rw [List.length_take, List.length_drop, Nat.min_eq_left (by omega)] at this
        exact this
      have hsn : le ((xs.drop q).take (0 + 1)) = le ((xs.drop q).take 0) + 256 ^ 0 * (xs[q]'(by omega)).toNat := wordV_snocG (xs := xs) (q := q) (m := 0) (by omega)
      rw [show (256 : Int) ^ 0 = 1 from by decide] at hsn
      rw [List.take_zero, le_nil, Int.zero_add] at hsn
      have ht : (a - b).toNat = q := by omega
      rw [hw]
      show X _ _ _ _ _ (fputs _ _ [.int .u64 (le ((xs.drop q).take 0)), .int .u64 1, .int .i64 0]) _ _ _
      (repeat' first | refine zcd ?_ | intro K' hK | (with_reducible refine zn hK ?_; clear hK) | fail | ((with_reducible first | apply zo1 | apply zo2 | apply o_guard rfl | apply x_cond | apply k_e1 rfl | apply k_e2 rfl | apply k_e0 rfl | apply k_e3 rfl | apply k_e4 rfl); (case he => (intros; simp (disch := first | assumption | omega | rfl | decide) only [go_sem, seval, tys, hce, ht, List.take_zero, le_nil, Int.zero_add] <;> rfl)); (try case hok => exact ezO); all_goals try (intro hb; (try simp only [hbs, reduceCtorEq] at hb); try exact ezX)) | ((with_reducible apply o_undef rfl); (case hb => exact ez0)))
      refine k_round 7 (by omega) ⟨⟨rfl, rfl⟩, by omega, ?_⟩
      rw [hw2]
      simp (disch := first | assumption | omega | rfl | decide) only [go_sem, Nat.reduceBEq, ↓reduceIte, Nat.reduceEqDiff, Nat.reduceAdd, Nat.reduceMul, Int.reduceToNat, Int.reduceAdd, Int.reduceMul, Int.reduceSub, tys]
      rw [← hsn]
      rfl
theorem rword1_ev (hk : 30000 ≤ k) (b : Int) (A : Option Addr) (xs : List UInt8) (c : Nat) (a : Int) (q : Nat) (hr : RdH h n A (bv xs)) (hc : chkR b xs.length = 0) (ha : a = b + q) (hq : q < xs.length) :
    SQ k (d + 1) cl 124 [.agg ⟨[.int .u64 b, .slice A xs.length c]⟩, .int .u64 a, .int .i64 1] h n fun v h' n' => v = .int .u64 ((xs[q]).toNat : Int) ∧ h = h' ∧ n = n' := by
  obtain ⟨x2, x3, x4, x5⟩ := chkR_ok hc
  obtain ⟨id, off, rfl, hid, hcell⟩ := hr.bytes (by omega)
  have hce := hcell q hq
  have hb8 := UInt8.toNat_lt (xs[q])
  have ht : (a - b).toNat = q := by omega
  refine enter Try.func124 (by kernel_rfl) rfl (by kernel_rfl) rfl rfl rfl ?_
  (repeat' first | refine zcd ?_ | intro K' hK | (with_reducible refine zn hK ?_; clear hK) | fail | ((with_reducible first | apply zo1 | apply zo2 | apply o_guard rfl | apply x_cond | apply k_e1 rfl | apply k_e2 rfl | apply k_e0 rfl | apply k_e3 rfl | apply k_e4 rfl); (case he => exact ez0); (try case hok => exact ezO); all_goals try (intro hb; (try simp only [hbs, reduceCtorEq] at hb); try exact ezX)) | ((with_reducible apply o_undef rfl); (case hb => exact ez0)))
  refine x_loopF [7, 8, 9, 10, 11, 12, 13, 14, 15, 16, 17, 18, 19, 20, 21, 22, 23, 24, 25, 26, 27, 28, 29, 30, 31, 32] [7, 8, 9] (fun m vs => (m = 1 ∧ vs = [.int .u64 0, .int .u64 1, .int .i64 0]) ∨ (m = 0 ∧ vs = [.int .u64 ((xs[q]).toNat : Int), .int .u64 256, .int .i64 1])) 1 rfl (by omega) (.inl ⟨rfl, by simp (disch := first | assumption | omega | rfl | decide) only [go_sem, Nat.reduceBEq, ↓reduceIte, Nat.reduceEqDiff, Nat.reduceAdd, Nat.reduceMul, Int.reduceToNat, Int.reduceAdd, Int.reduceMul, Int.reduceSub, tys] <;> rfl⟩) ?_
  rintro m g _ (⟨rfl, rfl⟩ | ⟨rfl, rfl⟩)
  · (repeat' first | refine zcd ?_ | intro K' hK | (with_reducible refine zn hK ?_; clear hK) | fail | ((with_reducible first | apply zo1 | apply zo2 | apply o_guard rfl | apply x_cond | apply k_e1 rfl | apply k_e2 rfl | apply k_e0 rfl | apply k_e3 rfl | apply k_e4 rfl); (case he => exact ez2 hce ht); (try case hok => exact ezO); all_goals try (intro hb; (try simp only [hbs, reduceCtorEq] at hb); try exact ezX)) | ((with_reducible apply o_undef rfl); (case hb => exact ez0)))
    refine k_round 0 (by omega) ⟨⟨rfl, rfl⟩, .inr ⟨rfl, ?_⟩⟩
    simp (disch := first | assumption | omega | rfl | decide) only [go_sem, Nat.reduceBEq, ↓reduceIte, Nat.reduceEqDiff, Nat.reduceAdd, Nat.reduceMul, Int.reduceToNat, Int.reduceAdd, Int.reduceMul, Int.reduceSub, tys]
    rw [Int.one_mul]
  · (repeat' first | refine zcd ?_ | intro K' hK | (with_reducible refine zn hK ?_; clear hK) | fail | ((with_reducible first | apply zo1 | apply zo2 | apply o_guard rfl | apply x_cond | apply k_e1 rfl | apply k_e2 rfl | apply k_e0 rfl | apply k_e3 rfl | apply k_e4 rfl); (case he => exact ez0); (try case hok => exact ezO); all_goals try (intro hb; (try simp only [hbs, reduceCtorEq] at hb); try exact ezX)) | ((with_reducible apply o_undef rfl); (case hb => exact ez0)))
    all_goals exact sw_flat rfl rfl ⟨rfl, rfl, rfl⟩
theorem rcutG_ev (b : Int) (A : Option Addr) (xs : List UInt8) (c : Nat) (a : Int) (w : Nat) (ys : List UInt8) (hr : RdH h n A (bv xs)) (hc : chkR b xs.length = 0) (hw : 1 ≤ w) (h1 : b ≤ a) (h2 : a + w ≤ b + xs.length) (hy : (xs.drop (a - b).toNat).take w = ys) (hyl : ys.length = w) :
    SQ k (d + 1) cl 110 [.agg ⟨[.int .u64 b, .slice A xs.length c]⟩, .int .u64 a, .int .i64 w] h n fun v h' n' => v = .slice (some ⟨n, 0, none⟩) w w ∧ h' = h.set n (.row 5 false (bv ys)) ∧ n' = n + 1 := by
  obtain ⟨x2, x3, x4, x5⟩ := chkR_ok hc
  obtain ⟨id, off, rfl, hid, hcell⟩ := hr.bytes (by omega)
  obtain ⟨p, hp⟩ := Int.eq_ofNat_of_zero_le (show 0 ≤ a - b by omega)
  have hsub : RdH h n (some ⟨id, off + p, none⟩) (bv ys) := by
    rw [← hy, hp, Int.toNat_natCast, ← bv_sub]
    exact hr.sub
  have e1 : (a - b).toNat = p := by omega
  have hpw : ((p : Int) + (w : Int)).toNat - p = w := by omega
  have hs1 : ∀ x y c', SrcIs 1 ((h.set n x).set (n + 1) y) (.slice (some ⟨id, off + p, none⟩) w c') w (bv ys) := fun x y c' => src_rd ((hsub.set (Nat.le_refl n) x).set (Nat.le_succ n) y) (fun hh => by cases hh) (by rw [bv_length]; omega) (by decide)
  refine enter Try.func110 (by kernel_rfl) rfl (by kernel_rfl) rfl rfl rfl ?_
  (repeat' first | refine zcd ?_ | intro K' hK | (with_reducible refine zn hK ?_; clear hK) | ((with_reducible apply o_apR (t := 27) apT27 w_none); (case hs => exact ez0); (case hy => exact ez0); (case hsrc => exact hs1 _ _ _); (case hr => exact ez0); (case hc => exact bv_cok ys); (case hm => omega); (case hli => omega); (case hln => omega); (case hcs => simp)) | ((with_reducible first | apply zo1 | apply zo2 | apply o_guard rfl | apply x_cond | apply k_e1 rfl | apply k_e2 rfl | apply k_e0 rfl | apply k_e3 rfl | apply k_e4 rfl); (case he => exact ez4 hp e1 @Int.toNat_natCast hpw); (try case hok => exact ezO); all_goals try (intro hb; (try simp only [hbs, reduceCtorEq] at hb); try exact ezX)) | ((with_reducible apply o_undef rfl); (case hb => exact ez0)))
  subst hyl
  (refine sw_row ezI rfl (by omega) (by first | assumption | (simp (disch := first | assumption | omega | rfl | decide) only [go_sem, Nat.reduceBEq, ↓reduceIte, Nat.reduceEqDiff, Nat.reduceAdd, Nat.reduceMul, Int.reduceToNat, Int.reduceAdd, Int.reduceMul, Int.reduceSub, tys] <;> rfl)) (by exact bv_idA _ _) ezR ?_; exact ⟨by simp, rfl, rfl⟩)
theorem rgreatG_ev (b : Int) (A : Option Addr) (m c : Nat) :
    SQ k (d + 1) cl 10 [.agg ⟨[.int .u64 b, .slice A m c]⟩] h n fun v h' n' => (∃ B : Bool, v = .bool B ∧ (B = false → m ≤ 20100)) ∧ h = h' ∧ n = n' := by
  refine enter Try.func10 (by kernel_rfl) rfl (by kernel_rfl) rfl rfl rfl ?_
  (repeat' first | refine zcd ?_ | intro K' hK | (with_reducible refine zn hK ?_; clear hK) | fail | ((with_reducible first | apply zo1 | apply zo2 | apply o_guard rfl | apply x_cond | apply k_e1 rfl | apply k_e2 rfl | apply k_e0 rfl | apply k_e3 rfl | apply k_e4 rfl); (case he => exact ez0); (try case hok => exact ezO); all_goals try (intro hb; (try simp only [hbs, reduceCtorEq] at hb); try exact ezX)) | ((with_reducible apply o_undef rfl); (case hb => exact ez0)))
  all_goals exact sw_flat rfl rfl ⟨⟨_, rfl, by simp; try omega⟩, rfl, rfl⟩
end Go.Proofs.Ytcpkdjikembpnaa.Ce
namespace Go.Proofs.Ytcpkdjikembpnaa.Ce
open Go.RowKit
variable (k d cl : Nat) (h : Hp) (n : Nat)
theorem meet_ev (hk : 30000 ≤ k) (X Y : Rg) (hx : chkG X = 0) (hy : chkG Y = 0) :
    SQ k (d + 2) cl 73 [.agg ⟨gcell X⟩, .agg ⟨gcell Y⟩] h n fun v h' n' => v = .bool (decide (ovl X Y)) ∧ h = h' ∧ n = n' := by
  obtain ⟨x2, x3, x4, x5⟩ := chkR_ok hx
  obtain ⟨y2, y3, y4, y5⟩ := chkR_ok hy
  have qi := fun (h6 : Hp) (n6 : Nat) (a : Int) (ha0 : 0 ≤ a) (ha1 : a < 18446744073709551616) => rinG_ev k d n h6 n6 Y.b Y.A Y.xs.length Y.c hy a 1 ha0 ha1 (by omega) (by omega)
  have hov : ovl X Y ↔ ∃ p : Nat, p < X.xs.length ∧ inb Y.b Y.xs.length (X.b + p) 1 = true := by
    unfold ovl
    constructor
    · rintro ⟨a, b, c, d⟩
      refine ⟨(max X.b Y.b - X.b).toNat, by omega, inb_iff.2 ?_⟩
      omega
    · rintro ⟨p, hp, hi⟩
      have := inb_iff.1 hi
      omega
  obtain ⟨bx, xs, XA, xc⟩ := X
  obtain ⟨by', ys, YA, yc⟩ := Y
  dsimp only at x2 x3 x4 x5 y2 y3 y4 y5 qi hov ⊢
  refine enter Try.func73 (by kernel_rfl) rfl (by kernel_rfl) rfl rfl rfl ?_
  (repeat' first | refine zcd ?_ | intro K' hK | (with_reducible refine zn hK ?_; clear hK) | fail | ((with_reducible first | apply zo1 | apply zo2 | apply o_guard rfl | apply x_cond | apply k_e1 rfl | apply k_e2 rfl | apply k_e0 rfl | apply k_e3 rfl | apply k_e4 rfl); (case he => exact ez0); (try case hok => exact ezO); all_goals try (intro hb; (try simp only [hbs, reduceCtorEq] at hb); try exact ezX)) | ((with_reducible apply o_undef rfl); (case hb => exact ez0)))
  refine x_loopF [4, 5, 6, 7, 8, 9, 10, 11, 12, 13, 14, 15, 16, 17, 18, 19] [5] (fun m vs => ∃ q : Nat, m = xs.length - q ∧ q ≤ xs.length ∧ vs = [.int .i64 q] ∧ ∀ p : Nat, p < q → inb by' ys.length (bx + p) 1 = false) xs.length rfl (by omega) ⟨0, rfl, by omega, ez0, fun p hp => absurd hp (Nat.not_lt_zero _)⟩ ?_
  rintro m g _ ⟨q, rfl, hq, rfl, hall⟩
  by_cases hql : q < xs.length
  · have qi := fun (h6 : Hp) (n6 : Nat) => qi h6 n6 (bx + q) (by omega) (by omega)
    cases hin : inb by' ys.length (bx + q) 1 with
    | true =>
      rw [hin] at qi
      have e : decide (ovl ⟨bx, xs, XA, xc⟩ ⟨by', ys, YA, yc⟩) = true := decide_eq_true (hov.2 ⟨q, hql, hin⟩)
      rw [e]
      (repeat' first | refine zcd ?_ | intro K' hK | (with_reducible refine zn hK ?_; clear hK) | ((with_reducible apply o_callF (g := 76) w_none); (case ha => exact ez0); (case hs => (exact qi _ _)); (case' hk => rintro _ h' n' ⟨rfl, rfl, rfl⟩)) | ((with_reducible first | apply zo1 | apply zo2 | apply o_guard rfl | apply x_cond | apply k_e1 rfl | apply k_e2 rfl | apply k_e0 rfl | apply k_e3 rfl | apply k_e4 rfl); (case he => exact ez0); (try case hok => exact ezO); all_goals try (intro hb; (try simp only [hbs, reduceCtorEq] at hb); try exact ezX)) | ((with_reducible apply o_undef rfl); (case hb => exact ez0)))
      all_goals exact sw_flat rfl rfl ⟨rfl, rfl, rfl⟩
    | false =>
      rw [hin] at qi
      (repeat' first | refine zcd ?_ | intro K' hK | (with_reducible refine zn hK ?_; clear hK) | ((with_reducible apply o_callF (g := 76) w_none); (case ha => exact ez0); (case hs => (exact qi _ _)); (case' hk => rintro _ h' n' ⟨rfl, rfl, rfl⟩)) | ((with_reducible first | apply zo1 | apply zo2 | apply o_guard rfl | apply x_cond | apply k_e1 rfl | apply k_e2 rfl | apply k_e0 rfl | apply k_e3 rfl | apply k_e4 rfl); (case he => exact ez0); (try case hok => exact ezO); all_goals try (intro hb; (try simp only [hbs, reduceCtorEq] at hb); try exact ezX)) | ((with_reducible apply o_undef rfl); (case hb => exact ez0)))
      refine k_round (xs.length - (q + 1)) (by omega) ⟨⟨rfl, rfl⟩, q + 1, rfl, by omega, ez0, fun p hp => ?_⟩
      by_cases e : p = q
      · rw [e]; exact hin
      · exact hall p (by omega)
  · obtain rfl : q = xs.length := by omega
    have e : decide (ovl ⟨bx, xs, XA, xc⟩ ⟨by', ys, YA, yc⟩) = false := decide_eq_false fun ho => by
      obtain ⟨p, hp, hi⟩ := hov.1 ho
      rw [hall p hp] at hi
      cases hi
    rw [e]
    (repeat' first | refine zcd ?_ | intro K' hK | (with_reducible refine zn hK ?_; clear hK) | fail | ((with_reducible first | apply zo1 | apply zo2 | apply o_guard rfl | apply x_cond | apply k_e1 rfl | apply k_e2 rfl | apply k_e0 rfl | apply k_e3 rfl | apply k_e4 rfl); (case he => exact ez0); (try case hok => exact ezO); all_goals try (intro hb; (try simp only [hbs, reduceCtorEq] at hb); try exact ezX)) | ((with_reducible apply o_undef rfl); (case hb => exact ez0)))
    all_goals exact sw_flat rfl rfl ⟨rfl, rfl, rfl⟩
theorem listed_ev (hk : 30000 ≤ k) (A : Option Addr) (L : List Rg) (c : Nat) (hL : RgH h n A L) (hl : L.length ≤ 100) :
    SQ k (d + 3) cl 41 [.slice A L.length c] h n fun v h' n' => v = .int .i64 (lstE L) ∧ h = h' ∧ n = n' := by
  by_cases h17 : 17 < L.length
  · have e : lstE L = 4 := by unfold lstE; rw [if_pos h17]
    rw [e]
    refine enter Try.func41 (by kernel_rfl) rfl (by kernel_rfl) rfl rfl rfl ?_
    (repeat' first | refine zcd ?_ | intro K' hK | (with_reducible refine zn hK ?_; clear hK) | fail | ((with_reducible first | apply zo1 | apply zo2 | apply o_guard rfl | apply x_cond | apply k_e1 rfl | apply k_e2 rfl | apply k_e0 rfl | apply k_e3 rfl | apply k_e4 rfl); (case he => exact ez0); (try case hok => exact ezO); all_goals try (intro hb; (try simp only [hbs, reduceCtorEq] at hb); try exact ezX)) | ((with_reducible apply o_undef rfl); (case hb => exact ez0)))
    all_goals exact sw_flat rfl rfl ⟨rfl, rfl, rfl⟩
  refine enter Try.func41 (by kernel_rfl) rfl (by kernel_rfl) rfl rfl rfl ?_
  (repeat' first | refine zcd ?_ | intro K' hK | (with_reducible refine zn hK ?_; clear hK) | fail | ((with_reducible first | apply zo1 | apply zo2 | apply o_guard rfl | apply x_cond | apply k_e1 rfl | apply k_e2 rfl | apply k_e0 rfl | apply k_e3 rfl | apply k_e4 rfl); (case he => exact ez0); (try case hok => exact ezO); all_goals try (intro hb; (try simp only [hbs, reduceCtorEq] at hb); try exact ezX)) | ((with_reducible apply o_undef rfl); (case hb => exact ez0)))
  refine x_loopF [2, 3, 9, 10, 11, 12, 13, 14, 15, 16, 17, 18, 19, 20] [3] (fun m vs => ∃ q : Nat, m = L.length - q ∧ q ≤ L.length ∧ vs = [.int .i64 q] ∧ ∀ p (hp : p < q) (hpl : p < L.length), chkG L[p] = 0) L.length rfl (by omega) ⟨0, rfl, by omega, ez0, fun p hp => absurd hp (Nat.not_lt_zero _)⟩ ?_
  rintro m g _ ⟨q, rfl, hq, rfl, hall⟩
  by_cases hql : q < L.length
  · obtain ⟨id, off, rfl, hid, c1⟩ := hL.at_ hql
    have hb := hL.bd _ (List.getElem_mem hql)
    have hln := hL.ln _ (List.getElem_mem hql)
    obtain ⟨X, hX⟩ : ∃ X, L[q] = X := ⟨_, rfl⟩
    rw [hX] at c1 hb hln
    have qc := (rcheck13_ev k d n h n X.b X.A X.xs.length X.c hb.1 hb.2 hln).mono (Φ' := fun v h' n' => v = .int .i64 (chkG X) ∧ h = h' ∧ n = n') fun _ _ _ hp => ⟨hp.1, hp.2.1.symm, hp.2.2.symm⟩
    by_cases hc : chkG X = 0
    · rw [hc] at qc
      (repeat' first | refine zcd ?_ | intro K' hK | (with_reducible refine zn hK ?_; clear hK) | ((with_reducible apply o_callF (g := 72) w_none); (case ha => exact ez0); (case hs => (exact qc)); (case' hk => rintro _ h' n' ⟨rfl, rfl, rfl⟩)) | ((with_reducible first | apply zo1 | apply zo2 | apply o_guard rfl | apply x_cond | apply k_e1 rfl | apply k_e2 rfl | apply k_e0 rfl | apply k_e3 rfl | apply k_e4 rfl); (case he => exact ez1 c1); (try case hok => exact ezO); all_goals try (intro hb; (try simp only [hbs, reduceCtorEq] at hb); try exact ezX)) | ((with_reducible apply o_undef rfl); (case hb => exact ez0)))
      refine k_round (L.length - (q + 1)) (by omega) ⟨⟨rfl, rfl⟩, q + 1, rfl, by omega, ez0, fun p hp hpl => ?_⟩
      by_cases e : p = q
      · subst e; rw [hX]; exact hc
      · exact hall p (by omega) hpl
    · have hc8 : chkG X = 8 := (chkR_cases X.b X.xs.length).resolve_left hc
      have e : lstE L = 8 := by
        unfold lstE
        rw [if_neg h17, if_pos (fun hh => hc (hh X (by rw [← hX]; exact List.getElem_mem hql)))]
      rw [e]
      rw [hc8] at qc
      (repeat' first | refine zcd ?_ | intro K' hK | (with_reducible refine zn hK ?_; clear hK) | ((with_reducible apply o_callF (g := 72) w_none); (case ha => exact ez0); (case hs => (exact qc)); (case' hk => rintro _ h' n' ⟨rfl, rfl, rfl⟩)) | ((with_reducible first | apply zo1 | apply zo2 | apply o_guard rfl | apply x_cond | apply k_e1 rfl | apply k_e2 rfl | apply k_e0 rfl | apply k_e3 rfl | apply k_e4 rfl); (case he => exact ez1 c1); (try case hok => exact ezO); all_goals try (intro hb; (try simp only [hbs, reduceCtorEq] at hb); try exact ezX)) | ((with_reducible apply o_undef rfl); (case hb => exact ez0)))
      all_goals exact sw_flat rfl rfl ⟨rfl, rfl, rfl⟩
  obtain rfl : q = L.length := by omega
  have hC : ∀ g ∈ L, chkG g = 0 := fun g hg => by
    obtain ⟨i, hi, e⟩ := List.getElem_of_mem hg
    rw [← e]
    exact hall i hi hi
  clear hall
  (repeat' first | refine zcd ?_ | intro K' hK | (with_reducible refine zn hK ?_; clear hK) | fail | ((with_reducible first | apply zo1 | apply zo2 | apply o_guard rfl | apply x_cond | apply k_e1 rfl | apply k_e2 rfl | apply k_e0 rfl | apply k_e3 rfl | apply k_e4 rfl); (case he => exact ez0); (try case hok => exact ezO); all_goals try (intro hb; (try simp only [hbs, reduceCtorEq] at hb); try exact ezX)) | ((with_reducible apply o_undef rfl); (case hb => exact ez0)))
  refine x_loopF [2, 4, 5, 21, 22, 23, 24, 25, 26, 27, 28, 29, 30, 31, 32, 33, 34, 35, 36, 37, 38, 39, 40] [4] (fun m vs => ∃ i : Nat, m = L.length - i ∧ i ≤ L.length ∧ vs = [.int .i64 i] ∧ ∀ x y (hx : x < i) (hxl : x < L.length) (hy : y < x), ¬ ovl L[x] (L[y]'(by omega))) L.length rfl (by omega) ⟨0, rfl, by omega, ez0, fun x y hx => absurd hx (Nat.not_lt_zero _)⟩ ?_
  rintro m g _ ⟨i, rfl, hi, rfl, hall⟩
  by_cases hil : i < L.length
  · obtain ⟨id, off, rfl, hid, c1⟩ := hL.at_ hil
    obtain ⟨X, hX⟩ : ∃ X, L[i] = X := ⟨_, rfl⟩
    have hcX := hC _ (List.getElem_mem hil)
    rw [hX] at c1 hcX
    (repeat' first | refine zcd ?_ | intro K' hK | (with_reducible refine zn hK ?_; clear hK) | fail | ((with_reducible first | apply zo1 | apply zo2 | apply o_guard rfl | apply x_cond | apply k_e1 rfl | apply k_e2 rfl | apply k_e0 rfl | apply k_e3 rfl | apply k_e4 rfl); (case he => exact ez0); (try case hok => exact ezO); all_goals try (intro hb; (try simp only [hbs, reduceCtorEq] at hb); try exact ezX)) | ((with_reducible apply o_undef rfl); (case hb => exact ez0)))
    refine x_loopF [2, 5, 27, 28, 29, 30, 31, 32, 33, 34, 35, 36, 37, 38, 39, 40] [5] (fun m vs => ∃ j : Nat, m = i - j ∧ j ≤ i ∧ vs = [.int .i64 j] ∧ ∀ y (hy : y < j) (hyi : y < i), ¬ ovl X (L[y]'(by omega))) i rfl (by omega) ⟨0, rfl, by omega, ez0, fun y hy => absurd hy (Nat.not_lt_zero _)⟩ ?_
    rintro m2 g2 _ ⟨j, rfl, hj, rfl, hall2⟩
    by_cases hji : j < i
    · have hjl : j < L.length := by omega
      obtain ⟨_, _, hA2, -, c2⟩ := hL.at_ hjl
      injection hA2 with hA2
      injection hA2 with z1 z2
      subst z1
      subst z2
      obtain ⟨Y, hY⟩ : ∃ Y, L[j] = Y := ⟨_, rfl⟩
      have hcY := hC _ (List.getElem_mem hjl)
      rw [hY] at c2 hcY
      have qm := meet_ev k d n h n hk X Y hcX hcY
      by_cases ho : ovl X Y
      · rw [decide_eq_true ho] at qm
        have hE : lstE L = 14 := by
          unfold lstE
          rw [if_neg h17, if_neg (Classical.not_not.2 hC), if_pos ⟨i, j, hil, hji, by rw [hX, hY]; exact ho⟩]
        rw [hE]
        (repeat' first | refine zcd ?_ | intro K' hK | (with_reducible refine zn hK ?_; clear hK) | (with_reducible refine x_drawnD (id := 14) [(3, 7)] (by kernel_rfl) fun K' hK => ?_) | ((with_reducible apply d_nil); (case hp => exact ezP); (case' hx => (refine hK _ _ _ ?_; clear hK))) | ((with_reducible apply d_pure w_none); (case hp => exact rfl); (case hc => exact rfl); (case he => exact ez2 c1 c2)) | ((with_reducible apply d_eff w_none); (case hc => exact rfl); (case he => exact ez2 c1 c2); (case hok => exact ezO)) | ((with_reducible apply d_guard rfl); (case hb => exact ez2 c1 c2); (case' h1 => intro hb; (try simp only [hbs, reduceCtorEq] at hb); try exact ezX); (case' h2 => intro hb; (try simp only [hbs, reduceCtorEq] at hb); try exact ezX)) | ((with_reducible apply d_callS (g := 73) w_none); (case hs0 => exact rfl); (case ha => exact ez0); (case hs => (exact qm)); (case' hk => rintro _ h' n' ⟨rfl, rfl, rfl⟩)) | ((with_reducible first | apply zo1 | apply zo2 | apply o_guard rfl | apply x_cond | apply k_e1 rfl | apply k_e2 rfl | apply k_e0 rfl | apply k_e3 rfl | apply k_e4 rfl); (case he => exact ez2 c1 c2); (try case hok => exact ezO); all_goals try (intro hb; (try simp only [hbs, reduceCtorEq] at hb); try exact ezX)) | ((with_reducible apply o_undef rfl); (case hb => exact ez0)))
        all_goals exact sw_flat rfl rfl ⟨rfl, rfl, rfl⟩
      · rw [decide_eq_false ho] at qm
        (repeat' first | refine zcd ?_ | intro K' hK | (with_reducible refine zn hK ?_; clear hK) | (with_reducible refine x_drawnD (id := 14) [(3, 7)] (by kernel_rfl) fun K' hK => ?_) | ((with_reducible apply d_nil); (case hp => exact ezP); (case' hx => (refine hK _ _ _ ?_; clear hK))) | ((with_reducible apply d_pure w_none); (case hp => exact rfl); (case hc => exact rfl); (case he => exact ez2 c1 c2)) | ((with_reducible apply d_eff w_none); (case hc => exact rfl); (case he => exact ez2 c1 c2); (case hok => exact ezO)) | ((with_reducible apply d_guard rfl); (case hb => exact ez2 c1 c2); (case' h1 => intro hb; (try simp only [hbs, reduceCtorEq] at hb); try exact ezX); (case' h2 => intro hb; (try simp only [hbs, reduceCtorEq] at hb); try exact ezX)) | ((with_reducible apply d_callS (g := 73) w_none); (case hs0 => exact rfl); (case ha => exact ez0); (case hs => (exact qm)); (case' hk => rintro _ h' n' ⟨rfl, rfl, rfl⟩)) | ((with_reducible first | apply zo1 | apply zo2 | apply o_guard rfl | apply x_cond | apply k_e1 rfl | apply k_e2 rfl | apply k_e0 rfl | apply k_e3 rfl | apply k_e4 rfl); (case he => exact ez2 c1 c2); (try case hok => exact ezO); all_goals try (intro hb; (try simp only [hbs, reduceCtorEq] at hb); try exact ezX)) | ((with_reducible apply o_undef rfl); (case hb => exact ez0)))
        refine k_round (i - (j + 1)) (by omega) ⟨⟨rfl, rfl⟩, j + 1, rfl, by omega, ez0, fun y hy hyi => ?_⟩
        by_cases e2 : y = j
        · subst e2; rw [hY]; exact ho
        · exact hall2 y (by omega) hyi
    · obtain rfl : j = i := by omega
      (repeat' first | refine zcd ?_ | intro K' hK | (with_reducible refine zn hK ?_; clear hK) | fail | ((with_reducible first | apply zo1 | apply zo2 | apply o_guard rfl | apply x_cond | apply k_e1 rfl | apply k_e2 rfl | apply k_e0 rfl | apply k_e3 rfl | apply k_e4 rfl); (case he => exact ez0); (try case hok => exact ezO); all_goals try (intro hb; (try simp only [hbs, reduceCtorEq] at hb); try exact ezX)) | ((with_reducible apply o_undef rfl); (case hb => exact ez0)))
      refine k_round (L.length - (j + 1)) (by omega) ⟨⟨rfl, rfl⟩, j + 1, rfl, by omega, ez0, fun x y hx hxl hy => ?_⟩
      by_cases e2 : x = j
      · subst e2; rw [hX]; exact hall2 y hy hy
      · exact hall x y (by omega) hxl hy
  · obtain rfl : i = L.length := by omega
    have hE : lstE L = 0 := by
      unfold lstE
      rw [if_neg h17, if_neg (Classical.not_not.2 hC), if_neg]
      rintro ⟨x, y, hx, hy, ho⟩
      exact hall x y hx hx hy ho
    rw [hE]
    (repeat' first | refine zcd ?_ | intro K' hK | (with_reducible refine zn hK ?_; clear hK) | fail | ((with_reducible first | apply zo1 | apply zo2 | apply o_guard rfl | apply x_cond | apply k_e1 rfl | apply k_e2 rfl | apply k_e0 rfl | apply k_e3 rfl | apply k_e4 rfl); (case he => exact ez0); (try case hok => exact ezO); all_goals try (intro hb; (try simp only [hbs, reduceCtorEq] at hb); try exact ezX)) | ((with_reducible apply o_undef rfl); (case hb => exact ez0)))
    all_goals exact sw_flat rfl rfl ⟨rfl, rfl, rfl⟩
end Go.Proofs.Ytcpkdjikembpnaa.Ce
