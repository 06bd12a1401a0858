/- Contracts of the reference 13: Base, Check, In, Has, Word, Load. -/
import Derived.Test.YtbcjkdekppomgaaRb
namespace Go.Proofs.Ytbcjkdekppomgaa
open Go.RowKit
set_option linter.unusedVariables false
set_option maxRecDepth 100000
set_option linter.unusedSimpArgs false
attribute [local go_sem ↓] Go.wp_at_zero Go.wp_at_succ

set_option maxHeartbeats 400000 in
theorem rbase_any (a : Int) (w : World) (h0 : 0 ≤ a) (h1 : a < 18446744073709551616) :
    Calls Try.prog 97 #[.int .u64 a] w fun e w' => e = .returned (.bool (basedB a)) ∧ w = w' := by
  go_enter Try.func97, Try.ntmps97
  go_wp2
  all_goals (go_ret; exact ⟨ret_bool (by unfold basedB; rw [Bool.eq_iff_iff]; simp; omega), rfl⟩)

set_option maxHeartbeats 400000 in
theorem rcheck_any (b : Int) (A : Option Addr) (n c : Nat) (w : World) (h0 : 0 ≤ b) (h1 : b < 18446744073709551616) (hn : n ≤ 9223372036854775807) :
    Calls Try.prog 52 #[.agg #[.int .u64 b, .slice A n c]] w fun e w' => e = .returned (.int .i64 (chkR b n)) ∧ Below w.heap.size w w' := by
  go_enter Try.func52, Try.ntmps52
  go_wp2_with (go_at_call 97; refine (rbase_any _ _ h0 h1).mono ?_; rintro e w' ⟨rfl, rfl⟩)
  all_goals (go_ret; exact ⟨ret_int (by go_light; unfold chkR; grind), (by repeat' (first | exact Below.refl _ _ | assumption | (refine below_call (by assumption) ?_ (by first | omega | (simp <;> omega))) | (refine below_callB (by assumption) ?_ (by omega)) | (refine Below.setCell ?_ (by first | omega | (simp <;> omega)) _) | (refine Below.alloc ?_ (by first | omega | (simp <;> omega)) _) | (refine Below.drew ?_) | (refine below_drewN ?_ _)))⟩)

set_option maxHeartbeats 400000 in
theorem rin_any (b : Int) (A : Option Addr) (n c : Nat) (a k : Int) (w : World) (hv : chkR b n = 0) (ha0 : 0 ≤ a) (ha1 : a < 18446744073709551616) (hk0 : 0 ≤ k) (hk1 : k ≤ 9223372036854775807) :
    Calls Try.prog 93 #[.agg #[.int .u64 b, .slice A n c], .int .u64 a, .int .i64 k] w fun e w' => e = .returned (.bool (inb b n a k)) ∧ Below w.heap.size w w' := by
  obtain ⟨h0, h1, h2, h3⟩ := chkR_ok hv
  clear hv h2
  by_cases h4 : 20000 < k
  · have hi : inb b n a k = false := by unfold inb; simp; omega
    have H := Lib.hid hi; clear hi
    rw [H.out]
    go_enter Try.func93, Try.ntmps93
    go_wp2
    go_ret
    exact ⟨rfl, (by repeat' (first | exact Below.refl _ _ | assumption | (refine below_call (by assumption) ?_ (by first | omega | (simp <;> omega))) | (refine below_callB (by assumption) ?_ (by omega)) | (refine Below.setCell ?_ (by first | omega | (simp <;> omega)) _) | (refine Below.alloc ?_ (by first | omega | (simp <;> omega)) _) | (refine Below.drew ?_) | (refine below_drewN ?_ _)))⟩
  · by_cases h5 : 2199023255552 < a
    · have hi : inb b n a k = false := by unfold inb; simp; omega
      have H := Lib.hid hi; clear hi
      rw [H.out]
      go_enter Try.func93, Try.ntmps93
      go_wp2
      go_ret
      exact ⟨rfl, (by repeat' (first | exact Below.refl _ _ | assumption | (refine below_call (by assumption) ?_ (by first | omega | (simp <;> omega))) | (refine below_callB (by assumption) ?_ (by omega)) | (refine Below.setCell ?_ (by first | omega | (simp <;> omega)) _) | (refine Below.alloc ?_ (by first | omega | (simp <;> omega)) _) | (refine Below.drew ?_) | (refine below_drewN ?_ _)))⟩
    · have e1 : IntKind.u64.wrap (a + k) = a + k := by rw [IntKind.wrap_u64]; omega
      have e2 : IntKind.u64.wrap (b + n) = b + n := by rw [IntKind.wrap_u64]; omega
      have e3 : IntKind.u64.wrap k = k := by rw [IntKind.wrap_u64]; omega
      have e4 : IntKind.u64.wrap (n : Int) = (n : Int) := by rw [IntKind.wrap_u64]; omega
      unfold inb
      go_enter Try.func93, Try.ntmps93
      go_wp2
      all_goals (go_ret; exact ⟨ret_bool (by go_light; grind), (by repeat' (first | exact Below.refl _ _ | assumption | (refine below_call (by assumption) ?_ (by first | omega | (simp <;> omega))) | (refine below_callB (by assumption) ?_ (by omega)) | (refine Below.setCell ?_ (by first | omega | (simp <;> omega)) _) | (refine Below.alloc ?_ (by first | omega | (simp <;> omega)) _) | (refine Below.drew ?_) | (refine below_drewN ?_ _)))⟩)

set_option maxHeartbeats 400000 in
theorem rhas_any (b : Int) (A : Option Addr) (n c : Nat) (a k : Int) (w : World) (h0 : 0 ≤ b) (h1 : b < 18446744073709551616) (hn : n ≤ 9223372036854775807) (ha0 : 0 ≤ a) (ha1 : a < 18446744073709551616) (hk0 : -9223372036854775808 ≤ k) (hk1 : k ≤ 9223372036854775807) :
    Calls Try.prog 46 #[.agg #[.int .u64 b, .slice A n c], .int .u64 a, .int .i64 k] w fun e w' => e = .returned (.tuple #[.bool (hasS b n a k).1, .int .i64 (hasS b n a k).2]) ∧ Below w.heap.size w w' := by
  unfold hasS
  rcases chkR_cases b n with h | h
  · rw [if_pos h]
    have H := Lib.hid h; clear h
    by_cases hk : k < 0
    · rw [if_pos hk]
      go_enter Try.func46, Try.ntmps46
      go_wp2_with (go_at_call 52; refine (rcheck_any _ _ _ _ _ h0 h1 hn).mono ?_; rintro e w1 ⟨rfl, hb1⟩; rw [H.out]; obtain ⟨hc1, hf1⟩ := bcell hb1; have hs1 := hb1.size; (try simp at hs1))
      go_ret2
      exact ⟨rfl, (by repeat' (first | exact Below.refl _ _ | assumption | (refine below_call (by assumption) ?_ (by first | omega | (simp <;> omega))) | (refine below_callB (by assumption) ?_ (by omega)) | (refine Below.setCell ?_ (by first | omega | (simp <;> omega)) _) | (refine Below.alloc ?_ (by first | omega | (simp <;> omega)) _) | (refine Below.drew ?_) | (refine below_drewN ?_ _)))⟩
    · rw [if_neg hk]
      have hk' : 0 ≤ k := by omega
      go_enter Try.func46, Try.ntmps46
      go_wp2_with (first | (go_at_call 52; refine (rcheck_any _ _ _ _ _ h0 h1 hn).mono ?_; rintro e w1 ⟨rfl, hb1⟩; rw [H.out]; obtain ⟨hc1, hf1⟩ := bcell hb1; have hs1 := hb1.size; (try simp at hs1)) | (go_at_call 93; refine (rin_any _ _ _ _ _ _ _ H.out ha0 ha1 hk' hk1).mono ?_; rintro e w2 ⟨rfl, hb2⟩; obtain ⟨hc2, hf2⟩ := bcell hb2; have hs2 := hb2.size; (try simp at hs2)))
      go_ret2
      exact ⟨rfl, (by repeat' (first | exact Below.refl _ _ | assumption | (refine below_call (by assumption) ?_ (by first | omega | (simp <;> omega))) | (refine below_callB (by assumption) ?_ (by omega)) | (refine Below.setCell ?_ (by first | omega | (simp <;> omega)) _) | (refine Below.alloc ?_ (by first | omega | (simp <;> omega)) _) | (refine Below.drew ?_) | (refine below_drewN ?_ _)))⟩
  · rw [if_neg (by omega)]
    have H := Lib.hid h; clear h
    go_enter Try.func46, Try.ntmps46
    go_wp2_with fail; refine (rcheck_any _ _ _ _ _ h0 h1 hn).mono ?_; rintro e w1 ⟨rfl, hb1⟩; rw [H.out]; obtain ⟨hc1, hf1⟩ := bcell hb1; have hs1 := hb1.size; (try simp at hs1); have hz1_0 : w.heap.size < w1.heap.size := (by omega)
    go_wp2_with fail; refine (rcheck_any _ _ _ _ _ h0 h1 hn).mono ?_; rintro e w2 ⟨rfl, hb2⟩; rw [H.out]; obtain ⟨hc2, hf2⟩ := bcell hb2; have hs2 := hb2.size; (try simp at hs2); have hz2_0 : w.heap.size < w2.heap.size := (by omega)
    go_wp2
    go_ret2
    exact ⟨rfl, (by repeat' (first | exact Below.refl _ _ | assumption | (refine below_call (by assumption) ?_ (by first | omega | (simp <;> omega))) | (refine below_callB (by assumption) ?_ (by omega)) | (refine Below.setCell ?_ (by first | omega | (simp <;> omega)) _) | (refine Below.alloc ?_ (by first | omega | (simp <;> omega)) _) | (refine Below.drew ?_) | (refine below_drewN ?_ _)))⟩

theorem le_snoc : ∀ (l : List UInt8) (x : UInt8), le (l ++ [x]) = le l + 256 ^ l.length * x.toNat
  | [], x => by simp [le]
  | y :: l, x => by
    rw [List.cons_append, le_cons, le_cons, le_snoc l x, List.length_cons, Int.pow_succ]
    generalize (256 : Int) ^ l.length = p
    rw [Int.mul_add, Int.mul_comm p 256, Int.mul_assoc]
    omega
theorem wordV_snoc {xs : List UInt8} {at_ m : Nat} (h : at_ + m < xs.length) : le ((xs.drop at_).take (m + 1)) = le ((xs.drop at_).take m) + 256 ^ m * (xs[at_ + m]'h).toNat := by
  have h1 : (xs.drop at_).take (m + 1) = (xs.drop at_).take m ++ [xs[at_ + m]'h] := by
    rw [List.take_add_one, List.getElem?_drop, List.getElem?_eq_getElem h]; rfl
  rw [h1, le_snoc, List.length_take, List.length_drop, Nat.min_eq_left (by omega)]
theorem pow256_le {m : Nat} (h : m ≤ 7) : 1 ≤ (256 : Int) ^ m ∧ (256 : Int) ^ m ≤ 72057594037927936 := by
  match m, h with
  | 0, _ => decide
  | 1, _ => decide
  | 2, _ => decide
  | 3, _ => decide
  | 4, _ => decide
  | 5, _ => decide
  | 6, _ => decide
  | 7, _ => decide

set_option maxHeartbeats 400000 in
theorem rword_any (b : Int) (A : Option Addr) (xs : List UInt8) (c : Nat) (a k : Int) (w : World) (hr : Rd w w.heap.size A (bv xs)) (h : wordE b xs.length a k = 0) :
    Calls Try.prog 99 #[.agg #[.int .u64 b, .slice A xs.length c], .int .u64 a, .int .i64 k] w fun e w' => e = .returned (.int .u64 (wordV xs (a - b).toNat k.toNat)) ∧ Below w.heap.size w w' := by
  have hw : (k = 1 ∨ k = 8) ∧ 8 ≤ b ∧ b ≤ 1099511627776 ∧ xs.length ≤ 20000 ∧ b ≤ a ∧ a + k ≤ b + xs.length := by
    unfold wordE chkR basedB inb at h; grind
  obtain ⟨hk, h2, h3, h4, h5, h6⟩ := hw
  clear h
  obtain ⟨at_, hat⟩ : ∃ at_ : Nat, a - b = at_ := ⟨(a - b).toNat, by omega⟩
  obtain ⟨kn, rfl⟩ : ∃ kn : Nat, k = kn := ⟨k.toNat, by omega⟩
  have HAT := Lib.hid hat
  have hlen : at_ + kn ≤ xs.length := by omega
  have hkn : kn ≤ 8 := by omega
  have e1 : IntKind.u64.wrap (a - b) = at_ := by rw [hat]; exact IntWalk.u64_in _ (by omega)
  have E1 := Lib.hid e1
  rw [hat]
  clear hat hk e1
  simp only [Int.toNat_natCast]
  unfold wordV
  go_enter Try.func99, Try.ntmps99
  go_wp2
  go_loop [7, 8, 9] (fun v p i => ∃ m : Nat, m ≤ kn ∧ i = .int .i64 m ∧ v = .int .u64 (le ((xs.drop at_).take m)) ∧ p = .int .u64 (IntKind.u64.wrap (256 ^ m))) (fun _ _ i => kn - (intOf i).toNat)
  case atStart => exact ⟨0, Nat.zero_le _, rfl, by simp [le], rfl⟩
  case round =>
    obtain ⟨m, hm, rfl, rfl, rfl⟩ := hrel
    by_cases hlt : m < kn
    · obtain ⟨hp1, hp2⟩ := pow256_le (m := m) (by omega)
      have hx : (bv xs)[at_ + m]? = some (.int .u8 (xs[at_ + m]'(by omega)).toNat) := bv_get (by omega)
      have hst := Lib.hid (wordV_snoc (xs := xs) (at_ := at_) (m := m) (by omega))
      have hv0 := le_nonneg ((xs.drop at_).take m)
      have hv1 : le ((xs.drop at_).take m) < 256 ^ m := by
        have := le_lt ((xs.drop at_).take m)
        rwa [List.length_take, List.length_drop, Nat.min_eq_left (by omega)] at this
      have hps : (256 : Int) ^ (m + 1) = 256 ^ m * 256 := Int.pow_succ _ _
      have HPS := Lib.hid hps
      have hby := UInt8.toNat_lt (xs[at_ + m]'(by omega))
      obtain ⟨ab, ao, rfl, hab, hcell⟩ := hr.at_ hx
      generalize le ((xs.drop at_).take m) = v at *
      generalize (xs[at_ + m]'(by omega)).toNat = x at *
      generalize (256 : Int) ^ m = p at *
      clear hx hps
      have hq0 : IntKind.u64.wrap p = p := IntWalk.u64_in _ (by omega)
      have hpx0 : 0 ≤ p * (x : Int) := Int.mul_nonneg (by omega) (by omega)
      have hpx1 : p * (x : Int) ≤ p * 255 := Int.mul_le_mul_of_nonneg_left (by omega) (by omega)
      have hq1 : IntKind.u64.wrap (p * (x : Int)) = p * (x : Int) := IntWalk.u64_in _ (by omega)
      have hq2 : IntKind.u64.wrap (v + p * (x : Int)) = v + p * (x : Int) := IntWalk.u64_in _ (by omega)
      have hq3 : IntKind.u64.wrap ((at_ : Int) + (m : Int)) = (at_ : Int) + (m : Int) := IntWalk.u64_in _ (by omega)
      have hq4 : ((at_ : Int) + (m : Int)).toNat = at_ + m := by omega
      have hq5 : (at_ : Int) + (m : Int) < xs.length := by omega
      have e1 := E1.out
      rw [hq0]
      go_wp2
      go_round
      case rel => exact ⟨m + 1, by omega, by go_num, by rw [hst.out], by rw [HPS.out]⟩
      case measure => simp [intOf] <;> omega
    · obtain rfl : m = kn := by omega
      go_wp2
      go_ret
      exact ⟨rfl, (by repeat' (first | exact Below.refl _ _ | assumption | (refine below_call (by assumption) ?_ (by first | omega | (simp <;> omega))) | (refine below_callB (by assumption) ?_ (by omega)) | (refine Below.setCell ?_ (by first | omega | (simp <;> omega)) _) | (refine Below.alloc ?_ (by first | omega | (simp <;> omega)) _) | (refine Below.drew ?_) | (refine below_drewN ?_ _)))⟩

set_option maxHeartbeats 400000 in
theorem rload_any (b : Int) (A : Option Addr) (xs : List UInt8) (c : Nat) (a k : Int) (w : World) (h0 : 0 ≤ b) (h1 : b < 18446744073709551616) (hn : xs.length ≤ 9223372036854775807) (hr : Rd w w.heap.size A (bv xs)) (ha0 : 0 ≤ a) (ha1 : a < 18446744073709551616) (hk0 : -9223372036854775808 ≤ k) (hk1 : k ≤ 9223372036854775807) :
    Calls Try.prog 48 #[.agg #[.int .u64 b, .slice A xs.length c], .int .u64 a, .int .i64 k] w fun e w' => e = .returned (.tuple #[.int .u64 (loadS b xs a k).1, .int .i64 (loadS b xs a k).2]) ∧ Below w.heap.size w w' := by
  unfold loadS
  by_cases h : wordE b xs.length a k = 0
  · rw [if_pos h]
    have hw : chkR b xs.length = 0 ∧ (k = 1 ∨ k = 8) ∧ inb b xs.length a k = true := by
      unfold wordE at h; grind
    obtain ⟨hc, hk, hin⟩ := hw
    have HE := Lib.hid h
    have HC := Lib.hid hc
    have HI := Lib.hid hin
    have hk2 : 0 ≤ k := by omega
    clear h hc hin
    rcases hk with rfl | rfl
    all_goals
      go_enter Try.func48, Try.ntmps48
      go_wp2_with (first | (go_at_call 52; refine (rcheck_any _ _ _ _ _ h0 h1 hn).mono ?_; rintro e w1 ⟨rfl, hb1⟩; rw [HC.out]; obtain ⟨hc1, hf1⟩ := bcell hb1; have hs1 := hb1.size; (try simp at hs1); have hz1_0 : w.heap.size < w1.heap.size := (by omega)) | (go_at_call 93; refine (rin_any _ _ _ _ _ _ _ HC.out ha0 ha1 hk2 hk1).mono ?_; rintro e w2 ⟨rfl, hb2⟩; rw [HI.out]; obtain ⟨hc2, hf2⟩ := bcell hb2; have hs2 := hb2.size; (try simp at hs2); have hz2_0 : w.heap.size < w2.heap.size := (by omega)) | (go_at_call 99; refine (rword_any _ _ _ _ _ _ _ (by apply Rd.more; (repeat' (first | (show Rd _ _ _ _; with_reducible assumption) | (with_reducible apply Ow.rd; (show Ow _ _ _ _ _ _ _ _; with_reducible assumption)) | with_reducible exact Rd.nil_ | with_reducible apply Rd.alloc | with_reducible apply Rd.drew | with_reducible apply Rd.drewN | with_reducible apply Rd.setCell | (with_reducible apply Rd.call; (show Below _ _ _; with_reducible assumption)))); all_goals (first | omega | (simp <;> omega))) HE.out).mono ?_; rintro e w3 ⟨rfl, hb3⟩; obtain ⟨hc3, hf3⟩ := bcell hb3; have hs3 := hb3.size; (try simp at hs3); have hz3_0 : w.heap.size < w3.heap.size := (by omega)))
      go_ret2
      exact ⟨rfl, (by repeat' (first | exact Below.refl _ _ | assumption | (refine below_call (by assumption) ?_ (by first | omega | (simp <;> omega))) | (refine below_callB (by assumption) ?_ (by omega)) | (refine Below.setCell ?_ (by first | omega | (simp <;> omega)) _) | (refine Below.alloc ?_ (by first | omega | (simp <;> omega)) _) | (refine Below.drew ?_) | (refine below_drewN ?_ _)))⟩
  · rw [if_neg h]
    unfold wordE at *
    rcases chkR_cases b xs.length with hc | hc
    · simp only [hc, if_true] at h ⊢
      have HC := Lib.hid hc; clear hc
      by_cases hk : k = 1 ∨ k = 8
      · simp only [hk, if_true] at h ⊢
        have hin : inb b xs.length a k = false := by
          cases hi : inb b xs.length a k with
          | false => rfl
          | true => simp [hi] at h
        have HI := Lib.hid hin
        clear hin h
        simp only [HI.out, Bool.false_eq_true, if_false]
        have hk2 : 0 ≤ k := by omega
        rcases hk with rfl | rfl
        all_goals
          go_enter Try.func48, Try.ntmps48
          go_wp2_with (first | (go_at_call 52; refine (rcheck_any _ _ _ _ _ h0 h1 hn).mono ?_; rintro e w1 ⟨rfl, hb1⟩; rw [HC.out]; obtain ⟨hc1, hf1⟩ := bcell hb1; have hs1 := hb1.size; (try simp at hs1); have hz1_0 : w.heap.size < w1.heap.size := (by omega)) | (go_at_call 93; refine (rin_any _ _ _ _ _ _ _ HC.out ha0 ha1 hk2 hk1).mono ?_; rintro e w2 ⟨rfl, hb2⟩; rw [HI.out]; obtain ⟨hc2, hf2⟩ := bcell hb2; have hs2 := hb2.size; (try simp at hs2); have hz2_0 : w.heap.size < w2.heap.size := (by omega)))
          go_ret2
          exact ⟨rfl, (by repeat' (first | exact Below.refl _ _ | assumption | (refine below_call (by assumption) ?_ (by first | omega | (simp <;> omega))) | (refine below_callB (by assumption) ?_ (by omega)) | (refine Below.setCell ?_ (by first | omega | (simp <;> omega)) _) | (refine Below.alloc ?_ (by first | omega | (simp <;> omega)) _) | (refine Below.drew ?_) | (refine below_drewN ?_ _)))⟩
      · simp only [hk, if_false] at h ⊢
        have hq1 : (k != 1) = true := by simp; omega
        have hq2 : (k != 8) = true := by simp; omega
        clear hk h
        go_enter Try.func48, Try.ntmps48
        go_wp2_with (go_at_call 52; refine (rcheck_any _ _ _ _ _ h0 h1 hn).mono ?_; rintro e w1 ⟨rfl, hb1⟩; rw [HC.out]; obtain ⟨hc1, hf1⟩ := bcell hb1; have hs1 := hb1.size; (try simp at hs1); have hz1_0 : w.heap.size < w1.heap.size := (by omega))
        go_ret2
        exact ⟨rfl, (by repeat' (first | exact Below.refl _ _ | assumption | (refine below_call (by assumption) ?_ (by first | omega | (simp <;> omega))) | (refine below_callB (by assumption) ?_ (by omega)) | (refine Below.setCell ?_ (by first | omega | (simp <;> omega)) _) | (refine Below.alloc ?_ (by first | omega | (simp <;> omega)) _) | (refine Below.drew ?_) | (refine below_drewN ?_ _)))⟩
    · have HC := Lib.hid hc; clear hc h
      simp only [HC.out]
      go_enter Try.func48, Try.ntmps48
      go_wp2_with fail; refine (rcheck_any _ _ _ _ _ h0 h1 hn).mono ?_; rintro e w1 ⟨rfl, hb1⟩; rw [HC.out]; obtain ⟨hc1, hf1⟩ := bcell hb1; have hs1 := hb1.size; (try simp at hs1); have hz1_0 : w.heap.size < w1.heap.size := (by omega)
      go_wp2_with fail; refine (rcheck_any _ _ _ _ _ h0 h1 hn).mono ?_; rintro e w2 ⟨rfl, hb2⟩; rw [HC.out]; obtain ⟨hc2, hf2⟩ := bcell hb2; have hs2 := hb2.size; (try simp at hs2); have hz2_0 : w.heap.size < w2.heap.size := (by omega)
      go_wp2
      go_ret2
      exact ⟨rfl, (by repeat' (first | exact Below.refl _ _ | assumption | (refine below_call (by assumption) ?_ (by first | omega | (simp <;> omega))) | (refine below_callB (by assumption) ?_ (by omega)) | (refine Below.setCell ?_ (by first | omega | (simp <;> omega)) _) | (refine Below.alloc ?_ (by first | omega | (simp <;> omega)) _) | (refine Below.drew ?_) | (refine below_drewN ?_ _)))⟩
end Go.Proofs.Ytbcjkdekppomgaa
