/- Contracts of the functions of package region that make no bytes. -/
import Derived.Test.YtbcjkdekppomgaaProg
import Derived.Test.YtbcjkdekppomgaaSa
namespace Go.Proofs.Ytbcjkdekppomgaa
open Go.RowKit
set_option linter.unusedVariables false
set_option maxRecDepth 100000
set_option linter.unusedSimpArgs false
attribute [local go_sem ↓] Go.wp_at_zero Go.wp_at_succ

set_option maxHeartbeats 400000 in
theorem based_any (a : Int) (w : World) (h0 : 0 ≤ a) (h1 : a < 18446744073709551616) :
    Calls Try.prog 96 #[.int .u64 a] w fun e w' => e = .returned (.bool (basedB a)) ∧ w = w' := by
  go_enter Try.func96, Try.ntmps96
  go_wp2
  all_goals (go_ret; exact ⟨ret_bool (by unfold basedB; rw [Bool.eq_iff_iff]; simp; omega), rfl⟩)

set_option maxHeartbeats 400000 in
theorem check_any (b : Int) (A : Option Addr) (n c : Nat) (w : World) (h0 : 0 ≤ b) (h1 : b < 18446744073709551616) (hn : n ≤ 9223372036854775807) :
    Calls Try.prog 51 #[.agg #[.int .u64 b, .slice A n c]] w fun e w' => e = .returned (.int .i64 (chkR b n)) ∧ Below w.heap.size w w' := by
  go_enter Try.func51, Try.ntmps51
  go_wp2_with (go_at_call 96; refine (based_any _ _ h0 h1).mono ?_; rintro e w' ⟨rfl, rfl⟩)
  all_goals (go_ret; exact ⟨ret_int (by go_light; unfold chkR; grind), (by repeat' (first | exact Below.refl _ _ | assumption | (refine below_call (by assumption) ?_ (by first | omega | (simp <;> omega))) | (refine below_callB (by assumption) ?_ (by omega)) | (refine Below.setCell ?_ (by first | omega | (simp <;> omega)) _) | (refine Below.alloc ?_ (by first | omega | (simp <;> omega)) _) | (refine Below.drew ?_) | (refine below_drewN ?_ _)))⟩)

set_option maxHeartbeats 400000 in
theorem index_any (b : Int) (A : Option Addr) (n c : Nat) (a k : Int) (w : World) (hv : chkR b n = 0) (ha0 : 0 ≤ a) (ha1 : a < 18446744073709551616) (hk0 : -9223372036854775808 ≤ k) (hk1 : k ≤ 9223372036854775807) :
    Calls Try.prog 91 #[.agg #[.int .u64 b, .slice A n c], .int .u64 a, .int .i64 k] w fun e w' => e = .returned (.tuple #[.int .i64 (indexS b n a k).1, .bool (indexS b n a k).2]) ∧ Below w.heap.size w w' := by
  obtain ⟨h0, h1, h2, h3⟩ := chkR_ok hv
  clear hv h2
  unfold indexS
  by_cases h : b ≤ a ∧ a - b ≤ n
  · rw [if_pos h]
    obtain ⟨h4, h5⟩ := h
    have e1 : IntKind.u64.wrap (a - b) = a - b := by rw [IntKind.wrap_u64]; omega
    go_enter Try.func91, Try.ntmps91
    go_wp2
    go_quiet (fail)
    go_wp2
    go_ret2
    exact ⟨by go_light; first | rfl | (congr; grind), (by repeat' (first | exact Below.refl _ _ | assumption | (refine below_call (by assumption) ?_ (by first | omega | (simp <;> omega))) | (refine below_callB (by assumption) ?_ (by omega)) | (refine Below.setCell ?_ (by first | omega | (simp <;> omega)) _) | (refine Below.alloc ?_ (by first | omega | (simp <;> omega)) _) | (refine Below.drew ?_) | (refine below_drewN ?_ _)))⟩
  · rw [if_neg h]
    by_cases h4 : b ≤ a
    · have h5 : (n : Int) < a - b := by omega
      have e1 : IntKind.u64.wrap (a - b) = a - b := by rw [IntKind.wrap_u64]; omega
      clear h
      go_enter Try.func91, Try.ntmps91
      go_wp2
      go_ret2
      exact ⟨rfl, (by repeat' (first | exact Below.refl _ _ | assumption | (refine below_call (by assumption) ?_ (by first | omega | (simp <;> omega))) | (refine below_callB (by assumption) ?_ (by omega)) | (refine Below.setCell ?_ (by first | omega | (simp <;> omega)) _) | (refine Below.alloc ?_ (by first | omega | (simp <;> omega)) _) | (refine Below.drew ?_) | (refine below_drewN ?_ _)))⟩
    · have h5 : a < b := by omega
      clear h
      go_enter Try.func91, Try.ntmps91
      go_wp2
      go_ret2
      exact ⟨rfl, (by repeat' (first | exact Below.refl _ _ | assumption | (refine below_call (by assumption) ?_ (by first | omega | (simp <;> omega))) | (refine below_callB (by assumption) ?_ (by omega)) | (refine Below.setCell ?_ (by first | omega | (simp <;> omega)) _) | (refine Below.alloc ?_ (by first | omega | (simp <;> omega)) _) | (refine Below.drew ?_) | (refine below_drewN ?_ _)))⟩

set_option maxHeartbeats 400000 in
theorem has_any (b : Int) (A : Option Addr) (n c : Nat) (a k : Int) (w : World) (h0 : 0 ≤ b) (h1 : b < 18446744073709551616) (hn : n ≤ 9223372036854775807) (ha0 : 0 ≤ a) (ha1 : a < 18446744073709551616) (hk0 : -9223372036854775808 ≤ k) (hk1 : k ≤ 9223372036854775807) :
    Calls Try.prog 45 #[.agg #[.int .u64 b, .slice A n c], .int .u64 a, .int .i64 k] w fun e w' => e = .returned (.tuple #[.bool (hasS b n a k).1, .int .i64 (hasS b n a k).2]) ∧ Below w.heap.size w w' := by
  unfold hasS
  rcases chkR_cases b n with h | h
  · rw [if_pos h]
    have H := Lib.hid h; clear h
    by_cases hk : k < 0
    · rw [if_pos hk]
      go_enter Try.func45, Try.ntmps45
      go_wp2_with (go_at_call 51; refine (check_any _ _ _ _ _ h0 h1 hn).mono ?_; rintro e w1 ⟨rfl, hb1⟩; rw [H.out]; obtain ⟨hc1, hf1⟩ := bcell hb1; have hs1 := hb1.size; (try simp at hs1))
      go_ret2
      exact ⟨rfl, (by repeat' (first | exact Below.refl _ _ | assumption | (refine below_call (by assumption) ?_ (by first | omega | (simp <;> omega))) | (refine below_callB (by assumption) ?_ (by omega)) | (refine Below.setCell ?_ (by first | omega | (simp <;> omega)) _) | (refine Below.alloc ?_ (by first | omega | (simp <;> omega)) _) | (refine Below.drew ?_) | (refine below_drewN ?_ _)))⟩
    · rw [if_neg hk]
      have hk' : 0 ≤ k := by omega
      have HI := Lib.hid (indexS_snd (b := b) (n := n) (a := a) hk')
      go_enter Try.func45, Try.ntmps45
      go_wp2_with (first | (go_at_call 51; refine (check_any _ _ _ _ _ h0 h1 hn).mono ?_; rintro e w1 ⟨rfl, hb1⟩; rw [H.out]; obtain ⟨hc1, hf1⟩ := bcell hb1; have hs1 := hb1.size; (try simp at hs1)) | (go_at_call 91; refine (index_any _ _ _ _ _ _ _ H.out ha0 ha1 hk0 hk1).mono ?_; rintro e w2 ⟨rfl, hb2⟩; obtain ⟨hc2, hf2⟩ := bcell hb2; have hs2 := hb2.size; (try simp at hs2)))
      go_ret2
      exact ⟨by rw [HI.out]; rfl, (by repeat' (first | exact Below.refl _ _ | assumption | (refine below_call (by assumption) ?_ (by first | omega | (simp <;> omega))) | (refine below_callB (by assumption) ?_ (by omega)) | (refine Below.setCell ?_ (by first | omega | (simp <;> omega)) _) | (refine Below.alloc ?_ (by first | omega | (simp <;> omega)) _) | (refine Below.drew ?_) | (refine below_drewN ?_ _)))⟩
  · rw [if_neg (by omega)]
    have H := Lib.hid h; clear h
    go_enter Try.func45, Try.ntmps45
    go_wp2_with (go_at_call 51; refine (check_any _ _ _ _ _ h0 h1 hn).mono ?_; rintro e w1 ⟨rfl, hb1⟩; rw [H.out]; obtain ⟨hc1, hf1⟩ := bcell hb1; have hs1 := hb1.size; (try simp at hs1))
    go_ret2
    exact ⟨rfl, (by repeat' (first | exact Below.refl _ _ | assumption | (refine below_call (by assumption) ?_ (by first | omega | (simp <;> omega))) | (refine below_callB (by assumption) ?_ (by omega)) | (refine Below.setCell ?_ (by first | omega | (simp <;> omega)) _) | (refine Below.alloc ?_ (by first | omega | (simp <;> omega)) _) | (refine Below.drew ?_) | (refine below_drewN ?_ _)))⟩

set_option maxHeartbeats 400000 in
theorem word_any (b : Int) (A : Option Addr) (n c : Nat) (a k : Int) (w : World) (h0 : 0 ≤ b) (h1 : b < 18446744073709551616) (hn : n ≤ 9223372036854775807) (ha0 : 0 ≤ a) (ha1 : a < 18446744073709551616) (hk0 : -9223372036854775808 ≤ k) (hk1 : k ≤ 9223372036854775807) :
    Calls Try.prog 98 #[.agg #[.int .u64 b, .slice A n c], .int .u64 a, .int .i64 k] w fun e w' => e = .returned (.tuple #[.int .i64 (if wordE b n a k = 0 then a - b else 0), .int .i64 (wordE b n a k)]) ∧ Below w.heap.size w w' := by
  unfold wordE
  rcases chkR_cases b n with h | h
  · have H := Lib.hid h; clear h
    simp only [H.out, if_true]
    by_cases hk : k = 1 ∨ k = 8
    · have hk' : 0 ≤ k := by omega
      have HI := Lib.hid (indexS_snd (b := b) (n := n) (a := a) hk')
      simp only [hk, if_true]
      by_cases hin : inb b n a k = true
      · have HF := Lib.hid (indexS_fst hin hk')
        have HN := Lib.hid hin; clear hin
        simp only [HN.out, if_true]
        rcases hk with rfl | rfl
        all_goals
          go_enter Try.func98, Try.ntmps98
          go_wp2_with (first | (go_at_call 51; refine (check_any _ _ _ _ _ h0 h1 hn).mono ?_; rintro e w1 ⟨rfl, hb1⟩; rw [H.out]; obtain ⟨hc1, hf1⟩ := bcell hb1; have hs1 := hb1.size; (try simp at hs1)) | (go_at_call 91; refine (index_any _ _ _ _ _ _ _ H.out ha0 ha1 hk0 hk1).mono ?_; rintro e w2 ⟨rfl, hb2⟩; rw [HI.out, HF.out, HN.out]; obtain ⟨hc2, hf2⟩ := bcell hb2; have hs2 := hb2.size; (try simp at hs2)))
          go_ret2
          exact ⟨rfl, (by repeat' (first | exact Below.refl _ _ | assumption | (refine below_call (by assumption) ?_ (by first | omega | (simp <;> omega))) | (refine below_callB (by assumption) ?_ (by omega)) | (refine Below.setCell ?_ (by first | omega | (simp <;> omega)) _) | (refine Below.alloc ?_ (by first | omega | (simp <;> omega)) _) | (refine Below.drew ?_) | (refine below_drewN ?_ _)))⟩
      · have hin' : inb b n a k = false := by simpa using hin
        have HN := Lib.hid hin'; clear hin hin'
        simp only [HN.out]
        rcases hk with rfl | rfl
        all_goals
          go_enter Try.func98, Try.ntmps98
          go_wp2_with (first | (go_at_call 51; refine (check_any _ _ _ _ _ h0 h1 hn).mono ?_; rintro e w1 ⟨rfl, hb1⟩; rw [H.out]; obtain ⟨hc1, hf1⟩ := bcell hb1; have hs1 := hb1.size; (try simp at hs1)) | (go_at_call 91; refine (index_any _ _ _ _ _ _ _ H.out ha0 ha1 hk0 hk1).mono ?_; rintro e w2 ⟨rfl, hb2⟩; rw [HI.out, HN.out]; obtain ⟨hc2, hf2⟩ := bcell hb2; have hs2 := hb2.size; (try simp at hs2)))
          go_ret2
          exact ⟨rfl, (by repeat' (first | exact Below.refl _ _ | assumption | (refine below_call (by assumption) ?_ (by first | omega | (simp <;> omega))) | (refine below_callB (by assumption) ?_ (by omega)) | (refine Below.setCell ?_ (by first | omega | (simp <;> omega)) _) | (refine Below.alloc ?_ (by first | omega | (simp <;> omega)) _) | (refine Below.drew ?_) | (refine below_drewN ?_ _)))⟩
    · simp only [hk, if_false]
      have hq1 : (k != 1) = true := by simp; omega
      have hq2 : (k != 8) = true := by simp; omega
      clear hk
      go_enter Try.func98, Try.ntmps98
      go_wp2_with (go_at_call 51; refine (check_any _ _ _ _ _ h0 h1 hn).mono ?_; rintro e w1 ⟨rfl, hb1⟩; rw [H.out]; obtain ⟨hc1, hf1⟩ := bcell hb1; have hs1 := hb1.size; (try simp at hs1))
      go_ret2
      exact ⟨rfl, (by repeat' (first | exact Below.refl _ _ | assumption | (refine below_call (by assumption) ?_ (by first | omega | (simp <;> omega))) | (refine below_callB (by assumption) ?_ (by omega)) | (refine Below.setCell ?_ (by first | omega | (simp <;> omega)) _) | (refine Below.alloc ?_ (by first | omega | (simp <;> omega)) _) | (refine Below.drew ?_) | (refine below_drewN ?_ _)))⟩
  · have H := Lib.hid h; clear h
    simp only [H.out]
    go_enter Try.func98, Try.ntmps98
    go_wp2_with (go_at_call 51; refine (check_any _ _ _ _ _ h0 h1 hn).mono ?_; rintro e w1 ⟨rfl, hb1⟩; rw [H.out]; obtain ⟨hc1, hf1⟩ := bcell hb1; have hs1 := hb1.size; (try simp at hs1))
    go_ret2
    exact ⟨rfl, (by repeat' (first | exact Below.refl _ _ | assumption | (refine below_call (by assumption) ?_ (by first | omega | (simp <;> omega))) | (refine below_callB (by assumption) ?_ (by omega)) | (refine Below.setCell ?_ (by first | omega | (simp <;> omega)) _) | (refine Below.alloc ?_ (by first | omega | (simp <;> omega)) _) | (refine Below.drew ?_) | (refine below_drewN ?_ _)))⟩
end Go.Proofs.Ytbcjkdekppomgaa
