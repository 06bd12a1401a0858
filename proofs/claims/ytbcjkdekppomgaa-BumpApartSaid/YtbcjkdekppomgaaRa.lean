/- Contracts of the references 13 and 14: small ones. -/
import Derived.Test.YtbcjkdekppomgaaBa
namespace Go.Proofs.Ytbcjkdekppomgaa
open Go.RowKit
set_option linter.unusedVariables false
set_option maxRecDepth 100000
set_option linter.unusedSimpArgs false
attribute [local go_sem ↓] Go.wp_at_zero Go.wp_at_succ

set_option maxHeartbeats 400000 in
theorem rtwin_any (b : Int) (A : Option Addr) (xs : List UInt8) (c : Nat) (w : World) (hr : Rd w w.heap.size A (bv xs)) (hn : xs.length ≤ 30000) :
    Calls Try.prog 23 #[.agg #[.int .u64 b, .slice A xs.length c]] w fun e w' => ∃ A' c', e = .returned (.agg #[.int .u64 b, .slice A' xs.length c']) ∧ Ow w' w.heap.size w'.heap.size 5 A' xs.length c' (bv xs) ∧ Below w.heap.size w w' := by
  obtain ⟨i0, hi0, hz0, hz1, hz2⟩ := info_parts Try.u8info
  go_enter Try.func23, Try.ntmps23
  go_wp2
  go_region_held3 (fun w' => w'.cell? ⟨w.heap.size, 0, none⟩ = some (.int .u64 b) ∧ w'.cell? ⟨w.heap.size, 1, none⟩ = some (.slice A xs.length c)) (go_keep)
   (((refine step_append_rd _ (by rfl) (.tmp 5) (.tmp 7) 23 (by rfl) (w.heap.size + 2) 5 i0 _ 1 Try.underlying23 hi0 hz0 hz1 hz2 rfl _ 0 [] (by rfl) (own_made (g := w.heap.size + 2) 0 (heap_new (by simp)) (Nat.le_refl _) rfl (by simp [maxLen])) w.heap.size A xs.length c (bv xs) (by rfl) (bv_length _) (((hr.alloc (Nat.le_refl _) _).alloc (by simp) _).drew.alloc (by simp <;> omega) _) (bv_one _) (by unfold maxLen; omega) (by omega) (by simp) ?_
      intro A' c' w1 hown hg hbl hat
      simp only [Nat.zero_add, List.nil_append] at hown
      obtain ⟨hc1, hf1⟩ := bcellB hbl
      have hs1 := hbl.size; (try simp at hs1))))
  go_wp2
  exact bodyPost_ret (v := .agg #[.int .u64 b, .slice A' xs.length c']) (by simp [results, Try.results23, go_sem, *]) rfl ⟨A', c', rfl, (by apply Ow.mono; (repeat' (first | (show Ow _ _ _ _ _ _ _ _; with_reducible assumption) | with_reducible exact Ow.nil_ | (with_reducible apply Ow.of_own'; (show World.ownsRow _ _ _ _ _ _ _; with_reducible assumption)) | with_reducible apply Ow.alloc | with_reducible apply Ow.drew | with_reducible apply Ow.drewN | with_reducible apply Ow.set | (with_reducible apply Ow.call; (show Below _ _ _; with_reducible assumption)))); all_goals (first | omega | (simp <;> omega))), (by repeat' (first | exact Below.refl _ _ | assumption | (refine below_call (by assumption) ?_ (by first | omega | (simp <;> omega))) | (refine below_callB (by assumption) ?_ (by omega)) | (refine Below.setCell ?_ (by first | omega | (simp <;> omega)) _) | (refine Below.alloc ?_ (by first | omega | (simp <;> omega)) _) | (refine Below.drew ?_) | (refine below_drewN ?_ _)))⟩

def greatB (n : Nat) : Bool := decide ((2000 < n ∧ n < 16300) ∨ 16500 < n)
set_option maxHeartbeats 400000 in
theorem rgreat14_any (b : Int) (A : Option Addr) (n c : Nat) (w : World) (hn : n ≤ 9223372036854775807) :
    Calls Try.prog 22 #[.agg #[.int .u64 b, .slice A n c]] w fun e w' => e = .returned (.bool (greatB n)) ∧ Below w.heap.size w w' := by
  go_enter Try.func22, Try.ntmps22
  go_wp2
  all_goals (go_ret; exact ⟨ret_bool (by go_light; unfold greatB; rw [Bool.eq_iff_iff]; simp; omega), (by repeat' (first | exact Below.refl _ _ | assumption | (refine below_call (by assumption) ?_ (by first | omega | (simp <;> omega))) | (refine below_callB (by assumption) ?_ (by omega)) | (refine Below.setCell ?_ (by first | omega | (simp <;> omega)) _) | (refine Below.alloc ?_ (by first | omega | (simp <;> omega)) _) | (refine Below.drew ?_) | (refine below_drewN ?_ _)))⟩)

def isB (b : Int) (n : Nat) : Bool := decide (b = 65536 ∧ n % 8 = 0 ∧ n ≤ 16384)
set_option maxHeartbeats 400000 in
theorem ris_any (b : Int) (A : Option Addr) (n c : Nat) (w : World) (hn : n ≤ 9223372036854775807) :
    Calls Try.prog 87 #[.agg #[.int .u64 b, .slice A n c]] w fun e w' => e = .returned (.bool (isB b n)) ∧ Below w.heap.size w w' := by
  go_enter Try.func87, Try.ntmps87
  go_wp2
  all_goals (go_ret; exact ⟨ret_bool (by go_light; unfold isB; rw [Bool.eq_iff_iff]; simp; omega), (by repeat' (first | exact Below.refl _ _ | assumption | (refine below_call (by assumption) ?_ (by first | omega | (simp <;> omega))) | (refine below_callB (by assumption) ?_ (by omega)) | (refine Below.setCell ?_ (by first | omega | (simp <;> omega)) _) | (refine Below.alloc ?_ (by first | omega | (simp <;> omega)) _) | (refine Below.drew ?_) | (refine below_drewN ?_ _)))⟩)

set_option maxHeartbeats 400000 in
theorem rlimit_any (b : Int) (A : Option Addr) (n c : Nat) (lim : Int) (w : World) (hn : n ≤ 9223372036854775807) :
    Calls Try.prog 32 #[.agg #[.int .u64 b, .slice A n c], .int .i64 lim] w fun e w' => e = .returned (.int .i64 (chkB b n lim)) ∧ Below w.heap.size w w' := by
  unfold chkB
  by_cases h : b = 65536 ∧ n % 8 = 0 ∧ n ≤ 16384
  · rw [if_pos h]
    have hi : isB b n = true := by simpa [isB] using h
    have H := Lib.hid hi; clear h hi
    go_enter Try.func32, Try.ntmps32
    go_wp2_with (go_at_call 87; refine (ris_any _ _ _ _ _ hn).mono ?_; rintro e w1 ⟨rfl, hb1⟩; rw [H.out]; obtain ⟨hc1, hf1⟩ := bcell hb1; have hs1 := hb1.size; (try simp at hs1); have hz1_0 : w.heap.size < w1.heap.size := (by omega))
    all_goals (go_ret; exact ⟨ret_int (by go_light; grind), (by repeat' (first | exact Below.refl _ _ | assumption | (refine below_call (by assumption) ?_ (by first | omega | (simp <;> omega))) | (refine below_callB (by assumption) ?_ (by omega)) | (refine Below.setCell ?_ (by first | omega | (simp <;> omega)) _) | (refine Below.alloc ?_ (by first | omega | (simp <;> omega)) _) | (refine Below.drew ?_) | (refine below_drewN ?_ _)))⟩)
  · rw [if_neg h]
    have hi : isB b n = false := by simpa [isB] using h
    have H := Lib.hid hi; clear h hi
    go_enter Try.func32, Try.ntmps32
    go_wp2_with (go_at_call 87; refine (ris_any _ _ _ _ _ hn).mono ?_; rintro e w1 ⟨rfl, hb1⟩; rw [H.out]; obtain ⟨hc1, hf1⟩ := bcell hb1; have hs1 := hb1.size; (try simp at hs1); have hz1_0 : w.heap.size < w1.heap.size := (by omega))
    go_ret
    exact ⟨rfl, (by repeat' (first | exact Below.refl _ _ | assumption | (refine below_call (by assumption) ?_ (by first | omega | (simp <;> omega))) | (refine below_callB (by assumption) ?_ (by omega)) | (refine Below.setCell ?_ (by first | omega | (simp <;> omega)) _) | (refine Below.alloc ?_ (by first | omega | (simp <;> omega)) _) | (refine Below.drew ?_) | (refine below_drewN ?_ _)))⟩

set_option maxHeartbeats 400000 in
theorem rsize_any (n : Int) (w : World) (h0 : 0 ≤ n) (h1 : n ≤ 4096) :
    Calls Try.prog 33 #[.int .i64 n] w fun e w' => e = .returned (.int .i64 (sizeI n)) ∧ w = w' := by
  go_enter Try.func33, Try.ntmps33
  go_wp2
  go_loop [3] (fun t => ∃ k : Nat, 1 ≤ k ∧ (k = 1 ∨ 8 * ((k : Int) - 1) < n) ∧ t = .int .i64 k) (fun t => (4097 - intOf t).toNat)
  case atStart => exact ⟨1, by omega, .inl rfl, rfl⟩
  case round =>
    obtain ⟨k, hk, hk2, rfl⟩ := hrel
    have hk3 : (k : Int) ≤ 600 := by omega
    by_cases hlt : 8 * (k : Int) < n
    · clear hk2
      go_wp2
      go_round
      case rel => exact ⟨k + 1, by omega, .inr (by omega), by go_num⟩
      case measure => simp [intOf] <;> omega
    · have hsz : sizeI n = 8 * k := by unfold sizeI; omega
      have HS := Lib.hid hsz; clear hsz hk2
      go_wp2
      go_ret
      exact ⟨by rw [HS.out]; rfl, rfl⟩

set_option maxHeartbeats 400000 in
theorem rroom_any (b : Int) (A : Option Addr) (n c : Nat) (lim : Int) (w : World) (hn : n ≤ 9223372036854775807) :
    Calls Try.prog 25 #[.agg #[.int .u64 b, .slice A n c], .int .i64 lim] w fun e w' => e = .returned (.tuple #[.int .i64 (roomS b n lim).1, .int .i64 (roomS b n lim).2]) ∧ Below w.heap.size w w' := by
  unfold roomS
  by_cases h : chkB b n lim = 0
  · obtain ⟨-, -, hb1, hb2, hb3⟩ := chkB_ok h
    rw [if_pos h]
    have H := Lib.hid h; clear h
    go_enter Try.func25, Try.ntmps25
    go_wp2_with (go_at_call 32; refine (rlimit_any _ _ _ _ _ _ hn).mono ?_; rintro e w1 ⟨rfl, hb1⟩; rw [H.out]; obtain ⟨hc1, hf1⟩ := bcell hb1; have hs1 := hb1.size; (try simp at hs1); have hz1_0 : w.heap.size < w1.heap.size := (by omega))
    go_loop [6] (fun t => ∃ k : Nat, (k = 0 ∨ (n : Int) + 8 * k ≤ lim) ∧ t = .int .i64 (8 * k)) (fun t => (16385 - intOf t).toNat)
    case atStart => exact ⟨0, .inl rfl, rfl⟩
    case round =>
      obtain ⟨k, hk2, rfl⟩ := hrel
      have hk3 : (k : Int) ≤ 2100 := by omega
      by_cases hlt : (n : Int) + 8 * k + 8 ≤ lim
      · clear hk2
        go_wp2
        go_round
        case rel => exact ⟨k + 1, .inr (by omega), by go_num⟩
        case measure => simp [intOf] <;> omega
      · have hsz : max 0 ((lim - n) / 8 * 8) = 8 * (k : Int) := by omega
        have HS := Lib.hid hsz; clear hsz hk2
        go_wp2
        go_ret2
        exact ⟨by rw [HS.out]; rfl, (by repeat' (first | exact Below.refl _ _ | assumption | (refine below_call (by assumption) ?_ (by first | omega | (simp <;> omega))) | (refine below_callB (by assumption) ?_ (by omega)) | (refine Below.setCell ?_ (by first | omega | (simp <;> omega)) _) | (refine Below.alloc ?_ (by first | omega | (simp <;> omega)) _) | (refine Below.drew ?_) | (refine below_drewN ?_ _)))⟩
  · have hq1 : (chkB b n lim != 0) = true := by simpa using h
    rw [if_neg h]
    clear h
    go_enter Try.func25, Try.ntmps25
    go_wp2_with (go_at_call 32; refine (rlimit_any _ _ _ _ _ _ hn).mono ?_; rintro e w1 ⟨rfl, hb1⟩; obtain ⟨hc1, hf1⟩ := bcell hb1; have hs1 := hb1.size; (try simp at hs1); have hz1_0 : w.heap.size < w1.heap.size := (by omega))
    go_ret2
    exact ⟨rfl, (by repeat' (first | exact Below.refl _ _ | assumption | (refine below_call (by assumption) ?_ (by first | omega | (simp <;> omega))) | (refine below_callB (by assumption) ?_ (by omega)) | (refine Below.setCell ?_ (by first | omega | (simp <;> omega)) _) | (refine Below.alloc ?_ (by first | omega | (simp <;> omega)) _) | (refine Below.drew ?_) | (refine below_drewN ?_ _)))⟩

def fitsB (n : Nat) (k lim : Int) : Bool := decide ((n : Int) + sizeI k ≤ lim)
set_option maxHeartbeats 400000 in
theorem rfits_any (b : Int) (A : Option Addr) (n c : Nat) (k lim : Int) (w : World) (hn : n ≤ 16384) (h0 : 0 ≤ k) (h1 : k ≤ 4096) :
    Calls Try.prog 85 #[.agg #[.int .u64 b, .slice A n c], .int .i64 k, .int .i64 lim] w fun e w' => e = .returned (.bool (fitsB n k lim)) ∧ Below w.heap.size w w' := by
  have hs := sizeI_ge k
  have hs1 := sizeI_le h1
  have hw1 : IntKind.i64.wrap ((n : Int) + sizeI k) = (n : Int) + sizeI k := IntWalk.i64_in _ (by omega)
  unfold fitsB
  go_enter Try.func85, Try.ntmps85
  go_wp2
  go_quiet ((go_at_call 33; exact quiet_left (rsize_any _ _ h0 h1)))
  go_wp2
  go_ret
  exact ⟨rfl, (by repeat' (first | exact Below.refl _ _ | assumption | (refine below_call (by assumption) ?_ (by first | omega | (simp <;> omega))) | (refine below_callB (by assumption) ?_ (by omega)) | (refine Below.setCell ?_ (by first | omega | (simp <;> omega)) _) | (refine Below.alloc ?_ (by first | omega | (simp <;> omega)) _) | (refine Below.drew ?_) | (refine below_drewN ?_ _)))⟩
end Go.Proofs.Ytbcjkdekppomgaa
