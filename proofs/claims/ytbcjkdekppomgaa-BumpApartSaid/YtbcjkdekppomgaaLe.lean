/- The walks of alive (13) and of the law RegionLast. -/
import Derived.Test.YtbcjkdekppomgaaRf
import Derived.Test.YtbcjkdekppomgaaSb
namespace Go.Proofs.Ytbcjkdekppomgaa
open Go.RowKit
set_option linter.unusedVariables false
set_option maxRecDepth 100000
set_option linter.unusedSimpArgs false
attribute [local go_sem ↓] Go.wp_at_zero Go.wp_at_succ

theorem new_to {b k b2 e2 : Int} {ys : List UInt8} {m : Nat} (w : World) (h : newS b k = ((b2, ys), e2)) (hm : ys.length = m) (h0 : 0 ≤ b) (h1 : b < 18446744073709551616) (hk0 : -9223372036854775808 ≤ k) (hk1 : k ≤ 9223372036854775807) :
    Calls Try.prog 43 #[.int .u64 b, .int .i64 k] w fun e w' => ∃ A' c', e = .returned (.tuple #[.agg #[.int .u64 b2, .slice A' m c'], .int .i64 e2]) ∧ Ow w' w.heap.size w'.heap.size 5 A' m c' (bv ys) ∧ Below w.heap.size w w' := by
  subst hm
  have := new_any b k w h0 h1 hk0 hk1
  rw [h] at this
  exact this
theorem load_to {b : Int} (A : Option Addr) {xs : List UInt8} {k : Nat} (c : Nat) {a u v e : Int} (w : World) (h : loadS b xs a u = (v, e)) (hk : xs.length = k) (h0 : 0 ≤ b) (h1 : b < 18446744073709551616) (hn : k ≤ 9223372036854775807) (hr : Rd w w.heap.size A (bv xs)) (ha0 : 0 ≤ a) (ha1 : a < 18446744073709551616) (hk0 : -9223372036854775808 ≤ u) (hk1 : u ≤ 9223372036854775807) :
    Calls Try.prog 47 #[.agg #[.int .u64 b, .slice A k c], .int .u64 a, .int .i64 u] w fun r w' => r = .returned (.tuple #[.int .u64 v, .int .i64 e]) ∧ Below w.heap.size w w' := by
  subst hk
  have := load_any b A xs c a u w h0 h1 hn hr ha0 ha1 hk0 hk1
  rw [h] at this
  exact this
theorem store_to {b : Int} (A : Option Addr) {xs : List UInt8} {k : Nat} (c : Nat) {a u v : Int} {b2 e2 : Int} {ys : List UInt8} {m : Nat} (w : World) (h : storeS b xs a u v = ((b2, ys), e2)) (hk : xs.length = k) (hm : ys.length = m) (h0 : 0 ≤ b) (h1 : b < 18446744073709551616) (hn : k ≤ 9223372036854775807) (hr : Rd w w.heap.size A (bv xs)) (hv0 : 0 ≤ v) (hv1 : v < 18446744073709551616) (ha0 : 0 ≤ a) (ha1 : a < 18446744073709551616) (hk0 : -9223372036854775808 ≤ u) (hk1 : u ≤ 9223372036854775807) :
    Calls Try.prog 49 #[.agg #[.int .u64 b, .slice A k c], .int .u64 a, .int .i64 u, .int .u64 v] w fun e w' => ∃ A' c', e = .returned (.tuple #[.agg #[.int .u64 b2, .slice A' m c'], .int .i64 e2]) ∧ Ow w' w.heap.size w'.heap.size 5 A' m c' (bv ys) ∧ Below w.heap.size w w' := by
  subst hk; subst hm
  have := store_any b A xs c a u v w h0 h1 hn hr hv0 hv1 ha0 ha1 hk0 hk1
  rw [h] at this
  exact this
theorem bytes_to {b : Int} (A : Option Addr) {xs : List UInt8} {k : Nat} (c : Nat) {a u : Int} {e2 : Int} {ys : List UInt8} {m : Nat} (w : World) (h : bytesS b xs a u = (ys, e2)) (hk : xs.length = k) (hm : ys.length = m) (h0 : 0 ≤ b) (h1 : b < 18446744073709551616) (hn : k ≤ 9223372036854775807) (hr : Rd w w.heap.size A (bv xs)) (ha0 : 0 ≤ a) (ha1 : a < 18446744073709551616) (hk0 : -9223372036854775808 ≤ u) (hk1 : u ≤ 9223372036854775807) (hcap : k ≤ c) (hc : c ≤ 9223372036854775807) :
    Calls Try.prog 37 #[.agg #[.int .u64 b, .slice A k c], .int .u64 a, .int .i64 u] w fun e w' => ∃ A' c', e = .returned (.tuple #[.slice A' m c', .int .i64 e2]) ∧ Ow w' w.heap.size w'.heap.size 5 A' m c' (bv ys) ∧ Below w.heap.size w w' := by
  subst hk; subst hm
  have := bytes_any b A xs c a u w h0 h1 hn hr ha0 ha1 hk0 hk1 hcap hc
  rw [h] at this
  exact this

theorem alive13_e1 : newS 64 16 = ((64, List.replicate 16 0), 0) := by decide
theorem alive13_e2 : loadS 64 (List.replicate 16 0) 65 8 = (0, 0) := by decide
theorem alive13_e3 : storeS 64 (List.replicate 16 0) 65 8 258 = ((64, [0, 2, 1, 0, 0, 0, 0, 0, 0, 0, 0, 0, 0, 0, 0, 0]), 0) := by decide
theorem alive13_e4 : bytesS 64 [0, 2, 1, 0, 0, 0, 0, 0, 0, 0, 0, 0, 0, 0, 0, 0] 65 2 = ([2, 1], 0) := by decide
theorem alive13_e5 : hasS 64 16 72 8 = (true, 0) := by decide
theorem alive13_e6 : hasS 64 16 73 8 = (false, 0) := by decide
theorem alive13_e7 : hasS 64 16 80 0 = (true, 0) := by decide

set_option maxHeartbeats 1600000 in
theorem alive13_walk (w : World) : Calls Try.prog 53 #[] w fun e w' => e = .returned (.bool true) ∧ Below w.heap.size w w' := by
  have H5 := Lib.hid alive13_e5
  have H6 := Lib.hid alive13_e6
  have H7 := Lib.hid alive13_e7
  go_enter Try.func53, Try.ntmps53
  go_wp2_with fail; refine (new_to (m := 16) _ alive13_e1 rfl (by omega) (by omega) (by omega) (by omega)).mono ?_; rintro e w1 ⟨A1, c1, rfl, ho1, hb1⟩; obtain ⟨hc1, hf1⟩ := bcell hb1; have hs1 := hb1.size; (try simp at hs1)
  go_wp2_with fail; refine (load_to (k := 16) A1 c1 _ alive13_e2 rfl (by omega) (by omega) (by omega) (by apply Rd.more; (repeat' (first | (show Rd _ _ _ _; with_reducible assumption) | (with_reducible apply Ow.rd; (show Ow _ _ _ _ _ _ _ _; with_reducible assumption)) | with_reducible exact Rd.nil_ | with_reducible apply Rd.alloc | with_reducible apply Rd.drew | with_reducible apply Rd.drewN | with_reducible apply Rd.setCell | (with_reducible apply Rd.call; (show Below _ _ _; with_reducible assumption)))); all_goals (first | omega | (simp <;> omega))) (by omega) (by omega) (by omega) (by omega)).mono ?_; rintro e w2 ⟨rfl, hb2⟩; obtain ⟨hc2, hf2⟩ := bcell hb2; have hs2 := hb2.size; (try simp at hs2); have hz2_0 : w1.heap.size < w2.heap.size := (by omega)
  go_wp2_with fail; refine (store_to (k := 16) A1 c1 _ alive13_e3 rfl (m := 16) rfl (by omega) (by omega) (by omega) (by apply Rd.more; (repeat' (first | (show Rd _ _ _ _; with_reducible assumption) | (with_reducible apply Ow.rd; (show Ow _ _ _ _ _ _ _ _; with_reducible assumption)) | with_reducible exact Rd.nil_ | with_reducible apply Rd.alloc | with_reducible apply Rd.drew | with_reducible apply Rd.drewN | with_reducible apply Rd.setCell | (with_reducible apply Rd.call; (show Below _ _ _; with_reducible assumption)))); all_goals (first | omega | (simp <;> omega))) (by omega) (by omega) (by omega) (by omega) (by omega) (by omega)).mono ?_; rintro e w3 ⟨A3, c3, rfl, ho3, hb3⟩; obtain ⟨hcp1, hcp2, hcp3⟩ := ho3.cap; clear hcp1; obtain ⟨hc3, hf3⟩ := bcell hb3; have hs3 := hb3.size; (try simp at hs3); have hz3_0 : w1.heap.size < w3.heap.size := (by omega)
  go_wp2_with fail; refine (bytes_to (k := 16) A3 c3 _ alive13_e4 rfl (m := 2) rfl (by omega) (by omega) (by omega) (by apply Rd.more; (repeat' (first | (show Rd _ _ _ _; with_reducible assumption) | (with_reducible apply Ow.rd; (show Ow _ _ _ _ _ _ _ _; with_reducible assumption)) | with_reducible exact Rd.nil_ | with_reducible apply Rd.alloc | with_reducible apply Rd.drew | with_reducible apply Rd.drewN | with_reducible apply Rd.setCell | (with_reducible apply Rd.call; (show Below _ _ _; with_reducible assumption)))); all_goals (first | omega | (simp <;> omega))) (by omega) (by omega) (by omega) (by omega) hcp2 hcp3).mono ?_; rintro e w4 ⟨A4, c4, rfl, ho4, hb4⟩; obtain ⟨hc4, hf4⟩ := bcell hb4; have hs4 := hb4.size; (try simp at hs4); have hz4_0 : w1.heap.size < w4.heap.size := (by omega); have hz4_1 : w3.heap.size < w4.heap.size := (by omega)
  go_wp2_with fail; refine (has_any 64 A1 16 c1 72 8 _ (by omega) (by omega) (by omega) (by omega) (by omega) (by omega) (by omega)).mono ?_; rintro e w5 ⟨rfl, hb5⟩; rw [H5.out]; obtain ⟨hc5, hf5⟩ := bcell hb5; have hs5 := hb5.size; (try simp at hs5); have hz5_0 : w1.heap.size < w5.heap.size := (by omega); have hz5_1 : w3.heap.size < w5.heap.size := (by omega)
  go_wp2_with fail; refine (has_any 64 A1 16 c1 73 8 _ (by omega) (by omega) (by omega) (by omega) (by omega) (by omega) (by omega)).mono ?_; rintro e w6 ⟨rfl, hb6⟩; rw [H6.out]; obtain ⟨hc6, hf6⟩ := bcell hb6; have hs6 := hb6.size; (try simp at hs6); have hz6_0 : w1.heap.size < w6.heap.size := (by omega); have hz6_1 : w3.heap.size < w6.heap.size := (by omega)
  go_wp2_with fail; refine (has_any 64 A1 16 c1 80 0 _ (by omega) (by omega) (by omega) (by omega) (by omega) (by omega) (by omega)).mono ?_; rintro e w7 ⟨rfl, hb7⟩; rw [H7.out]; obtain ⟨hc7, hf7⟩ := bcell hb7; have hs7 := hb7.size; (try simp at hs7); have hz7_0 : w1.heap.size < w7.heap.size := (by omega); have hz7_1 : w3.heap.size < w7.heap.size := (by omega)
  have hst1 := run_string_rd (P := Try.prog) w7 23 9 5 Try.underlying23 Try.underlying5 Try.underlying9 w7.heap.size A4 [2, 1] c4 (by apply Rd.more; (repeat' (first | (show Rd _ _ _ _; with_reducible assumption) | (with_reducible apply Ow.rd; (show Ow _ _ _ _ _ _ _ _; with_reducible assumption)) | with_reducible exact Rd.nil_ | with_reducible apply Rd.alloc | with_reducible apply Rd.drew | with_reducible apply Rd.drewN | with_reducible apply Rd.setCell | (with_reducible apply Rd.call; (show Below _ _ _; with_reducible assumption)))); all_goals (first | omega | (simp <;> omega)))
  have hst2 := run_string_rd (P := Try.prog) (w7.alloc (.cells #[.int .u8 2, .int .u8 1] 5)) 23 9 5 Try.underlying23 Try.underlying5 Try.underlying9 _ (some ⟨w7.heap.size, 0, none⟩) [2, 1] 2 (rd_bk (Bk.new _ _ _))
  simp only [List.length_cons, List.length_nil] at hst1 hst2
  go_wp2
  go_ret
  exact ⟨by simp, (by repeat' (first | exact Below.refl _ _ | assumption | (refine below_call (by assumption) ?_ (by first | omega | (simp <;> omega))) | (refine below_callB (by assumption) ?_ (by omega)) | (refine Below.setCell ?_ (by first | omega | (simp <;> omega)) _) | (refine Below.alloc ?_ (by first | omega | (simp <;> omega)) _) | (refine Below.drew ?_) | (refine below_drewN ?_ _)))⟩
end Go.Proofs.Ytbcjkdekppomgaa
