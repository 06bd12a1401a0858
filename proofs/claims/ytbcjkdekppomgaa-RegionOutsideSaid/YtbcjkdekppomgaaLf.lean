/- The walk of the law RegionLast. -/
import Derived.Test.YtbcjkdekppomgaaLe
namespace Go.Proofs.Ytbcjkdekppomgaa
open Go.RowKit
set_option linter.unusedVariables false
set_option maxRecDepth 100000
set_option linter.unusedSimpArgs false
attribute [local go_sem ↓] Go.wp_at_zero Go.wp_at_succ

theorem load_ok {b : Int} {xs : List UInt8} {a k : Int} (h : (loadS b xs a k).2 = 0) : (k = 1 ∨ k = 8) ∧ 8 ≤ b ∧ b ≤ 1099511627776 ∧ xs.length ≤ 20000 ∧ b ≤ a ∧ a + k ≤ b + xs.length := by
  unfold loadS at h
  by_cases hw : wordE b xs.length a k = 0
  · clear h
    unfold wordE chkR basedB inb at hw; grind
  · rw [if_neg hw] at h
    exact absurd h hw
theorem storeE_two {b : Int} {n : Nat} {a k v : Int} (h : storeE b n a k v ≠ 0) (hc : chkR b n = 0) : storeE b n a k v = 2 ∨ storeE b n a k v = 16 := by
  unfold storeE at *; grind

set_option maxHeartbeats 3200000 in
theorem regionLast_walk (b : Int) (A : Option Addr) (xs : List UInt8) (c : Nat) (a a2 k k2 v : Int) (w : World) (h0 : 0 ≤ b) (h1 : b < 18446744073709551616) (hr : Rd w w.heap.size A (bv xs)) (hn : xs.length ≤ 9223372036854775807) (ha0 : 0 ≤ a) (ha1 : a < 18446744073709551616) (ht0 : 0 ≤ a2) (ht1 : a2 < 18446744073709551616) (hk0 : -9223372036854775808 ≤ k) (hk1 : k ≤ 9223372036854775807) (hu0 : -9223372036854775808 ≤ k2) (hu1 : k2 ≤ 9223372036854775807) (hv0 : 0 ≤ v) (hv1 : v < 18446744073709551616) :
    Calls Try.prog 8 #[.agg #[.int .u64 b, .slice A xs.length c], .int .u64 a, .int .u64 a2, .int .i64 k, .int .i64 k2, .int .u64 v] w fun e w' => e = .returned (.bool true) ∧ Below w.heap.size w w' := by
  rcases chkR_cases b xs.length with hc | hc
  · by_cases hl : xs.length ≤ 500
    · have HC := Lib.hid hc
      by_cases hs : storeE b xs.length a k v = 0
      · obtain ⟨hE, hk, h2, h3, h4, h5, h6, _⟩ := storeE_zero hs
        have hst : storeS b xs a k v = ((b, put xs (a - b).toNat (toLE k.toNat v)), 0) := by unfold storeS; rw [if_pos hs]
        have hlp : (put xs (a - b).toNat (toLE k.toNat v)).length = xs.length := put_length (by rw [toLE_length]; omega)
        have hlo := load_stored hs hv0 hv1
        have hle : (loadS b (put xs (a - b).toNat (toLE k.toNat v)) a2 k2).2 = (loadS b xs a2 k2).2 := load_err hlp
        have hfin : ((loadS b xs a2 k2).2 != 0) = true ∨ ((loadS b xs a2 k2).2 = 0 ∧ 0 ≤ k2 ∧ k2 ≤ 8 ∧ a2 ≤ 1099511647776 ∧ ((loadS b (put xs (a - b).toNat (toLE k.toNat v)) a2 k2).1 = (loadS b xs a2 k2).1 ∨ (a2 < a + k ∧ a < a2 + k2))) := by
          by_cases hq : (loadS b xs a2 k2).2 = 0
          · right
            obtain ⟨hk2, _, h8, h9, h10, h11⟩ := load_ok hq
            refine ⟨hq, by omega, by omega, by omega, ?_⟩
            by_cases hap : a + k ≤ a2 ∨ a2 + k2 ≤ a
            · left; rw [load_beside hs hq hap]
            · right; omega
          · left; simpa using hq
        have hld2 : loadS b (put xs (a - b).toNat (toLE k.toNat v)) a2 k2 = ((loadS b (put xs (a - b).toNat (toLE k.toNat v)) a2 k2).1, (loadS b xs a2 k2).2) := by rw [← hle]
        have hld1 : loadS b xs a2 k2 = ((loadS b xs a2 k2).1, (loadS b xs a2 k2).2) := rfl
        generalize hx1 : (loadS b (put xs (a - b).toNat (toLE k.toNat v)) a2 k2).1 = x1 at hfin hld2
        generalize hx2 : (loadS b xs a2 k2).1 = x2 at hfin hld1
        generalize hx3 : (loadS b xs a2 k2).2 = x3 at hfin hld1 hld2
        have HST := Lib.hid hst
        have HLP := Lib.hid hlp
        have HLO := Lib.hid hlo
        have HL1 := Lib.hid hld1
        have HL2 := Lib.hid hld2
        have HF := Lib.hid hfin
        have e1 : IntKind.u64.wrap k = k := IntWalk.u64_in _ (by omega)
        have e2 : IntKind.u64.wrap (a + k) = a + k := IntWalk.u64_in _ (by omega)
        clear hst hlp hlo hld1 hld2 hfin hx1 hx2 hx3 hle hs hE hc
        go_enter Try.func8, Try.ntmps8
        go_wp2_with fail; refine (alive13_walk _).mono ?_; rintro e w1 ⟨rfl, hb1⟩; obtain ⟨hc1, hf1⟩ := bcell hb1; have hs1 := hb1.size; (try simp at hs1); have hz1_0 : w.heap.size < w1.heap.size := (by omega)
        go_wp2_with fail; refine (rcheck_any b A xs.length c _ h0 h1 hn).mono ?_; rintro e w2 ⟨rfl, hb2⟩; rw [HC.out]; obtain ⟨hc2, hf2⟩ := bcell hb2; have hs2 := hb2.size; (try simp at hs2); have hz2_0 : w.heap.size < w2.heap.size := (by omega)
        go_wp2_with fail; refine (store_to A c _ HST.out rfl HLP.out h0 h1 hn (by apply Rd.more; (repeat' (first | (show Rd _ _ _ _; with_reducible assumption) | (with_reducible apply Ow.rd; (show Ow _ _ _ _ _ _ _ _; with_reducible assumption)) | with_reducible exact Rd.nil_ | with_reducible apply Rd.alloc | with_reducible apply Rd.drew | with_reducible apply Rd.drewN | with_reducible apply Rd.setCell | (with_reducible apply Rd.call; (show Below _ _ _; with_reducible assumption)))); all_goals (first | omega | (simp <;> omega))) hv0 hv1 ha0 ha1 hk0 hk1).mono ?_; rintro e w3 ⟨A3, c3, rfl, ho3, hb3⟩; obtain ⟨hc3, hf3⟩ := bcell hb3; have hs3 := hb3.size; (try simp at hs3); have hz3_0 : w.heap.size < w3.heap.size := (by omega)
        go_wp2_with fail; refine (load_to A c _ HL1.out rfl h0 h1 hn (by apply Rd.more; (repeat' (first | (show Rd _ _ _ _; with_reducible assumption) | (with_reducible apply Ow.rd; (show Ow _ _ _ _ _ _ _ _; with_reducible assumption)) | with_reducible exact Rd.nil_ | with_reducible apply Rd.alloc | with_reducible apply Rd.drew | with_reducible apply Rd.drewN | with_reducible apply Rd.setCell | (with_reducible apply Rd.call; (show Below _ _ _; with_reducible assumption)))); all_goals (first | omega | (simp <;> omega))) ht0 ht1 hu0 hu1).mono ?_; rintro e w4 ⟨rfl, hb4⟩; obtain ⟨hc4, hf4⟩ := bcell hb4; have hs4 := hb4.size; (try simp at hs4); have hz4_0 : w.heap.size < w4.heap.size := (by omega); have hz4_1 : w3.heap.size < w4.heap.size := (by omega)
        go_wp2_with fail; refine (load_to A3 c3 _ HLO.out HLP.out h0 h1 hn (by apply Rd.more; (repeat' (first | (show Rd _ _ _ _; with_reducible assumption) | (with_reducible apply Ow.rd; (show Ow _ _ _ _ _ _ _ _; with_reducible assumption)) | with_reducible exact Rd.nil_ | with_reducible apply Rd.alloc | with_reducible apply Rd.drew | with_reducible apply Rd.drewN | with_reducible apply Rd.setCell | (with_reducible apply Rd.call; (show Below _ _ _; with_reducible assumption)))); all_goals (first | omega | (simp <;> omega))) ha0 ha1 hk0 hk1).mono ?_; rintro e w5 ⟨rfl, hb5⟩; obtain ⟨hc5, hf5⟩ := bcell hb5; have hs5 := hb5.size; (try simp at hs5); have hz5_0 : w.heap.size < w5.heap.size := (by omega); have hz5_1 : w3.heap.size < w5.heap.size := (by omega)
        go_wp2_with fail; refine (load_to A3 c3 _ HL2.out HLP.out h0 h1 hn (by apply Rd.more; (repeat' (first | (show Rd _ _ _ _; with_reducible assumption) | (with_reducible apply Ow.rd; (show Ow _ _ _ _ _ _ _ _; with_reducible assumption)) | with_reducible exact Rd.nil_ | with_reducible apply Rd.alloc | with_reducible apply Rd.drew | with_reducible apply Rd.drewN | with_reducible apply Rd.setCell | (with_reducible apply Rd.call; (show Below _ _ _; with_reducible assumption)))); all_goals (first | omega | (simp <;> omega))) ht0 ht1 hu0 hu1).mono ?_; rintro e w6 ⟨rfl, hb6⟩; obtain ⟨hc6, hf6⟩ := bcell hb6; have hs6 := hb6.size; (try simp at hs6); have hz6_0 : w.heap.size < w6.heap.size := (by omega); have hz6_1 : w3.heap.size < w6.heap.size := (by omega)
        go_wp2_with fail; refine (rcheck_any b A3 xs.length c3 _ h0 h1 hn).mono ?_; rintro e w7 ⟨rfl, hb7⟩; rw [HC.out]; obtain ⟨hc7, hf7⟩ := bcell hb7; have hs7 := hb7.size; (try simp at hs7); have hz7_0 : w.heap.size < w7.heap.size := (by omega); have hz7_1 : w3.heap.size < w7.heap.size := (by omega)
        rcases HF.out with hq | ⟨rfl, h7, h8, h9, hx⟩
        · go_wp2
          all_goals
            go_ret
            exact ⟨by first | rfl | simp [*], (by repeat' (first | exact Below.refl _ _ | assumption | (refine below_call (by assumption) ?_ (by first | omega | (simp <;> omega))) | (refine below_callB (by assumption) ?_ (by omega)) | (refine Below.setCell ?_ (by first | omega | (simp <;> omega)) _) | (refine Below.alloc ?_ (by first | omega | (simp <;> omega)) _) | (refine Below.drew ?_) | (refine below_drewN ?_ _)))⟩
        · have e3 : IntKind.u64.wrap k2 = k2 := IntWalk.u64_in _ (by omega)
          have e4 : IntKind.u64.wrap (a2 + k2) = a2 + k2 := IntWalk.u64_in _ (by omega)
          rcases hx with rfl | ⟨h10, h11⟩
          all_goals
            go_wp2
            all_goals
              go_ret
              exact ⟨by first | rfl | simp [*], (by repeat' (first | exact Below.refl _ _ | assumption | (refine below_call (by assumption) ?_ (by first | omega | (simp <;> omega))) | (refine below_callB (by assumption) ?_ (by omega)) | (refine Below.setCell ?_ (by first | omega | (simp <;> omega)) _) | (refine Below.alloc ?_ (by first | omega | (simp <;> omega)) _) | (refine Below.drew ?_) | (refine below_drewN ?_ _)))⟩
      · have hst : storeS b xs a k v = ((0, []), storeE b xs.length a k v) := by unfold storeS; rw [if_neg hs]
        rcases storeE_two hs hc with h2 | h2
        all_goals
          rw [h2] at hst
          have HST := Lib.hid hst
          clear hst hs hc h2
          go_enter Try.func8, Try.ntmps8
          go_wp2_with fail; refine (alive13_walk _).mono ?_; rintro e w1 ⟨rfl, hb1⟩; obtain ⟨hc1, hf1⟩ := bcell hb1; have hs1 := hb1.size; (try simp at hs1); have hz1_0 : w.heap.size < w1.heap.size := (by omega)
          go_wp2_with fail; refine (rcheck_any b A xs.length c _ h0 h1 hn).mono ?_; rintro e w2 ⟨rfl, hb2⟩; rw [HC.out]; obtain ⟨hc2, hf2⟩ := bcell hb2; have hs2 := hb2.size; (try simp at hs2); have hz2_0 : w.heap.size < w2.heap.size := (by omega)
          go_wp2_with fail; refine (store_to (m := 0) A c _ HST.out rfl rfl h0 h1 hn (by apply Rd.more; (repeat' (first | (show Rd _ _ _ _; with_reducible assumption) | (with_reducible apply Ow.rd; (show Ow _ _ _ _ _ _ _ _; with_reducible assumption)) | with_reducible exact Rd.nil_ | with_reducible apply Rd.alloc | with_reducible apply Rd.drew | with_reducible apply Rd.drewN | with_reducible apply Rd.setCell | (with_reducible apply Rd.call; (show Below _ _ _; with_reducible assumption)))); all_goals (first | omega | (simp <;> omega))) hv0 hv1 ha0 ha1 hk0 hk1).mono ?_; rintro e w3 ⟨A3, c3, rfl, ho3, hb3⟩; obtain ⟨hc3, hf3⟩ := bcell hb3; have hs3 := hb3.size; (try simp at hs3); have hz3_0 : w.heap.size < w3.heap.size := (by omega)
          go_wp2_with fail; refine (load_any b A xs c a2 k2 _ h0 h1 hn (by apply Rd.more; (repeat' (first | (show Rd _ _ _ _; with_reducible assumption) | (with_reducible apply Ow.rd; (show Ow _ _ _ _ _ _ _ _; with_reducible assumption)) | with_reducible exact Rd.nil_ | with_reducible apply Rd.alloc | with_reducible apply Rd.drew | with_reducible apply Rd.drewN | with_reducible apply Rd.setCell | (with_reducible apply Rd.call; (show Below _ _ _; with_reducible assumption)))); all_goals (first | omega | (simp <;> omega))) ht0 ht1 hu0 hu1).mono ?_; rintro e w4 ⟨rfl, hb4⟩; obtain ⟨hc4, hf4⟩ := bcell hb4; have hs4 := hb4.size; (try simp at hs4); have hz4_0 : w.heap.size < w4.heap.size := (by omega); have hz4_1 : w3.heap.size < w4.heap.size := (by omega)
          go_wp2
          go_ret
          exact ⟨by first | rfl | simp, (by repeat' (first | exact Below.refl _ _ | assumption | (refine below_call (by assumption) ?_ (by first | omega | (simp <;> omega))) | (refine below_callB (by assumption) ?_ (by omega)) | (refine Below.setCell ?_ (by first | omega | (simp <;> omega)) _) | (refine Below.alloc ?_ (by first | omega | (simp <;> omega)) _) | (refine Below.drew ?_) | (refine below_drewN ?_ _)))⟩
    · have HC := Lib.hid hc; clear hc
      have hl' : 500 < xs.length := by omega
      go_enter Try.func8, Try.ntmps8
      go_wp2_with fail; refine (alive13_walk _).mono ?_; rintro e w1 ⟨rfl, hb1⟩; obtain ⟨hc1, hf1⟩ := bcell hb1; have hs1 := hb1.size; (try simp at hs1); have hz1_0 : w.heap.size < w1.heap.size := (by omega)
      go_wp2_with fail; refine (rcheck_any b A xs.length c _ h0 h1 hn).mono ?_; rintro e w2 ⟨rfl, hb2⟩; rw [HC.out]; obtain ⟨hc2, hf2⟩ := bcell hb2; have hs2 := hb2.size; (try simp at hs2); have hz2_0 : w.heap.size < w2.heap.size := (by omega)
      go_wp2
      go_ret
      exact ⟨rfl, (by repeat' (first | exact Below.refl _ _ | assumption | (refine below_call (by assumption) ?_ (by first | omega | (simp <;> omega))) | (refine below_callB (by assumption) ?_ (by omega)) | (refine Below.setCell ?_ (by first | omega | (simp <;> omega)) _) | (refine Below.alloc ?_ (by first | omega | (simp <;> omega)) _) | (refine Below.drew ?_) | (refine below_drewN ?_ _)))⟩
  · have HC := Lib.hid hc; clear hc
    go_enter Try.func8, Try.ntmps8
    go_wp2_with fail; refine (alive13_walk _).mono ?_; rintro e w1 ⟨rfl, hb1⟩; obtain ⟨hc1, hf1⟩ := bcell hb1; have hs1 := hb1.size; (try simp at hs1); have hz1_0 : w.heap.size < w1.heap.size := (by omega)
    go_wp2_with fail; refine (rcheck_any b A xs.length c _ h0 h1 hn).mono ?_; rintro e w2 ⟨rfl, hb2⟩; rw [HC.out]; obtain ⟨hc2, hf2⟩ := bcell hb2; have hs2 := hb2.size; (try simp at hs2); have hz2_0 : w.heap.size < w2.heap.size := (by omega)
    go_wp2
    all_goals
      go_ret
      exact ⟨rfl, (by repeat' (first | exact Below.refl _ _ | assumption | (refine below_call (by assumption) ?_ (by first | omega | (simp <;> omega))) | (refine below_callB (by assumption) ?_ (by omega)) | (refine Below.setCell ?_ (by first | omega | (simp <;> omega)) _) | (refine Below.alloc ?_ (by first | omega | (simp <;> omega)) _) | (refine Below.drew ?_) | (refine below_drewN ?_ _)))⟩
end Go.Proofs.Ytbcjkdekppomgaa
