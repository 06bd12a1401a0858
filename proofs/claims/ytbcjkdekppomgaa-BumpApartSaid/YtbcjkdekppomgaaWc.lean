/- Contracts of the functions of package region that make regions. -/
import Derived.Test.YtbcjkdekppomgaaWb
namespace Go.Proofs.Ytbcjkdekppomgaa
open Go.RowKit
set_option linter.unusedVariables false
set_option maxRecDepth 100000
set_option linter.unusedSimpArgs false
attribute [local go_sem ↓] Go.wp_at_zero Go.wp_at_succ

set_option maxHeartbeats 800000 in
theorem store_ok (b : Int) (A : Option Addr) (xs : List UInt8) (c : Nat) (a k v : Int) (w : World) (hr : Rd w w.heap.size A (bv xs)) (hv0 : 0 ≤ v) (hv1 : v < 18446744073709551616) (h : storeE b xs.length a k v = 0) (ha1 : a < 18446744073709551616) :
    Calls Try.prog 49 #[.agg #[.int .u64 b, .slice A xs.length c], .int .u64 a, .int .i64 k, .int .u64 v] w fun e w' => ∃ A' c', e = .returned (.tuple #[.agg #[.int .u64 b, .slice A' xs.length c'], .int .i64 0]) ∧ Ow w' w.heap.size w'.heap.size 5 A' xs.length c' (bv (put xs (a - b).toNat (toLE k.toNat v))) ∧ Below w.heap.size w w' := by
  obtain ⟨hE, hk, h2, h3, h4, h5, h6, _⟩ := storeE_zero h
  clear h
  have H := Lib.hid hE; clear hE
  obtain ⟨at_, hat⟩ : ∃ at_ : Nat, a - b = at_ := ⟨(a - b).toNat, by omega⟩
  obtain ⟨kn, rfl⟩ : ∃ kn : Nat, k = kn := ⟨k.toNat, by omega⟩
  have HAT := Lib.hid hat
  have hlen : at_ + kn ≤ xs.length := by omega
  have hkn : kn ≤ 8 := by omega
  have hkn1 : 1 ≤ kn := by omega
  clear hat
  simp only [HAT.out, Int.toNat_natCast]
  have hne : (((kn : Int) == 1) = true ∧ decide (255 < v) = false) ∨ ((kn : Int) == 1) = false := by
    rcases hk with ⟨h7, h8⟩ | h7
    · left; simp; omega
    · right; simp; omega
  clear hk
  rcases hne with ⟨hq1, hq2⟩ | hq1
  all_goals
    go_enter Try.func49, Try.ntmps49
    go_wp2_with (first | (go_at_call 98; refine (word_any _ _ _ _ _ _ _ (by omega) (by omega) (by omega) (by omega) (by omega) (by omega) (by omega)).mono ?_; rintro e w1 ⟨rfl, hb1⟩; rw [H.out, HAT.out]; simp only [if_true]; obtain ⟨hc1, hf1⟩ := bcell hb1; have hs1 := hb1.size; (try simp at hs1); have hz1_0 : w.heap.size < w1.heap.size := (by omega); have hz1_1 : w.heap.size + 1 < w1.heap.size := (by omega)) | (go_at_call 94; refine (clone_any _ _ _ _ _ (by apply Rd.more; (repeat' (first | (show Rd _ _ _ _; with_reducible assumption) | (with_reducible apply Ow.rd; (show Ow _ _ _ _ _ _ _ _; with_reducible assumption)) | with_reducible exact Rd.nil_ | with_reducible apply Rd.alloc | with_reducible apply Rd.drew | with_reducible apply Rd.drewN | with_reducible apply Rd.setCell | (with_reducible apply Rd.call; (show Below _ _ _; with_reducible assumption)))); all_goals (first | omega | (simp <;> omega))) rfl (by omega)).mono ?_; rintro e w2 ⟨A2, c2, rfl, ho2, hb2⟩; obtain ⟨hc2, hf2⟩ := bcell hb2; have hs2 := hb2.size; (try simp at hs2); have hz2_0 : w.heap.size < w2.heap.size := (by omega); have hz2_1 : w.heap.size + 1 < w2.heap.size := (by omega)))
    obtain ⟨g, rfl, hg1, hg2, hg3, hown⟩ := ho2.pos (by omega)
    have hX0 : w2.cell? ⟨w.heap.size, 1, none⟩ = some (.slice A xs.length c) := by go_simp
    have hS0 := World.cell?_setCell_same w2 ⟨w.heap.size, 1, none⟩ (.slice (some ⟨g, 0, none⟩) xs.length c2) hX0
    clear hX0
    go_loopw [39] (fun i wr => ∃ j : Nat, j ≤ kn ∧ i = .int .i64 j ∧ Below g (w2.setCell ⟨w.heap.size, 1, none⟩ (.slice (some ⟨g, 0, none⟩) xs.length c2)) wr ∧ wr.ownsRow g 5 1 (.slice (some ⟨g, 0, none⟩) xs.length c2) xs.length (bv (put xs at_ (toLE j v)))) (fun i _ => kn - (intOf i).toNat)
    case atStart => exact ⟨0, by omega, rfl, Below.refl _ _, by rw [toLE_zero, put_nil]; exact ownsRow_setCell_below hown (by simp; omega) _⟩
    case round =>
      obtain ⟨j, hj, rfl, hbel, hownr⟩ := hrel
      obtain ⟨hcr, hfr⟩ := bcellB hbel
      have hgb : w.heap.size < g := by omega
      have hgb1 : w.heap.size + 1 < g := by omega
      by_cases hlt : j < kn
      · have hput : (put xs at_ (toLE j v)).length = xs.length := put_length (by rw [toLE_length]; omega)
        have hcell := own_cell hownr (bv_get (k := at_ + j) (by omega))
        have hfz := hownr.frozenAt (at_ + j)
        have hi0 : (0 : Int) ≤ ((at_ + j : Nat) : Int) := by omega
        have hi1 : ((at_ + j : Nat) : Int) < (xs.length : Int) := by omega
        go_wp2
        have hS : wr.cell? ⟨w.heap.size, 1, none⟩ = some (.slice (some ⟨g, 0, none⟩) xs.length c2) := (hcr _ _ hgb).trans hS0
        have hq3 : IntKind.i64.wrap ((at_ : Int) + (j : Int)) = (at_ : Int) + (j : Int) := IntWalk.i64_in _ (by omega)
        have hq4 : IntKind.i64.wrap (8 * (j : Int)) = 8 * (j : Int) := IntWalk.i64_in _ (by omega)
        have hq5 : ((at_ : Int) + (j : Int)).toNat = at_ + j := by omega
        have hq6 : (8 * (j : Int)).toNat = 8 * j := by omega
        have hq7 : 0 ≤ 8 * (j : Int) := by omega
        have hq8 : 8 * (j : Int) ≤ 64 := by omega
        have hq9 : 0 ≤ (at_ : Int) + (j : Int) := by omega
        have hq10 : (at_ : Int) + (j : Int) < (xs.length : Int) := by omega
        go_region_held3 (fun w' => w'.cell? ⟨w.heap.size, 1, none⟩ = some (.slice (some ⟨g, 0, none⟩) xs.length c2)) (first | exact hS | exact (World.cell?_setCell_other wr ⟨g, at_ + j, none⟩ ⟨w.heap.size, 1, none⟩ _ (by intro e; injection e with e; omega)).trans hS | go_keep) (fail)
        clear hq3 hq4 hq5 hq6
        go_wp2
        rw [byteAt_shr v j]
        go_roundw
        case rel =>
          refine ⟨j + 1, by omega, by go_num, (hbel.setCell (p := ⟨g, at_ + j, none⟩) (Nat.le_refl _) _).drew, ?_⟩
          have hst := (hownr.stored (at_ + j) (.int .u8 (byteAt v j).toNat)).1
          rw [← bv_set] at hst
          rw [toLE_succ, put_snoc _ (by rw [toLE_length]; omega), toLE_length]
          exact hst
        case measure => simp [intOf] <;> omega
      · obtain rfl : j = kn := by omega
        have hS : wr.cell? ⟨w.heap.size, 1, none⟩ = some (.slice (some ⟨g, 0, none⟩) xs.length c2) := (hcr _ _ hgb).trans hS0
        go_wp2
        exact bodyPost_ret (v := .tuple #[.agg #[.int .u64 b, .slice (some ⟨g, 0, none⟩) xs.length c2], .int .i64 0]) (by simp [results, Try.results49, go_sem, *]) rfl ⟨_, _, rfl, (by apply Ow.mono; (repeat' (first | (show Ow _ _ _ _ _ _ _ _; with_reducible assumption) | with_reducible exact Ow.nil_ | (with_reducible apply Ow.of_own'; (show World.ownsRow _ _ _ _ _ _ _; with_reducible assumption)) | with_reducible apply Ow.alloc | with_reducible apply Ow.drew | with_reducible apply Ow.drewN | with_reducible apply Ow.set | (with_reducible apply Ow.call; (show Below _ _ _; with_reducible assumption)))); all_goals (first | omega | (simp <;> omega))), (by repeat' (first | exact Below.refl _ _ | assumption | (refine below_call (by assumption) ?_ (by first | omega | (simp <;> omega))) | (refine below_callB (by assumption) ?_ (by omega)) | (refine Below.setCell ?_ (by first | omega | (simp <;> omega)) _) | (refine Below.alloc ?_ (by first | omega | (simp <;> omega)) _) | (refine Below.drew ?_) | (refine below_drewN ?_ _)))⟩

set_option maxHeartbeats 800000 in
theorem store_err (b : Int) (A : Option Addr) (xs : List UInt8) (c : Nat) (a k v : Int) (w : World) (h0 : 0 ≤ b) (h1 : b < 18446744073709551616) (hn : xs.length ≤ 9223372036854775807) (hv0 : 0 ≤ v) (hv1 : v < 18446744073709551616) (h : storeE b xs.length a k v ≠ 0) (ha0 : 0 ≤ a) (ha1 : a < 18446744073709551616) (hk0 : -9223372036854775808 ≤ k) (hk1 : k ≤ 9223372036854775807) :
    Calls Try.prog 49 #[.agg #[.int .u64 b, .slice A xs.length c], .int .u64 a, .int .i64 k, .int .u64 v] w fun e w' => e = .returned (.tuple #[.agg #[.int .u64 0, .slice none 0 0], .int .i64 (storeE b xs.length a k v)]) ∧ Below w.heap.size w w' := by
  rw [storeE_eq] at h ⊢
  have HW0 := word_any b A xs.length c a k
  generalize wordE b xs.length a k = e1 at *
  have HW := Lib.hid HW0
  clear HW0
  by_cases hc : k = 1 ∧ 255 < v ∧ e1 ≠ 8
  · rw [if_pos hc]
    obtain ⟨rfl, hv, he⟩ := hc
    have hq1 : (e1 != 8) = true := by simpa using he
    clear h he
    go_enter Try.func49, Try.ntmps49
    go_wp2_with (go_at_call 98; refine (HW.out _ h0 h1 hn ha0 ha1 hk0 hk1).mono ?_; rintro e w1 ⟨rfl, hb1⟩; obtain ⟨hc1, hf1⟩ := bcell hb1; have hs1 := hb1.size; (try simp at hs1); have hz1_0 : w.heap.size < w1.heap.size := (by omega); have hz1_1 : w.heap.size + 1 < w1.heap.size := (by omega))
    all_goals (exact bodyPost_ret (v := .tuple #[.agg #[.int .u64 0, .slice none 0 0], .int .i64 2]) (by simp [results, Try.results49, go_sem, *]) rfl ⟨rfl, (by repeat' (first | exact Below.refl _ _ | assumption | (refine below_call (by assumption) ?_ (by first | omega | (simp <;> omega))) | (refine below_callB (by assumption) ?_ (by omega)) | (refine Below.setCell ?_ (by first | omega | (simp <;> omega)) _) | (refine Below.alloc ?_ (by first | omega | (simp <;> omega)) _) | (refine Below.drew ?_) | (refine below_drewN ?_ _)))⟩)
  · rw [if_neg hc] at h ⊢
    have hq1 : (e1 != 0) = true := by simpa using h
    have HN := Lib.hid h
    have hd : (k == 1) = false ∨ ((k == 1) = true ∧ decide (255 < v) = false) ∨ ((k == 1) = true ∧ decide (255 < v) = true ∧ (e1 != 8) = false) := by
      by_cases h7 : k = 1
      · by_cases h8 : 255 < v
        · right; right
          have : e1 = 8 := by
            by_cases h9 : e1 = 8
            · exact h9
            · exact absurd ⟨h7, h8, h9⟩ hc
          simp [h7, h8, this]
        · right; left; simp [h7, h8]
      · left; simpa using h7
    clear hc h
    rcases hd with hd1 | ⟨hd1, hd2⟩ | ⟨hd1, hd2, hd3⟩
    all_goals
      go_enter Try.func49, Try.ntmps49
      go_wp2_with (go_at_call 98; refine (HW.out _ h0 h1 hn ha0 ha1 hk0 hk1).mono ?_; rintro e w1 ⟨rfl, hb1⟩; rw [if_neg HN.out]; obtain ⟨hc1, hf1⟩ := bcell hb1; have hs1 := hb1.size; (try simp at hs1); have hz1_0 : w.heap.size < w1.heap.size := (by omega); have hz1_1 : w.heap.size + 1 < w1.heap.size := (by omega))
      all_goals (exact bodyPost_ret (v := .tuple #[.agg #[.int .u64 0, .slice none 0 0], .int .i64 e1]) (by simp [results, Try.results49, go_sem, *]) rfl ⟨rfl, (by repeat' (first | exact Below.refl _ _ | assumption | (refine below_call (by assumption) ?_ (by first | omega | (simp <;> omega))) | (refine below_callB (by assumption) ?_ (by omega)) | (refine Below.setCell ?_ (by first | omega | (simp <;> omega)) _) | (refine Below.alloc ?_ (by first | omega | (simp <;> omega)) _) | (refine Below.drew ?_) | (refine below_drewN ?_ _)))⟩)

/-- region.Store -/
theorem store_any (b : Int) (A : Option Addr) (xs : List UInt8) (c : Nat) (a k v : Int) (w : World) (h0 : 0 ≤ b) (h1 : b < 18446744073709551616) (hn : xs.length ≤ 9223372036854775807) (hr : Rd w w.heap.size A (bv xs)) (hv0 : 0 ≤ v) (hv1 : v < 18446744073709551616) (ha0 : 0 ≤ a) (ha1 : a < 18446744073709551616) (hk0 : -9223372036854775808 ≤ k) (hk1 : k ≤ 9223372036854775807) :
    Calls Try.prog 49 #[.agg #[.int .u64 b, .slice A xs.length c], .int .u64 a, .int .i64 k, .int .u64 v] w fun e w' => ∃ A' c', e = .returned (.tuple #[.agg #[.int .u64 (storeS b xs a k v).1.1, .slice A' (storeS b xs a k v).1.2.length c'], .int .i64 (storeS b xs a k v).2]) ∧ Ow w' w.heap.size w'.heap.size 5 A' (storeS b xs a k v).1.2.length c' (bv (storeS b xs a k v).1.2) ∧ Below w.heap.size w w' := by
  unfold storeS
  by_cases h : storeE b xs.length a k v = 0
  · rw [if_pos h]
    refine (store_ok b A xs c a k v w hr hv0 hv1 h ha1).mono ?_
    rintro e w' ⟨A', c', rfl, ho, hb⟩
    have hl : (put xs (a - b).toNat (toLE k.toNat v)).length = xs.length := put_length (by
      obtain ⟨_, _, _, _, _, _, _, _⟩ := storeE_zero h
      rw [toLE_length]; omega)
    simp only [hl]
    exact ⟨A', c', rfl, ho, hb⟩
  · rw [if_neg h]
    refine (store_err b A xs c a k v w h0 h1 hn hv0 hv1 h ha0 ha1 hk0 hk1).mono ?_
    rintro e w' ⟨rfl, hb⟩
    exact ⟨none, 0, rfl, Ow.nil_, hb⟩
end Go.Proofs.Ytbcjkdekppomgaa
