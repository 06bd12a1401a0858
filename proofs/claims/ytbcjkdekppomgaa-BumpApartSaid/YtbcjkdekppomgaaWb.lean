/- Contracts of the functions of package region that read or make bytes. -/
import Derived.Test.YtbcjkdekppomgaaWa
namespace Go.Proofs.Ytbcjkdekppomgaa
open Go.RowKit
set_option linter.unusedVariables false
set_option maxRecDepth 100000
set_option linter.unusedSimpArgs false
attribute [local go_sem ↓] Go.wp_at_zero Go.wp_at_succ

theorem Try.u8info : (Try.prog.info? 5).map (fun i => (i.zero, i.size, i.bytes)) = some (some (.int .u8 0), 1, 1) := by kernel_rfl

set_option maxHeartbeats 400000 in
theorem load_any (b : Int) (A : Option Addr) (xs : List UInt8) (c : Nat) (a k : Int) (w : World) (h0 : 0 ≤ b) (h1 : b < 18446744073709551616) (hn : xs.length ≤ 9223372036854775807) (hr : Rd w w.heap.size A (bv xs)) (ha0 : 0 ≤ a) (ha1 : a < 18446744073709551616) (hk0 : -9223372036854775808 ≤ k) (hk1 : k ≤ 9223372036854775807) :
    Calls Try.prog 47 #[.agg #[.int .u64 b, .slice A xs.length c], .int .u64 a, .int .i64 k] w fun e w' => e = .returned (.tuple #[.int .u64 (loadS b xs a k).1, .int .i64 (loadS b xs a k).2]) ∧ Below w.heap.size w w' := by
  unfold loadS
  by_cases h : wordE b xs.length a k = 0
  · have hw : (k = 1 ∨ k = 8) ∧ 8 ≤ b ∧ b ≤ 1099511627776 ∧ xs.length ≤ 20000 ∧ b ≤ a ∧ a + k ≤ b + xs.length := by
      unfold wordE chkR basedB inb at h; grind
    obtain ⟨hk, h2, h3, h4, h5, h6⟩ := hw
    have H := Lib.hid h; clear h
    rw [if_pos H.out]
    obtain ⟨at_, hat⟩ : ∃ at_ : Nat, a - b = at_ := ⟨(a - b).toNat, by omega⟩
    obtain ⟨kn, rfl⟩ : ∃ kn : Nat, k = kn := ⟨k.toNat, by omega⟩
    have HAT := Lib.hid hat; 
    have hlen : at_ + kn ≤ xs.length := by omega
    have hkn : kn ≤ 8 := by omega
    have hkn1 : 1 ≤ kn := by omega
    clear hat
    rw [HAT.out]
    go_enter Try.func47, Try.ntmps47
    go_wp2_with (go_at_call 98; refine (word_any _ _ _ _ _ _ _ h0 h1 hn ha0 ha1 hk0 hk1).mono ?_; rintro e w1 ⟨rfl, hb1⟩; rw [H.out, HAT.out]; simp only [if_true]; obtain ⟨hc1, hf1⟩ := bcell hb1; have hs1 := hb1.size; (try simp at hs1))
    go_loop [10, 11] (fun v i => ∃ m : Nat, m ≤ kn ∧ i = .int .i64 (m - 1) ∧ v = .int .u64 (le ((xs.drop (at_ + m)).take (kn - m)))) (fun _ i => (intOf i + 1).toNat)
    case atStart => exact ⟨kn, Nat.le_refl _, rfl, by simp [le]⟩
    case round =>
      obtain ⟨m, hm, rfl, rfl⟩ := hrel
      rcases m with _ | m
      · go_wp2
        go_ret2
        exact ⟨by unfold wordV; simp, (by repeat' (first | exact Below.refl _ _ | assumption | (refine below_call (by assumption) ?_ (by first | omega | (simp <;> omega))) | (refine below_callB (by assumption) ?_ (by omega)) | (refine Below.setCell ?_ (by first | omega | (simp <;> omega)) _) | (refine Below.alloc ?_ (by first | omega | (simp <;> omega)) _) | (refine Below.drew ?_) | (refine below_drewN ?_ _)))⟩
      · have hx : (bv xs)[at_ + m]? = some (.int .u8 (xs[at_ + m]'(by omega)).toNat) := bv_get (by omega)
        have hst := Lib.hid (wordV_step (m := m) hlen (by omega))
        have hv0 := le_nonneg ((xs.drop (at_ + (m + 1))).take (kn - (m + 1)))
        have hv1 : le ((xs.drop (at_ + (m + 1))).take (kn - (m + 1))) < 72057594037927936 := le_lt7 (by rw [List.length_take]; omega)
        have hby := UInt8.toNat_lt (xs[at_ + m]'(by omega))
        obtain ⟨ab, ao, rfl, hab, hcell⟩ := hr.at_ hx
        generalize le ((xs.drop (at_ + (m + 1))).take (kn - (m + 1))) = v at *
        generalize (xs[at_ + m]'(by omega)).toNat = x at *
        clear hx
        go_wp2
        rw [or_byte v x hv0 hv1 hby]
        go_round
        case rel => exact ⟨m, by omega, rfl, by rw [hst.out]⟩
        case measure => simp [intOf] <;> omega
  · have H := Lib.hid h; clear h
    rw [if_neg H.out]
    have hb0 : (wordE b xs.length a k != 0) = true := by simpa using H.out
    go_enter Try.func47, Try.ntmps47
    go_wp2_with (go_at_call 98; refine (word_any _ _ _ _ _ _ _ h0 h1 hn ha0 ha1 hk0 hk1).mono ?_; rintro e w1 ⟨rfl, hb1⟩; simp only [H.out, if_false]; obtain ⟨hc1, hf1⟩ := bcell hb1; have hs1 := hb1.size; (try simp at hs1))
    go_ret2
    exact ⟨rfl, (by repeat' (first | exact Below.refl _ _ | assumption | (refine below_call (by assumption) ?_ (by first | omega | (simp <;> omega))) | (refine below_callB (by assumption) ?_ (by omega)) | (refine Below.setCell ?_ (by first | omega | (simp <;> omega)) _) | (refine Below.alloc ?_ (by first | omega | (simp <;> omega)) _) | (refine Below.drew ?_) | (refine below_drewN ?_ _)))⟩

set_option maxHeartbeats 400000 in
theorem clone_any (A : Option Addr) (n c : Nat) (xs : List UInt8) (w : World) (hr : Rd w w.heap.size A (bv xs)) (hl : xs.length = n) (hn : n ≤ 140737488355328) :
    Calls Try.prog 94 #[.slice A n c] w fun e w' => ∃ A' c', e = .returned (.slice A' n c') ∧ Ow w' w.heap.size w'.heap.size 5 A' n c' (bv xs) ∧ Below w.heap.size w w' := by
  subst hl
  obtain ⟨i0, hi0, hz0, hz1, hz2⟩ := info_parts Try.u8info
  have hmx : xs.length ≤ maxLen := by unfold maxLen; omega
  rcases A with _ | ad
  · have hx : xs = [] := by
      rcases hr with h | ⟨b, off, h, _⟩
      · simpa [bv] using h
      · cases h
    subst hx
    have hnil := fun wx => Lib.run_eql_slice_nil (P := Try.prog) wx 23 5 none 0 c 0 0 Try.underlying23
    go_enter Try.func94, Try.ntmps94
    go_wp2
    go_ret
    exact ⟨none, 0, rfl, Ow.nil_, (by repeat' (first | exact Below.refl _ _ | assumption | (refine below_call (by assumption) ?_ (by first | omega | (simp <;> omega))) | (refine below_callB (by assumption) ?_ (by omega)) | (refine Below.setCell ?_ (by first | omega | (simp <;> omega)) _) | (refine Below.alloc ?_ (by first | omega | (simp <;> omega)) _) | (refine Below.drew ?_) | (refine below_drewN ?_ _)))⟩
  · have hnil := fun wx => Lib.run_eql_slice_nil (P := Try.prog) wx 23 5 (some ad) xs.length c 0 0 Try.underlying23
    go_enter Try.func94, Try.ntmps94
    go_wp2_with (at_builtin; refine wpList_append_rd _ rfl (.tmp 5) (.tmp 6) 23 rfl w.heap.size 5 i0 _ 1 Try.underlying23 hi0 hz0 hz1 hz2 rfl _ 0 [] (by rfl) (own_made (g := w.heap.size) 0 (heap_new rfl) (Nat.le_refl _) rfl (by simp [maxLen])) w.heap.size _ _ _ (bv xs) (by rfl) (bv_length _) (hr.alloc (Nat.le_refl _) _) (bv_one _) (by omega) (by omega) (by simp) ?_; intro A' c' w1 hown hg hbl hat; simp only [Nat.zero_add, List.nil_append] at hown)
    go_ret
    exact ⟨A', c', by simp, Ow.of_own hown (Nat.le_refl _), (by repeat' (first | exact Below.refl _ _ | assumption | (refine below_call (by assumption) ?_ (by first | omega | (simp <;> omega))) | (refine below_callB (by assumption) ?_ (by omega)) | (refine Below.setCell ?_ (by first | omega | (simp <;> omega)) _) | (refine Below.alloc ?_ (by first | omega | (simp <;> omega)) _) | (refine Below.drew ?_) | (refine below_drewN ?_ _)))⟩
end Go.Proofs.Ytbcjkdekppomgaa
