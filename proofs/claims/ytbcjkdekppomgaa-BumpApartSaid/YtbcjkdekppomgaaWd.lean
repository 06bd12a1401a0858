/- Contracts of Bytes, Write, Resize, New of package region. -/
import Derived.Test.YtbcjkdekppomgaaWc
namespace Go.Proofs.Ytbcjkdekppomgaa
open Go.RowKit
set_option linter.unusedVariables false
set_option maxRecDepth 100000
set_option linter.unusedSimpArgs false
attribute [local go_sem ↓] Go.wp_at_zero Go.wp_at_succ

theorem hasS_zero {b : Int} {n : Nat} {a k : Int} (h : (hasS b n a k).2 = 0) : chkR b n = 0 ∧ 0 ≤ k ∧ (hasS b n a k).1 = inb b n a k := by
  unfold hasS at *; have := chkR_cases b n; grind
theorem bytesS_eq (b : Int) (xs : List UInt8) (a k : Int) : bytesS b xs a k =
    if (hasS b xs.length a k).2 = 0 then (if (hasS b xs.length a k).1 = true then ((xs.drop (a - b).toNat).take k.toNat, 0) else ([], 16)) else ([], (hasS b xs.length a k).2) := by
  unfold bytesS hasS; have := chkR_cases b xs.length; grind
theorem writeS_eq (b : Int) (xs : List UInt8) (a : Int) (ys : List UInt8) : writeS b xs a ys =
    if (hasS b xs.length a ys.length).2 = 0 then (if (hasS b xs.length a ys.length).1 = true then ((b, put xs (a - b).toNat ys), 0) else ((0, []), 16)) else ((0, []), (hasS b xs.length a ys.length).2) := by
  unfold writeS hasS; have := chkR_cases b xs.length; grind

set_option maxHeartbeats 800000 in
theorem bytes_any (b : Int) (A : Option Addr) (xs : List UInt8) (c : Nat) (a k : Int) (w : World) (h0 : 0 ≤ b) (h1 : b < 18446744073709551616) (hn : xs.length ≤ 9223372036854775807) (hr : Rd w w.heap.size A (bv xs)) (ha0 : 0 ≤ a) (ha1 : a < 18446744073709551616) (hk0 : -9223372036854775808 ≤ k) (hk1 : k ≤ 9223372036854775807) (hcap : xs.length ≤ c) (hc : c ≤ 9223372036854775807) :
    Calls Try.prog 37 #[.agg #[.int .u64 b, .slice A xs.length c], .int .u64 a, .int .i64 k] w fun e w' => ∃ A' c', e = .returned (.tuple #[.slice A' (bytesS b xs a k).1.length c', .int .i64 (bytesS b xs a k).2]) ∧ Ow w' w.heap.size w'.heap.size 5 A' (bytesS b xs a k).1.length c' (bv (bytesS b xs a k).1) ∧ Below w.heap.size w w' := by
  rw [bytesS_eq]
  by_cases h : (hasS b xs.length a k).2 = 0
  · rw [if_pos h]
    obtain ⟨hv, hk, he⟩ := hasS_zero h
    by_cases hin : inb b xs.length a k = true
    · rw [he, if_pos hin]
      have hin' := inb_iff.1 hin
      have HF := Lib.hid (indexS_fst hin hk)
      have HV := Lib.hid hv
      have HE := Lib.hid (he.trans hin)
      have H := Lib.hid h
      have h20 := (chkR_ok hv).2.2.2
      have hb8 := (chkR_ok hv).1
      clear h hv he hin
      obtain ⟨h5, h6⟩ := hin'
      obtain ⟨at_, hat⟩ : ∃ at_ : Nat, a - b = at_ := ⟨(a - b).toNat, by omega⟩
      obtain ⟨kn, rfl⟩ : ∃ kn : Nat, k = kn := ⟨k.toNat, by omega⟩
      have HAT := Lib.hid hat
      have hlen : at_ + kn ≤ xs.length := by omega
      clear hat hk
      have hl : ((xs.drop at_).take kn).length = kn := by simp; omega
      simp only [HAT.out, Int.toNat_natCast, hl]
      have HL := Lib.hid hl; clear hl
      go_enter Try.func37, Try.ntmps37
      go_wp2_with (first | (go_at_call 45; refine (has_any _ _ _ _ _ _ _ h0 h1 hn ha0 ha1 hk0 hk1).mono ?_; rintro e w1 ⟨rfl, hb1⟩; rw [H.out, HE.out]; obtain ⟨hc1, hf1⟩ := bcell hb1; have hs1 := hb1.size; (try simp at hs1); have hz1_0 : w.heap.size < w1.heap.size := (by omega)) | (go_at_call 91; refine (index_any _ _ _ _ _ _ _ HV.out ha0 ha1 hk0 hk1).mono ?_; rintro e w2 ⟨rfl, hb2⟩; rw [HF.out, HAT.out]; obtain ⟨hc2, hf2⟩ := bcell hb2; have hs2 := hb2.size; (try simp at hs2); have hz2_0 : w.heap.size < w2.heap.size := (by omega)))
      all_goals
        refine (clone_any _ _ _ ((xs.drop at_).take kn) _ (by rw [bv_cut]; first | exact Rd.cut (by apply Rd.more; (repeat' (first | (show Rd _ _ _ _; with_reducible assumption) | (with_reducible apply Ow.rd; (show Ow _ _ _ _ _ _ _ _; with_reducible assumption)) | with_reducible exact Rd.nil_ | with_reducible apply Rd.alloc | with_reducible apply Rd.drew | with_reducible apply Rd.drewN | with_reducible apply Rd.setCell | (with_reducible apply Rd.call; (show Below _ _ _; with_reducible assumption)))); all_goals (first | omega | (simp <;> omega))) _ _ | (have h7 : kn = 0 := (by omega); subst h7; simp; exact Rd.nil_)) HL.out (by omega)).mono ?_
        rintro e w3 ⟨A3, c3, rfl, ho3, hb3⟩
        have hs3 := hb3.size
        go_wp2
        go_ret2
        exact ⟨A3, c3, rfl, (by apply Ow.mono; (repeat' (first | (show Ow _ _ _ _ _ _ _ _; with_reducible assumption) | with_reducible exact Ow.nil_ | (with_reducible apply Ow.of_own'; (show World.ownsRow _ _ _ _ _ _ _; with_reducible assumption)) | with_reducible apply Ow.alloc | with_reducible apply Ow.drew | with_reducible apply Ow.drewN | with_reducible apply Ow.set | (with_reducible apply Ow.call; (show Below _ _ _; with_reducible assumption)))); all_goals (first | omega | (simp <;> omega))), (by repeat' (first | exact Below.refl _ _ | assumption | (refine below_call (by assumption) ?_ (by first | omega | (simp <;> omega))) | (refine below_callB (by assumption) ?_ (by omega)) | (refine Below.setCell ?_ (by first | omega | (simp <;> omega)) _) | (refine Below.alloc ?_ (by first | omega | (simp <;> omega)) _) | (refine Below.drew ?_) | (refine below_drewN ?_ _)))⟩
    · have hin' : inb b xs.length a k = false := by simpa using hin
      rw [he, hin']
      have HE := Lib.hid (he.trans hin')
      have H := Lib.hid h
      clear h hv he hin hin' hk
      simp only [Bool.false_eq_true, if_false]
      go_enter Try.func37, Try.ntmps37
      go_wp2_with (go_at_call 45; refine (has_any _ _ _ _ _ _ _ h0 h1 hn ha0 ha1 hk0 hk1).mono ?_; rintro e w1 ⟨rfl, hb1⟩; rw [H.out, HE.out]; obtain ⟨hc1, hf1⟩ := bcell hb1; have hs1 := hb1.size; (try simp at hs1); have hz1_0 : w.heap.size < w1.heap.size := (by omega))
      go_ret2
      exact ⟨none, 0, rfl, Ow.nil_, (by repeat' (first | exact Below.refl _ _ | assumption | (refine below_call (by assumption) ?_ (by first | omega | (simp <;> omega))) | (refine below_callB (by assumption) ?_ (by omega)) | (refine Below.setCell ?_ (by first | omega | (simp <;> omega)) _) | (refine Below.alloc ?_ (by first | omega | (simp <;> omega)) _) | (refine Below.drew ?_) | (refine below_drewN ?_ _)))⟩
  · rw [if_neg h]
    have hq1 : ((hasS b xs.length a k).2 != 0) = true := by simpa using h
    clear h
    go_enter Try.func37, Try.ntmps37
    go_wp2_with (go_at_call 45; refine (has_any _ _ _ _ _ _ _ h0 h1 hn ha0 ha1 hk0 hk1).mono ?_; rintro e w1 ⟨rfl, hb1⟩; obtain ⟨hc1, hf1⟩ := bcell hb1; have hs1 := hb1.size; (try simp at hs1); have hz1_0 : w.heap.size < w1.heap.size := (by omega))
    go_ret2
    exact ⟨none, 0, rfl, Ow.nil_, (by repeat' (first | exact Below.refl _ _ | assumption | (refine below_call (by assumption) ?_ (by first | omega | (simp <;> omega))) | (refine below_callB (by assumption) ?_ (by omega)) | (refine Below.setCell ?_ (by first | omega | (simp <;> omega)) _) | (refine Below.alloc ?_ (by first | omega | (simp <;> omega)) _) | (refine Below.drew ?_) | (refine below_drewN ?_ _)))⟩

theorem Try.u8size : (Try.prog.info? 5).map (·.size) = some 1 := by kernel_rfl


set_option maxHeartbeats 800000 in
theorem write_any (b : Int) (A : Option Addr) (xs : List UInt8) (c : Nat) (a : Int) (A2 : Option Addr) (ys : List UInt8) (c2 : Nat) (w : World) (h0 : 0 ≤ b) (h1 : b < 18446744073709551616) (hn : xs.length ≤ 9223372036854775807) (hr : Rd w w.heap.size A (bv xs)) (ha0 : 0 ≤ a) (ha1 : a < 18446744073709551616) (hcap : xs.length ≤ c) (hc : c ≤ 9223372036854775807) (hr2 : Rd w w.heap.size A2 (bv ys)) (hn2 : ys.length ≤ 9223372036854775807) :
    Calls Try.prog 39 #[.agg #[.int .u64 b, .slice A xs.length c], .int .u64 a, .slice A2 ys.length c2] w fun e w' => ∃ A' c', e = .returned (.tuple #[.agg #[.int .u64 (writeS b xs a ys).1.1, .slice A' (writeS b xs a ys).1.2.length c'], .int .i64 (writeS b xs a ys).2]) ∧ Ow w' w.heap.size w'.heap.size 5 A' (writeS b xs a ys).1.2.length c' (bv (writeS b xs a ys).1.2) ∧ Below w.heap.size w w' := by
  rw [writeS_eq]
  have ha0' : -9223372036854775808 ≤ (ys.length : Int) := by omega
  have ha1' : (ys.length : Int) ≤ 9223372036854775807 := by omega
  by_cases h : (hasS b xs.length a ys.length).2 = 0
  · rw [if_pos h]
    obtain ⟨hv, hk, he⟩ := hasS_zero h
    by_cases hin : inb b xs.length a ys.length = true
    · rw [he, if_pos hin]
      have hin' := inb_iff.1 hin
      have HF := Lib.hid (indexS_fst hin hk)
      have HV := Lib.hid hv
      have HE := Lib.hid (he.trans hin)
      have H := Lib.hid h
      have h20 := (chkR_ok hv).2.2.2
      have hb8 := (chkR_ok hv).1
      clear h hv he hin
      obtain ⟨h5, h6⟩ := hin'
      obtain ⟨at_, hat⟩ : ∃ at_ : Nat, a - b = at_ := ⟨(a - b).toNat, by omega⟩
      have HAT := Lib.hid hat
      have hlen : at_ + ys.length ≤ xs.length := by omega
      clear hat hk
      have HL := Lib.hid (put_length hlen)
      simp only [HAT.out, Int.toNat_natCast, HL.out]
      by_cases hy : ys = []
      · subst hy
        rw [put_nil]
        go_enter Try.func39, Try.ntmps39
        go_upto_region 8 with (first | (go_at_call 45; refine (has_any _ _ _ _ _ _ _ h0 h1 hn ha0 ha1 ha0' ha1').mono ?_; rintro e w1 ⟨rfl, hb1⟩; rw [H.out, HE.out]; obtain ⟨hc1, hf1⟩ := bcell hb1; have hs1 := hb1.size; (try simp at hs1); have hz1_0 : w.heap.size < w1.heap.size := (by omega); have hz1_1 : w.heap.size + 1 < w1.heap.size := (by omega)) | (go_at_call 91; refine (index_any _ _ _ _ _ _ _ HV.out ha0 ha1 ha0' ha1').mono ?_; rintro e w2 ⟨rfl, hb2⟩; rw [HF.out, HAT.out]; obtain ⟨hc2, hf2⟩ := bcell hb2; have hs2 := hb2.size; (try simp at hs2); have hz2_0 : w.heap.size < w2.heap.size := (by omega); have hz2_1 : w.heap.size + 1 < w2.heap.size := (by omega)) | (go_at_call 94; refine (clone_any _ _ _ _ _ (by apply Rd.more; (repeat' (first | (show Rd _ _ _ _; with_reducible assumption) | (with_reducible apply Ow.rd; (show Ow _ _ _ _ _ _ _ _; with_reducible assumption)) | with_reducible exact Rd.nil_ | with_reducible apply Rd.alloc | with_reducible apply Rd.drew | with_reducible apply Rd.drewN | with_reducible apply Rd.setCell | (with_reducible apply Rd.call; (show Below _ _ _; with_reducible assumption)))); all_goals (first | omega | (simp <;> omega))) rfl (by omega)).mono ?_; rintro e w3 ⟨A3, c3, rfl, ho3, hb3⟩; obtain ⟨hcp1, hcp2, hcp3⟩ := ho3.cap; clear hcp1; obtain ⟨hc3, hf3⟩ := bcell hb3; have hs3 := hb3.size; (try simp at hs3); have hz3_0 : w.heap.size < w3.heap.size := (by omega); have hz3_1 : w.heap.size + 1 < w3.heap.size := (by omega); have hx3 := World.cell?_setCell_same w3 ⟨w.heap.size, 1, none⟩ (.slice A3 xs.length c3) (u := .slice A xs.length c) (by go_simp)))
        have hle : at_ ≤ xs.length := hlen
        by_cases hcat : c3 = at_
        · subst hcat
          go_wp2_with (refine wpList_copy_nothing rfl (.tmp 42) (.tmp 43) 23 23 rfl 5 Try.underlying23 Try.u8size _ _ _ _ _ _ (by rfl) (by rfl) (by simp) ?_)
          exact bodyPost_ret (v := .tuple #[.agg #[.int .u64 b, .slice A3 xs.length c3], .int .i64 0]) (by simp [results, Try.results39, go_sem, *]) rfl ⟨_, _, rfl, (by apply Ow.mono; (repeat' (first | (show Ow _ _ _ _ _ _ _ _; with_reducible assumption) | with_reducible exact Ow.nil_ | (with_reducible apply Ow.of_own'; (show World.ownsRow _ _ _ _ _ _ _; with_reducible assumption)) | with_reducible apply Ow.alloc | with_reducible apply Ow.drew | with_reducible apply Ow.drewN | with_reducible apply Ow.set | (with_reducible apply Ow.call; (show Below _ _ _; with_reducible assumption)))); all_goals (first | omega | (simp <;> omega))), (by repeat' (first | exact Below.refl _ _ | assumption | (refine below_call (by assumption) ?_ (by first | omega | (simp <;> omega))) | (refine below_callB (by assumption) ?_ (by omega)) | (refine Below.setCell ?_ (by first | omega | (simp <;> omega)) _) | (refine Below.alloc ?_ (by first | omega | (simp <;> omega)) _) | (refine Below.drew ?_) | (refine below_drewN ?_ _)))⟩
        · go_wp2_with (refine wpList_copy_nothing rfl (.tmp 42) (.tmp 43) 23 23 rfl 5 Try.underlying23 Try.u8size _ _ _ _ _ _ (by rfl) (by rfl) (by simp) ?_)
          exact bodyPost_ret (v := .tuple #[.agg #[.int .u64 b, .slice A3 xs.length c3], .int .i64 0]) (by simp [results, Try.results39, go_sem, *]) rfl ⟨_, _, rfl, (by apply Ow.mono; (repeat' (first | (show Ow _ _ _ _ _ _ _ _; with_reducible assumption) | with_reducible exact Ow.nil_ | (with_reducible apply Ow.of_own'; (show World.ownsRow _ _ _ _ _ _ _; with_reducible assumption)) | with_reducible apply Ow.alloc | with_reducible apply Ow.drew | with_reducible apply Ow.drewN | with_reducible apply Ow.set | (with_reducible apply Ow.call; (show Below _ _ _; with_reducible assumption)))); all_goals (first | omega | (simp <;> omega))), (by repeat' (first | exact Below.refl _ _ | assumption | (refine below_call (by assumption) ?_ (by first | omega | (simp <;> omega))) | (refine below_callB (by assumption) ?_ (by omega)) | (refine Below.setCell ?_ (by first | omega | (simp <;> omega)) _) | (refine Below.alloc ?_ (by first | omega | (simp <;> omega)) _) | (refine Below.drew ?_) | (refine below_drewN ?_ _)))⟩
      · have hy0 : 0 < ys.length := by
          rcases ys with _ | ⟨y, ys⟩
          · exact absurd rfl hy
          · simp
        have HP := Lib.hid (show bv (put xs at_ ys) = (bv xs).take at_ ++ (bv ys ++ (bv xs).drop (at_ + ys.length)) by simp [bv, put, List.map_take, List.map_drop])
        rw [HP.out]
        go_enter Try.func39, Try.ntmps39
        go_wp2_with (first | (go_at_call 45; refine (has_any _ _ _ _ _ _ _ h0 h1 hn ha0 ha1 ha0' ha1').mono ?_; rintro e w1 ⟨rfl, hb1⟩; rw [H.out, HE.out]; obtain ⟨hc1, hf1⟩ := bcell hb1; have hs1 := hb1.size; (try simp at hs1); have hz1_0 : w.heap.size < w1.heap.size := (by omega); have hz1_1 : w.heap.size + 1 < w1.heap.size := (by omega)) | (go_at_call 91; refine (index_any _ _ _ _ _ _ _ HV.out ha0 ha1 ha0' ha1').mono ?_; rintro e w2 ⟨rfl, hb2⟩; rw [HF.out, HAT.out]; obtain ⟨hc2, hf2⟩ := bcell hb2; have hs2 := hb2.size; (try simp at hs2); have hz2_0 : w.heap.size < w2.heap.size := (by omega); have hz2_1 : w.heap.size + 1 < w2.heap.size := (by omega)) | (go_at_call 94; refine (clone_any _ _ _ _ _ (by apply Rd.more; (repeat' (first | (show Rd _ _ _ _; with_reducible assumption) | (with_reducible apply Ow.rd; (show Ow _ _ _ _ _ _ _ _; with_reducible assumption)) | with_reducible exact Rd.nil_ | with_reducible apply Rd.alloc | with_reducible apply Rd.drew | with_reducible apply Rd.drewN | with_reducible apply Rd.setCell | (with_reducible apply Rd.call; (show Below _ _ _; with_reducible assumption)))); all_goals (first | omega | (simp <;> omega))) rfl (by omega)).mono ?_; rintro e w3 ⟨A3, c3, rfl, ho3, hb3⟩; obtain ⟨g, rfl, hg1, hg2, hg3, hown⟩ := ho3.pos (by omega); obtain ⟨hcp1, hcp2, hcp3⟩ := ho3.cap; clear hcp1; have hcat : ¬ c3 = at_ := (by omega); have hle : at_ ≤ xs.length := (by omega); obtain ⟨hc3, hf3⟩ := bcell hb3; have hs3 := hb3.size; (try simp at hs3); have hz3_0 : w.heap.size < w3.heap.size := (by omega); have hz3_1 : w.heap.size + 1 < w3.heap.size := (by omega); have hx3 := World.cell?_setCell_same w3 ⟨w.heap.size, 1, none⟩ (.slice (some ⟨g, 0, none⟩) xs.length c3) (u := .slice A xs.length c) (by go_simp)) | (refine wpList_copy_rd rfl (.tmp 42) (.tmp 43) 23 rfl 5 Try.underlying23 Try.u8size g at_ xs.length c3 _ _ ys.length ys.length c2 (bv xs) (ownsRow_setCell_below hown (by first | omega | (simp <;> omega)) _) w.heap.size A2 (bv ys) (by rfl) (by rfl) (bv_length _) (by omega) (Nat.min_eq_left (by omega)) (by apply Rd.more; (repeat' (first | (show Rd _ _ _ _; with_reducible assumption) | (with_reducible apply Ow.rd; (show Ow _ _ _ _ _ _ _ _; with_reducible assumption)) | with_reducible exact Rd.nil_ | with_reducible apply Rd.alloc | with_reducible apply Rd.drew | with_reducible apply Rd.drewN | with_reducible apply Rd.setCell | (with_reducible apply Rd.call; (show Below _ _ _; with_reducible assumption)))); all_goals (first | omega | (simp <;> omega))) (bv_one _) ?_; intro w4 hown4 hb4; obtain ⟨hc4, hf4⟩ := bcellB hb4; have hs4 := hb4.size; have hz4_0 : w.heap.size < g := (by omega); have hz4_1 : w.heap.size + 1 < g := (by omega)))
        exact bodyPost_ret (v := .tuple #[.agg #[.int .u64 b, .slice (some ⟨g, 0, none⟩) xs.length c3], .int .i64 0]) (by simp [results, Try.results39, go_sem, *]) rfl ⟨_, _, rfl, (by apply Ow.mono; (repeat' (first | (show Ow _ _ _ _ _ _ _ _; with_reducible assumption) | with_reducible exact Ow.nil_ | (with_reducible apply Ow.of_own'; (show World.ownsRow _ _ _ _ _ _ _; with_reducible assumption)) | with_reducible apply Ow.alloc | with_reducible apply Ow.drew | with_reducible apply Ow.drewN | with_reducible apply Ow.set | (with_reducible apply Ow.call; (show Below _ _ _; with_reducible assumption)))); all_goals (first | omega | (simp <;> omega))), (by repeat' (first | exact Below.refl _ _ | assumption | (refine below_call (by assumption) ?_ (by first | omega | (simp <;> omega))) | (refine below_callB (by assumption) ?_ (by omega)) | (refine Below.setCell ?_ (by first | omega | (simp <;> omega)) _) | (refine Below.alloc ?_ (by first | omega | (simp <;> omega)) _) | (refine Below.drew ?_) | (refine below_drewN ?_ _)))⟩
    · have hin' : inb b xs.length a ys.length = false := by simpa using hin
      rw [he, hin']
      have HE := Lib.hid (he.trans hin')
      have H := Lib.hid h
      clear h hv he hin hin' hk
      simp only [Bool.false_eq_true, if_false]
      go_enter Try.func39, Try.ntmps39
      go_wp2_with (go_at_call 45; refine (has_any _ _ _ _ _ _ _ h0 h1 hn ha0 ha1 ha0' ha1').mono ?_; rintro e w1 ⟨rfl, hb1⟩; rw [H.out, HE.out]; obtain ⟨hc1, hf1⟩ := bcell hb1; have hs1 := hb1.size; (try simp at hs1); have hz1_0 : w.heap.size < w1.heap.size := (by omega); have hz1_1 : w.heap.size + 1 < w1.heap.size := (by omega))
      exact bodyPost_ret (v := .tuple #[.agg #[.int .u64 0, .slice none 0 0], .int .i64 16]) (by simp [results, Try.results39, go_sem, *]) rfl ⟨none, 0, rfl, Ow.nil_, (by repeat' (first | exact Below.refl _ _ | assumption | (refine below_call (by assumption) ?_ (by first | omega | (simp <;> omega))) | (refine below_callB (by assumption) ?_ (by omega)) | (refine Below.setCell ?_ (by first | omega | (simp <;> omega)) _) | (refine Below.alloc ?_ (by first | omega | (simp <;> omega)) _) | (refine Below.drew ?_) | (refine below_drewN ?_ _)))⟩
  · rw [if_neg h]
    have hq1 : ((hasS b xs.length a ys.length).2 != 0) = true := by simpa using h
    clear h
    go_enter Try.func39, Try.ntmps39
    go_wp2_with (go_at_call 45; refine (has_any _ _ _ _ _ _ _ h0 h1 hn ha0 ha1 ha0' ha1').mono ?_; rintro e w1 ⟨rfl, hb1⟩; obtain ⟨hc1, hf1⟩ := bcell hb1; have hs1 := hb1.size; (try simp at hs1); have hz1_0 : w.heap.size < w1.heap.size := (by omega); have hz1_1 : w.heap.size + 1 < w1.heap.size := (by omega))
    exact bodyPost_ret (v := .tuple #[.agg #[.int .u64 0, .slice none 0 0], .int .i64 (hasS b xs.length a ys.length).2]) (by simp [results, Try.results39, go_sem, *]) rfl ⟨none, 0, rfl, Ow.nil_, (by repeat' (first | exact Below.refl _ _ | assumption | (refine below_call (by assumption) ?_ (by first | omega | (simp <;> omega))) | (refine below_callB (by assumption) ?_ (by omega)) | (refine Below.setCell ?_ (by first | omega | (simp <;> omega)) _) | (refine Below.alloc ?_ (by first | omega | (simp <;> omega)) _) | (refine Below.drew ?_) | (refine below_drewN ?_ _)))⟩

/-- make([]byte, n), and copy into it -/
theorem made_zero (n : Nat) : (madeCells #[Value.int .u8 0] n).toList = bv (List.replicate n 0) := by
  rw [toList_madeCells_one]; simp [bv]
theorem resized_eq (xs : List UInt8) (k : Nat) : bv (resized xs k) = (bv (List.replicate k 0)).take 0 ++ (bv (xs.take k) ++ (bv (List.replicate k 0)).drop (0 + min xs.length k)) := by
  unfold resized bv
  simp
  omega


set_option maxHeartbeats 800000 in
theorem resize_any (b : Int) (A : Option Addr) (xs : List UInt8) (c : Nat) (k : Int) (w : World) (h0 : 0 ≤ b) (h1 : b < 18446744073709551616) (hn : xs.length ≤ 9223372036854775807) (hr : Rd w w.heap.size A (bv xs)) (hk0 : -9223372036854775808 ≤ k) (hk1 : k ≤ 9223372036854775807) :
    Calls Try.prog 41 #[.agg #[.int .u64 b, .slice A xs.length c], .int .i64 k] w fun e w' => ∃ A' c', e = .returned (.tuple #[.agg #[.int .u64 (resizeS b xs k).1.1, .slice A' (resizeS b xs k).1.2.length c'], .int .i64 (resizeS b xs k).2]) ∧ Ow w' w.heap.size w'.heap.size 5 A' (resizeS b xs k).1.2.length c' (bv (resizeS b xs k).1.2) ∧ Below w.heap.size w w' := by
  unfold resizeS
  rcases chkR_cases b xs.length with h | h
  · rw [if_pos h]
    have h20 := (chkR_ok h).2.2.2
    have H := Lib.hid h; clear h
    by_cases hk : 0 ≤ k ∧ k ≤ 20000
    · rw [if_pos hk]
      obtain ⟨hk2, hk3⟩ := hk
      obtain ⟨kn, rfl⟩ : ∃ kn : Nat, k = kn := ⟨k.toNat, by omega⟩
      have hl : (resized xs kn).length = kn := by unfold resized; simp; omega
      have HL := Lib.hid hl; clear hl
      simp only [Int.toNat_natCast, HL.out]
      rw [resized_eq]
      obtain ⟨i0, hi0, hz0, hz1, hz2⟩ := info_parts Try.u8info
      have hmk := fun wx => run_make_full (P := Try.prog) wx wx.heap.size 23 5 i0 _ 1 Try.underlying23 hi0 hz0 hz1 .i64 .i64 kn (by rw [hz2]; omega) (by unfold maxLen; omega) (Nat.le_refl _)
      have HM := Lib.hid hmk; clear hmk
      go_enter Try.func41, Try.ntmps41
      go_upto_region 6 with (go_at_call 51; refine (check_any _ _ _ _ _ h0 h1 hn).mono ?_; rintro e w1 ⟨rfl, hb1⟩; rw [H.out]; obtain ⟨hc1, hf1⟩ := bcell hb1; have hs1 := hb1.size; (try simp at hs1); have hz1_0 : w.heap.size < w1.heap.size := (by omega); have hz1_1 : w.heap.size + 1 < w1.heap.size := (by omega))
      obtain ⟨w2, hrun2, hown2, hg2⟩ := HM.out w1
      have hb2 := below_grown_none hg2
      obtain ⟨hc2, hf2⟩ := bcell hb2
      have hs2 := hb2.size
      have hz2_0 : w.heap.size < w2.heap.size := by omega
      have hz2_1 : w.heap.size + 1 < w2.heap.size := by omega
      have hcells : (madeCells (Value.int .u8 0).cells (kn * 1)).toList = bv (List.replicate kn 0) := by rw [Nat.mul_one]; exact made_zero kn
      rw [hcells] at hown2
      have hlm : (bv (xs.take kn)).length = min xs.length kn := by simp [bv, Nat.min_comm]
      have HLM := Lib.hid hlm; clear hlm hcells
      have hrt : Rd w w.heap.size A (bv (xs.take kn)) := by rw [bv, List.map_take]; exact hr.take kn
      go_wp2_with (refine wpList_copy_rd rfl (.tmp 23) (.tmp 25) 23 rfl 5 Try.underlying23 Try.u8size w1.heap.size 0 kn kn _ _ xs.length (min xs.length kn) c (bv (List.replicate kn 0)) (own_self hown2) w.heap.size A (bv (xs.take kn)) (by rfl) (by rfl) HLM.out (by omega) rfl (by apply Rd.more; (repeat' (first | (show Rd _ _ _ _; with_reducible assumption) | (with_reducible apply Ow.rd; (show Ow _ _ _ _ _ _ _ _; with_reducible assumption)) | with_reducible exact Rd.nil_ | with_reducible apply Rd.alloc | with_reducible apply Rd.drew | with_reducible apply Rd.drewN | with_reducible apply Rd.setCell | (with_reducible apply Rd.call; (show Below _ _ _; with_reducible assumption)))); all_goals (first | omega | (simp <;> omega))) (bv_one _) ?_; intro w3 hown3 hb3; obtain ⟨hc3, hf3⟩ := bcellB hb3; have hs3 := hb3.size)
      exact bodyPost_ret (v := .tuple #[.agg #[.int .u64 b, .slice (some ⟨w1.heap.size, 0, none⟩) kn kn], .int .i64 0]) (by simp [results, Try.results41, go_sem, *]) rfl ⟨_, _, rfl, (by apply Ow.mono; (repeat' (first | (show Ow _ _ _ _ _ _ _ _; with_reducible assumption) | with_reducible exact Ow.nil_ | (with_reducible apply Ow.of_own'; (show World.ownsRow _ _ _ _ _ _ _; with_reducible assumption)) | with_reducible apply Ow.alloc | with_reducible apply Ow.drew | with_reducible apply Ow.drewN | with_reducible apply Ow.set | (with_reducible apply Ow.call; (show Below _ _ _; with_reducible assumption)))); all_goals (first | omega | (simp <;> omega))), (by repeat' (first | exact Below.refl _ _ | assumption | (refine below_call (by assumption) ?_ (by first | omega | (simp <;> omega))) | (refine below_callB (by assumption) ?_ (by omega)) | (refine Below.setCell ?_ (by first | omega | (simp <;> omega)) _) | (refine Below.alloc ?_ (by first | omega | (simp <;> omega)) _) | (refine Below.drew ?_) | (refine below_drewN ?_ _)))⟩
    · rw [if_neg hk]
      have hk' : k < 0 ∨ 20000 < k := by omega
      clear hk
      go_enter Try.func41, Try.ntmps41
      rcases hk' with hk' | hk'
      all_goals
        go_wp2_with (go_at_call 51; refine (check_any _ _ _ _ _ h0 h1 hn).mono ?_; rintro e w1 ⟨rfl, hb1⟩; rw [H.out]; obtain ⟨hc1, hf1⟩ := bcell hb1; have hs1 := hb1.size; (try simp at hs1); have hz1_0 : w.heap.size < w1.heap.size := (by omega); have hz1_1 : w.heap.size + 1 < w1.heap.size := (by omega))
        exact bodyPost_ret (v := .tuple #[.agg #[.int .u64 0, .slice none 0 0], .int .i64 2]) (by simp [results, Try.results41, go_sem, *]) rfl ⟨none, 0, rfl, Ow.nil_, (by repeat' (first | exact Below.refl _ _ | assumption | (refine below_call (by assumption) ?_ (by first | omega | (simp <;> omega))) | (refine below_callB (by assumption) ?_ (by omega)) | (refine Below.setCell ?_ (by first | omega | (simp <;> omega)) _) | (refine Below.alloc ?_ (by first | omega | (simp <;> omega)) _) | (refine Below.drew ?_) | (refine below_drewN ?_ _)))⟩
  · rw [if_neg (by omega)]
    have H := Lib.hid h; clear h
    go_enter Try.func41, Try.ntmps41
    go_wp2_with (go_at_call 51; refine (check_any _ _ _ _ _ h0 h1 hn).mono ?_; rintro e w1 ⟨rfl, hb1⟩; rw [H.out]; obtain ⟨hc1, hf1⟩ := bcell hb1; have hs1 := hb1.size; (try simp at hs1); have hz1_0 : w.heap.size < w1.heap.size := (by omega); have hz1_1 : w.heap.size + 1 < w1.heap.size := (by omega))
    exact bodyPost_ret (v := .tuple #[.agg #[.int .u64 0, .slice none 0 0], .int .i64 8]) (by simp [results, Try.results41, go_sem, *]) rfl ⟨none, 0, rfl, Ow.nil_, (by repeat' (first | exact Below.refl _ _ | assumption | (refine below_call (by assumption) ?_ (by first | omega | (simp <;> omega))) | (refine below_callB (by assumption) ?_ (by omega)) | (refine Below.setCell ?_ (by first | omega | (simp <;> omega)) _) | (refine Below.alloc ?_ (by first | omega | (simp <;> omega)) _) | (refine Below.drew ?_) | (refine below_drewN ?_ _)))⟩

set_option maxHeartbeats 800000 in
theorem new_any (b k : Int) (w : World) (h0 : 0 ≤ b) (h1 : b < 18446744073709551616) (hk0 : -9223372036854775808 ≤ k) (hk1 : k ≤ 9223372036854775807) :
    Calls Try.prog 43 #[.int .u64 b, .int .i64 k] w fun e w' => ∃ A' c', e = .returned (.tuple #[.agg #[.int .u64 (newS b k).1.1, .slice A' (newS b k).1.2.length c'], .int .i64 (newS b k).2]) ∧ Ow w' w.heap.size w'.heap.size 5 A' (newS b k).1.2.length c' (bv (newS b k).1.2) ∧ Below w.heap.size w w' := by
  unfold newS
  by_cases hb : basedB b = true
  · by_cases hk : 0 ≤ k ∧ k ≤ 20000
    · rw [if_pos ⟨hb, hk⟩]
      obtain ⟨hk2, hk3⟩ := hk
      have H := Lib.hid hb; clear hb
      obtain ⟨kn, rfl⟩ : ∃ kn : Nat, k = kn := ⟨k.toNat, by omega⟩
      simp only [Int.toNat_natCast, List.length_replicate]
      obtain ⟨i0, hi0, hz0, hz1, hz2⟩ := info_parts Try.u8info
      have hmk := fun wx => run_make_full (P := Try.prog) wx wx.heap.size 23 5 i0 _ 1 Try.underlying23 hi0 hz0 hz1 .i64 .i64 kn (by rw [hz2]; omega) (by unfold maxLen; omega) (Nat.le_refl _)
      obtain ⟨w2, hrun2, hown2, hg2⟩ := hmk (w.alloc (.cells #[.int .u64 0, .slice none 0 0] 25))
      clear hmk
      have hb2 := below_grown_none hg2
      obtain ⟨hc2, hf2⟩ := bcell hb2
      have hs2 := hb2.size
      simp at hs2
      have hz2_0 : w.heap.size < w2.heap.size := by omega
      have hcells : (madeCells (Value.int .u8 0).cells (kn * 1)).toList = bv (List.replicate kn 0) := by rw [Nat.mul_one]; exact made_zero kn
      rw [hcells] at hown2
      clear hcells
      simp at hrun2
      simp only [World.size_alloc] at hown2
      go_enter Try.func43, Try.ntmps43
      go_wp2_with (go_at_call 96; refine (based_any _ _ h0 h1).mono ?_; rw [H.out]; rintro e w' ⟨rfl, rfl⟩)
      exact bodyPost_ret (v := .tuple #[.agg #[.int .u64 b, .slice (some ⟨w.heap.size + 1, 0, none⟩) kn kn], .int .i64 0]) (by simp [results, Try.results43, go_sem, *]) rfl ⟨_, _, rfl, (by apply Ow.mono; (repeat' (first | (show Ow _ _ _ _ _ _ _ _; with_reducible assumption) | with_reducible exact Ow.nil_ | (with_reducible apply Ow.of_own'; (show World.ownsRow _ _ _ _ _ _ _; with_reducible assumption)) | with_reducible apply Ow.alloc | with_reducible apply Ow.drew | with_reducible apply Ow.drewN | with_reducible apply Ow.set | (with_reducible apply Ow.call; (show Below _ _ _; with_reducible assumption)))); all_goals (first | omega | (simp <;> omega))), (by repeat' (first | exact Below.refl _ _ | assumption | (refine below_call (by assumption) ?_ (by first | omega | (simp <;> omega))) | (refine below_callB (by assumption) ?_ (by omega)) | (refine Below.setCell ?_ (by first | omega | (simp <;> omega)) _) | (refine Below.alloc ?_ (by first | omega | (simp <;> omega)) _) | (refine Below.drew ?_) | (refine below_drewN ?_ _)))⟩
    · rw [if_neg (fun h => hk h.2)]
      have H := Lib.hid hb; clear hb
      have hk' : k < 0 ∨ 20000 < k := by omega
      clear hk
      go_enter Try.func43, Try.ntmps43
      rcases hk' with hk' | hk'
      all_goals
        go_wp2_with (go_at_call 96; refine (based_any _ _ h0 h1).mono ?_; rw [H.out]; rintro e w' ⟨rfl, rfl⟩)
        exact bodyPost_ret (v := .tuple #[.agg #[.int .u64 0, .slice none 0 0], .int .i64 2]) (by simp [results, Try.results43, go_sem, *]) rfl ⟨none, 0, rfl, Ow.nil_, (by repeat' (first | exact Below.refl _ _ | assumption | (refine below_call (by assumption) ?_ (by first | omega | (simp <;> omega))) | (refine below_callB (by assumption) ?_ (by omega)) | (refine Below.setCell ?_ (by first | omega | (simp <;> omega)) _) | (refine Below.alloc ?_ (by first | omega | (simp <;> omega)) _) | (refine Below.drew ?_) | (refine below_drewN ?_ _)))⟩
  · rw [if_neg (fun h => hb h.1)]
    have hb' : basedB b = false := by simpa using hb
    have H := Lib.hid hb'; clear hb hb'
    go_enter Try.func43, Try.ntmps43
    go_wp2_with (go_at_call 96; refine (based_any _ _ h0 h1).mono ?_; rw [H.out]; rintro e w' ⟨rfl, rfl⟩)
    exact bodyPost_ret (v := .tuple #[.agg #[.int .u64 0, .slice none 0 0], .int .i64 2]) (by simp [results, Try.results43, go_sem, *]) rfl ⟨none, 0, rfl, Ow.nil_, (by repeat' (first | exact Below.refl _ _ | assumption | (refine below_call (by assumption) ?_ (by first | omega | (simp <;> omega))) | (refine below_callB (by assumption) ?_ (by omega)) | (refine Below.setCell ?_ (by first | omega | (simp <;> omega)) _) | (refine Below.alloc ?_ (by first | omega | (simp <;> omega)) _) | (refine Below.drew ?_) | (refine below_drewN ?_ _)))⟩
end Go.Proofs.Ytbcjkdekppomgaa
