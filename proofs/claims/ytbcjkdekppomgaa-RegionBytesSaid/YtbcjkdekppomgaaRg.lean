/- Contracts of the reference 13: Cut, Bytes, Write. -/
import Derived.Test.YtbcjkdekppomgaaRf
namespace Go.Proofs.Ytbcjkdekppomgaa
open Go.RowKit
set_option linter.unusedVariables false
set_option maxRecDepth 100000
set_option linter.unusedSimpArgs false
attribute [local go_sem ↓] Go.wp_at_zero Go.wp_at_succ

set_option maxHeartbeats 800000 in
theorem rcut_any (b : Int) (A : Option Addr) (xs : List UInt8) (c : Nat) (a k : Int) (w : World) (hr : Rd w w.heap.size A (bv xs)) (hcap : xs.length ≤ c) (hc : c ≤ 9223372036854775807) (hv : chkR b xs.length = 0) (hin : inb b xs.length a k = true) (hk : 0 ≤ k) :
    Calls Try.prog 95 #[.agg #[.int .u64 b, .slice A xs.length c], .int .u64 a, .int .i64 k] w fun e w' => ∃ A' c', e = .returned (.slice A' k.toNat c') ∧ Ow w' w.heap.size w'.heap.size 5 A' k.toNat c' (bv ((xs.drop (a - b).toNat).take k.toNat)) ∧ Below w.heap.size w w' := by
  obtain ⟨i0, hi0, hz0, hz1, hz2⟩ := info_parts Try.u8info
  obtain ⟨h5, h6⟩ := inb_iff.1 hin
  have hok := chkR_ok hv
  obtain ⟨h2, h3, _, h4⟩ := hok
  clear hv hin
  obtain ⟨at_, hat⟩ : ∃ at_ : Nat, a - b = at_ := ⟨(a - b).toNat, by omega⟩
  obtain ⟨kn, rfl⟩ : ∃ kn : Nat, k = kn := ⟨k.toNat, by omega⟩
  have hlen : at_ + kn ≤ xs.length := by omega
  have e1 : IntKind.u64.wrap (a - b) = at_ := by rw [hat]; exact IntWalk.u64_in _ (by omega)
  rw [hat]
  clear hat hk
  simp only [Int.toNat_natCast]
  have hl : ((xs.drop at_).take kn).length = kn := by simp; omega
  have HL := Lib.hid hl; clear hl
  have e2 : IntKind.i64.wrap ((at_ : Int) + (kn : Int)) = (at_ : Int) + (kn : Int) := IntWalk.i64_in _ (by omega)
  by_cases hca : c = at_
  · obtain rfl : kn = 0 := by omega
    subst hca
    simp only [List.take_zero]
    go_enter Try.func95, Try.ntmps95
    go_wp2_with (at_builtin; refine wpList_append_rd _ rfl (.tmp 13) (.tmp 20) 23 rfl (w.heap.size + 1) 5 i0 _ 1 Try.underlying23 hi0 hz0 hz1 hz2 rfl _ 0 [] (by rfl) (own_made (g := w.heap.size + 1) 0 (heap_new (by simp)) (Nat.le_refl _) rfl (by simp [maxLen])) w.heap.size _ 0 _ (bv []) (by rfl) rfl Rd.nil_ (bv_one _) (by unfold maxLen; omega) (by omega) (by simp) ?_; intro A' c' w1 hown hg hbl hat; simp only [Nat.zero_add, List.nil_append] at hown)
    all_goals
      go_ret
      exact ⟨A', c', rfl, (by apply Ow.mono; (repeat' (first | (show Ow _ _ _ _ _ _ _ _; with_reducible assumption) | with_reducible exact Ow.nil_ | (with_reducible apply Ow.of_own'; (show World.ownsRow _ _ _ _ _ _ _; with_reducible assumption)) | with_reducible apply Ow.alloc | with_reducible apply Ow.drew | with_reducible apply Ow.drewN | with_reducible apply Ow.set | (with_reducible apply Ow.call; (show Below _ _ _; with_reducible assumption)))); all_goals (first | omega | (simp <;> omega))), (by repeat' (first | exact Below.refl _ _ | assumption | (refine below_call (by assumption) ?_ (by first | omega | (simp <;> omega))) | (refine below_callB (by assumption) ?_ (by omega)) | (refine Below.setCell ?_ (by first | omega | (simp <;> omega)) _) | (refine Below.alloc ?_ (by first | omega | (simp <;> omega)) _) | (refine Below.drew ?_) | (refine below_drewN ?_ _)))⟩
  · rcases Nat.eq_zero_or_pos kn with rfl | hpos
    · simp only [List.take_zero]
      go_enter Try.func95, Try.ntmps95
      go_wp2_with (at_builtin; refine wpList_append_rd _ rfl (.tmp 13) (.tmp 20) 23 rfl (w.heap.size + 1) 5 i0 _ 1 Try.underlying23 hi0 hz0 hz1 hz2 rfl _ 0 [] (by rfl) (own_made (g := w.heap.size + 1) 0 (heap_new (by simp)) (Nat.le_refl _) rfl (by simp [maxLen])) w.heap.size _ 0 _ (bv []) (by rfl) rfl Rd.nil_ (bv_one _) (by unfold maxLen; omega) (by omega) (by simp) ?_; intro A' c' w1 hown hg hbl hat; simp only [Nat.zero_add, List.nil_append] at hown)
      all_goals
        go_ret
        exact ⟨A', c', rfl, (by apply Ow.mono; (repeat' (first | (show Ow _ _ _ _ _ _ _ _; with_reducible assumption) | with_reducible exact Ow.nil_ | (with_reducible apply Ow.of_own'; (show World.ownsRow _ _ _ _ _ _ _; with_reducible assumption)) | with_reducible apply Ow.alloc | with_reducible apply Ow.drew | with_reducible apply Ow.drewN | with_reducible apply Ow.set | (with_reducible apply Ow.call; (show Below _ _ _; with_reducible assumption)))); all_goals (first | omega | (simp <;> omega))), (by repeat' (first | exact Below.refl _ _ | assumption | (refine below_call (by assumption) ?_ (by first | omega | (simp <;> omega))) | (refine below_callB (by assumption) ?_ (by omega)) | (refine Below.setCell ?_ (by first | omega | (simp <;> omega)) _) | (refine Below.alloc ?_ (by first | omega | (simp <;> omega)) _) | (refine Below.drew ?_) | (refine below_drewN ?_ _)))⟩
    · go_enter Try.func95, Try.ntmps95
      go_wp2_with (at_builtin; refine wpList_append_rd _ rfl (.tmp 13) (.tmp 20) 23 rfl (w.heap.size + 1) 5 i0 _ 1 Try.underlying23 hi0 hz0 hz1 hz2 rfl _ 0 [] (by rfl) (own_made (g := w.heap.size + 1) 0 (heap_new (by simp)) (Nat.le_refl _) rfl (by simp [maxLen])) w.heap.size _ _ _ (bv ((xs.drop at_).take kn)) (by rfl) ((bv_length _).trans (HL.out.trans (by omega))) (by rw [bv_cut]; exact Rd.cut (by apply Rd.more; (repeat' (first | (show Rd _ _ _ _; with_reducible assumption) | (with_reducible apply Ow.rd; (show Ow _ _ _ _ _ _ _ _; with_reducible assumption)) | with_reducible exact Rd.nil_ | with_reducible apply Rd.alloc | with_reducible apply Rd.drew | with_reducible apply Rd.drewN | with_reducible apply Rd.setCell | (with_reducible apply Rd.call; (show Below _ _ _; with_reducible assumption)))); all_goals (first | omega | (simp <;> omega))) _ _) (bv_one _) (by unfold maxLen; omega) (by omega) (by simp) ?_; intro A' c' w1 hown hg hbl hat; simp only [Nat.zero_add, List.nil_append, Nat.add_sub_cancel_left] at hown)
      all_goals
        go_ret
        exact ⟨A', c', by simp, (by apply Ow.mono; (repeat' (first | (show Ow _ _ _ _ _ _ _ _; with_reducible assumption) | with_reducible exact Ow.nil_ | (with_reducible apply Ow.of_own'; (show World.ownsRow _ _ _ _ _ _ _; with_reducible assumption)) | with_reducible apply Ow.alloc | with_reducible apply Ow.drew | with_reducible apply Ow.drewN | with_reducible apply Ow.set | (with_reducible apply Ow.call; (show Below _ _ _; with_reducible assumption)))); all_goals (first | omega | (simp <;> omega))), (by repeat' (first | exact Below.refl _ _ | assumption | (refine below_call (by assumption) ?_ (by first | omega | (simp <;> omega))) | (refine below_callB (by assumption) ?_ (by omega)) | (refine Below.setCell ?_ (by first | omega | (simp <;> omega)) _) | (refine Below.alloc ?_ (by first | omega | (simp <;> omega)) _) | (refine Below.drew ?_) | (refine below_drewN ?_ _)))⟩

set_option maxHeartbeats 800000 in
theorem rbytes_any (b : Int) (A : Option Addr) (xs : List UInt8) (c : Nat) (a k : Int) (w : World) (h0 : 0 ≤ b) (h1 : b < 18446744073709551616) (hn : xs.length ≤ 9223372036854775807) (hr : Rd w w.heap.size A (bv xs)) (ha0 : 0 ≤ a) (ha1 : a < 18446744073709551616) (hk0 : -9223372036854775808 ≤ k) (hk1 : k ≤ 9223372036854775807) (hcap : xs.length ≤ c) (hc : c ≤ 9223372036854775807) :
    Calls Try.prog 38 #[.agg #[.int .u64 b, .slice A xs.length c], .int .u64 a, .int .i64 k] w fun e w' => ∃ A' c', e = .returned (.tuple #[.slice A' (bytesS b xs a k).1.length c', .int .i64 (bytesS b xs a k).2]) ∧ Ow w' w.heap.size w'.heap.size 5 A' (bytesS b xs a k).1.length c' (bv (bytesS b xs a k).1) ∧ Below w.heap.size w w' := by
  rw [bytesS_eq]
  by_cases h : (hasS b xs.length a k).2 = 0
  · rw [if_pos h]
    obtain ⟨hv, hk, he⟩ := hasS_zero h
    by_cases hin : inb b xs.length a k = true
    · rw [he, if_pos hin]
      have hin' := inb_iff.1 hin
      have hok := chkR_ok hv
      have HIN := Lib.hid hin
      have HV := Lib.hid hv
      have HE := Lib.hid (he.trans hin)
      have H := Lib.hid h
      clear h hv he hin
      have hl : ((xs.drop (a - b).toNat).take k.toNat).length = k.toNat := by simp; omega
      simp only [hl]
      clear hl hin' hok
      go_enter Try.func38, Try.ntmps38
      go_wp2_with (first | (go_at_call 46; refine (rhas_any _ _ _ _ _ _ _ h0 h1 hn ha0 ha1 hk0 hk1).mono ?_; rintro e w1 ⟨rfl, hb1⟩; rw [H.out, HE.out]; obtain ⟨hc1, hf1⟩ := bcell hb1; have hs1 := hb1.size; (try simp at hs1); have hz1_0 : w.heap.size < w1.heap.size := (by omega)) | (go_at_call 95; refine (rcut_any _ _ _ _ _ _ _ (by apply Rd.more; (repeat' (first | (show Rd _ _ _ _; with_reducible assumption) | (with_reducible apply Ow.rd; (show Ow _ _ _ _ _ _ _ _; with_reducible assumption)) | with_reducible exact Rd.nil_ | with_reducible apply Rd.alloc | with_reducible apply Rd.drew | with_reducible apply Rd.drewN | with_reducible apply Rd.setCell | (with_reducible apply Rd.call; (show Below _ _ _; with_reducible assumption)))); all_goals (first | omega | (simp <;> omega))) hcap hc HV.out HIN.out hk).mono ?_; rintro e w2 ⟨A2, c2, rfl, ho2, hb2⟩; obtain ⟨hc2, hf2⟩ := bcell hb2; have hs2 := hb2.size; (try simp at hs2); have hz2_0 : w.heap.size < w2.heap.size := (by omega)))
      go_ret2
      exact ⟨A2, c2, rfl, (by apply Ow.mono; (repeat' (first | (show Ow _ _ _ _ _ _ _ _; with_reducible assumption) | with_reducible exact Ow.nil_ | (with_reducible apply Ow.of_own'; (show World.ownsRow _ _ _ _ _ _ _; with_reducible assumption)) | with_reducible apply Ow.alloc | with_reducible apply Ow.drew | with_reducible apply Ow.drewN | with_reducible apply Ow.set | (with_reducible apply Ow.call; (show Below _ _ _; with_reducible assumption)))); all_goals (first | omega | (simp <;> omega))), (by repeat' (first | exact Below.refl _ _ | assumption | (refine below_call (by assumption) ?_ (by first | omega | (simp <;> omega))) | (refine below_callB (by assumption) ?_ (by omega)) | (refine Below.setCell ?_ (by first | omega | (simp <;> omega)) _) | (refine Below.alloc ?_ (by first | omega | (simp <;> omega)) _) | (refine Below.drew ?_) | (refine below_drewN ?_ _)))⟩
    · have hin' : inb b xs.length a k = false := by simpa using hin
      rw [he, hin']
      have HE := Lib.hid (he.trans hin')
      have H := Lib.hid h
      clear h hv he hin hin' hk
      simp only [Bool.false_eq_true, if_false]
      go_enter Try.func38, Try.ntmps38
      go_wp2_with (go_at_call 46; refine (rhas_any _ _ _ _ _ _ _ h0 h1 hn ha0 ha1 hk0 hk1).mono ?_; rintro e w1 ⟨rfl, hb1⟩; rw [H.out, HE.out]; obtain ⟨hc1, hf1⟩ := bcell hb1; have hs1 := hb1.size; (try simp at hs1); have hz1_0 : w.heap.size < w1.heap.size := (by omega))
      go_ret2
      exact ⟨none, 0, rfl, Ow.nil_, (by repeat' (first | exact Below.refl _ _ | assumption | (refine below_call (by assumption) ?_ (by first | omega | (simp <;> omega))) | (refine below_callB (by assumption) ?_ (by omega)) | (refine Below.setCell ?_ (by first | omega | (simp <;> omega)) _) | (refine Below.alloc ?_ (by first | omega | (simp <;> omega)) _) | (refine Below.drew ?_) | (refine below_drewN ?_ _)))⟩
  · rw [if_neg h]
    have hq1 : ((hasS b xs.length a k).2 != 0) = true := by simpa using h
    clear h
    go_enter Try.func38, Try.ntmps38
    go_wp2_with (go_at_call 46; refine (rhas_any _ _ _ _ _ _ _ h0 h1 hn ha0 ha1 hk0 hk1).mono ?_; rintro e w1 ⟨rfl, hb1⟩; obtain ⟨hc1, hf1⟩ := bcell hb1; have hs1 := hb1.size; (try simp at hs1); have hz1_0 : w.heap.size < w1.heap.size := (by omega))
    go_ret2
    exact ⟨none, 0, rfl, Ow.nil_, (by repeat' (first | exact Below.refl _ _ | assumption | (refine below_call (by assumption) ?_ (by first | omega | (simp <;> omega))) | (refine below_callB (by assumption) ?_ (by omega)) | (refine Below.setCell ?_ (by first | omega | (simp <;> omega)) _) | (refine Below.alloc ?_ (by first | omega | (simp <;> omega)) _) | (refine Below.drew ?_) | (refine below_drewN ?_ _)))⟩

set_option maxHeartbeats 1600000 in
theorem rwrite_any (b : Int) (A : Option Addr) (xs : List UInt8) (c : Nat) (a : Int) (A2 : Option Addr) (ys : List UInt8) (c2 : Nat) (w : World) (h0 : 0 ≤ b) (h1 : b < 18446744073709551616) (hn : xs.length ≤ 9223372036854775807) (hr : Rd w w.heap.size A (bv xs)) (ha0 : 0 ≤ a) (ha1 : a < 18446744073709551616) (hr2 : Rd w w.heap.size A2 (bv ys)) (hn2 : ys.length ≤ 9223372036854775807) :
    Calls Try.prog 40 #[.agg #[.int .u64 b, .slice A xs.length c], .int .u64 a, .slice A2 ys.length c2] w fun e w' => ∃ A' c', e = .returned (.tuple #[.agg #[.int .u64 (writeS b xs a ys).1.1, .slice A' (writeS b xs a ys).1.2.length c'], .int .i64 (writeS b xs a ys).2]) ∧ Ow w' w.heap.size w'.heap.size 5 A' (writeS b xs a ys).1.2.length c' (bv (writeS b xs a ys).1.2) ∧ Below w.heap.size w w' := by
  unfold writeS
  rcases chkR_cases b xs.length with hv | hv
  · rw [if_pos hv]
    have hk0 : (0 : Int) ≤ ys.length := by omega
    have hk1 : (ys.length : Int) ≤ 9223372036854775807 := by omega
    by_cases hin : inb b xs.length a ys.length = true
    · rw [if_pos hin]
      obtain ⟨h5, h6⟩ := inb_iff.1 hin
      obtain ⟨h2, h3, h7, h4⟩ := chkR_ok hv
      have HV := Lib.hid hv
      have HI := Lib.hid hin
      clear hv hin h7
      obtain ⟨at_, hat⟩ : ∃ at_ : Nat, a - b = at_ := ⟨(a - b).toNat, by omega⟩
      have hlen : at_ + ys.length ≤ xs.length := by omega
      have e1 : IntKind.u64.wrap (a - b) = at_ := by rw [hat]; exact IntWalk.u64_in _ (by omega)
      have E1 := Lib.hid e1
      rw [hat]
      clear hat e1
      simp only [Int.toNat_natCast]
      have hlp : (put xs at_ ys).length = xs.length := put_length hlen
      have HLP := Lib.hid hlp; clear hlp
      simp only [HLP.out]
      go_enter Try.func40, Try.ntmps40
      go_wp2_with (first | (go_at_call 52; refine (rcheck_any _ _ _ _ _ h0 h1 hn).mono ?_; rintro e w1 ⟨rfl, hb1⟩; rw [HV.out]; obtain ⟨hc1, hf1⟩ := bcell hb1; have hs1 := hb1.size; (try simp at hs1); have hz1_0 : w.heap.size < w1.heap.size := (by omega); have hz1_1 : w.heap.size + 1 < w1.heap.size := (by omega)) | (go_at_call 93; refine (rin_any _ _ _ _ _ _ _ HV.out ha0 ha1 hk0 hk1).mono ?_; rintro e w2 ⟨rfl, hb2⟩; rw [HI.out]; obtain ⟨hc2, hf2⟩ := bcell hb2; have hs2 := hb2.size; (try simp at hs2); have hz2_0 : w.heap.size < w2.heap.size := (by omega); have hz2_1 : w.heap.size + 1 < w2.heap.size := (by omega)) | (go_at_call 23; refine (rtwin_any _ _ _ _ _ (by apply Rd.more; (repeat' (first | (show Rd _ _ _ _; with_reducible assumption) | (with_reducible apply Ow.rd; (show Ow _ _ _ _ _ _ _ _; with_reducible assumption)) | with_reducible exact Rd.nil_ | with_reducible apply Rd.alloc | with_reducible apply Rd.drew | with_reducible apply Rd.drewN | with_reducible apply Rd.setCell | (with_reducible apply Rd.call; (show Below _ _ _; with_reducible assumption)))); all_goals (first | omega | (simp <;> omega))) (by omega)).mono ?_; rintro e w3 ⟨A3, c3, rfl, ho3, hb3⟩; obtain ⟨hc3, hf3⟩ := bcell hb3; have hs3 := hb3.size; (try simp at hs3); have hz3_0 : w.heap.size < w3.heap.size := (by omega); have hz3_1 : w.heap.size + 1 < w3.heap.size := (by omega)))
      go_loopw [9] (fun i wr => ∃ j : Nat, j ≤ ys.length ∧ i = .int .i64 j ∧ Bk wr w3.heap.size 25 #[.int .u64 b, .slice A3 xs.length c3] ∧ Ow wr (w.heap.size + 2) w3.heap.size 5 A3 xs.length c3 (bv (put xs at_ (ys.take j))) ∧ Below (w.heap.size + 2) w3 wr) (fun i _ => ys.length - (intOf i).toNat)
      case atStart => exact ⟨0, Nat.zero_le _, rfl, Bk.new _ _ _, by rw [List.take_zero, put_nil]; exact (by apply Ow.mono; (repeat' (first | (show Ow _ _ _ _ _ _ _ _; with_reducible assumption) | with_reducible exact Ow.nil_ | (with_reducible apply Ow.of_own'; (show World.ownsRow _ _ _ _ _ _ _; with_reducible assumption)) | with_reducible apply Ow.alloc | with_reducible apply Ow.drew | with_reducible apply Ow.drewN | with_reducible apply Ow.set | (with_reducible apply Ow.call; (show Below _ _ _; with_reducible assumption)))); all_goals (first | omega | (simp <;> omega))), (by repeat' (first | exact Below.refl _ _ | assumption | (refine below_call (by assumption) ?_ (by first | omega | (simp <;> omega))) | (refine below_callB (by assumption) ?_ (by omega)) | (refine Below.setCell ?_ (by first | omega | (simp <;> omega)) _) | (refine Below.alloc ?_ (by first | omega | (simp <;> omega)) _) | (refine Below.drew ?_) | (refine below_drewN ?_ _)))⟩
      case round =>
        obtain ⟨j, hj, rfl, hbk, how, hbel⟩ := hrel
        obtain ⟨hcr, hfr⟩ := bcellB hbel
        have hk8 := hbk.cell 0
        have hk9 := hbk.cell 1
        have hgs := hbk.lt
        simp at hk8 hk9
        have kx0 : wr.cell? ⟨w.heap.size, 0, none⟩ = some (.int .u64 b) := by rw [hcr _ _ (by first | omega | (simp <;> omega))]; go_simp
        by_cases hlt : j < ys.length
        · obtain ⟨g, rfl, hg1, hg2, hg3, hown⟩ := how.pos (by omega)
          have hy : (bv ys)[j]? = some (.int .u8 (ys[j]).toNat) := bv_get hlt
          have hry : Rd wr w.heap.size A2 (bv ys) := (Rd.call (C := w.heap.size) (hbel.mono (by omega)) (by
            have : Rd w3 w.heap.size A2 (bv ys) := (by apply Rd.more; (repeat' (first | (show Rd _ _ _ _; with_reducible assumption) | (with_reducible apply Ow.rd; (show Ow _ _ _ _ _ _ _ _; with_reducible assumption)) | with_reducible exact Rd.nil_ | with_reducible apply Rd.alloc | with_reducible apply Rd.drew | with_reducible apply Rd.drewN | with_reducible apply Rd.setCell | (with_reducible apply Rd.call; (show Below _ _ _; with_reducible assumption)))); all_goals (first | omega | (simp <;> omega)))
            exact this) (Nat.le_refl _))
          obtain ⟨ab, ao, rfl, hab, hcell2⟩ := hry.at_ hy
          have hty : ys.take (j + 1) = ys.take j ++ [ys[j]] := by rw [List.take_add_one, List.getElem?_eq_getElem hlt]; rfl
          have HTY := Lib.hid hty
          have hlt2 : (ys.take j).length = j := by rw [List.length_take]; omega
          have HLT := Lib.hid hlt2
          have hput : (put xs at_ (ys.take j)).length = xs.length := put_length (by omega)
          have hcell := own_cell hown (bv_get (k := at_ + j) (by omega))
          have hfz := hown.frozenAt (at_ + j)
          have HYV := Lib.hid (show ∃ y : Nat, y = (ys[j]).toNat from ⟨_, rfl⟩)
          obtain ⟨y, hyv⟩ := HYV.out
          rw [← hyv] at hcell2
          have HYE := Lib.hid hyv
          clear hyv HYV
          clear hty hy hcr hfr
          have hi0 : (0 : Int) ≤ ((at_ + j : Nat) : Int) := by omega
          have hi1 : ((at_ + j : Nat) : Int) < (xs.length : Int) := by omega
          have hne1 : g ≠ w.heap.size := by omega
          have hne2 : g ≠ w3.heap.size := by omega
          have hne3 : g ≠ ab := by omega
          go_wp2
          have e1 := E1.out
          have hq2 : IntKind.i64.wrap (at_ : Int) = (at_ : Int) := IntWalk.i64_in _ (by omega)
          have hq3 : IntKind.i64.wrap ((at_ : Int) + (j : Int)) = (at_ : Int) + (j : Int) := IntWalk.i64_in _ (by omega)
          have hq5 : ((at_ : Int) + (j : Int)).toNat = at_ + j := by omega
          have hq9 : 0 ≤ (at_ : Int) + (j : Int) := by omega
          have hq10 : (at_ : Int) + (j : Int) < (xs.length : Int) := by omega
          go_region_held3 (fun w' => w'.cell? ⟨w3.heap.size, 1, none⟩ = some (.slice (some ⟨g, 0, none⟩) xs.length c3) ∧ w'.cell? ⟨w.heap.size, 0, none⟩ = some (.int .u64 b) ∧ w'.cell? ⟨ab, ao + j, none⟩ = some (.int .u8 y)) (go_keep) (fail)
          clear hq2 hq3 hq5 e1
          go_wp2
          go_roundw
          case rel =>
            rw [HYE.out]
            have hst := (hown.stored (at_ + j) (.int .u8 (ys[j]).toNat)).1
            rw [← bv_set] at hst
            refine ⟨j + 1, by omega, by go_num, hbk.far (by simp; omega) _, ⟨?_, fun k hk => by simp [Value.ownBlock] at hk; omega⟩, (hbel.setCell (p := ⟨g, at_ + j, none⟩) hg1 _).drew⟩
            rw [HTY.out, put_snoc _ (by rw [HLT.out]; omega), HLT.out]
            exact own_base hst hg1
          case measure => simp [intOf] <;> omega
        · obtain rfl : j = ys.length := by omega
          have hT := Lib.hid (List.take_length (l := ys))
          rw [hT.out] at how
          have kx1 : wr.cell? ⟨w.heap.size + 1, 0, none⟩ = some (.int .u64 0) := by rw [hcr _ _ (by first | omega | (simp <;> omega))]; go_simp
          have kx2 : wr.cell? ⟨w.heap.size + 1, 1, none⟩ = some (.slice none 0 0) := by rw [hcr _ _ (by first | omega | (simp <;> omega))]; go_simp
          have kx3 : wr.frozen? ⟨w.heap.size + 1, 0, none⟩ = false := by rw [hfr _ _ (by first | omega | (simp <;> omega))]; go_simp
          have kx4 : wr.frozen? ⟨w.heap.size + 1, 1, none⟩ = false := by rw [hfr _ _ (by first | omega | (simp <;> omega))]; go_simp
          clear hcr hfr
          go_wp2
          exact bodyPost_ret (v := .tuple #[.agg #[.int .u64 b, .slice A3 xs.length c3], .int .i64 0]) (by simp [results, Try.results40, go_sem, *]) rfl ⟨_, _, rfl, (by apply Ow.mono; (repeat' (first | (show Ow _ _ _ _ _ _ _ _; with_reducible assumption) | with_reducible exact Ow.nil_ | (with_reducible apply Ow.of_own'; (show World.ownsRow _ _ _ _ _ _ _; with_reducible assumption)) | with_reducible apply Ow.alloc | with_reducible apply Ow.drew | with_reducible apply Ow.drewN | with_reducible apply Ow.set | (with_reducible apply Ow.call; (show Below _ _ _; with_reducible assumption)))); all_goals (first | omega | (simp <;> omega))), (by repeat' (first | exact Below.refl _ _ | assumption | (refine below_call (by assumption) ?_ (by first | omega | (simp <;> omega))) | (refine below_callB (by assumption) ?_ (by omega)) | (refine Below.setCell ?_ (by first | omega | (simp <;> omega)) _) | (refine Below.alloc ?_ (by first | omega | (simp <;> omega)) _) | (refine Below.drew ?_) | (refine below_drewN ?_ _)))⟩
    · have hin' : inb b xs.length a ys.length = false := by simpa using hin
      rw [if_neg hin]
      have HV := Lib.hid hv
      have HI := Lib.hid hin'
      clear hv hin hin'
      go_enter Try.func40, Try.ntmps40
      go_wp2_with (first | (go_at_call 52; refine (rcheck_any _ _ _ _ _ h0 h1 hn).mono ?_; rintro e w1 ⟨rfl, hb1⟩; rw [HV.out]; obtain ⟨hc1, hf1⟩ := bcell hb1; have hs1 := hb1.size; (try simp at hs1); have hz1_0 : w.heap.size < w1.heap.size := (by omega); have hz1_1 : w.heap.size + 1 < w1.heap.size := (by omega)) | (go_at_call 93; refine (rin_any _ _ _ _ _ _ _ HV.out ha0 ha1 hk0 hk1).mono ?_; rintro e w2 ⟨rfl, hb2⟩; rw [HI.out]; obtain ⟨hc2, hf2⟩ := bcell hb2; have hs2 := hb2.size; (try simp at hs2); have hz2_0 : w.heap.size < w2.heap.size := (by omega); have hz2_1 : w.heap.size + 1 < w2.heap.size := (by omega)))
      exact bodyPost_ret (v := .tuple #[.agg #[.int .u64 0, .slice none 0 0], .int .i64 16]) (by simp [results, Try.results40, go_sem, *]) rfl ⟨none, 0, rfl, Ow.nil_, (by repeat' (first | exact Below.refl _ _ | assumption | (refine below_call (by assumption) ?_ (by first | omega | (simp <;> omega))) | (refine below_callB (by assumption) ?_ (by omega)) | (refine Below.setCell ?_ (by first | omega | (simp <;> omega)) _) | (refine Below.alloc ?_ (by first | omega | (simp <;> omega)) _) | (refine Below.drew ?_) | (refine below_drewN ?_ _)))⟩
  · rw [if_neg (by omega)]
    have HV := Lib.hid hv; clear hv
    go_enter Try.func40, Try.ntmps40
    go_wp2_with fail; refine (rcheck_any _ _ _ _ _ h0 h1 hn).mono ?_; rintro e w1 ⟨rfl, hb1⟩; rw [HV.out]; obtain ⟨hc1, hf1⟩ := bcell hb1; have hs1 := hb1.size; (try simp at hs1); have hz1_0 : w.heap.size < w1.heap.size := (by omega); have hz1_1 : w.heap.size + 1 < w1.heap.size := (by omega)
    go_wp2_with fail; refine (rcheck_any _ _ _ _ _ h0 h1 hn).mono ?_; rintro e w2 ⟨rfl, hb2⟩; rw [HV.out]; obtain ⟨hc2, hf2⟩ := bcell hb2; have hs2 := hb2.size; (try simp at hs2); have hz2_0 : w.heap.size < w2.heap.size := (by omega); have hz2_1 : w.heap.size + 1 < w2.heap.size := (by omega)
    go_wp2
    exact bodyPost_ret (v := .tuple #[.agg #[.int .u64 0, .slice none 0 0], .int .i64 8]) (by simp [results, Try.results40, go_sem, *]) rfl ⟨none, 0, rfl, Ow.nil_, (by repeat' (first | exact Below.refl _ _ | assumption | (refine below_call (by assumption) ?_ (by first | omega | (simp <;> omega))) | (refine below_callB (by assumption) ?_ (by omega)) | (refine Below.setCell ?_ (by first | omega | (simp <;> omega)) _) | (refine Below.alloc ?_ (by first | omega | (simp <;> omega)) _) | (refine Below.drew ?_) | (refine below_drewN ?_ _)))⟩
end Go.Proofs.Ytbcjkdekppomgaa
