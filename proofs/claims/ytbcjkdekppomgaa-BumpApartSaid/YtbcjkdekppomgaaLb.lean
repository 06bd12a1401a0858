/- The walks of alive (14) and of the law BumpRoom. -/
import Derived.Test.YtbcjkdekppomgaaLa
namespace Go.Proofs.Ytbcjkdekppomgaa
open Go.RowKit
set_option linter.unusedVariables false
set_option maxRecDepth 100000
set_option linter.unusedSimpArgs false
attribute [local go_sem ↓] Go.wp_at_zero Go.wp_at_succ

theorem alloc_to {b : Int} (A : Option Addr) {xs : List UInt8} {k : Nat} (c : Nat) {n lim : Int} {b2 a2 e2 : Int} {ys : List UInt8} {m : Nat} (w : World) (h : allocS b xs n lim = (((b2, ys), a2), e2)) (hk : xs.length = k) (hm : ys.length = m) (hn : k ≤ 9223372036854775807) (hr : Rd w w.heap.size A (bv xs)) :
    Calls Try.prog 26 #[.agg #[.int .u64 b, .slice A k c], .int .i64 n, .int .i64 lim] w fun e w' => ∃ A' c', e = .returned (.tuple #[.agg #[.int .u64 b2, .slice A' m c'], .int .u64 a2, .int .i64 e2]) ∧ Ow w' w.heap.size w'.heap.size 5 A' m c' (bv ys) ∧ Below w.heap.size w w' := by
  subst hk; subst hm
  have := alloc_any b A xs c n lim w hn hr
  rw [h] at this
  exact this

theorem alive14_e1 : allocS 65536 [] 3 23 = (((65536, List.replicate 8 0), 65536), 0) := by decide
theorem alive14_e2 : allocS 65536 (List.replicate 8 0) 0 23 = (((65536, List.replicate 16 0), 65544), 0) := by decide
theorem alive14_e3 : allocS 65536 (List.replicate 16 0) 1 23 = (((0, []), 0), 18) := by decide
theorem alive14_e4 : roomS 65536 16 23 = (0, 0) := by decide
theorem alive14_e5 : roomS 65536 16 24 = (8, 0) := by decide

set_option maxHeartbeats 1600000 in
theorem alive14_walk (w : World) : Calls Try.prog 31 #[] w fun e w' => e = .returned (.bool true) ∧ Below w.heap.size w w' := by
  go_enter Try.func31, Try.ntmps31
  go_wp2_with fail; refine (bnew_any _).mono ?_; rintro e w1 ⟨rfl, hb1⟩; obtain ⟨hc1, hf1⟩ := bcell hb1; have hs1 := hb1.size; (try simp at hs1)
  go_wp2_with fail; refine (alloc_to (k := 0) none 0 _ alive14_e1 rfl (m := 8) rfl (by omega) Rd.nil_).mono ?_; rintro e w2 ⟨A2, c2, rfl, ho2, hb2⟩; obtain ⟨hc2, hf2⟩ := bcell hb2; have hs2 := hb2.size; (try simp at hs2)
  go_wp2_with fail; refine (alloc_to (k := 8) A2 c2 _ alive14_e2 rfl (m := 16) rfl (by omega) (by apply Rd.more; (repeat' (first | (show Rd _ _ _ _; with_reducible assumption) | (with_reducible apply Ow.rd; (show Ow _ _ _ _ _ _ _ _; with_reducible assumption)) | with_reducible exact Rd.nil_ | with_reducible apply Rd.alloc | with_reducible apply Rd.drew | with_reducible apply Rd.drewN | with_reducible apply Rd.setCell | (with_reducible apply Rd.call; (show Below _ _ _; with_reducible assumption)))); all_goals (first | omega | (simp <;> omega)))).mono ?_; rintro e w3 ⟨A3, c3, rfl, ho3, hb3⟩; obtain ⟨hc3, hf3⟩ := bcell hb3; have hs3 := hb3.size; (try simp at hs3); have hz3_0 : w2.heap.size < w3.heap.size := (by omega)
  go_wp2_with fail; refine (alloc_to (k := 16) A3 c3 _ alive14_e3 rfl (m := 0) rfl (by omega) (by apply Rd.more; (repeat' (first | (show Rd _ _ _ _; with_reducible assumption) | (with_reducible apply Ow.rd; (show Ow _ _ _ _ _ _ _ _; with_reducible assumption)) | with_reducible exact Rd.nil_ | with_reducible apply Rd.alloc | with_reducible apply Rd.drew | with_reducible apply Rd.drewN | with_reducible apply Rd.setCell | (with_reducible apply Rd.call; (show Below _ _ _; with_reducible assumption)))); all_goals (first | omega | (simp <;> omega)))).mono ?_; rintro e w4 ⟨A4, c4, rfl, ho4, hb4⟩; obtain ⟨hc4, hf4⟩ := bcell hb4; have hs4 := hb4.size; (try simp at hs4); have hz4_0 : w2.heap.size < w4.heap.size := (by omega); have hz4_1 : w3.heap.size < w4.heap.size := (by omega)
  have HE4 := Lib.hid alive14_e4
  have HE5 := Lib.hid alive14_e5
  go_wp2_with fail; refine (room_any 65536 A3 16 c3 23 _ (by omega)).mono ?_; rintro e w5 ⟨rfl, hb5⟩; rw [HE4.out]; obtain ⟨hc5, hf5⟩ := bcell hb5; have hs5 := hb5.size; (try simp at hs5); have hz5_0 : w2.heap.size < w5.heap.size := (by omega); have hz5_1 : w3.heap.size < w5.heap.size := (by omega); have hz5_2 : w4.heap.size < w5.heap.size := (by omega)
  go_wp2_with fail; refine (room_any 65536 A3 16 c3 24 _ (by omega)).mono ?_; rintro e w6 ⟨rfl, hb6⟩; rw [HE5.out]; obtain ⟨hc6, hf6⟩ := bcell hb6; have hs6 := hb6.size; (try simp at hs6); have hz6_0 : w2.heap.size < w6.heap.size := (by omega); have hz6_1 : w3.heap.size < w6.heap.size := (by omega); have hz6_2 : w4.heap.size < w6.heap.size := (by omega)
  go_wp2
  go_ret
  exact ⟨by simp, (by repeat' (first | exact Below.refl _ _ | assumption | (refine below_call (by assumption) ?_ (by first | omega | (simp <;> omega))) | (refine below_callB (by assumption) ?_ (by omega)) | (refine Below.setCell ?_ (by first | omega | (simp <;> omega)) _) | (refine Below.alloc ?_ (by first | omega | (simp <;> omega)) _) | (refine Below.drew ?_) | (refine below_drewN ?_ _)))⟩


set_option maxHeartbeats 1600000 in
theorem bumpRoom_walk (b : Int) (A : Option Addr) (xs : List UInt8) (c : Nat) (n lim : Int) (w : World) (hr : Rd w w.heap.size A (bv xs)) (hn : xs.length ≤ 9223372036854775807) :
    Calls Try.prog 4 #[.agg #[.int .u64 b, .slice A xs.length c], .int .i64 n, .int .i64 lim] w fun e w' => e = .returned (.bool true) ∧ Below w.heap.size w w' := by
  by_cases hg : greatB xs.length = true
  · have HG := Lib.hid hg; clear hg
    go_enter Try.func4, Try.ntmps4
    go_wp2_with fail; refine (alive14_walk _).mono ?_; rintro e w1 ⟨rfl, hb1⟩; obtain ⟨hc1, hf1⟩ := bcell hb1; have hs1 := hb1.size; (try simp at hs1); have hz1_0 : w.heap.size < w1.heap.size := (by omega)
    go_wp2_with fail; refine (rgreat14_any b A xs.length c _ hn).mono ?_; rintro e w2 ⟨rfl, hb2⟩; rw [HG.out]; obtain ⟨hc2, hf2⟩ := bcell hb2; have hs2 := hb2.size; (try simp at hs2); have hz2_0 : w.heap.size < w2.heap.size := (by omega)
    go_wp2
    go_ret
    exact ⟨rfl, (by repeat' (first | exact Below.refl _ _ | assumption | (refine below_call (by assumption) ?_ (by first | omega | (simp <;> omega))) | (refine below_callB (by assumption) ?_ (by omega)) | (refine Below.setCell ?_ (by first | omega | (simp <;> omega)) _) | (refine Below.alloc ?_ (by first | omega | (simp <;> omega)) _) | (refine Below.drew ?_) | (refine below_drewN ?_ _)))⟩
  have hg' : greatB xs.length = false := by simpa using hg
  have HG := Lib.hid hg'; clear hg hg'
  by_cases hl : chkB b xs.length lim = 0
  · have hok := chkB_ok hl
    obtain ⟨hbb, h8, hxl, hl0, hl1⟩ := hok
    have HL := Lib.hid hl
    have hrm : roomS b xs.length lim = (max 0 ((lim - xs.length) / 8 * 8), 0) := by unfold roomS; rw [if_pos hl]
    by_cases hnn : n < 0 ∨ 4096 < n
    · clear hl hbb h8 hrm
      rcases hnn with hnn | hnn
      all_goals
        go_enter Try.func4, Try.ntmps4
        go_wp2_with fail; refine (alive14_walk _).mono ?_; rintro e w1 ⟨rfl, hb1⟩; obtain ⟨hc1, hf1⟩ := bcell hb1; have hs1 := hb1.size; (try simp at hs1); have hz1_0 : w.heap.size < w1.heap.size := (by omega)
        go_wp2_with fail; refine (rgreat14_any b A xs.length c _ hn).mono ?_; rintro e w2 ⟨rfl, hb2⟩; rw [HG.out]; obtain ⟨hc2, hf2⟩ := bcell hb2; have hs2 := hb2.size; (try simp at hs2); have hz2_0 : w.heap.size < w2.heap.size := (by omega)
        go_wp2_with fail; refine (rlimit_any b A xs.length c lim _ hn).mono ?_; rintro e w3 ⟨rfl, hb3⟩; rw [HL.out]; obtain ⟨hc3, hf3⟩ := bcell hb3; have hs3 := hb3.size; (try simp at hs3); have hz3_0 : w.heap.size < w3.heap.size := (by omega)
        go_wp2
        go_ret
        exact ⟨rfl, (by repeat' (first | exact Below.refl _ _ | assumption | (refine below_call (by assumption) ?_ (by first | omega | (simp <;> omega))) | (refine below_callB (by assumption) ?_ (by omega)) | (refine Below.setCell ?_ (by first | omega | (simp <;> omega)) _) | (refine Below.alloc ?_ (by first | omega | (simp <;> omega)) _) | (refine Below.drew ?_) | (refine below_drewN ?_ _)))⟩
    · have hn0 : 0 ≤ n := by omega
      have hn1 : n ≤ 4096 := by omega
      have hs := sizeI_ge n
      have hs1 := sizeI_le hn1
      have hrl := room_lt (len := xs.length) (n := n) (lim := lim) h8
      have hrm8 : max 0 ((lim - (xs.length : Int)) / 8 * 8) % 8 = 0 := by omega
      have hrm0 : 0 ≤ max 0 ((lim - (xs.length : Int)) / 8 * 8) := by omega
      have hrmu : max 0 ((lim - (xs.length : Int)) / 8 * 8) ≤ 16384 := by omega
      by_cases hf : lim < xs.length + sizeI n
      · have hal : allocS b xs n lim = (((0, []), 0), 18) := by
          have : allocE b xs.length n lim = 18 := by unfold allocE; rw [if_pos hl, if_neg hnn, if_pos hf]
          unfold allocS; rw [this]; rfl
        have hlt := hrl.2 hf
        generalize max 0 ((lim - (xs.length : Int)) / 8 * 8) = rm at *
        generalize hsz : sizeI n = sz at *
        have HSZ := Lib.hid hsz
        have HRM := Lib.hid hrm
        have HAL := Lib.hid hal
        have hm8 : (rm % 8 != 0) = false := by simp [hrm8]
        have hle : decide (sz ≤ rm) = false := by simp; omega
        clear hsz hrm hal hrl hf hl hbb h8 hrm8 hnn hs
        go_enter Try.func4, Try.ntmps4
        go_wp2_with fail; refine (alive14_walk _).mono ?_; rintro e w1 ⟨rfl, hb1⟩; obtain ⟨hc1, hf1⟩ := bcell hb1; have hs1 := hb1.size; (try simp at hs1); have hz1_0 : w.heap.size < w1.heap.size := (by omega)
        go_wp2_with fail; refine (rgreat14_any b A xs.length c _ hn).mono ?_; rintro e w2 ⟨rfl, hb2⟩; rw [HG.out]; obtain ⟨hc2, hf2⟩ := bcell hb2; have hs2 := hb2.size; (try simp at hs2); have hz2_0 : w.heap.size < w2.heap.size := (by omega)
        go_wp2_with fail; refine (rlimit_any b A xs.length c lim _ hn).mono ?_; rintro e w3 ⟨rfl, hb3⟩; rw [HL.out]; obtain ⟨hc3, hf3⟩ := bcell hb3; have hs3 := hb3.size; (try simp at hs3); have hz3_0 : w.heap.size < w3.heap.size := (by omega)
        go_wp2_with fail; refine (room_any b A xs.length c lim _ hn).mono ?_; rintro e w4 ⟨rfl, hb4⟩; rw [HRM.out]; obtain ⟨hc4, hf4⟩ := bcell hb4; have hs4 := hb4.size; (try simp at hs4); have hz4_0 : w.heap.size < w4.heap.size := (by omega)
        go_wp2_with fail; refine (alloc_to (m := 0) A c _ HAL.out rfl rfl hn (by apply Rd.more; (repeat' (first | (show Rd _ _ _ _; with_reducible assumption) | (with_reducible apply Ow.rd; (show Ow _ _ _ _ _ _ _ _; with_reducible assumption)) | with_reducible exact Rd.nil_ | with_reducible apply Rd.alloc | with_reducible apply Rd.drew | with_reducible apply Rd.drewN | with_reducible apply Rd.setCell | (with_reducible apply Rd.call; (show Below _ _ _; with_reducible assumption)))); all_goals (first | omega | (simp <;> omega)))).mono ?_; rintro e w5 ⟨A5, c5, rfl, ho5, hb5⟩; obtain ⟨hc5, hf5⟩ := bcell hb5; have hs5 := hb5.size; (try simp at hs5); have hz5_0 : w.heap.size < w5.heap.size := (by omega)
        go_wp2_with (go_at_call 33; refine (rsize_any _ _ hn0 hn1).mono ?_; rw [HSZ.out]; rintro e w' ⟨rfl, rfl⟩)
        go_ret
        exact ⟨rfl, (by repeat' (first | exact Below.refl _ _ | assumption | (refine below_call (by assumption) ?_ (by first | omega | (simp <;> omega))) | (refine below_callB (by assumption) ?_ (by omega)) | (refine Below.setCell ?_ (by first | omega | (simp <;> omega)) _) | (refine Below.alloc ?_ (by first | omega | (simp <;> omega)) _) | (refine Below.drew ?_) | (refine below_drewN ?_ _)))⟩
      · have hal : allocS b xs n lim = (((b, grown xs n), b + xs.length), 0) := by
          have : allocE b xs.length n lim = 0 := by unfold allocE; rw [if_pos hl, if_neg hnn, if_neg hf]
          unfold allocS; rw [this]; rfl
        have hlt : ¬ _ := fun h => hf (hrl.1 h)
        have hgl : (grown xs n).length = xs.length + (sizeI n).toNat := by unfold grown; simp
        have hro : roomS b (grown xs n).length lim = (max 0 ((lim - xs.length) / 8 * 8) - sizeI n, 0) := by
          have : chkB b (grown xs n).length lim = 0 := by unfold chkB; rw [if_pos (by omega), if_pos (by omega)]
          unfold roomS
          rw [if_pos this, hgl]
          congr 1
          omega
        generalize max 0 ((lim - (xs.length : Int)) / 8 * 8) = rm at *
        subst hbb
        obtain ⟨szn, hszn⟩ : ∃ m : Nat, sizeI n = m := ⟨(sizeI n).toNat, by omega⟩
        have hgl2 : (grown xs n).length = xs.length + szn := by rw [hgl]; omega
        rw [hszn] at hro hs hs1 hf hrl
        rw [hgl2] at hro
        clear hgl
        have hgl := hgl2
        clear hgl2
        have HSZ := Lib.hid hszn
        have HRM := Lib.hid hrm
        have HAL := Lib.hid hal
        have HRO := Lib.hid hro
        have HGL := Lib.hid hgl
        have hm8 : (rm % 8 != 0) = false := by simp [hrm8]
        have hle : decide ((szn : Int) ≤ rm) = true := by simp; omega
        have hle2 : (szn : Int) ≤ rm := by omega
        clear hszn hrm hal hro hgl hrl hf hl h8 hrm8 hnn hs hlt
        go_enter Try.func4, Try.ntmps4
        go_wp2_with fail; refine (alive14_walk _).mono ?_; rintro e w1 ⟨rfl, hb1⟩; obtain ⟨hc1, hf1⟩ := bcell hb1; have hs1 := hb1.size; (try simp at hs1); have hz1_0 : w.heap.size < w1.heap.size := (by omega)
        go_wp2_with fail; refine (rgreat14_any 65536 A xs.length c _ hn).mono ?_; rintro e w2 ⟨rfl, hb2⟩; rw [HG.out]; obtain ⟨hc2, hf2⟩ := bcell hb2; have hs2 := hb2.size; (try simp at hs2); have hz2_0 : w.heap.size < w2.heap.size := (by omega)
        go_wp2_with fail; refine (rlimit_any 65536 A xs.length c lim _ hn).mono ?_; rintro e w3 ⟨rfl, hb3⟩; rw [HL.out]; obtain ⟨hc3, hf3⟩ := bcell hb3; have hs3 := hb3.size; (try simp at hs3); have hz3_0 : w.heap.size < w3.heap.size := (by omega)
        go_wp2_with fail; refine (room_any 65536 A xs.length c lim _ hn).mono ?_; rintro e w4 ⟨rfl, hb4⟩; rw [HRM.out]; obtain ⟨hc4, hf4⟩ := bcell hb4; have hs4 := hb4.size; (try simp at hs4); have hz4_0 : w.heap.size < w4.heap.size := (by omega)
        go_wp2_with fail; refine (alloc_to A c _ HAL.out rfl HGL.out hn (by apply Rd.more; (repeat' (first | (show Rd _ _ _ _; with_reducible assumption) | (with_reducible apply Ow.rd; (show Ow _ _ _ _ _ _ _ _; with_reducible assumption)) | with_reducible exact Rd.nil_ | with_reducible apply Rd.alloc | with_reducible apply Rd.drew | with_reducible apply Rd.drewN | with_reducible apply Rd.setCell | (with_reducible apply Rd.call; (show Below _ _ _; with_reducible assumption)))); all_goals (first | omega | (simp <;> omega)))).mono ?_; rintro e w5 ⟨A5, c5, rfl, ho5, hb5⟩; obtain ⟨hc5, hf5⟩ := bcell hb5; have hs5 := hb5.size; (try simp at hs5); have hz5_0 : w.heap.size < w5.heap.size := (by omega)
        go_wp2_with (first | (go_at_call 33; refine (rsize_any _ _ hn0 hn1).mono ?_; rw [HSZ.out]; rintro e w' ⟨rfl, rfl⟩) | (go_at_call 24; refine (room_any 65536 A5 (xs.length + szn) c5 lim _ (by omega)).mono ?_; rintro e w6 ⟨rfl, hb6⟩; rw [HRO.out]; obtain ⟨hc6, hf6⟩ := bcell hb6; have hs6 := hb6.size; (try simp at hs6); have hz6_0 : w.heap.size < w6.heap.size := (by omega); have hz6_1 : w5.heap.size < w6.heap.size := (by omega)))
        go_ret
        exact ⟨rfl, (by repeat' (first | exact Below.refl _ _ | assumption | (refine below_call (by assumption) ?_ (by first | omega | (simp <;> omega))) | (refine below_callB (by assumption) ?_ (by omega)) | (refine Below.setCell ?_ (by first | omega | (simp <;> omega)) _) | (refine Below.alloc ?_ (by first | omega | (simp <;> omega)) _) | (refine Below.drew ?_) | (refine below_drewN ?_ _)))⟩
  · have hq1 : (chkB b xs.length lim != 0) = true := by simpa using hl
    clear hl
    go_enter Try.func4, Try.ntmps4
    go_wp2_with fail; refine (alive14_walk _).mono ?_; rintro e w1 ⟨rfl, hb1⟩; obtain ⟨hc1, hf1⟩ := bcell hb1; have hs1 := hb1.size; (try simp at hs1); have hz1_0 : w.heap.size < w1.heap.size := (by omega)
    go_wp2_with fail; refine (rgreat14_any b A xs.length c _ hn).mono ?_; rintro e w2 ⟨rfl, hb2⟩; rw [HG.out]; obtain ⟨hc2, hf2⟩ := bcell hb2; have hs2 := hb2.size; (try simp at hs2); have hz2_0 : w.heap.size < w2.heap.size := (by omega)
    go_wp2_with fail; refine (rlimit_any b A xs.length c lim _ hn).mono ?_; rintro e w3 ⟨rfl, hb3⟩; obtain ⟨hc3, hf3⟩ := bcell hb3; have hs3 := hb3.size; (try simp at hs3); have hz3_0 : w.heap.size < w3.heap.size := (by omega)
    go_wp2
    go_ret
    exact ⟨rfl, (by repeat' (first | exact Below.refl _ _ | assumption | (refine below_call (by assumption) ?_ (by first | omega | (simp <;> omega))) | (refine below_callB (by assumption) ?_ (by omega)) | (refine Below.setCell ?_ (by first | omega | (simp <;> omega)) _) | (refine Below.alloc ?_ (by first | omega | (simp <;> omega)) _) | (refine Below.drew ?_) | (refine below_drewN ?_ _)))⟩
end Go.Proofs.Ytbcjkdekppomgaa
