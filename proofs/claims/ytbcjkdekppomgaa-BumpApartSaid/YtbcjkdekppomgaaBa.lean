/- Contracts of package bump: check, size, Room, New, Alloc. -/
import Derived.Test.YtbcjkdekppomgaaWd
namespace Go.Proofs.Ytbcjkdekppomgaa
open Go.RowKit
set_option linter.unusedVariables false
set_option maxRecDepth 100000
set_option linter.unusedSimpArgs false
attribute [local go_sem ↓] Go.wp_at_zero Go.wp_at_succ

/-- size -/
def sizeI (n : Int) : Int := max 8 ((n + 7) / 8 * 8)
theorem sizeI_ge (n : Int) : 8 ≤ sizeI n ∧ n ≤ sizeI n ∧ sizeI n % 8 = 0 := by unfold sizeI; omega
theorem sizeI_le {n : Int} (h : n ≤ 4096) : sizeI n ≤ 4096 := by unfold sizeI; omega
/-- bump.check -/
def chkB (b : Int) (n : Nat) (lim : Int) : Int := if b = 65536 ∧ n % 8 = 0 ∧ n ≤ 16384 then (if 0 ≤ lim ∧ lim ≤ 16384 then 0 else 2) else 8
theorem chkB_ok {b : Int} {n : Nat} {lim : Int} (h : chkB b n lim = 0) : b = 65536 ∧ n % 8 = 0 ∧ n ≤ 16384 ∧ 0 ≤ lim ∧ lim ≤ 16384 := by unfold chkB at h; grind
theorem chkB_R {n : Nat} (h : n ≤ 16384) : chkR 65536 n = 0 := by unfold chkR basedB; grind
/-- bump.Room -/
def roomS (b : Int) (n : Nat) (lim : Int) : Int × Int := if chkB b n lim = 0 then (max 0 ((lim - n) / 8 * 8), 0) else (0, chkB b n lim)
/-- bump.Alloc -/
def allocE (b : Int) (len : Nat) (n lim : Int) : Int := if chkB b len lim = 0 then (if n < 0 ∨ 4096 < n then 2 else if lim < len + sizeI n then 18 else 0) else chkB b len lim
def grown (xs : List UInt8) (n : Int) : List UInt8 := xs ++ List.replicate (sizeI n).toNat 0
def allocS (b : Int) (xs : List UInt8) (n lim : Int) : ((Int × List UInt8) × Int) × Int :=
  if allocE b xs.length n lim = 0 then (((b, grown xs n), b + xs.length), 0) else (((0, []), 0), allocE b xs.length n lim)
theorem room_lt {len : Nat} {n lim : Int} (h8 : len % 8 = 0) : max 0 ((lim - len) / 8 * 8) < sizeI n ↔ lim < len + sizeI n := by
  have := sizeI_ge n; omega

set_option maxHeartbeats 400000 in
theorem size_any (n : Int) (w : World) (h0 : 0 ≤ n) (h1 : n ≤ 4096) :
    Calls Try.prog 84 #[.int .i64 n] w fun e w' => e = .returned (.int .i64 (sizeI n)) ∧ w = w' := by
  go_enter Try.func84, Try.ntmps84
  go_wp2
  all_goals (go_ret; exact ⟨ret_int (by unfold sizeI; omega), rfl⟩)

set_option maxHeartbeats 400000 in
theorem bcheck_any (b : Int) (A : Option Addr) (n c : Nat) (lim : Int) (w : World) (hn : n ≤ 9223372036854775807) :
    Calls Try.prog 83 #[.agg #[.int .u64 b, .slice A n c], .int .i64 lim] w fun e w' => e = .returned (.int .i64 (chkB b n lim)) ∧ Below w.heap.size w w' := by
  go_enter Try.func83, Try.ntmps83
  go_wp2
  all_goals (go_ret; exact ⟨ret_int (by go_light; unfold chkB; grind), (by repeat' (first | exact Below.refl _ _ | assumption | (refine below_call (by assumption) ?_ (by first | omega | (simp <;> omega))) | (refine below_callB (by assumption) ?_ (by omega)) | (refine Below.setCell ?_ (by first | omega | (simp <;> omega)) _) | (refine Below.alloc ?_ (by first | omega | (simp <;> omega)) _) | (refine Below.drew ?_) | (refine below_drewN ?_ _)))⟩)

set_option maxHeartbeats 400000 in
theorem room_any (b : Int) (A : Option Addr) (n c : Nat) (lim : Int) (w : World) (hn : n ≤ 9223372036854775807) :
    Calls Try.prog 24 #[.agg #[.int .u64 b, .slice A n c], .int .i64 lim] w fun e w' => e = .returned (.tuple #[.int .i64 (roomS b n lim).1, .int .i64 (roomS b n lim).2]) ∧ Below w.heap.size w w' := by
  unfold roomS
  by_cases h : chkB b n lim = 0
  · obtain ⟨-, -, hb1, hb2, hb3⟩ := chkB_ok h
    rw [if_pos h]
    have H := Lib.hid h; clear h
    have hm : max (0 : Int) (wrap64 ((lim - n).tdiv 8 * 8)) = max 0 ((lim - n) / 8 * 8) := by
      have hw : wrap64 ((lim - (n : Int)).tdiv 8 * 8) = (lim - (n : Int)).tdiv 8 * 8 := by
        refine IntWalk.wrap64_in _ ?_
        have h1 := Int.natAbs_tdiv_le_natAbs (lim - (n : Int)) 8
        omega
      rw [hw]
      by_cases hl : 0 ≤ lim - n
      · rw [Int.tdiv_eq_ediv_of_nonneg hl]
      · have h1 : (lim - (n : Int)).tdiv 8 ≤ 0 := by
          rw [show lim - (n : Int) = -((n : Int) - lim) from by omega, Int.neg_tdiv]
          have := Int.tdiv_nonneg (a := (n : Int) - lim) (b := 8) (by omega) (by omega)
          omega
        omega
    have HM := Lib.hid hm; clear hm
    go_enter Try.func24, Try.ntmps24
    go_wp2_with (go_at_call 83; refine (bcheck_any _ _ _ _ _ _ hn).mono ?_; rintro e w1 ⟨rfl, hb1⟩; rw [H.out]; obtain ⟨hc1, hf1⟩ := bcell hb1; have hs1 := hb1.size; (try simp at hs1); have hz1_0 : w.heap.size < w1.heap.size := (by omega))
    all_goals (go_ret2; refine ⟨?_, (by repeat' (first | exact Below.refl _ _ | assumption | (refine below_call (by assumption) ?_ (by first | omega | (simp <;> omega))) | (refine below_callB (by assumption) ?_ (by omega)) | (refine Below.setCell ?_ (by first | omega | (simp <;> omega)) _) | (refine Below.alloc ?_ (by first | omega | (simp <;> omega)) _) | (refine Below.drew ?_) | (refine below_drewN ?_ _)))⟩; rw [← HM.out]; go_light; simp; omega)
  · have hq1 : (chkB b n lim != 0) = true := by simpa using h
    rw [if_neg h]
    clear h
    go_enter Try.func24, Try.ntmps24
    go_wp2_with (go_at_call 83; refine (bcheck_any _ _ _ _ _ _ hn).mono ?_; rintro e w1 ⟨rfl, hb1⟩; obtain ⟨hc1, hf1⟩ := bcell hb1; have hs1 := hb1.size; (try simp at hs1); have hz1_0 : w.heap.size < w1.heap.size := (by omega))
    go_ret2
    exact ⟨rfl, (by repeat' (first | exact Below.refl _ _ | assumption | (refine below_call (by assumption) ?_ (by first | omega | (simp <;> omega))) | (refine below_callB (by assumption) ?_ (by omega)) | (refine Below.setCell ?_ (by first | omega | (simp <;> omega)) _) | (refine Below.alloc ?_ (by first | omega | (simp <;> omega)) _) | (refine Below.drew ?_) | (refine below_drewN ?_ _)))⟩

set_option maxHeartbeats 400000 in
theorem bnew_any (w : World) : Calls Try.prog 29 #[] w fun e w' => e = .returned (.agg #[.int .u64 65536, .slice none 0 0]) ∧ Below w.heap.size w w' := by
  go_enter Try.func29, Try.ntmps29
  go_wp2
  exact bodyPost_ret (v := .agg #[.int .u64 65536, .slice none 0 0]) (by simp [results, Try.results29, go_sem, *]) rfl ⟨rfl, (by repeat' (first | exact Below.refl _ _ | assumption | (refine below_call (by assumption) ?_ (by first | omega | (simp <;> omega))) | (refine below_callB (by assumption) ?_ (by omega)) | (refine Below.setCell ?_ (by first | omega | (simp <;> omega)) _) | (refine Below.alloc ?_ (by first | omega | (simp <;> omega)) _) | (refine Below.drew ?_) | (refine below_drewN ?_ _)))⟩

set_option maxHeartbeats 800000 in
theorem alloc_ok (b : Int) (A : Option Addr) (xs : List UInt8) (c : Nat) (n lim : Int) (w : World) (hr : Rd w w.heap.size A (bv xs)) (h : allocE b xs.length n lim = 0) :
    Calls Try.prog 26 #[.agg #[.int .u64 b, .slice A xs.length c], .int .i64 n, .int .i64 lim] w fun e w' => ∃ A' c', e = .returned (.tuple #[.agg #[.int .u64 b, .slice A' (grown xs n).length c'], .int .u64 (b + xs.length), .int .i64 0]) ∧ Ow w' w.heap.size w'.heap.size 5 A' (grown xs n).length c' (bv (grown xs n)) ∧ Below w.heap.size w w' := by
  have hh : chkB b xs.length lim = 0 ∧ 0 ≤ n ∧ n ≤ 4096 ∧ (xs.length : Int) + sizeI n ≤ lim := by unfold allocE at h; grind
  obtain ⟨h1, hn0, hn1, hfit⟩ := hh
  have hok := chkB_ok h1
  obtain ⟨rfl, h8, hxl, hl0, hl1⟩ := hok
  have hs := sizeI_ge n
  have hs1 := sizeI_le hn1
  obtain ⟨hs2, hs3, hs4⟩ := hs
  have hrm : roomS 65536 xs.length lim = (max 0 ((lim - xs.length) / 8 * 8), 0) := by unfold roomS; rw [if_pos h1]
  have hlt := (not_congr (room_lt (len := xs.length) (n := n) (lim := lim) h8)).2 (by omega)
  have HRM := Lib.hid hrm
  have hrs : resizeS 65536 xs (xs.length + sizeI n) = ((65536, grown xs n), 0) := by
    unfold resizeS
    rw [if_pos (chkB_R hxl), if_pos (by omega)]
    congr 2
    unfold resized grown
    rw [List.take_of_length_le (by omega)]
    congr 2
    omega
  have HRS := Lib.hid hrs
  clear h h1 hrm hrs h8
  generalize hrr : max 0 ((lim - (xs.length : Int)) / 8 * 8) = rm at *
  have hrm0 : 0 ≤ rm ∧ rm ≤ 20000 := by omega
  obtain ⟨hrm0, hrm1⟩ := hrm0
  clear hrr
  generalize hsz : sizeI n = sz at *
  have HSZ := Lib.hid hsz; clear hsz
  go_enter Try.func26, Try.ntmps26
  go_upto_region 8 with (first | (go_at_call 24; refine (room_any _ _ _ _ _ _ (by omega)).mono ?_; rintro e w1 ⟨rfl, hb1⟩; rw [HRM.out]; obtain ⟨hc1, hf1⟩ := bcell hb1; have hs1 := hb1.size; (try simp at hs1); have hz1_0 : w.heap.size < w1.heap.size := (by omega); have hz1_1 : w.heap.size + 1 < w1.heap.size := (by omega)) | (go_at_call 84; refine (size_any _ _ (by omega) (by omega)).mono ?_; rw [HSZ.out]; rintro e w' ⟨rfl, rfl⟩))
  go_cut [10, 11] (fun s10 s11 wx => ∃ g A2 c2, s10 = .int .i64 0 ∧ s11 = .pointer (some ⟨g, 0, none⟩) ∧ w.heap.size + 1 < g ∧ wx.cell? ⟨w.heap.size, 0, none⟩ = some (.int .u64 65536) ∧ wx.cell? ⟨w.heap.size, 1, none⟩ = some (.slice A xs.length c) ∧ wx.cell? ⟨g, 0, none⟩ = some (.int .u64 65536) ∧ wx.cell? ⟨g, 1, none⟩ = some (.slice A2 (grown xs n).length c2) ∧
    wx.cell? ⟨w.heap.size + 1, 0, none⟩ = some (.int .u64 0) ∧ wx.cell? ⟨w.heap.size + 1, 1, none⟩ = some (.slice none 0 0) ∧ wx.frozen? ⟨w.heap.size + 1, 0, none⟩ = false ∧ wx.frozen? ⟨w.heap.size + 1, 1, none⟩ = false ∧ Ow wx (w.heap.size + 2) wx.heap.size 5 A2 (grown xs n).length c2 (bv (grown xs n)) ∧ Below w.heap.size w wx)
  case first =>
    have hw1 : IntKind.i64.wrap ((xs.length : Int) + sz) = (xs.length : Int) + sz := IntWalk.i64_in _ (by omega)
    have hS1 : w1.cell? ⟨w.heap.size, 0, none⟩ = some (.int .u64 65536) := by go_simp
    have hS2 : w1.cell? ⟨w.heap.size, 1, none⟩ = some (.slice A xs.length c) := by go_simp
    have hne1 : w1.heap.size ≠ w.heap.size := by omega
    go_region_held3 (fun w' => w'.cell? ⟨w.heap.size, 0, none⟩ = some (.int .u64 65536) ∧ w'.cell? ⟨w.heap.size, 1, none⟩ = some (.slice A xs.length c)) (go_keep)
      (first | (go_at_call 84; refine (size_any _ _ (by omega) (by omega)).mono ?_; rw [HSZ.out]; rintro e w' ⟨rfl, rfl⟩) | (go_at_call 41; refine (resize_any _ _ _ _ _ _ (by omega) (by omega) (by omega) (by apply Rd.more; (repeat' (first | (show Rd _ _ _ _; with_reducible assumption) | (with_reducible apply Ow.rd; (show Ow _ _ _ _ _ _ _ _; with_reducible assumption)) | with_reducible exact Rd.nil_ | with_reducible apply Rd.alloc | with_reducible apply Rd.drew | with_reducible apply Rd.drewN | with_reducible apply Rd.setCell | (with_reducible apply Rd.call; (show Below _ _ _; with_reducible assumption)))); all_goals (first | omega | (simp <;> omega))) (by omega) (by omega)).mono ?_; rw [HRS.out]; rintro e w2 ⟨A2, c2, rfl, ho2, hb2⟩; obtain ⟨hc2, hf2⟩ := bcell hb2; have hs2' := hb2.size; (try simp at hs2'); have hz2_0 : w.heap.size < w2.heap.size := (by omega); have hz2_1 : w.heap.size + 1 < w2.heap.size := (by omega); have hne2 : w2.heap.size ≠ w.heap.size := (by omega); have k0 : w2.cell? ⟨w.heap.size, 0, none⟩ = some (.int .u64 65536) := (by rw [hc2 _ _ (by first | omega | (simp <;> omega))]; go_simp); have k1 : w2.cell? ⟨w.heap.size, 1, none⟩ = some (.slice A xs.length c) := (by rw [hc2 _ _ (by first | omega | (simp <;> omega))]; go_simp); have k2 : w2.cell? ⟨w.heap.size + 1, 0, none⟩ = some (.int .u64 0) := (by rw [hc2 _ _ (by first | omega | (simp <;> omega))]; go_simp); have k3 : w2.cell? ⟨w.heap.size + 1, 1, none⟩ = some (.slice none 0 0) := (by rw [hc2 _ _ (by first | omega | (simp <;> omega))]; go_simp); have k4 : w2.frozen? ⟨w.heap.size + 1, 0, none⟩ = false := (by rw [hf2 _ _ (by first | omega | (simp <;> omega))]; go_simp); have k5 : w2.frozen? ⟨w.heap.size + 1, 1, none⟩ = false := (by rw [hf2 _ _ (by first | omega | (simp <;> omega))]; go_simp)))

    all_goals (go_wp2_with fail; go_meet)
    all_goals exact ⟨_, A2, c2, rfl, rfl, by omega, by go_simp, by go_simp, by go_simp, by go_simp, by go_simp, by go_simp, by go_simp, by go_simp, (by apply Ow.mono; (repeat' (first | (show Ow _ _ _ _ _ _ _ _; with_reducible assumption) | with_reducible exact Ow.nil_ | (with_reducible apply Ow.of_own'; (show World.ownsRow _ _ _ _ _ _ _; with_reducible assumption)) | with_reducible apply Ow.alloc | with_reducible apply Ow.drew | with_reducible apply Ow.drewN | with_reducible apply Ow.set | (with_reducible apply Ow.call; (show Below _ _ _; with_reducible assumption)))); all_goals (first | omega | (simp <;> omega))), (by repeat' (first | exact Below.refl _ _ | assumption | (refine below_call (by assumption) ?_ (by first | omega | (simp <;> omega))) | (refine below_callB (by assumption) ?_ (by omega)) | (refine Below.setCell ?_ (by first | omega | (simp <;> omega)) _) | (refine Below.alloc ?_ (by first | omega | (simp <;> omega)) _) | (refine Below.drew ?_) | (refine below_drewN ?_ _)))⟩
  case rest =>
    obtain ⟨g, A2, c2, rfl, rfl, hg, hx0, hx1, hx2, hx3, hx4, hx5, hx6, hx7, ho, hb⟩ := hcut
    have hne1 : g ≠ w.heap.size := by omega
    have hne2 : g ≠ w.heap.size + 1 := by omega
    have hne3 : w.heap.size + 1 ≠ w.heap.size := by omega
    have hne4 : w.heap.size + 1 ≠ g := by omega
    have hw2 : IntKind.u64.wrap (xs.length : Int) = (xs.length : Int) := IntWalk.u64_in _ (by omega)
    have hw3 : IntKind.u64.wrap (65536 + (xs.length : Int)) = 65536 + (xs.length : Int) := IntWalk.u64_in _ (by omega)
    go_wp2
    go_region_held3 (fun w' => w'.cell? ⟨w.heap.size, 0, none⟩ = some (.int .u64 65536) ∧ w'.cell? ⟨w.heap.size, 1, none⟩ = some (.slice A xs.length c) ∧ w'.cell? ⟨g, 0, none⟩ = some (.int .u64 65536) ∧ w'.cell? ⟨g, 1, none⟩ = some (.slice A2 (grown xs n).length c2)) (go_keep) (fail)
    all_goals go_wp2
    clear hw2 hw3
    exact bodyPost_ret (v := .tuple #[.agg #[.int .u64 65536, .slice A2 (grown xs n).length c2], .int .u64 (65536 + xs.length), .int .i64 0]) (by simp [results, Try.results26, go_sem, *]) rfl ⟨_, _, rfl, (by apply Ow.mono; (repeat' (first | (show Ow _ _ _ _ _ _ _ _; with_reducible assumption) | with_reducible exact Ow.nil_ | (with_reducible apply Ow.of_own'; (show World.ownsRow _ _ _ _ _ _ _; with_reducible assumption)) | with_reducible apply Ow.alloc | with_reducible apply Ow.drew | with_reducible apply Ow.drewN | with_reducible apply Ow.set | (with_reducible apply Ow.call; (show Below _ _ _; with_reducible assumption)))); all_goals (first | omega | (simp <;> omega))), (by repeat' (first | exact Below.refl _ _ | assumption | (refine below_call (by assumption) ?_ (by first | omega | (simp <;> omega))) | (refine below_callB (by assumption) ?_ (by omega)) | (refine Below.setCell ?_ (by first | omega | (simp <;> omega)) _) | (refine Below.alloc ?_ (by first | omega | (simp <;> omega)) _) | (refine Below.drew ?_) | (refine below_drewN ?_ _)))⟩

set_option maxHeartbeats 800000 in
theorem alloc_err (b : Int) (A : Option Addr) (xs : List UInt8) (c : Nat) (n lim : Int) (w : World) (hn : xs.length ≤ 9223372036854775807) (h : allocE b xs.length n lim ≠ 0) :
    Calls Try.prog 26 #[.agg #[.int .u64 b, .slice A xs.length c], .int .i64 n, .int .i64 lim] w fun e w' => e = .returned (.tuple #[.agg #[.int .u64 0, .slice none 0 0], .int .u64 0, .int .i64 (allocE b xs.length n lim)]) ∧ Below w.heap.size w w' := by
  unfold allocE at h ⊢
  by_cases hc : chkB b xs.length lim = 0
  · rw [if_pos hc] at h ⊢
    have hok := chkB_ok hc
    have hrm : roomS b xs.length lim = (max 0 ((lim - xs.length) / 8 * 8), 0) := by unfold roomS; rw [if_pos hc]
    have HRM := Lib.hid hrm
    obtain ⟨-, h8, hxl, hl0, hl1⟩ := hok
    by_cases hn : n < 0 ∨ 4096 < n
    · rw [if_pos hn] at h ⊢
      clear h hrm hc h8
      rcases hn with hn | hn
      all_goals
        go_enter Try.func26, Try.ntmps26
        go_wp2_with (go_at_call 24; refine (room_any _ _ _ _ _ _ (by omega)).mono ?_; rintro e w1 ⟨rfl, hb1⟩; rw [HRM.out]; obtain ⟨hc1, hf1⟩ := bcell hb1; have hs1 := hb1.size; (try simp at hs1); have hz1_0 : w.heap.size < w1.heap.size := (by omega); have hz1_1 : w.heap.size + 1 < w1.heap.size := (by omega))
        exact bodyPost_ret (v := .tuple #[.agg #[.int .u64 0, .slice none 0 0], .int .u64 0, .int .i64 2]) (by simp [results, Try.results26, go_sem, *]) rfl ⟨rfl, (by repeat' (first | exact Below.refl _ _ | assumption | (refine below_call (by assumption) ?_ (by first | omega | (simp <;> omega))) | (refine below_callB (by assumption) ?_ (by omega)) | (refine Below.setCell ?_ (by first | omega | (simp <;> omega)) _) | (refine Below.alloc ?_ (by first | omega | (simp <;> omega)) _) | (refine Below.drew ?_) | (refine below_drewN ?_ _)))⟩
    · rw [if_neg hn] at h ⊢
      by_cases hf : lim < xs.length + sizeI n
      · rw [if_pos hf] at h ⊢
        have hlt := (room_lt (len := xs.length) (n := n) (lim := lim) h8).2 hf
        have hn0 : 0 ≤ n := by omega
        have hn1 : n ≤ 4096 := by omega
        clear hrm hc h8 hn hf h
        generalize max 0 ((lim - (xs.length : Int)) / 8 * 8) = rm at *
        go_enter Try.func26, Try.ntmps26
        go_wp2_with (first | (go_at_call 24; refine (room_any _ _ _ _ _ _ (by omega)).mono ?_; rintro e w1 ⟨rfl, hb1⟩; rw [HRM.out]; obtain ⟨hc1, hf1⟩ := bcell hb1; have hs1 := hb1.size; (try simp at hs1); have hz1_0 : w.heap.size < w1.heap.size := (by omega); have hz1_1 : w.heap.size + 1 < w1.heap.size := (by omega)) | (go_at_call 84; refine (size_any _ _ (by omega) (by omega)).mono ?_; rintro e w' ⟨rfl, rfl⟩))
        exact bodyPost_ret (v := .tuple #[.agg #[.int .u64 0, .slice none 0 0], .int .u64 0, .int .i64 18]) (by simp [results, Try.results26, go_sem, *]) rfl ⟨rfl, (by repeat' (first | exact Below.refl _ _ | assumption | (refine below_call (by assumption) ?_ (by first | omega | (simp <;> omega))) | (refine below_callB (by assumption) ?_ (by omega)) | (refine Below.setCell ?_ (by first | omega | (simp <;> omega)) _) | (refine Below.alloc ?_ (by first | omega | (simp <;> omega)) _) | (refine Below.drew ?_) | (refine below_drewN ?_ _)))⟩
      · rw [if_neg hf] at h; exact absurd rfl h
  · rw [if_neg hc] at h ⊢
    have hrm : roomS b xs.length lim = (0, chkB b xs.length lim) := by unfold roomS; rw [if_neg hc]
    have HRM := Lib.hid hrm
    have hq1 : (chkB b xs.length lim != 0) = true := by simpa using hc
    clear hrm hc h
    go_enter Try.func26, Try.ntmps26
    go_wp2_with (go_at_call 24; refine (room_any _ _ _ _ _ _ (by omega)).mono ?_; rintro e w1 ⟨rfl, hb1⟩; rw [HRM.out]; obtain ⟨hc1, hf1⟩ := bcell hb1; have hs1 := hb1.size; (try simp at hs1); have hz1_0 : w.heap.size < w1.heap.size := (by omega); have hz1_1 : w.heap.size + 1 < w1.heap.size := (by omega))
    exact bodyPost_ret (v := .tuple #[.agg #[.int .u64 0, .slice none 0 0], .int .u64 0, .int .i64 (chkB b xs.length lim)]) (by simp [results, Try.results26, go_sem, *]) rfl ⟨rfl, (by repeat' (first | exact Below.refl _ _ | assumption | (refine below_call (by assumption) ?_ (by first | omega | (simp <;> omega))) | (refine below_callB (by assumption) ?_ (by omega)) | (refine Below.setCell ?_ (by first | omega | (simp <;> omega)) _) | (refine Below.alloc ?_ (by first | omega | (simp <;> omega)) _) | (refine Below.drew ?_) | (refine below_drewN ?_ _)))⟩

theorem alloc_any (b : Int) (A : Option Addr) (xs : List UInt8) (c : Nat) (n lim : Int) (w : World) (hn : xs.length ≤ 9223372036854775807) (hr : Rd w w.heap.size A (bv xs)) :
    Calls Try.prog 26 #[.agg #[.int .u64 b, .slice A xs.length c], .int .i64 n, .int .i64 lim] w fun e w' => ∃ A' c', e = .returned (.tuple #[.agg #[.int .u64 (allocS b xs n lim).1.1.1, .slice A' (allocS b xs n lim).1.1.2.length c'], .int .u64 (allocS b xs n lim).1.2, .int .i64 (allocS b xs n lim).2]) ∧ Ow w' w.heap.size w'.heap.size 5 A' (allocS b xs n lim).1.1.2.length c' (bv (allocS b xs n lim).1.1.2) ∧ Below w.heap.size w w' := by
  unfold allocS
  by_cases h : allocE b xs.length n lim = 0
  · rw [if_pos h]
    exact alloc_ok b A xs c n lim w hr h
  · rw [if_neg h]
    refine (alloc_err b A xs c n lim w hn h).mono ?_
    rintro e w' ⟨rfl, hb⟩
    exact ⟨none, 0, rfl, Ow.nil_, hb⟩
end Go.Proofs.Ytbcjkdekppomgaa
