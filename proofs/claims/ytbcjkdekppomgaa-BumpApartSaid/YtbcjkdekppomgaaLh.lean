/- The walk of the law BumpApart. -/
import Derived.Test.YtbcjkdekppomgaaLb
import Derived.Test.YtbcjkdekppomgaaLe
import Derived.Test.YtbcjkdekppomgaaOp2
namespace Go.Proofs.Ytbcjkdekppomgaa
open Go.RowKit
set_option linter.unusedVariables false
set_option maxRecDepth 100000
set_option linter.unusedSimpArgs false
attribute [local go_sem ↓] Go.wp_at_zero Go.wp_at_succ

theorem iv_get {l : List Int} {k : Nat} (h : k < l.length) : (iv l)[k]? = some (.int .i64 l[k]) := by simp [iv, h]

theorem allocE_two {n : Nat} {z lim : Int} (hc : chkB 65536 n lim = 0) (hE : allocE 65536 n z lim ≠ 0) : (allocE 65536 n z lim = 2 ∧ (z < 0 ∨ 4096 < z)) ∨ allocE 65536 n z lim = 18 := by
  unfold allocE at hE ⊢; rw [if_pos hc] at hE ⊢; grind
theorem allocE_fits {n : Nat} {z lim : Int} (hc : chkB 65536 n lim = 0) (hE : allocE 65536 n z lim = 0) : 0 ≤ z ∧ z ≤ 4096 ∧ (n : Int) + sizeI z ≤ lim := by
  unfold allocE at hE; rw [if_pos hc] at hE; grind
theorem grown_zero {xs : List UInt8} {z : Int} {k : Nat} (h : xs.length ≤ k) (h2 : k < (grown xs z).length) : (grown xs z)[k] = 0 := by
  simp only [grown] at h2 ⊢
  rw [List.getElem_append_right h]
  simp

set_option maxHeartbeats 6400000 in
theorem bumpApart_walk (Z : Option Addr) (zs : List Int) (cz : Nat) (lim : Int) (w : World) (hrz : Rd w w.heap.size Z (iv zs)) (hzs : ∀ z ∈ zs, -9223372036854775808 ≤ z ∧ z ≤ 9223372036854775807) (hlz : zs.length ≤ 9223372036854775807) :
    Calls Try.prog 10 #[.slice Z zs.length cz, .int .i64 lim] w fun e w' => e = .returned (.bool true) ∧ Below w.heap.size w w' := by
  by_cases hgo : zs.length ≤ 30 ∧ 0 ≤ lim ∧ lim ≤ 16384
  · obtain ⟨hl30, hl0, hl1⟩ := hgo
    go_enter Try.func10, Try.ntmps10
    go_wp2_with fail; refine (alive14_walk _).mono ?_; rintro e w1 ⟨rfl, hb1⟩; obtain ⟨hc1, hf1⟩ := bcell hb1; have hs1 := hb1.size; (try simp at hs1)
    go_wp2_with fail; refine (bnew_any _).mono ?_; rintro e w2 ⟨rfl, hb2⟩; obtain ⟨hc2, hf2⟩ := bcell hb2; have hs2 := hb2.size; (try simp at hs2)
    go_wp2
    go_loopw [7, 8] (fun s i wr => ∃ (j : Nat) (A6 : Option Addr) (c6 : Nat) (xs : List UInt8) (en : Int), j ≤ zs.length ∧ i = .int .i64 j ∧ s = .int .u64 en ∧ 0 ≤ en ∧ en ≤ 65536 + xs.length ∧ xs.length % 8 = 0 ∧ (xs.length : Int) ≤ lim ∧ Bk wr w2.heap.size 25 #[.int .u64 65536, .slice A6 xs.length c6] ∧ Ow wr (w2.heap.size + 1) wr.heap.size 5 A6 xs.length c6 (bv xs) ∧ Below w.heap.size w wr) (fun _ i _ => zs.length - (intOf i).toNat)
    case atStart => exact ⟨0, none, 0, [], 65536, Nat.zero_le _, rfl, rfl, by omega, by simp, by simp, by simpa using hl0, Bk.new _ _ _, Ow.nil_, (by repeat' (first | exact Below.refl _ _ | assumption | (refine below_call (by assumption) ?_ (by first | omega | (simp <;> omega))) | (refine below_callB (by assumption) ?_ (by omega)) | (refine Below.setCell ?_ (by first | omega | (simp <;> omega)) _) | (refine Below.alloc ?_ (by first | omega | (simp <;> omega)) _) | (refine Below.drew ?_) | (refine below_drewN ?_ _)))⟩
    case round =>
      rename World => wo
      obtain ⟨j, A6, c6, xs, en, hj, rfl, rfl, hen0, hen1, h8, hxl, hbk, how, hbel⟩ := hrel
      have hk0 := hbk.cell 0
      have hk1 := hbk.cell 1
      have hg6 := hbk.lt
      simp at hk0 hk1
      have hsz := hbel.size
      have hs6 : w.heap.size ≤ w2.heap.size := by omega
      by_cases hlt : j < zs.length
      · obtain ⟨zb, zo, rfl, hzb, hzc⟩ := (hrz.below hbel).at_ (iv_get hlt)
        obtain ⟨hz0, hz1⟩ := hzs _ (List.getElem_mem hlt)
        generalize zs[j] = z at *
        have hi0 : (0 : Int) ≤ (j : Int) := by omega
        have hi1 : (j : Int) < (zs.length : Int) := by omega
        have hzw : zb < wo.heap.size := by omega
        clear hc1 hf1 hc2 hf2
        go_wp2
        generalize hal : allocS 65536 xs z lim = al
        go_cut [9, 10, 11] (fun s9 s10 s11 wx => ∃ g9 A9 c9, s9 = .pointer (some ⟨g9, 0, none⟩) ∧ s10 = .int .u64 al.1.2 ∧ s11 = .int .i64 al.2 ∧ w2.heap.size < g9 ∧ Bk wx g9 25 #[.int .u64 al.1.1.1, .slice A9 al.1.1.2.length c9] ∧ Ow wx (w2.heap.size + 1) wx.heap.size 5 A9 al.1.1.2.length c9 (bv al.1.1.2) ∧ (∀ k, (Value.slice A9 al.1.1.2.length c9).ownBlock = some k → k ≠ g9) ∧ Bk wx w2.heap.size 25 #[.int .u64 65536, .slice A6 xs.length c6] ∧ Ow wx (w2.heap.size + 1) wo.heap.size 5 A6 xs.length c6 (bv xs) ∧ Below w.heap.size w wx ∧ Below wo.heap.size wo wx)
        case first =>
          have hne1 : w2.heap.size ≠ zb := by omega
          have hne2 : zb ≠ wo.heap.size := by omega
          have hne3 : w2.heap.size ≠ wo.heap.size := by omega
          have hne4 : wo.heap.size ≠ zb := by omega
          have hne5 : wo.heap.size ≠ w2.heap.size := by omega
          go_region_held3 (fun w' => w'.cell? ⟨w2.heap.size, 0, none⟩ = some (.int .u64 65536) ∧ w'.cell? ⟨w2.heap.size, 1, none⟩ = some (.slice A6 xs.length c6) ∧ w'.cell? ⟨zb, zo + j, none⟩ = some (.int .i64 z)) (go_keep)
            ((go_at_call 26; refine (alloc_any 65536 A6 xs c6 z lim _ (by omega) (by apply Rd.more; (repeat' (first | (show Rd _ _ _ _; with_reducible assumption) | (with_reducible apply Ow.rd; (show Ow _ _ _ _ _ _ _ _; with_reducible assumption)) | with_reducible exact Rd.nil_ | with_reducible apply Rd.alloc | with_reducible apply Rd.drew | with_reducible apply Rd.drewN | with_reducible apply Rd.setCell | (with_reducible apply Rd.call; (show Below _ _ _; with_reducible assumption)))); all_goals (first | omega | (simp <;> omega)))).mono ?_; rw [hal]; rintro e w3 ⟨A3, c3, rfl, ho3, hb3⟩; obtain ⟨hc3, hf3⟩ := bcell hb3; have hs3 := hb3.size; (try simp at hs3); have hne6 : w3.heap.size ≠ w2.heap.size := (by omega); have hne7 : w3.heap.size ≠ zb := (by omega); have q0 : w3.cell? ⟨w2.heap.size, 0, none⟩ = some (.int .u64 65536) := (by rw [hc3 _ _ (by first | omega | (simp <;> omega))]; go_simp); have q1 : w3.cell? ⟨w2.heap.size, 1, none⟩ = some (.slice A6 xs.length c6) := (by rw [hc3 _ _ (by first | omega | (simp <;> omega))]; go_simp); have q2 : w3.cell? ⟨zb, zo + j, none⟩ = some (.int .i64 z) := (by rw [hc3 _ _ (by first | omega | (simp <;> omega))]; go_simp); skip))
          all_goals (go_wp2_with fail; go_meet)
          · exact ⟨_, A3, c3, rfl, rfl, rfl, by omega, Bk.new _ _ _, (by apply Ow.mono; (repeat' (first | (show Ow _ _ _ _ _ _ _ _; with_reducible assumption) | with_reducible exact Ow.nil_ | (with_reducible apply Ow.of_own'; (show World.ownsRow _ _ _ _ _ _ _; with_reducible assumption)) | with_reducible apply Ow.alloc | with_reducible apply Ow.drew | with_reducible apply Ow.drewN | with_reducible apply Ow.set | (with_reducible apply Ow.call; (show Below _ _ _; with_reducible assumption)))); all_goals (first | omega | (simp <;> omega))), fun k hk => by have := ho3.2 k hk; omega, (hbk.drew.below hb3 (by simp; omega)).alloc _, (by apply Ow.mono; (repeat' (first | (show Ow _ _ _ _ _ _ _ _; with_reducible assumption) | with_reducible exact Ow.nil_ | (with_reducible apply Ow.of_own'; (show World.ownsRow _ _ _ _ _ _ _; with_reducible assumption)) | with_reducible apply Ow.alloc | with_reducible apply Ow.drew | with_reducible apply Ow.drewN | with_reducible apply Ow.set | (with_reducible apply Ow.call; (show Below _ _ _; with_reducible assumption)))); all_goals (first | omega | (simp <;> omega))), (by repeat' (first | exact Below.refl _ _ | assumption | (refine below_call (by assumption) ?_ (by first | omega | (simp <;> omega))) | (refine below_callB (by assumption) ?_ (by omega)) | (refine Below.setCell ?_ (by first | omega | (simp <;> omega)) _) | (refine Below.alloc ?_ (by first | omega | (simp <;> omega)) _) | (refine Below.drew ?_) | (refine below_drewN ?_ _))), (by repeat' (first | exact Below.refl _ _ | assumption | (refine below_call (by assumption) ?_ (by first | omega | (simp <;> omega))) | (refine below_callB (by assumption) ?_ (by omega)) | (refine Below.setCell ?_ (by first | omega | (simp <;> omega)) _) | (refine Below.alloc ?_ (by first | omega | (simp <;> omega)) _) | (refine Below.drew ?_) | (refine below_drewN ?_ _)))⟩
          · refine ⟨_, A3, c3, rfl, rfl, rfl, by omega, (((Bk.new wo _ _).drew.below hb3 (by simp)).set_ 0 _).set_ 1 _, (by apply Ow.mono; (repeat' (first | (show Ow _ _ _ _ _ _ _ _; with_reducible assumption) | with_reducible exact Ow.nil_ | (with_reducible apply Ow.of_own'; (show World.ownsRow _ _ _ _ _ _ _; with_reducible assumption)) | with_reducible apply Ow.alloc | with_reducible apply Ow.drew | with_reducible apply Ow.drewN | with_reducible apply Ow.set | (with_reducible apply Ow.call; (show Below _ _ _; with_reducible assumption)))); all_goals (first | omega | (simp <;> omega))), fun k hk => ?_, ((((hbk.alloc _).drew.below hb3 (by simp; omega)).far (by simp; omega) _).far (by simp; omega) _), (by apply Ow.mono; (repeat' (first | (show Ow _ _ _ _ _ _ _ _; with_reducible assumption) | with_reducible exact Ow.nil_ | (with_reducible apply Ow.of_own'; (show World.ownsRow _ _ _ _ _ _ _; with_reducible assumption)) | with_reducible apply Ow.alloc | with_reducible apply Ow.drew | with_reducible apply Ow.drewN | with_reducible apply Ow.set | (with_reducible apply Ow.call; (show Below _ _ _; with_reducible assumption)))); all_goals (first | omega | (simp <;> omega))), (by repeat' (first | exact Below.refl _ _ | assumption | (refine below_call (by assumption) ?_ (by first | omega | (simp <;> omega))) | (refine below_callB (by assumption) ?_ (by omega)) | (refine Below.setCell ?_ (by first | omega | (simp <;> omega)) _) | (refine Below.alloc ?_ (by first | omega | (simp <;> omega)) _) | (refine Below.drew ?_) | (refine below_drewN ?_ _))), (by repeat' (first | exact Below.refl _ _ | assumption | (refine below_call (by assumption) ?_ (by first | omega | (simp <;> omega))) | (refine below_callB (by assumption) ?_ (by omega)) | (refine Below.setCell ?_ (by first | omega | (simp <;> omega)) _) | (refine Below.alloc ?_ (by first | omega | (simp <;> omega)) _) | (refine Below.drew ?_) | (refine below_drewN ?_ _)))⟩
            have := (ho3.1.lt k hk).1
            simp at this
            omega
        case rest =>
          obtain ⟨g9, A9, c9, rfl, rfl, rfl, hg9, hbk9, how9, hne9, hbk6, how6, hbelx, hbelo⟩ := hcut
          have hzcx : wc.cell? ⟨zb, zo + j, none⟩ = some (.int .i64 z) := (hbelo.cell (p := ⟨zb, zo + j, none⟩) hzw).trans hzc
          have hso := hbelo.size
          have hg9l := hbk9.lt
          have hg6l := hbk6.lt
          have hq0 := hbk9.cell 0
          have hq1 := hbk9.cell 1
          have hp0 := hbk6.cell 0
          have hp1 := hbk6.cell 1
          simp at hq0 hq1 hp0 hp1
          have hchk : chkB 65536 xs.length lim = 0 := by unfold chkB; rw [if_pos ⟨rfl, h8, by omega⟩, if_pos ⟨hl0, hl1⟩]
          by_cases hE : allocE 65536 xs.length z lim = 0
          · obtain ⟨hz2, hz3, hfit⟩ := allocE_fits hchk hE
            have hale : al = (((65536, grown xs z), 65536 + (xs.length : Int)), 0) := by rw [← hal]; unfold allocS; rw [if_pos hE]
            clear hal hE hchk
            subst hale
            obtain ⟨hs1', hs2', hs3'⟩ := sizeI_ge z
            obtain ⟨N, hN⟩ : ∃ N, (grown xs z).length = N := ⟨_, rfl⟩
            have hN2 : (N : Int) = xs.length + sizeI z := by rw [← hN]; simp [grown]; omega
            have HT := Lib.hid (show (grown xs z).take xs.length = xs by simp [grown])
            have HZ := Lib.hid (fun k h h2 => grown_zero (xs := xs) (z := z) (k := k) h h2)
            have HN := Lib.hid hN
            simp only [hN] at hbk9 how9 hne9 hq1
            have hq0' : wc.cell? ⟨g9, 0, none⟩ = some (.int .u64 65536) := hq0
            clear hN hq0
            generalize grown xs z = ys at *
            generalize sizeI z = sz at *
            have hhas : hasS 65536 N (65536 + xs.length) z = (true, 0) := by
              have h1 : chkR 65536 N = 0 := chkB_R (by omega)
              unfold hasS; rw [if_pos h1, if_neg (by omega), inb_iff.2 ⟨by omega, by omega⟩]
            have HH := Lib.hid hhas
            clear hhas
            have hgx1 : g9 ≠ zb := by omega
            have hgx2 : zb ≠ g9 := by omega
            have hgx3 : g9 ≠ w2.heap.size := by omega
            have hgx4 : w2.heap.size ≠ g9 := by omega
            have hgx5 : zb ≠ w2.heap.size := by omega
            have hgx6 : w2.heap.size ≠ zb := by omega
            have hzl : zb < wc.heap.size := by omega
            go_wp2
            go_region_held3 (fun w' => w'.cell? ⟨g9, 0, none⟩ = some (.int .u64 65536) ∧ w'.cell? ⟨g9, 1, none⟩ = some (.slice A9 N c9) ∧ w'.cell? ⟨zb, zo + j, none⟩ = some (.int .i64 z)) (go_keep)
              ((go_at_call 45; refine (has_any 65536 A9 N c9 (65536 + xs.length) z _ (by omega) (by omega) (by omega) (by omega) (by omega) hz0 hz1).mono ?_; rw [HH.out]; rintro e w5 ⟨rfl, hb5⟩; obtain ⟨hc5, hf5⟩ := bcell hb5; have hs5 := hb5.size; (try simp at hs5); have r0 : w5.cell? ⟨g9, 0, none⟩ = some (.int .u64 65536) := (hc5 _ _ hg9l).trans hq0'; have r1 : w5.cell? ⟨g9, 1, none⟩ = some (.slice A9 N c9) := (hc5 _ _ hg9l).trans hq1; have r2 : w5.cell? ⟨zb, zo + j, none⟩ = some (.int .i64 z) := (hc5 _ _ hzl).trans hzcx; have r3 : w5.cell? ⟨w2.heap.size, 0, none⟩ = some (.int .u64 65536) := (hc5 _ _ hg6l).trans hp0; have r4 : w5.cell? ⟨w2.heap.size, 1, none⟩ = some (.slice A6 xs.length c6) := (hc5 _ _ hg6l).trans hp1; have hbk95 := hbk9.drew.below hb5 hg9l; have hbk65 := hbk6.drew.below hb5 hg6l; have how95 := Ow.call hb5 how9.drew (Nat.le_refl _); have how65 := Ow.call hb5 how6.drew hso; clear hc5 hf5))
            have hw1 : IntKind.i64.wrap ((xs.length : Int) + 8) = (xs.length : Int) + 8 := IntWalk.i64_in _ (by omega)
            have hm8 : ((65536 + (xs.length : Int)) % 8 != 0) = false := by simp; omega
            have hrt : Rd w5 wc.heap.size A9 (bv xs) := by
              have h9 := (how95.rd).take xs.length
              have h10 : (bv ys).take xs.length = bv xs := by rw [bv, ← List.map_take, HT.out]; rfl
              rw [h10] at h9
              exact h9
            have hst1 := fun n => run_string_rd (P := Try.prog) (w5.drewN n) 23 9 5 Try.underlying23 Try.underlying5 Try.underlying9 _ A9 xs c9 (hrt.drewN n)
            have hst2 := fun n => run_string_rd (P := Try.prog) (w5.drewN n) 23 9 5 Try.underlying23 Try.underlying5 Try.underlying9 _ A6 xs c6 (how65.rd.drewN n)
            obtain ⟨hcp1, hcp2, hcp3⟩ := how9.cap
            have hsl0 : (xs.length : Int) ≤ (c9 : Int) := by omega
            have hsl1 : (0 : Int) ≤ (xs.length : Int) := by omega
            have hsl2 : xs.length ≤ c9 := by omega
            have hc90 : ¬ c9 = 0 := by omega
            clear hcp1
            go_wp2
            go_quiet (fail)
            clear hst1 hst2
            go_wp2_with fail
            have t0 : (w5.drewN nq).cell? ⟨g9, 0, none⟩ = some (.int .u64 65536) := r0
            have t1 : (w5.drewN nq).cell? ⟨g9, 1, none⟩ = some (.slice A9 N c9) := r1
            have t2 : (w5.drewN nq).cell? ⟨zb, zo + j, none⟩ = some (.int .i64 z) := r2
            have hbk96 : Bk (w5.drewN nq) g9 25 #[.int .u64 65536, .slice A9 N c9] := hbk95
            have hbk66 : Bk (w5.drewN nq) w2.heap.size 25 #[.int .u64 65536, .slice A6 xs.length c6] := hbk65
            have how96 : Ow (w5.drewN nq) (w2.heap.size + 1) wc.heap.size 5 A9 N c9 (bv ys) := how95
            have hbw : Below w.heap.size w (w5.drewN nq) := (by repeat' (first | exact Below.refl _ _ | assumption | (refine below_call (by assumption) ?_ (by first | omega | (simp <;> omega))) | (refine below_callB (by assumption) ?_ (by omega)) | (refine Below.setCell ?_ (by first | omega | (simp <;> omega)) _) | (refine Below.alloc ?_ (by first | omega | (simp <;> omega)) _) | (refine Below.drew ?_) | (refine below_drewN ?_ _)))
            have hs6' : w5.heap.size = (w5.drewN nq).heap.size := rfl
            generalize w5.drewN nq = w6 at *
            clear r0 r1 r2 r3 r4 hbk95 hbk65 how95 how65 hrt hp0 hp1 hq1 hq0' hzcx hk0 hk1 hzc hb5
            go_loop [14] (fun t => ∃ k : Nat, xs.length ≤ k ∧ k ≤ N ∧ t = .int .i64 k) (fun t => N - (intOf t).toNat)
            case atStart => exact ⟨xs.length, Nat.le_refl _, by omega, rfl⟩
            case round =>
              obtain ⟨k, hk1, hk2, rfl⟩ := hrel
              by_cases hkN : k < N
              · have hky : k < ys.length := by rw [HN.out]; exact hkN
                have hyk : (bv ys)[k]? = some (.int .u8 0) := by rw [bv_get hky, HZ.out k hk1 hky]; rfl
                obtain ⟨ab, ao, rfl, hab, hcell⟩ := how96.rd.at_ hyk
                have hi2 : (0 : Int) ≤ (k : Int) := by omega
                have hi3 : (k : Int) < (N : Int) := by omega
                clear hyk
                go_wp2
                go_round
                case rel => exact ⟨k + 1, by omega, by omega, by go_num⟩
                case measure => simp [intOf] <;> omega
              · obtain rfl : k = N := by omega
                clear HZ HT
                by_cases hzp : 0 < z
                · have hst : storeS 65536 ys (65536 + xs.length) 1 (j + 1) = ((65536, put ys xs.length (toLE 1 (j + 1))), 0) := by
                    have h1 : storeE 65536 ys.length (65536 + xs.length) 1 (j + 1) = 0 := by
                      unfold storeE; rw [HN.out, if_pos (chkB_R (by omega)), if_pos (.inl ⟨rfl, by omega⟩), inb_iff.2 ⟨by omega, by omega⟩]; rfl
                    unfold storeS; rw [if_pos h1, show ((65536 : Int) + xs.length - 65536).toNat = xs.length from by omega]; rfl
                  have hlp : (put ys xs.length (toLE 1 (j + 1))).length = k := by rw [put_length (by rw [toLE_length, HN.out]; omega), HN.out]
                  have HST := Lib.hid hst
                  have HLP := Lib.hid hlp
                  clear hst hlp
                  generalize put ys xs.length (toLE 1 ((j : Int) + 1)) = ys2 at *
                  have e1 : IntKind.u64.wrap (j : Int) = (j : Int) := IntWalk.u64_in _ (by omega)
                  have e2 : IntKind.u64.wrap ((j : Int) + 1) = (j : Int) + 1 := IntWalk.u64_in _ (by omega)
                  go_wp2_with fail
                  refine (store_to A9 c9 _ HST.out HN.out HLP.out (by omega) (by omega) (by omega) (how96.rd.more (by omega)) (by omega) (by omega) (by omega) (by omega) (by omega) (by omega)).mono ?_
                  rintro e w7 ⟨A7, c7, rfl, ho7, hb7⟩
                  have hs7 := hb7.size
                  have hbk97 := hbk96.below hb7 (by omega)
                  have hbk67 := hbk66.below hb7 (by omega)
                  have u0 := hbk97.cell 0
                  have u1 := hbk97.cell 1
                  have u2 : w7.cell? ⟨zb, zo + j, none⟩ = some (.int .i64 z) := (hb7.cell (p := ⟨zb, zo + j, none⟩) (by show zb < _; omega)).trans t2
                  have uf0 := hbk97.frozen 0
                  have uf1 := hbk97.frozen 1
                  simp at u0 u1
                  have p0 := hbk67.cell 0
                  have p1 := hbk67.cell 1
                  have pf0 := hbk67.frozen 0
                  have pf1 := hbk67.frozen 1
                  simp at p0 p1
                  have hmx : (if z < 1 then 1 else z) = z := by rw [if_neg (by omega)]
                  have HMX := Lib.hid hmx
                  have HE3 := Lib.hid (show IntKind.u64.wrap z = z from IntWalk.u64_in _ (by omega))
                  have HE4 := Lib.hid (show IntKind.u64.wrap (65536 + (xs.length : Int) + z) = 65536 + (xs.length : Int) + z from IntWalk.u64_in _ (by omega))
                  have hi2 : (0 : Int) ≤ (j : Int) := by omega
                  clear hmx
                  go_wp2_with fail
                  have hbk98 := (hbk97.set_ 0 (.int .u64 65536)).set_ 1 (.slice A7 k c7)
                  have hbk68 := (hbk67.far (p := ⟨g9, 0, none⟩) hgx4 (.int .u64 65536)).far (p := ⟨g9, 1, none⟩) hgx4 (.slice A7 k c7)
                  have how98 : Ow ((w7.setCell ⟨g9, 0, none⟩ (.int .u64 65536)).setCell ⟨g9, 1, none⟩ (.slice A7 k c7)) (w2.heap.size + 1) ((w7.setCell ⟨g9, 0, none⟩ (.int .u64 65536)).setCell ⟨g9, 1, none⟩ (.slice A7 k c7)).heap.size 5 A7 k c7 (bv ys2) := (by apply Ow.mono; (repeat' (first | (show Ow _ _ _ _ _ _ _ _; with_reducible assumption) | with_reducible exact Ow.nil_ | (with_reducible apply Ow.of_own'; (show World.ownsRow _ _ _ _ _ _ _; with_reducible assumption)) | with_reducible apply Ow.alloc | with_reducible apply Ow.drew | with_reducible apply Ow.drewN | with_reducible apply Ow.set | (with_reducible apply Ow.call; (show Below _ _ _; with_reducible assumption)))); all_goals (first | omega | (simp <;> omega)))
                  have hbw8 : Below w.heap.size w ((w7.setCell ⟨g9, 0, none⟩ (.int .u64 65536)).setCell ⟨g9, 1, none⟩ (.slice A7 k c7)) := (by repeat' (first | exact Below.refl _ _ | assumption | (refine below_call (by assumption) ?_ (by first | omega | (simp <;> omega))) | (refine below_callB (by assumption) ?_ (by omega)) | (refine Below.setCell ?_ (by first | omega | (simp <;> omega)) _) | (refine Below.alloc ?_ (by first | omega | (simp <;> omega)) _) | (refine Below.drew ?_) | (refine below_drewN ?_ _)))
                  have v2 : ((w7.setCell ⟨g9, 0, none⟩ (.int .u64 65536)).setCell ⟨g9, 1, none⟩ (.slice A7 k c7)).cell? ⟨zb, zo + j, none⟩ = some (.int .i64 z) := by go_simp
                  have hs8 : w7.heap.size = ((w7.setCell ⟨g9, 0, none⟩ (.int .u64 65536)).setCell ⟨g9, 1, none⟩ (.slice A7 k c7)).heap.size := by simp
                  generalize (w7.setCell ⟨g9, 0, none⟩ (.int .u64 65536)).setCell ⟨g9, 1, none⟩ (.slice A7 k c7) = w8 at *
                  have v0 := hbk98.cell 0
                  have v1 := hbk98.cell 1
                  have q0 := hbk68.cell 0
                  have q1 := hbk68.cell 1
                  have qf0 := hbk68.frozen 0
                  have qf1 := hbk68.frozen 1
                  simp at v0 v1 q0 q1
                  clear u0 u1 u2 uf0 uf1 p0 p1 pf0 pf1
                  go_region_held3 (fun w' => w'.cell? ⟨g9, 0, none⟩ = some (.int .u64 65536) ∧ w'.cell? ⟨g9, 1, none⟩ = some (.slice A7 k c7) ∧ w'.cell? ⟨zb, zo + j, none⟩ = some (.int .i64 z)) (first | exact ⟨v0, v1, v2⟩ | go_keep) (fail)
                  all_goals
                    go_wp2
                    go_roundw
                    case rel =>
                      refine ⟨j + 1, A7, c7, ys2, 65536 + xs.length + z, by omega, by go_num, by rw [HMX.out, HE3.out, HE4.out], by omega, by rw [HLP.out]; omega, by rw [HLP.out]; omega, by rw [HLP.out]; omega, ?_, ?_, (by repeat' (first | exact Below.refl _ _ | assumption | (refine below_call (by assumption) ?_ (by first | omega | (simp <;> omega))) | (refine below_callB (by assumption) ?_ (by omega)) | (refine Below.setCell ?_ (by first | omega | (simp <;> omega)) _) | (refine Below.alloc ?_ (by first | omega | (simp <;> omega)) _) | (refine Below.drew ?_) | (refine below_drewN ?_ _)))⟩
                      · rw [HLP.out]; exact ((hbk68.set_ 0 _).set_ 1 _).drew
                      · rw [HLP.out]; exact (by apply Ow.mono; (repeat' (first | (show Ow _ _ _ _ _ _ _ _; with_reducible assumption) | with_reducible exact Ow.nil_ | (with_reducible apply Ow.of_own'; (show World.ownsRow _ _ _ _ _ _ _; with_reducible assumption)) | with_reducible apply Ow.alloc | with_reducible apply Ow.drew | with_reducible apply Ow.drewN | with_reducible apply Ow.set | (with_reducible apply Ow.call; (show Below _ _ _; with_reducible assumption)))); all_goals (first | omega | (simp <;> omega)))
                    case measure => simp [intOf] <;> omega
                · have hz00 : z ≤ 0 := by omega
                  have p0 := hbk66.cell 0
                  have p1 := hbk66.cell 1
                  have pf0 := hbk66.frozen 0
                  have pf1 := hbk66.frozen 1
                  simp at p0 p1
                  have HMX := Lib.hid (show (if z < 1 then 1 else z) = 1 by rw [if_pos (by omega)])
                  have HE3 := Lib.hid (show IntKind.u64.wrap 1 = 1 from rfl)
                  have HE4 := Lib.hid (show IntKind.u64.wrap (65536 + (xs.length : Int) + 1) = 65536 + (xs.length : Int) + 1 from IntWalk.u64_in _ (by omega))
                  go_wp2_with fail
                  go_region_held3 (fun w' => w'.cell? ⟨g9, 0, none⟩ = some (.int .u64 65536) ∧ w'.cell? ⟨g9, 1, none⟩ = some (.slice A9 k c9) ∧ w'.cell? ⟨zb, zo + j, none⟩ = some (.int .i64 z)) (first | exact ⟨t0, t1, t2⟩ | go_keep) (fail)
                  all_goals
                    go_wp2
                    go_roundw
                    case rel =>
                      refine ⟨j + 1, A9, c9, ys, 65536 + xs.length + 1, by omega, by go_num, by rw [HMX.out, HE3.out, HE4.out], by omega, by rw [HN.out]; omega, by rw [HN.out]; omega, by rw [HN.out]; omega, ?_, ?_, (by repeat' (first | exact Below.refl _ _ | assumption | (refine below_call (by assumption) ?_ (by first | omega | (simp <;> omega))) | (refine below_callB (by assumption) ?_ (by omega)) | (refine Below.setCell ?_ (by first | omega | (simp <;> omega)) _) | (refine Below.alloc ?_ (by first | omega | (simp <;> omega)) _) | (refine Below.drew ?_) | (refine below_drewN ?_ _)))⟩
                      · rw [HN.out]; exact ((hbk66.set_ 0 _).set_ 1 _).drew
                      · rw [HN.out]; exact (by apply Ow.mono; (repeat' (first | (show Ow _ _ _ _ _ _ _ _; with_reducible assumption) | with_reducible exact Ow.nil_ | (with_reducible apply Ow.of_own'; (show World.ownsRow _ _ _ _ _ _ _; with_reducible assumption)) | with_reducible apply Ow.alloc | with_reducible apply Ow.drew | with_reducible apply Ow.drewN | with_reducible apply Ow.set | (with_reducible apply Ow.call; (show Below _ _ _; with_reducible assumption)))); all_goals (first | omega | (simp <;> omega)))
                    case measure => simp [intOf] <;> omega
          · have hale : al = (((0, []), 0), allocE 65536 xs.length z lim) := by rw [← hal]; unfold allocS; rw [if_neg hE]
            have hcase := allocE_two hchk hE
            clear hal hE hchk
            rcases hcase with ⟨h2, h3⟩ | h2
            · rw [h2] at hale
              subst hale
              rcases h3 with h3 | h3
              all_goals
                go_wp2
                go_roundw
                case rel => exact ⟨j + 1, A6, c6, xs, en, by omega, by go_num, rfl, hen0, hen1, h8, hxl, hbk6, how6.mono (Nat.le_refl _) (by omega), hbelx⟩
                case measure => simp [intOf] <;> omega
            · rw [h2] at hale
              subst hale
              go_wp2
              go_roundw
              case rel => exact ⟨j + 1, A6, c6, xs, en, by omega, by go_num, rfl, hen0, hen1, h8, hxl, hbk6, how6.mono (Nat.le_refl _) (by omega), hbelx⟩
              case measure => simp [intOf] <;> omega
      · obtain rfl : j = zs.length := by omega
        go_wp2
        go_ret
        exact ⟨rfl, hbel⟩
  · have hgo' : 30 < zs.length ∨ (zs.length ≤ 30 ∧ lim < 0) ∨ (zs.length ≤ 30 ∧ 0 ≤ lim ∧ 16384 < lim) := by omega
    clear hgo
    rcases hgo' with h1 | ⟨h1, h2⟩ | ⟨h1, h2, h3⟩
    all_goals
      go_enter Try.func10, Try.ntmps10
      go_wp2_with fail; refine (alive14_walk _).mono ?_; rintro e w1 ⟨rfl, hb1⟩; obtain ⟨hc1, hf1⟩ := bcell hb1; have hs1 := hb1.size; (try simp at hs1)
      go_wp2
      go_ret
      exact ⟨rfl, (by repeat' (first | exact Below.refl _ _ | assumption | (refine below_call (by assumption) ?_ (by first | omega | (simp <;> omega))) | (refine below_callB (by assumption) ?_ (by omega)) | (refine Below.setCell ?_ (by first | omega | (simp <;> omega)) _) | (refine Below.alloc ?_ (by first | omega | (simp <;> omega)) _) | (refine Below.drew ?_) | (refine below_drewN ?_ _)))⟩
end Go.Proofs.Ytbcjkdekppomgaa
