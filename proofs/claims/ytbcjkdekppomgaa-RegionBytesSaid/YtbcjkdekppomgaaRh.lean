/- Contracts of the reference 13: Resize. -/
import Derived.Test.YtbcjkdekppomgaaRg
import Derived.Test.YtbcjkdekppomgaaRc
namespace Go.Proofs.Ytbcjkdekppomgaa
open Go.RowKit
set_option linter.unusedVariables false
set_option maxRecDepth 100000
set_option linter.unusedSimpArgs false
attribute [local go_sem ↓] Go.wp_at_zero Go.wp_at_succ

theorem resized_zero (xs : List UInt8) (k : Nat) : put (List.replicate k (0 : UInt8)) 0 (xs.take k) = resized xs k := by
  unfold put resized; simp; omega

set_option maxHeartbeats 1600000 in
theorem rresize_any (b : Int) (A : Option Addr) (xs : List UInt8) (c : Nat) (k : Int) (w : World) (h0 : 0 ≤ b) (h1 : b < 18446744073709551616) (hn : xs.length ≤ 9223372036854775807) (hr : Rd w w.heap.size A (bv xs)) (hk0 : -9223372036854775808 ≤ k) (hk1 : k ≤ 9223372036854775807) :
    Calls Try.prog 42 #[.agg #[.int .u64 b, .slice A xs.length c], .int .i64 k] w fun e w' => ∃ A' c', e = .returned (.tuple #[.agg #[.int .u64 (resizeS b xs k).1.1, .slice A' (resizeS b xs k).1.2.length c'], .int .i64 (resizeS b xs k).2]) ∧ Ow w' w.heap.size w'.heap.size 5 A' (resizeS b xs k).1.2.length c' (bv (resizeS b xs k).1.2) ∧ Below w.heap.size w w' := by
  unfold resizeS
  rcases chkR_cases b xs.length with h | h
  · rw [if_pos h]
    have h20 := (chkR_ok h).2.2.2
    have H := Lib.hid h; clear h
    by_cases hk : 0 ≤ k ∧ k ≤ 20000
    · rw [if_pos hk]
      obtain ⟨hk2, hk3⟩ := hk
      obtain ⟨kn, rfl⟩ : ∃ kn : Nat, k = kn := ⟨k.toNat, by omega⟩
      have hl : (resized xs kn).length = kn := by unfold resized; simp; omega
      have HL := Lib.hid hl; clear hl
      simp only [Int.toNat_natCast, HL.out]
      obtain ⟨i0, hi0, hz0, hz1, hz2⟩ := info_parts Try.u8info
      have hmk := fun wx => run_make_full (P := Try.prog) wx wx.heap.size 23 5 i0 _ 1 Try.underlying23 hi0 hz0 hz1 .i64 .i64 kn (by rw [hz2]; omega) (by unfold maxLen; omega) (Nat.le_refl _)
      have HM := Lib.hid hmk; clear hmk
      go_enter Try.func42, Try.ntmps42
      go_wp2_with (go_at_call 52; refine (rcheck_any _ _ _ _ _ h0 h1 hn).mono ?_; rintro e w1 ⟨rfl, hb1⟩; rw [H.out]; obtain ⟨hc1, hf1⟩ := bcell hb1; have hs1 := hb1.size; (try simp at hs1); have hz1_0 : w.heap.size < w1.heap.size := (by omega); have hz1_1 : w.heap.size + 1 < w1.heap.size := (by omega))
      go_cut [6, 7] (fun p s7 wx => ∃ ob g, p = .pointer (some ⟨ob, 0, none⟩) ∧ w.heap.size + 2 ≤ ob ∧ w.heap.size + 2 ≤ g ∧ g ≠ ob ∧ Bk wx ob 25 #[.int .u64 b, .slice (some ⟨g, 0, none⟩) kn kn] ∧ wx.ownsRow g 5 1 (.slice (some ⟨g, 0, none⟩) kn kn) kn (bv (List.replicate kn 0)) ∧ Below (w.heap.size + 2) w1 wx)
      case first =>
        obtain ⟨w2, hrun2, hown2, hg2⟩ := HM.out w1.drew
        obtain ⟨w3, hrun3, hown3, hg3⟩ := HM.out (w1.alloc (.cells #[.int .u64 0, .slice none 0 0] 25)).drew
        have hb2 := below_grown_none hg2
        have hb3 := below_grown_none hg3
        obtain ⟨hc2, hf2⟩ := bcell hb2
        obtain ⟨hc3, hf3⟩ := bcell hb3
        have hs2 := hb2.size
        have hs3 := hb3.size
        have hcells : (madeCells (Value.int .u8 0).cells (kn * 1)).toList = bv (List.replicate kn 0) := by rw [Nat.mul_one]; exact made_zero kn
        rw [hcells] at hown2 hown3
        simp at hs2 hrun2 hs3 hrun3 hown2 hown3
        clear hcells
        have k10 : w1.cell? ⟨w.heap.size, 0, none⟩ = some (.int .u64 b) := by go_simp
        have k20 : w2.cell? ⟨w.heap.size, 0, none⟩ = some (.int .u64 b) := by rw [hc2 _ _ (by simp; omega)]; exact k10
        have k25 : (w1.alloc (.cells #[.int .u64 0, .slice none 0 0] 25)).cell? ⟨w.heap.size, 0, none⟩ = some (.int .u64 b) := (World.cell?_alloc_lt w1 _ _ (by simp; omega)).trans k10
        have k30 : w3.cell? ⟨w.heap.size, 0, none⟩ = some (.int .u64 b) := by rw [hc3 _ _ (by simp; omega)]; exact k25
        have hn1 : w.heap.size < w1.heap.size := by omega
        have hn2 : w.heap.size < w2.heap.size := by omega
        have hn3 : w.heap.size < w3.heap.size := by omega
        have hm1 : w.heap.size ≠ w1.heap.size := by omega
        have hm2 : w.heap.size ≠ w2.heap.size := by omega
        have hm3 : w.heap.size ≠ w3.heap.size := by omega
        have hm4 : w1.heap.size ≠ w.heap.size := by omega
        have hm5 : w2.heap.size ≠ w.heap.size := by omega
        have hm6 : w3.heap.size ≠ w.heap.size := by omega
        have k32 : w3.cell? ⟨w1.heap.size, 0, none⟩ = some (.int .u64 0) := by rw [hc3 _ _ (by simp)]; show (w1.alloc _).cell? _ = _; go_simp
        have k33 : w3.cell? ⟨w1.heap.size, 1, none⟩ = some (.slice none 0 0) := by rw [hc3 _ _ (by simp)]; show (w1.alloc _).cell? _ = _; go_simp
        have k34 : w3.frozen? ⟨w1.heap.size, 0, none⟩ = false := by rw [hf3 _ _ (by simp)]; show (w1.alloc _).frozen? _ = _; go_simp
        have k35 : w3.frozen? ⟨w1.heap.size, 1, none⟩ = false := by rw [hf3 _ _ (by simp)]; show (w1.alloc _).frozen? _ = _; go_simp
        have hbk3 : Bk w3 w1.heap.size 25 #[.int .u64 0, .slice none 0 0] := (Bk.new w1 _ _).drew.below hb3 (by simp)
        clear hc2 hf2 hc3 hf3 hc1 hf1
        go_region_held3 (fun w' => w'.cell? ⟨w.heap.size, 0, none⟩ = some (.int .u64 b)) (first | exact k10 | exact k20 | exact k25 | exact k30 | go_simp | go_keep) (fail)
        all_goals (go_wp2_with fail; go_meet)
        · have hlt2 : w1.heap.size < w2.heap.size := (hown2.lt _ rfl).2
          exact ⟨_, _, rfl, by omega, by omega, by omega, Bk.new _ _ _, (own_self hown2).alloc _, (by repeat' (first | exact Below.refl _ _ | assumption | (refine below_call (by assumption) ?_ (by first | omega | (simp <;> omega))) | (refine below_callB (by assumption) ?_ (by omega)) | (refine Below.setCell ?_ (by first | omega | (simp <;> omega)) _) | (refine Below.alloc ?_ (by first | omega | (simp <;> omega)) _) | (refine Below.drew ?_) | (refine below_drewN ?_ _)))⟩
        · exact ⟨_, _, rfl, by omega, by omega, by omega, (hbk3.set_ 0 _).set_ 1 _, own_far (own_far (own_self hown3) (by simp [Value.ownBlock]) _) (by simp [Value.ownBlock]) _, (by repeat' (first | exact Below.refl _ _ | assumption | (refine below_call (by assumption) ?_ (by first | omega | (simp <;> omega))) | (refine below_callB (by assumption) ?_ (by omega)) | (refine Below.setCell ?_ (by first | omega | (simp <;> omega)) _) | (refine Below.alloc ?_ (by first | omega | (simp <;> omega)) _) | (refine Below.drew ?_) | (refine below_drewN ?_ _)))⟩
      case rest =>
        obtain ⟨ob, g, rfl, hob, hg, hne, hbk, hown, hbel⟩ := hcut
        go_wp2
        go_loopw [7] (fun i wr => ∃ j : Nat, j ≤ kn ∧ j ≤ xs.length ∧ i = .int .i64 j ∧ Bk wr ob 25 #[.int .u64 b, .slice (some ⟨g, 0, none⟩) kn kn] ∧ wr.ownsRow g 5 1 (.slice (some ⟨g, 0, none⟩) kn kn) kn (bv (put (List.replicate kn 0) 0 (xs.take j))) ∧ Below (w.heap.size + 2) w1 wr) (fun i _ => kn - (intOf i).toNat)
        case atStart => exact ⟨0, Nat.zero_le _, Nat.zero_le _, rfl, hbk, by rw [List.take_zero, put_nil]; exact hown, hbel⟩
        case round =>
          obtain ⟨j, hj, hj2, rfl, hbk, hown, hbel⟩ := hrel
          obtain ⟨hcr, hfr⟩ := bcellB hbel
          have hk8 := hbk.cell 0
          have hk9 := hbk.cell 1
          have hgs := hbk.lt
          simp at hk8 hk9
          have kx0 : wr.cell? ⟨w.heap.size, 0, none⟩ = some (.int .u64 b) := by rw [hcr _ _ (by first | omega | (simp <;> omega))]; go_simp
          have kx5 : wr.cell? ⟨w.heap.size, 1, none⟩ = some (.slice A xs.length c) := by rw [hcr _ _ (by first | omega | (simp <;> omega))]; go_simp
          have kx1 : wr.cell? ⟨w.heap.size + 1, 0, none⟩ = some (.int .u64 0) := by rw [hcr _ _ (by first | omega | (simp <;> omega))]; go_simp
          have kx2 : wr.cell? ⟨w.heap.size + 1, 1, none⟩ = some (.slice none 0 0) := by rw [hcr _ _ (by first | omega | (simp <;> omega))]; go_simp
          have kx3 : wr.frozen? ⟨w.heap.size + 1, 0, none⟩ = false := by rw [hfr _ _ (by first | omega | (simp <;> omega))]; go_simp
          have kx4 : wr.frozen? ⟨w.heap.size + 1, 1, none⟩ = false := by rw [hfr _ _ (by first | omega | (simp <;> omega))]; go_simp
          have hrw : Rd wr w.heap.size A (bv xs) := by
            have h9 : Rd w1 w.heap.size A (bv xs) := (by apply Rd.more; (repeat' (first | (show Rd _ _ _ _; with_reducible assumption) | (with_reducible apply Ow.rd; (show Ow _ _ _ _ _ _ _ _; with_reducible assumption)) | with_reducible exact Rd.nil_ | with_reducible apply Rd.alloc | with_reducible apply Rd.drew | with_reducible apply Rd.drewN | with_reducible apply Rd.setCell | (with_reducible apply Rd.call; (show Below _ _ _; with_reducible assumption)))); all_goals (first | omega | (simp <;> omega)))
            exact Rd.call hbel h9 (by omega)
          clear hcr hfr hc1 hf1
          by_cases hlt : j < kn ∧ j < xs.length
          · obtain ⟨hlt1, hlt3⟩ := hlt
            have hy : (bv xs)[j]? = some (.int .u8 (xs[j]).toNat) := bv_get hlt3
            obtain ⟨ab, ao, rfl, hab, hcell2⟩ := hrw.at_ hy
            have hty : xs.take (j + 1) = xs.take j ++ [xs[j]] := by rw [List.take_add_one, List.getElem?_eq_getElem hlt3]; rfl
            have HTY := Lib.hid hty
            have hlt2 : (xs.take j).length = j := by rw [List.length_take]; omega
            have HLT := Lib.hid hlt2
            have hput : (put (List.replicate kn 0) 0 (xs.take j)).length = kn := by rw [put_length (by simp; omega)]; simp
            have hcell := own_cell hown (bv_get (k := j) (by omega))
            have hfz := hown.frozenAt j
            have HYV := Lib.hid (show ∃ y : Nat, y = (xs[j]).toNat from ⟨_, rfl⟩)
            obtain ⟨y, hyv⟩ := HYV.out
            rw [← hyv] at hcell2
            have HYE := Lib.hid hyv
            clear hyv HYV hty hy
            have hi0 : (0 : Int) ≤ (j : Int) := by omega
            have hi1 : (j : Int) < (kn : Int) := by omega
            have hi2 : (j : Int) < (xs.length : Int) := by omega
            have hne1 : g ≠ w.heap.size := by omega
            have hne3 : g ≠ ab := by omega
            go_wp2
            go_region_held3 (fun w' => w'.cell? ⟨ob, 1, none⟩ = some (.slice (some ⟨g, 0, none⟩) kn kn) ∧ w'.cell? ⟨w.heap.size, 1, none⟩ = some (.slice (some ⟨ab, ao, none⟩) xs.length c) ∧ w'.cell? ⟨ab, ao + j, none⟩ = some (.int .u8 y)) (go_keep) (fail)
            go_wp2
            go_roundw
            case rel =>
              rw [HYE.out]
              have hst := (hown.stored j (.int .u8 (xs[j]).toNat)).1
              rw [← bv_set] at hst
              refine ⟨j + 1, by omega, by omega, by go_num, hbk.far (by simp; omega) _, ?_, (hbel.setCell (p := ⟨g, j, none⟩) hg _).drew⟩
              rw [HTY.out, put_snoc _ (by rw [HLT.out]; simp; omega), HLT.out, Nat.zero_add]
              exact hst
            case measure => simp [intOf] <;> omega
          · have htk : xs.take j = xs.take kn := by
              by_cases h7 : j = kn
              · rw [h7]
              · have h8 : j = xs.length := by omega
                rw [h8, List.take_length, List.take_of_length_le (by omega)]
            rw [htk, resized_zero] at hown
            have hlt' : kn ≤ j ∨ (j < kn ∧ xs.length ≤ j) := by omega
            clear hlt htk
            rcases hlt' with hlt1 | ⟨hlt1, hlt2⟩
            all_goals
              go_wp2
              exact bodyPost_ret (v := .tuple #[.agg #[.int .u64 b, .slice (some ⟨g, 0, none⟩) kn kn], .int .i64 0]) (by simp [results, Try.results42, go_sem, *]) rfl ⟨_, _, rfl, (by apply Ow.mono; (repeat' (first | (show Ow _ _ _ _ _ _ _ _; with_reducible assumption) | with_reducible exact Ow.nil_ | (with_reducible apply Ow.of_own'; (show World.ownsRow _ _ _ _ _ _ _; with_reducible assumption)) | with_reducible apply Ow.alloc | with_reducible apply Ow.drew | with_reducible apply Ow.drewN | with_reducible apply Ow.set | (with_reducible apply Ow.call; (show Below _ _ _; with_reducible assumption)))); all_goals (first | omega | (simp <;> omega))), (by repeat' (first | exact Below.refl _ _ | assumption | (refine below_call (by assumption) ?_ (by first | omega | (simp <;> omega))) | (refine below_callB (by assumption) ?_ (by omega)) | (refine Below.setCell ?_ (by first | omega | (simp <;> omega)) _) | (refine Below.alloc ?_ (by first | omega | (simp <;> omega)) _) | (refine Below.drew ?_) | (refine below_drewN ?_ _)))⟩
    · rw [if_neg hk]
      have hk' : k < 0 ∨ 20000 < k := by omega
      clear hk
      go_enter Try.func42, Try.ntmps42
      rcases hk' with hk' | hk'
      all_goals
        go_wp2_with (go_at_call 52; refine (rcheck_any _ _ _ _ _ h0 h1 hn).mono ?_; rintro e w1 ⟨rfl, hb1⟩; rw [H.out]; obtain ⟨hc1, hf1⟩ := bcell hb1; have hs1 := hb1.size; (try simp at hs1); have hz1_0 : w.heap.size < w1.heap.size := (by omega); have hz1_1 : w.heap.size + 1 < w1.heap.size := (by omega))
        exact bodyPost_ret (v := .tuple #[.agg #[.int .u64 0, .slice none 0 0], .int .i64 2]) (by simp [results, Try.results42, go_sem, *]) rfl ⟨none, 0, rfl, Ow.nil_, (by repeat' (first | exact Below.refl _ _ | assumption | (refine below_call (by assumption) ?_ (by first | omega | (simp <;> omega))) | (refine below_callB (by assumption) ?_ (by omega)) | (refine Below.setCell ?_ (by first | omega | (simp <;> omega)) _) | (refine Below.alloc ?_ (by first | omega | (simp <;> omega)) _) | (refine Below.drew ?_) | (refine below_drewN ?_ _)))⟩
  · rw [if_neg (by omega)]
    have H := Lib.hid h; clear h
    go_enter Try.func42, Try.ntmps42
    go_wp2_with fail; refine (rcheck_any _ _ _ _ _ h0 h1 hn).mono ?_; rintro e w1 ⟨rfl, hb1⟩; rw [H.out]; obtain ⟨hc1, hf1⟩ := bcell hb1; have hs1 := hb1.size; (try simp at hs1); have hz1_0 : w.heap.size < w1.heap.size := (by omega); have hz1_1 : w.heap.size + 1 < w1.heap.size := (by omega)
    go_wp2_with fail; refine (rcheck_any _ _ _ _ _ h0 h1 hn).mono ?_; rintro e w2 ⟨rfl, hb2⟩; rw [H.out]; obtain ⟨hc2, hf2⟩ := bcell hb2; have hs2 := hb2.size; (try simp at hs2); have hz2_0 : w.heap.size < w2.heap.size := (by omega); have hz2_1 : w.heap.size + 1 < w2.heap.size := (by omega)
    go_wp2
    exact bodyPost_ret (v := .tuple #[.agg #[.int .u64 0, .slice none 0 0], .int .i64 8]) (by simp [results, Try.results42, go_sem, *]) rfl ⟨none, 0, rfl, Ow.nil_, (by repeat' (first | exact Below.refl _ _ | assumption | (refine below_call (by assumption) ?_ (by first | omega | (simp <;> omega))) | (refine below_callB (by assumption) ?_ (by omega)) | (refine Below.setCell ?_ (by first | omega | (simp <;> omega)) _) | (refine Below.alloc ?_ (by first | omega | (simp <;> omega)) _) | (refine Below.drew ?_) | (refine below_drewN ?_ _)))⟩
end Go.Proofs.Ytbcjkdekppomgaa
