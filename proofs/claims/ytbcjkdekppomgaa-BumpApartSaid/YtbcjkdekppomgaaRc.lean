/- Contracts of the reference 14: Grown, Alloc. -/
import Derived.Test.YtbcjkdekppomgaaRb
namespace Go.Proofs.Ytbcjkdekppomgaa
open Go.RowKit
set_option linter.unusedVariables false
set_option maxRecDepth 100000
set_option linter.unusedSimpArgs false
attribute [local go_sem ↓] Go.wp_at_zero Go.wp_at_succ

theorem own_far {w : World} {base e n : Nat} {v : Value} {xs : List Value} (h : w.ownsRow base e 1 v n xs) {p : Addr} (hp : v.ownBlock ≠ some p.block) (u : Value) : (w.setCell p u).ownsRow base e 1 v n xs :=
  h.kept (row := some p.block) ⟨rfl, rfl, rfl, by simp [World.setCell], fun k _ hk => Below.heap_setCell _ _ _ _ (fun e => hk (by rw [e]))⟩ (.inr hp)

set_option maxHeartbeats 800000 in
theorem rgrown_any (b : Int) (A : Option Addr) (xs : List UInt8) (c : Nat) (k : Int) (w : World) (hr : Rd w w.heap.size A (bv xs)) (hn : xs.length ≤ 16384) (h0 : 0 ≤ k) (h1 : k ≤ 4096) :
    Calls Try.prog 86 #[.agg #[.int .u64 b, .slice A xs.length c], .int .i64 k] w fun e w' => ∃ A' c', e = .returned (.tuple #[.agg #[.int .u64 b, .slice A' (grown xs k).length c'], .int .u64 (65536 + xs.length)]) ∧ Ow w' w.heap.size w'.heap.size 5 A' (grown xs k).length c' (bv (grown xs k)) ∧ Below w.heap.size w w' := by
  obtain ⟨i0, hi0, hz0, hz1, hz2⟩ := info_parts Try.u8info
  have hs := sizeI_ge k
  have hs1 := sizeI_le h1
  obtain ⟨hs2, hs3, hs4⟩ := hs
  go_enter Try.func86, Try.ntmps86
  go_wp2_with (go_at_call 23; refine (rtwin_any _ _ _ _ _ (by apply Rd.more; (repeat' (first | (show Rd _ _ _ _; with_reducible assumption) | (with_reducible apply Ow.rd; (show Ow _ _ _ _ _ _ _ _; with_reducible assumption)) | with_reducible exact Rd.nil_ | with_reducible apply Rd.alloc | with_reducible apply Rd.drew | with_reducible apply Rd.drewN | with_reducible apply Rd.setCell | (with_reducible apply Rd.call; (show Below _ _ _; with_reducible assumption)))); all_goals (first | omega | (simp <;> omega))) (by omega)).mono ?_; rintro e w1 ⟨A1, c1, rfl, ho1, hb1⟩; obtain ⟨hc1, hf1⟩ := bcell hb1; have hs1 := hb1.size; (try simp at hs1); have hz1_0 : w.heap.size < w1.heap.size := (by omega); have hz1_1 : w.heap.size + 1 < w1.heap.size := (by omega))
  have ho2 := ho1.own
  obtain ⟨szn, hszn⟩ : ∃ m : Nat, sizeI k = m := ⟨(sizeI k).toNat, by omega⟩
  have HSZ := Lib.hid hszn
  have hsz4 : szn ≤ 4096 := by omega
  go_loopw [7] (fun i wr => ∃ (j : Nat) (A2 : Option Addr) (c2 : Nat), j ≤ szn ∧ i = .int .i64 j ∧ Bk wr w1.heap.size 25 #[.int .u64 b, .slice A2 (xs.length + j) c2] ∧ wr.ownsRow (w.heap.size + 2) 5 1 (.slice A2 (xs.length + j) c2) (xs.length + j) (bv (xs ++ List.replicate j 0)) ∧ (Value.slice A2 (xs.length + j) c2).ownBlock ≠ some w1.heap.size ∧ Below (w.heap.size + 2) w1 wr) (fun i _ => szn - (intOf i).toNat)
  case atStart =>
    refine ⟨0, A1, c1, by omega, rfl, Bk.new _ _ _, ?_, ?_, (by repeat' (first | exact Below.refl _ _ | assumption | (refine below_call (by assumption) ?_ (by first | omega | (simp <;> omega))) | (refine below_callB (by assumption) ?_ (by omega)) | (refine Below.setCell ?_ (by first | omega | (simp <;> omega)) _) | (refine Below.alloc ?_ (by first | omega | (simp <;> omega)) _) | (refine Below.drew ?_) | (refine below_drewN ?_ _)))⟩
    · simpa using (own_base ho2 (by simp)).alloc _
    · intro e; have := ho1.2 _ e; omega
  case round =>
    obtain ⟨j, A2, c2, hj, rfl, hbk, hown, hne, hbel⟩ := hrel
    have hk0 := hbk.cell 0
    have hk1 := hbk.cell 1
    have hf0 := hbk.frozen 1
    have hgs := hbk.lt
    simp at hk0 hk1
    clear hszn
    by_cases hlt : j < szn
    · have hw1 : (xs.length : Int) + j ≤ 100000 := by omega
      go_wp2_with (first
        | (go_at_call 33; refine (rsize_any _ _ h0 h1).mono ?_; rw [HSZ.out]; rintro e w' ⟨rfl, rfl⟩)
        | (at_builtin; refine wpList_append_rd _ rfl (.tmp 17) (.tmp 18) 23 rfl (w.heap.size + 2) 5 i0 _ 1 Try.underlying23 hi0 hz0 hz1 hz2 rfl _ (xs.length + j) _ (by rfl) (hown.alloc _) _ _ 1 1 [.int .u8 0] (by rfl) rfl (rd_bk (Bk.new _ _ _)) (by simp [Value.oneCell']) (by unfold maxLen; omega) (by omega) (by simp; omega) ?_; intro A3 c3 w3 hown3 hg3 hbl3 hat3; have hbk3 := (hbk.alloc (.cells #[.int .u8 0] 5)).grown hg3 (Ne.symm hne); have hk31 := hbk3.cell 1; have hf31 := hbk3.frozen 1; simp at hk31))
      have hne3 : (Value.slice A3 (xs.length + j + 1) c3).ownBlock ≠ some w1.heap.size := by
        rcases hat3 with h | h
        · rw [h]; exact hne
        · rw [h]; simp; omega
      go_roundw
      case rel =>
        refine ⟨j + 1, A3, c3, by omega, by go_num, hbk3.set_ 1 _, ?_, hne3, ?_⟩
        · have hbv : bv (xs ++ List.replicate (j + 1) 0) = bv (xs ++ List.replicate j 0) ++ [.int .u8 0] := by simp [bv, List.replicate_succ']
          rw [hbv]
          exact own_far hown3 hne3 _
        · exact (below_callB hbl3 (hbel.alloc (by omega) _) (Nat.le_refl _)).setCell (by simp; omega) _
      case measure => simp [intOf] <;> omega
    · obtain rfl : j = szn := by omega
      have hgr : grown xs k = xs ++ List.replicate j 0 := by unfold grown; rw [HSZ.out]; simp
      have HG := Lib.hid hgr
      have hgl : (grown xs k).length = xs.length + j := by rw [hgr]; simp
      have HGL := Lib.hid hgl
      obtain ⟨hcr, hfr⟩ := bcellB hbel
      have kx0 : wr.cell? ⟨w.heap.size, 1, none⟩ = some (.slice A xs.length c) := by rw [hcr _ _ (by first | omega | (simp <;> omega))]; go_simp
      have kx1 : wr.cell? ⟨w.heap.size + 1, 0, none⟩ = some (.int .u64 0) := by rw [hcr _ _ (by first | omega | (simp <;> omega))]; go_simp
      have kx2 : wr.cell? ⟨w.heap.size + 1, 1, none⟩ = some (.slice none 0 0) := by rw [hcr _ _ (by first | omega | (simp <;> omega))]; go_simp
      have kx3 : wr.frozen? ⟨w.heap.size + 1, 0, none⟩ = false := by rw [hfr _ _ (by first | omega | (simp <;> omega))]; go_simp
      have kx4 : wr.frozen? ⟨w.heap.size + 1, 1, none⟩ = false := by rw [hfr _ _ (by first | omega | (simp <;> omega))]; go_simp
      have hd1 : w.heap.size + 1 ≠ w1.heap.size := by omega
      have hd2 : w.heap.size + 1 ≠ w.heap.size := by omega
      have hw2 : IntKind.u64.wrap (xs.length : Int) = (xs.length : Int) := IntWalk.u64_in _ (by omega)
      have hw3 : IntKind.u64.wrap (65536 + (xs.length : Int)) = 65536 + (xs.length : Int) := IntWalk.u64_in _ (by omega)
      clear hcr hfr hgr hgl
      go_wp2_with (go_at_call 33; refine (rsize_any _ _ h0 h1).mono ?_; rw [HSZ.out]; rintro e w' ⟨rfl, rfl⟩)
      go_region_held3 (fun w' => w'.cell? ⟨w.heap.size, 1, none⟩ = some (.slice A xs.length c) ∧ w'.cell? ⟨w1.heap.size, 0, none⟩ = some (.int .u64 b) ∧ w'.cell? ⟨w1.heap.size, 1, none⟩ = some (.slice A2 (xs.length + j) c2)) (go_keep) (fail)
      go_wp2
      clear hw2 hw3
      exact bodyPost_ret (v := .tuple #[.agg #[.int .u64 b, .slice A2 (xs.length + j) c2], .int .u64 (65536 + xs.length)]) (by simp [results, Try.results86, go_sem, *]) rfl ⟨A2, c2, by rw [HGL.out], by rw [HGL.out, HG.out]; exact (by apply Ow.mono; (repeat' (first | (show Ow _ _ _ _ _ _ _ _; with_reducible assumption) | with_reducible exact Ow.nil_ | (with_reducible apply Ow.of_own'; (show World.ownsRow _ _ _ _ _ _ _; with_reducible assumption)) | with_reducible apply Ow.alloc | with_reducible apply Ow.drew | with_reducible apply Ow.drewN | with_reducible apply Ow.set | (with_reducible apply Ow.call; (show Below _ _ _; with_reducible assumption)))); all_goals (first | omega | (simp <;> omega))), (by repeat' (first | exact Below.refl _ _ | assumption | (refine below_call (by assumption) ?_ (by first | omega | (simp <;> omega))) | (refine below_callB (by assumption) ?_ (by omega)) | (refine Below.setCell ?_ (by first | omega | (simp <;> omega)) _) | (refine Below.alloc ?_ (by first | omega | (simp <;> omega)) _) | (refine Below.drew ?_) | (refine below_drewN ?_ _)))⟩

set_option maxHeartbeats 800000 in
theorem ralloc_any (b : Int) (A : Option Addr) (xs : List UInt8) (c : Nat) (n lim : Int) (w : World) (hn : xs.length ≤ 9223372036854775807) (hr : Rd w w.heap.size A (bv xs)) :
    Calls Try.prog 27 #[.agg #[.int .u64 b, .slice A xs.length c], .int .i64 n, .int .i64 lim] w fun e w' => ∃ A' c', e = .returned (.tuple #[.agg #[.int .u64 (allocS b xs n lim).1.1.1, .slice A' (allocS b xs n lim).1.1.2.length c'], .int .u64 (allocS b xs n lim).1.2, .int .i64 (allocS b xs n lim).2]) ∧ Ow w' w.heap.size w'.heap.size 5 A' (allocS b xs n lim).1.1.2.length c' (bv (allocS b xs n lim).1.1.2) ∧ Below w.heap.size w w' := by
  unfold allocS allocE
  by_cases hc : chkB b xs.length lim = 0
  · have hok := chkB_ok hc
    have H := Lib.hid hc
    obtain ⟨hbb, h8, hxl, hl0, hl1⟩ := hok
    simp only [hc, if_true]
    clear hc h8
    by_cases hnn : n < 0 ∨ 4096 < n
    · simp only [hnn, if_true]
      rw [if_neg (by decide)]
      rcases hnn with hnn | hnn
      all_goals
        clear hbb
        go_enter Try.func27, Try.ntmps27
        go_wp2_with (go_at_call 32; refine (rlimit_any _ _ _ _ _ _ hn).mono ?_; rintro e w1 ⟨rfl, hb1⟩; rw [H.out]; obtain ⟨hc1, hf1⟩ := bcell hb1; have hs1 := hb1.size; (try simp at hs1); have hz1_0 : w.heap.size < w1.heap.size := (by omega); have hz1_1 : w.heap.size + 1 < w1.heap.size := (by omega))
        exact bodyPost_ret (v := .tuple #[.agg #[.int .u64 0, .slice none 0 0], .int .u64 0, .int .i64 2]) (by simp [results, Try.results27, go_sem, *]) rfl ⟨none, 0, rfl, Ow.nil_, (by repeat' (first | exact Below.refl _ _ | assumption | (refine below_call (by assumption) ?_ (by first | omega | (simp <;> omega))) | (refine below_callB (by assumption) ?_ (by omega)) | (refine Below.setCell ?_ (by first | omega | (simp <;> omega)) _) | (refine Below.alloc ?_ (by first | omega | (simp <;> omega)) _) | (refine Below.drew ?_) | (refine below_drewN ?_ _)))⟩
    · have hn0 : 0 ≤ n := by omega
      have hn1 : n ≤ 4096 := by omega
      simp only [hnn, if_false]
      clear hnn
      by_cases hf : lim < xs.length + sizeI n
      · simp only [hf, if_true]
        rw [if_neg (by decide)]
        have hft : fitsB xs.length n lim = false := by unfold fitsB; simp; omega
        have HF := Lib.hid hft
        clear hbb hf hft
        go_enter Try.func27, Try.ntmps27
        go_wp2_with (first | (go_at_call 32; refine (rlimit_any _ _ _ _ _ _ hn).mono ?_; rintro e w1 ⟨rfl, hb1⟩; rw [H.out]; obtain ⟨hc1, hf1⟩ := bcell hb1; have hs1 := hb1.size; (try simp at hs1); have hz1_0 : w.heap.size < w1.heap.size := (by omega); have hz1_1 : w.heap.size + 1 < w1.heap.size := (by omega)) | (go_at_call 85; refine (rfits_any _ _ _ _ _ _ _ hxl hn0 hn1).mono ?_; rintro e w2 ⟨rfl, hb2⟩; rw [HF.out]; obtain ⟨hc2, hf2⟩ := bcell hb2; have hs2 := hb2.size; (try simp at hs2); have hz2_0 : w.heap.size < w2.heap.size := (by omega); have hz2_1 : w.heap.size + 1 < w2.heap.size := (by omega)))
        exact bodyPost_ret (v := .tuple #[.agg #[.int .u64 0, .slice none 0 0], .int .u64 0, .int .i64 18]) (by simp [results, Try.results27, go_sem, *]) rfl ⟨none, 0, rfl, Ow.nil_, (by repeat' (first | exact Below.refl _ _ | assumption | (refine below_call (by assumption) ?_ (by first | omega | (simp <;> omega))) | (refine below_callB (by assumption) ?_ (by omega)) | (refine Below.setCell ?_ (by first | omega | (simp <;> omega)) _) | (refine Below.alloc ?_ (by first | omega | (simp <;> omega)) _) | (refine Below.drew ?_) | (refine below_drewN ?_ _)))⟩
      · simp only [hf, if_false, if_true]
        have hft : fitsB xs.length n lim = true := by unfold fitsB; simp; omega
        have HF := Lib.hid hft
        subst hbb
        clear hf hft
        go_enter Try.func27, Try.ntmps27
        go_wp2_with (first | (go_at_call 32; refine (rlimit_any _ _ _ _ _ _ hn).mono ?_; rintro e w1 ⟨rfl, hb1⟩; rw [H.out]; obtain ⟨hc1, hf1⟩ := bcell hb1; have hs1 := hb1.size; (try simp at hs1); have hz1_0 : w.heap.size < w1.heap.size := (by omega); have hz1_1 : w.heap.size + 1 < w1.heap.size := (by omega)) | (go_at_call 85; refine (rfits_any _ _ _ _ _ _ _ hxl hn0 hn1).mono ?_; rintro e w2 ⟨rfl, hb2⟩; rw [HF.out]; obtain ⟨hc2, hf2⟩ := bcell hb2; have hs2 := hb2.size; (try simp at hs2); have hz2_0 : w.heap.size < w2.heap.size := (by omega); have hz2_1 : w.heap.size + 1 < w2.heap.size := (by omega)) | (go_at_call 86; refine (rgrown_any _ _ _ _ _ _ (by apply Rd.more; (repeat' (first | (show Rd _ _ _ _; with_reducible assumption) | (with_reducible apply Ow.rd; (show Ow _ _ _ _ _ _ _ _; with_reducible assumption)) | with_reducible exact Rd.nil_ | with_reducible apply Rd.alloc | with_reducible apply Rd.drew | with_reducible apply Rd.drewN | with_reducible apply Rd.setCell | (with_reducible apply Rd.call; (show Below _ _ _; with_reducible assumption)))); all_goals (first | omega | (simp <;> omega))) hxl hn0 hn1).mono ?_; rintro e w3 ⟨A3, c3, rfl, ho3, hb3⟩; obtain ⟨hc3, hf3⟩ := bcell hb3; have hs3 := hb3.size; (try simp at hs3); have hz3_0 : w.heap.size < w3.heap.size := (by omega); have hz3_1 : w.heap.size + 1 < w3.heap.size := (by omega)))
        exact bodyPost_ret (v := .tuple #[.agg #[.int .u64 65536, .slice A3 (grown xs n).length c3], .int .u64 (65536 + xs.length), .int .i64 0]) (by simp [results, Try.results27, go_sem, *]) rfl ⟨_, _, rfl, (by apply Ow.mono; (repeat' (first | (show Ow _ _ _ _ _ _ _ _; with_reducible assumption) | with_reducible exact Ow.nil_ | (with_reducible apply Ow.of_own'; (show World.ownsRow _ _ _ _ _ _ _; with_reducible assumption)) | with_reducible apply Ow.alloc | with_reducible apply Ow.drew | with_reducible apply Ow.drewN | with_reducible apply Ow.set | (with_reducible apply Ow.call; (show Below _ _ _; with_reducible assumption)))); all_goals (first | omega | (simp <;> omega))), (by repeat' (first | exact Below.refl _ _ | assumption | (refine below_call (by assumption) ?_ (by first | omega | (simp <;> omega))) | (refine below_callB (by assumption) ?_ (by omega)) | (refine Below.setCell ?_ (by first | omega | (simp <;> omega)) _) | (refine Below.alloc ?_ (by first | omega | (simp <;> omega)) _) | (refine Below.drew ?_) | (refine below_drewN ?_ _)))⟩
  · have hq1 : (chkB b xs.length lim != 0) = true := by simpa using hc
    simp only [hc, if_false]
    clear hc
    go_enter Try.func27, Try.ntmps27
    go_wp2_with (go_at_call 32; refine (rlimit_any _ _ _ _ _ _ hn).mono ?_; rintro e w1 ⟨rfl, hb1⟩; obtain ⟨hc1, hf1⟩ := bcell hb1; have hs1 := hb1.size; (try simp at hs1); have hz1_0 : w.heap.size < w1.heap.size := (by omega); have hz1_1 : w.heap.size + 1 < w1.heap.size := (by omega))
    exact bodyPost_ret (v := .tuple #[.agg #[.int .u64 0, .slice none 0 0], .int .u64 0, .int .i64 (chkB b xs.length lim)]) (by simp [results, Try.results27, go_sem, *]) rfl ⟨none, 0, rfl, Ow.nil_, (by repeat' (first | exact Below.refl _ _ | assumption | (refine below_call (by assumption) ?_ (by first | omega | (simp <;> omega))) | (refine below_callB (by assumption) ?_ (by omega)) | (refine Below.setCell ?_ (by first | omega | (simp <;> omega)) _) | (refine Below.alloc ?_ (by first | omega | (simp <;> omega)) _) | (refine Below.drew ?_) | (refine below_drewN ?_ _)))⟩
end Go.Proofs.Ytbcjkdekppomgaa
