/- Contracts of the reference 13: Set, Store, New. -/
import Derived.Test.YtbcjkdekppomgaaRe
import Derived.Test.YtbcjkdekppomgaaWd
namespace Go.Proofs.Ytbcjkdekppomgaa
open Go.RowKit
set_option linter.unusedVariables false
set_option maxRecDepth 100000
set_option linter.unusedSimpArgs false
attribute [local go_sem ↓] Go.wp_at_zero Go.wp_at_succ

theorem grown_set {a w : World} {g : Nat} (h : a.grownBy w (some g)) (i : Nat) (u : Value) : a.grownBy (w.setCell ⟨g, i, none⟩ u) (some g) :=
  h.trans ⟨rfl, rfl, rfl, by simp [World.setCell], fun k _ hk => Below.heap_setCell _ _ _ _ (fun e => hk (by rw [e]))⟩
theorem div_pow (v : Int) (j : Nat) : v / 256 ^ j / 256 = v / 256 ^ (j + 1) := by
  rw [Int.pow_succ, Int.ediv_ediv_of_nonneg (Int.le_of_lt (Int.pow_pos (by decide)))]

set_option maxHeartbeats 800000 in
theorem rset_any (b : Int) (g n c : Nat) (xs : List UInt8) (a k v : Int) (w : World) (hown : w.ownsRow g 5 1 (.slice (some ⟨g, 0, none⟩) n c) n (bv xs)) (hl : xs.length = n) (h : wordE b n a k = 0) (hv0 : 0 ≤ v) (hv1 : v < 18446744073709551616) :
    Calls Try.prog 81 #[.agg #[.int .u64 b, .slice (some ⟨g, 0, none⟩) n c], .int .u64 a, .int .i64 k, .int .u64 v] w fun e w' => e = .returned (.tuple #[]) ∧ w.grownBy w' (some g) ∧ w'.ownsRow g 5 1 (.slice (some ⟨g, 0, none⟩) n c) n (bv (put xs (a - b).toNat (toLE k.toNat v))) := by
  subst hl
  have hw : (k = 1 ∨ k = 8) ∧ 8 ≤ b ∧ b ≤ 1099511627776 ∧ xs.length ≤ 20000 ∧ b ≤ a ∧ a + k ≤ b + xs.length := by
    unfold wordE chkR basedB inb at h; grind
  obtain ⟨hk, h2, h3, h4, h5, h6⟩ := hw
  clear h
  obtain ⟨at_, hat⟩ : ∃ at_ : Nat, a - b = at_ := ⟨(a - b).toNat, by omega⟩
  obtain ⟨kn, rfl⟩ : ∃ kn : Nat, k = kn := ⟨k.toNat, by omega⟩
  have hlen : at_ + kn ≤ xs.length := by omega
  have hkn : kn ≤ 8 := by omega
  have e1 : IntKind.u64.wrap (a - b) = at_ := by rw [hat]; exact IntWalk.u64_in _ (by omega)
  have E1 := Lib.hid e1
  rw [hat]
  clear hat hk e1
  simp only [Int.toNat_natCast]
  have hgl : g < w.heap.size := (hown.lt g rfl).2
  go_enter Try.func81, Try.ntmps81
  go_wp2
  go_loopw [3, 8] (fun vv i wr => ∃ j : Nat, j ≤ kn ∧ i = .int .i64 j ∧ vv = .int .u64 (v / 256 ^ j) ∧ (w.alloc (.cells #[.int .u64 b, .slice (some ⟨g, 0, none⟩) xs.length c] 25)).grownBy wr (some g) ∧ Bk wr w.heap.size 25 #[.int .u64 b, .slice (some ⟨g, 0, none⟩) xs.length c] ∧ wr.ownsRow g 5 1 (.slice (some ⟨g, 0, none⟩) xs.length c) xs.length (bv (put xs at_ (toLE j v)))) (fun _ i _ => kn - (intOf i).toNat)
  case atStart => exact ⟨0, by omega, rfl, by simp, World.grownBy.refl _ _, Bk.new _ _ _, by rw [toLE_zero, put_nil]; exact hown.alloc _⟩
  case round =>
    obtain ⟨j, hj, rfl, rfl, hgr, hbk, hownr⟩ := hrel
    have hk0 := hbk.cell 0
    have hk1 := hbk.cell 1
    simp at hk0 hk1
    by_cases hlt : j < kn
    · have hput : (put xs at_ (toLE j v)).length = xs.length := put_length (by rw [toLE_length]; omega)
      have hcell := own_cell hownr (bv_get (k := at_ + j) (by omega))
      have hfz := hownr.frozenAt (at_ + j)
      have hq0 : 0 ≤ v / 256 ^ j := Int.ediv_nonneg hv0 (Int.le_of_lt (Int.pow_pos (by decide)))
      have hq1 : v / 256 ^ j ≤ v := Int.ediv_le_self _ hv0
      have HD := Lib.hid (div_pow v j)
      have HB := Lib.hid (byteAt_nat v j)
      generalize v / 256 ^ j = q at *
      have hq3 : IntKind.u64.wrap ((at_ : Int) + (j : Int)) = (at_ : Int) + (j : Int) := IntWalk.u64_in _ (by omega)
      have hq4 : ((at_ : Int) + (j : Int)).toNat = at_ + j := by omega
      have hq5 : (at_ : Int) + (j : Int) < xs.length := by omega
      have e1 := E1.out
      go_wp2
      rw [← HB.out]
      go_roundw
      case rel =>
        refine ⟨j + 1, by omega, by go_num, by rw [← HD.out], grown_set hgr _ _, hbk.far (by simp; omega) _, ?_⟩
        have hst := (hownr.stored (at_ + j) (.int .u8 (byteAt v j).toNat)).1
        rw [← bv_set] at hst
        rw [toLE_succ, put_snoc _ (by rw [toLE_length]; omega), toLE_length]
        exact hst
      case measure => simp [intOf] <;> omega
    · obtain rfl : j = kn := by omega
      go_wp2
      exact bodyPost_end (results_none rfl _ _ _) rfl ⟨rfl, (World.grownBy_alloc w _ _).trans hgr, hownr⟩

set_option maxHeartbeats 800000 in
theorem rstore_any (b : Int) (A : Option Addr) (xs : List UInt8) (c : Nat) (a k v : Int) (w : World) (h0 : 0 ≤ b) (h1 : b < 18446744073709551616) (hn : xs.length ≤ 9223372036854775807) (hr : Rd w w.heap.size A (bv xs)) (hv0 : 0 ≤ v) (hv1 : v < 18446744073709551616) (ha0 : 0 ≤ a) (ha1 : a < 18446744073709551616) (hk0 : -9223372036854775808 ≤ k) (hk1 : k ≤ 9223372036854775807) :
    Calls Try.prog 50 #[.agg #[.int .u64 b, .slice A xs.length c], .int .u64 a, .int .i64 k, .int .u64 v] w fun e w' => ∃ A' c', e = .returned (.tuple #[.agg #[.int .u64 (storeS b xs a k v).1.1, .slice A' (storeS b xs a k v).1.2.length c'], .int .i64 (storeS b xs a k v).2]) ∧ Ow w' w.heap.size w'.heap.size 5 A' (storeS b xs a k v).1.2.length c' (bv (storeS b xs a k v).1.2) ∧ Below w.heap.size w w' := by
  unfold storeS
  by_cases h : storeE b xs.length a k v = 0
  · rw [if_pos h]
    obtain ⟨hE, hk, h2, h3, h4, h5, h6, hc⟩ := storeE_zero h
    have hin : inb b xs.length a k = true := inb_iff.2 ⟨h5, h6⟩
    have hlp : (put xs (a - b).toNat (toLE k.toNat v)).length = xs.length := put_length (by rw [toLE_length]; omega)
    have HC := Lib.hid hc
    have HI := Lib.hid hin
    have HE := Lib.hid hE
    have HLP := Lib.hid hlp
    have hk2 : 0 ≤ k := by omega
    have hx0 : 0 < xs.length := by omega
    clear hc hin hE h hlp h2 h3 h5 h6
    simp only [HLP.out]
    rcases hk with ⟨rfl, hv⟩ | rfl
    all_goals
      go_enter Try.func50, Try.ntmps50
      go_wp2_with (first | (go_at_call 52; refine (rcheck_any _ _ _ _ _ h0 h1 hn).mono ?_; rintro e w1 ⟨rfl, hb1⟩; rw [HC.out]; obtain ⟨hc1, hf1⟩ := bcell hb1; have hs1 := hb1.size; (try simp at hs1); have hz1_0 : w.heap.size < w1.heap.size := (by omega); have hz1_1 : w.heap.size + 1 < w1.heap.size := (by omega)) | (go_at_call 93; refine (rin_any _ _ _ _ _ _ _ HC.out ha0 ha1 hk2 hk1).mono ?_; rintro e w2 ⟨rfl, hb2⟩; rw [HI.out]; obtain ⟨hc2, hf2⟩ := bcell hb2; have hs2 := hb2.size; (try simp at hs2); have hz2_0 : w.heap.size < w2.heap.size := (by omega); have hz2_1 : w.heap.size + 1 < w2.heap.size := (by omega)) | (go_at_call 23; refine (rtwin_any _ _ _ _ _ (by apply Rd.more; (repeat' (first | (show Rd _ _ _ _; with_reducible assumption) | (with_reducible apply Ow.rd; (show Ow _ _ _ _ _ _ _ _; with_reducible assumption)) | with_reducible exact Rd.nil_ | with_reducible apply Rd.alloc | with_reducible apply Rd.drew | with_reducible apply Rd.drewN | with_reducible apply Rd.setCell | (with_reducible apply Rd.call; (show Below _ _ _; with_reducible assumption)))); all_goals (first | omega | (simp <;> omega))) (by omega)).mono ?_; rintro e w3 ⟨A3, c3, rfl, ho3, hb3⟩; obtain ⟨hc3, hf3⟩ := bcell hb3; have hs3 := hb3.size; (try simp at hs3); have hz3_0 : w.heap.size < w3.heap.size := (by omega); have hz3_1 : w.heap.size + 1 < w3.heap.size := (by omega)) | (go_at_call 81; obtain ⟨g, rfl, hg1, hg2, hg3, hown⟩ := ho3.pos hx0; refine (rset_any _ g _ _ xs _ _ _ _ (hown.alloc _) rfl HE.out hv0 hv1).mono ?_; rintro e w4 ⟨rfl, hg4, hown4⟩; have hbk4 := (Bk.new w3 _ _).grown hg4 (by simp; omega); have hk4 := hbk4.cell 0; have hk5 := hbk4.cell 1; simp at hk4 hk5; have hb4 := (Below.alloc (Below.refl g w3) (by omega) _).grown hg4 (by simp; omega) (by simp [Value.ownBlock]); obtain ⟨hc4, hf4⟩ := bcellB hb4; have hs4 := hb4.size; have hz4_0 : w.heap.size < g := (by omega); have hz4_1 : w.heap.size + 1 < g := (by omega)))
      exact bodyPost_ret (v := .tuple #[.agg #[.int .u64 b, .slice (some ⟨g, 0, none⟩) xs.length c3], .int .i64 0]) (by simp [results, Try.results50, go_sem, *]) rfl ⟨_, _, rfl, (by apply Ow.mono; (repeat' (first | (show Ow _ _ _ _ _ _ _ _; with_reducible assumption) | with_reducible exact Ow.nil_ | (with_reducible apply Ow.of_own'; (show World.ownsRow _ _ _ _ _ _ _; with_reducible assumption)) | with_reducible apply Ow.alloc | with_reducible apply Ow.drew | with_reducible apply Ow.drewN | with_reducible apply Ow.set | (with_reducible apply Ow.call; (show Below _ _ _; with_reducible assumption)))); all_goals (first | omega | (simp <;> omega))), (by repeat' (first | exact Below.refl _ _ | assumption | (refine below_call (by assumption) ?_ (by first | omega | (simp <;> omega))) | (refine below_callB (by assumption) ?_ (by omega)) | (refine Below.setCell ?_ (by first | omega | (simp <;> omega)) _) | (refine Below.alloc ?_ (by first | omega | (simp <;> omega)) _) | (refine Below.drew ?_) | (refine below_drewN ?_ _)))⟩
  · rw [if_neg h]
    unfold storeE at *
    rcases chkR_cases b xs.length with hc | hc
    · simp only [hc, if_true] at h ⊢
      have HC := Lib.hid hc; clear hc
      by_cases hk : k = 1 ∧ v ≤ 255 ∨ k = 8
      · simp only [hk, if_true] at h ⊢
        have hin : inb b xs.length a k = false := by
          cases hi : inb b xs.length a k with
          | false => rfl
          | true => simp [hi] at h
        have HI := Lib.hid hin
        clear hin h
        simp only [HI.out, Bool.false_eq_true, if_false]
        have hk2 : 0 ≤ k := by omega
        rcases hk with ⟨rfl, hv⟩ | rfl
        all_goals
          go_enter Try.func50, Try.ntmps50
          go_wp2_with (first | (go_at_call 52; refine (rcheck_any _ _ _ _ _ h0 h1 hn).mono ?_; rintro e w1 ⟨rfl, hb1⟩; rw [HC.out]; obtain ⟨hc1, hf1⟩ := bcell hb1; have hs1 := hb1.size; (try simp at hs1); have hz1_0 : w.heap.size < w1.heap.size := (by omega); have hz1_1 : w.heap.size + 1 < w1.heap.size := (by omega)) | (go_at_call 93; refine (rin_any _ _ _ _ _ _ _ HC.out ha0 ha1 hk2 hk1).mono ?_; rintro e w2 ⟨rfl, hb2⟩; rw [HI.out]; obtain ⟨hc2, hf2⟩ := bcell hb2; have hs2 := hb2.size; (try simp at hs2); have hz2_0 : w.heap.size < w2.heap.size := (by omega); have hz2_1 : w.heap.size + 1 < w2.heap.size := (by omega)))
          exact bodyPost_ret (v := .tuple #[.agg #[.int .u64 0, .slice none 0 0], .int .i64 16]) (by simp [results, Try.results50, go_sem, *]) rfl ⟨none, 0, rfl, Ow.nil_, (by repeat' (first | exact Below.refl _ _ | assumption | (refine below_call (by assumption) ?_ (by first | omega | (simp <;> omega))) | (refine below_callB (by assumption) ?_ (by omega)) | (refine Below.setCell ?_ (by first | omega | (simp <;> omega)) _) | (refine Below.alloc ?_ (by first | omega | (simp <;> omega)) _) | (refine Below.drew ?_) | (refine below_drewN ?_ _)))⟩
      · simp only [hk, if_false] at h ⊢
        have hd : ((k != 1) = true ∧ (k != 8) = true) ∨ ((k != 1) = false ∧ (k == 1) = true ∧ decide (255 < v) = true) := by
          by_cases h7 : k = 1
          · right; simp [h7]; omega
          · left; simp; omega
        clear hk h
        rcases hd with ⟨hq1, hq2⟩ | ⟨hq1, hq2, hq3⟩
        all_goals
          go_enter Try.func50, Try.ntmps50
          go_wp2_with (go_at_call 52; refine (rcheck_any _ _ _ _ _ h0 h1 hn).mono ?_; rintro e w1 ⟨rfl, hb1⟩; rw [HC.out]; obtain ⟨hc1, hf1⟩ := bcell hb1; have hs1 := hb1.size; (try simp at hs1); have hz1_0 : w.heap.size < w1.heap.size := (by omega); have hz1_1 : w.heap.size + 1 < w1.heap.size := (by omega))
          exact bodyPost_ret (v := .tuple #[.agg #[.int .u64 0, .slice none 0 0], .int .i64 2]) (by simp [results, Try.results50, go_sem, *]) rfl ⟨none, 0, rfl, Ow.nil_, (by repeat' (first | exact Below.refl _ _ | assumption | (refine below_call (by assumption) ?_ (by first | omega | (simp <;> omega))) | (refine below_callB (by assumption) ?_ (by omega)) | (refine Below.setCell ?_ (by first | omega | (simp <;> omega)) _) | (refine Below.alloc ?_ (by first | omega | (simp <;> omega)) _) | (refine Below.drew ?_) | (refine below_drewN ?_ _)))⟩
    · have HC := Lib.hid hc; clear hc h
      simp only [HC.out]
      go_enter Try.func50, Try.ntmps50
      go_wp2_with fail; refine (rcheck_any _ _ _ _ _ h0 h1 hn).mono ?_; rintro e w1 ⟨rfl, hb1⟩; rw [HC.out]; obtain ⟨hc1, hf1⟩ := bcell hb1; have hs1 := hb1.size; (try simp at hs1); have hz1_0 : w.heap.size < w1.heap.size := (by omega); have hz1_1 : w.heap.size + 1 < w1.heap.size := (by omega)
      go_wp2_with fail; refine (rcheck_any _ _ _ _ _ h0 h1 hn).mono ?_; rintro e w2 ⟨rfl, hb2⟩; rw [HC.out]; obtain ⟨hc2, hf2⟩ := bcell hb2; have hs2 := hb2.size; (try simp at hs2); have hz2_0 : w.heap.size < w2.heap.size := (by omega); have hz2_1 : w.heap.size + 1 < w2.heap.size := (by omega)
      go_wp2
      exact bodyPost_ret (v := .tuple #[.agg #[.int .u64 0, .slice none 0 0], .int .i64 8]) (by simp [results, Try.results50, go_sem, *]) rfl ⟨none, 0, rfl, Ow.nil_, (by repeat' (first | exact Below.refl _ _ | assumption | (refine below_call (by assumption) ?_ (by first | omega | (simp <;> omega))) | (refine below_callB (by assumption) ?_ (by omega)) | (refine Below.setCell ?_ (by first | omega | (simp <;> omega)) _) | (refine Below.alloc ?_ (by first | omega | (simp <;> omega)) _) | (refine Below.drew ?_) | (refine below_drewN ?_ _)))⟩

set_option maxHeartbeats 800000 in
theorem rnew_any (b k : Int) (w : World) (h0 : 0 ≤ b) (h1 : b < 18446744073709551616) (hk0 : -9223372036854775808 ≤ k) (hk1 : k ≤ 9223372036854775807) :
    Calls Try.prog 44 #[.int .u64 b, .int .i64 k] w fun e w' => ∃ A' c', e = .returned (.tuple #[.agg #[.int .u64 (newS b k).1.1, .slice A' (newS b k).1.2.length c'], .int .i64 (newS b k).2]) ∧ Ow w' w.heap.size w'.heap.size 5 A' (newS b k).1.2.length c' (bv (newS b k).1.2) ∧ Below w.heap.size w w' := by
  unfold newS
  by_cases hb : basedB b = true
  · by_cases hk : 0 ≤ k ∧ k ≤ 20000
    · rw [if_pos ⟨hb, hk⟩]
      obtain ⟨hk2, hk3⟩ := hk
      have H := Lib.hid hb; clear hb
      obtain ⟨kn, rfl⟩ : ∃ kn : Nat, k = kn := ⟨k.toNat, by omega⟩
      simp only [Int.toNat_natCast, List.length_replicate]
      obtain ⟨i0, hi0, hz0, hz1, hz2⟩ := info_parts Try.u8info
      have hmk := fun wx => run_make_full (P := Try.prog) wx wx.heap.size 23 5 i0 _ 1 Try.underlying23 hi0 hz0 hz1 .i64 .i64 kn (by rw [hz2]; omega) (by unfold maxLen; omega) (Nat.le_refl _)
      obtain ⟨w2, hrun2, hown2, hg2⟩ := hmk (w.alloc (.cells #[.int .u64 0, .slice none 0 0] 25))
      clear hmk
      have hb2 := below_grown_none hg2
      obtain ⟨hc2, hf2⟩ := bcell hb2
      have hs2 := hb2.size
      simp at hs2
      have hz2_0 : w.heap.size < w2.heap.size := by omega
      have hcells : (madeCells (Value.int .u8 0).cells (kn * 1)).toList = bv (List.replicate kn 0) := by rw [Nat.mul_one]; exact made_zero kn
      rw [hcells] at hown2
      clear hcells
      simp at hrun2
      simp only [World.size_alloc] at hown2
      go_enter Try.func44, Try.ntmps44
      go_wp2_with (go_at_call 97; refine (rbase_any _ _ h0 h1).mono ?_; rw [H.out]; rintro e w' ⟨rfl, rfl⟩)
      exact bodyPost_ret (v := .tuple #[.agg #[.int .u64 b, .slice (some ⟨w.heap.size + 1, 0, none⟩) kn kn], .int .i64 0]) (by simp [results, Try.results44, go_sem, *]) rfl ⟨_, _, rfl, (by apply Ow.mono; (repeat' (first | (show Ow _ _ _ _ _ _ _ _; with_reducible assumption) | with_reducible exact Ow.nil_ | (with_reducible apply Ow.of_own'; (show World.ownsRow _ _ _ _ _ _ _; with_reducible assumption)) | with_reducible apply Ow.alloc | with_reducible apply Ow.drew | with_reducible apply Ow.drewN | with_reducible apply Ow.set | (with_reducible apply Ow.call; (show Below _ _ _; with_reducible assumption)))); all_goals (first | omega | (simp <;> omega))), (by repeat' (first | exact Below.refl _ _ | assumption | (refine below_call (by assumption) ?_ (by first | omega | (simp <;> omega))) | (refine below_callB (by assumption) ?_ (by omega)) | (refine Below.setCell ?_ (by first | omega | (simp <;> omega)) _) | (refine Below.alloc ?_ (by first | omega | (simp <;> omega)) _) | (refine Below.drew ?_) | (refine below_drewN ?_ _)))⟩
    · rw [if_neg (fun h => hk h.2)]
      have H := Lib.hid hb; clear hb
      have hk' : k < 0 ∨ 20000 < k := by omega
      clear hk
      go_enter Try.func44, Try.ntmps44
      rcases hk' with hk' | hk'
      all_goals
        go_wp2_with (go_at_call 97; refine (rbase_any _ _ h0 h1).mono ?_; rw [H.out]; rintro e w' ⟨rfl, rfl⟩)
        exact bodyPost_ret (v := .tuple #[.agg #[.int .u64 0, .slice none 0 0], .int .i64 2]) (by simp [results, Try.results44, go_sem, *]) rfl ⟨none, 0, rfl, Ow.nil_, (by repeat' (first | exact Below.refl _ _ | assumption | (refine below_call (by assumption) ?_ (by first | omega | (simp <;> omega))) | (refine below_callB (by assumption) ?_ (by omega)) | (refine Below.setCell ?_ (by first | omega | (simp <;> omega)) _) | (refine Below.alloc ?_ (by first | omega | (simp <;> omega)) _) | (refine Below.drew ?_) | (refine below_drewN ?_ _)))⟩
  · rw [if_neg (fun h => hb h.1)]
    have hb' : basedB b = false := by simpa using hb
    have H := Lib.hid hb'; clear hb hb'
    go_enter Try.func44, Try.ntmps44
    go_wp2_with (go_at_call 97; refine (rbase_any _ _ h0 h1).mono ?_; rw [H.out]; rintro e w' ⟨rfl, rfl⟩)
    exact bodyPost_ret (v := .tuple #[.agg #[.int .u64 0, .slice none 0 0], .int .i64 2]) (by simp [results, Try.results44, go_sem, *]) rfl ⟨none, 0, rfl, Ow.nil_, (by repeat' (first | exact Below.refl _ _ | assumption | (refine below_call (by assumption) ?_ (by first | omega | (simp <;> omega))) | (refine below_callB (by assumption) ?_ (by omega)) | (refine Below.setCell ?_ (by first | omega | (simp <;> omega)) _) | (refine Below.alloc ?_ (by first | omega | (simp <;> omega)) _) | (refine Below.drew ?_) | (refine below_drewN ?_ _)))⟩
end Go.Proofs.Ytbcjkdekppomgaa
