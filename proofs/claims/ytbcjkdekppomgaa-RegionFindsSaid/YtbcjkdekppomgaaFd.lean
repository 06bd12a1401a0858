/- The contract of the reference's Find; the walk of the law RegionFinds. -/
import Derived.Test.YtbcjkdekppomgaaFc
namespace Go.Proofs.Ytbcjkdekppomgaa
open Go.RowKit
set_option linter.unusedVariables false
set_option maxRecDepth 100000
set_option linter.unusedSimpArgs false
attribute [local go_sem ↓] Go.wp_at_zero Go.wp_at_succ

theorem findS_err {l : List Hd} {a n : Int} (h : listedS l ≠ 0) : findS l a n = (0, listedS l) := by
  unfold findS; rw [if_pos h]
theorem listedS_zero {l : List Hd} (h : listedS l = 0) : l.length ≤ 17 ∧ l.any badB = false := by
  unfold listedS at h
  by_cases h1 : 17 < l.length
  · rw [if_pos h1] at h; cases h
  · rw [if_neg h1] at h
    refine ⟨by omega, ?_⟩
    cases hb : l.any badB with
    | false => rfl
    | true => rw [if_pos hb] at h; cases h

set_option maxHeartbeats 1600000 in
theorem rfind_any (A : Option Addr) (l : List Hd) (c : Nat) (a n : Int) (w : World) (hr : Rd w w.heap.size A (hv l)) (hok : ∀ r ∈ l, HdOk r) (hlm : l.length ≤ 9223372036854775807) (ha0 : 0 ≤ a) (ha1 : a < 18446744073709551616) (hn0 : -9223372036854775808 ≤ n) (hn1 : n ≤ 9223372036854775807) :
    Calls Try.prog 36 #[.slice A l.length c, .int .u64 a, .int .i64 n] w fun e w' => e = .returned (.tuple #[.int .i64 (findS l a n).1, .int .i64 (findS l a n).2]) ∧ Below w.heap.size w w' := by
  by_cases hli : listedS l = 0
  · have HLI := Lib.hid hli
    obtain ⟨hl17, hbad⟩ := listedS_zero hli
    have HB := Lib.hid hbad
    clear hli hbad
    go_enter Try.func36, Try.ntmps36
    go_wp2_with fail; refine (rlisted_any A l c _ hr hok hlm).mono ?_; rintro e w1 ⟨rfl, hb1⟩; rw [HLI.out]; obtain ⟨hc1, hf1⟩ := bcell hb1; have hs1 := hb1.size; (try simp at hs1)
    by_cases hn : n < 1
    · have HRES := Lib.hid (findS_arg (a := a) HLI.out hn)
      go_wp2
      go_ret2
      exact ⟨by rw [HRES.out]; rfl, (by repeat' (first | exact Below.refl _ _ | assumption | (refine below_call (by assumption) ?_ (by first | omega | (simp <;> omega))) | (refine below_callB (by assumption) ?_ (by omega)) | (refine Below.setCell ?_ (by first | omega | (simp <;> omega)) _) | (refine Below.alloc ?_ (by first | omega | (simp <;> omega)) _) | (refine Below.drew ?_) | (refine below_drewN ?_ _)))⟩
    · have hn1' : 1 ≤ n := by omega
      clear hn
      go_wp2
      go_loopw [8] (fun s wr => ∃ k : Nat, k ≤ l.length ∧ s = .int .i64 k ∧ (∀ i (h1 : i < k) (h2 : i < l.length), inb (l[i]).b (l[i]).n a n = false) ∧ Below w.heap.size w wr) (fun s _ => l.length - (intOf s).toNat)
      case atStart => exact ⟨0, Nat.zero_le _, rfl, fun k h => by omega, (by repeat' (first | exact Below.refl _ _ | assumption | (refine below_call (by assumption) ?_ (by first | omega | (simp <;> omega))) | (refine below_callB (by assumption) ?_ (by omega)) | (refine Below.setCell ?_ (by first | omega | (simp <;> omega)) _) | (refine Below.alloc ?_ (by first | omega | (simp <;> omega)) _) | (refine Below.drew ?_) | (refine below_drewN ?_ _)))⟩
      case round =>
        obtain ⟨k, hk, rfl, hno3, hbel3⟩ := hrel
        have HNO3 := Lib.hid hno3; clear hno3
        have hsz3 := hbel3.size
        by_cases hkl : k < l.length
        · obtain ⟨ab, ao, rfl, hab, hcl0, hcl1⟩ := hd_cells (hr.below hbel3) hkl
          have hval2 := noBad HB.out (List.getElem_mem hkl)
          have HY := Lib.hid (show ∃ r : Hd, r = l[k] from ⟨_, rfl⟩)
          obtain ⟨y, hyx⟩ := HY.out
          rw [← hyx] at hcl0 hcl1 hval2
          have HYX := Lib.hid hyx
          clear hyx HY
          obtain ⟨yb, yA, yn, yc⟩ := y
          simp only at hcl0 hcl1 hval2
          have HV := Lib.hid hval2
          clear hval2 hc1 hf1
          have habi : ab < wr.heap.size := by omega
          have hk0 : (0 : Int) ≤ (k : Int) := by omega
          have hk1 : (k : Int) < (l.length : Int) := by omega
          by_cases hin : inb yb yn a n = true
          · have HI := Lib.hid hin; clear hin
            have hres : findS l a n = ((k : Int), 0) := findS_at HLI.out hn1' hkl (fun i h => HNO3.out i h (by omega)) (by rw [← HYX.out]; exact HI.out)
            have HRES := Lib.hid hres; clear hres
            go_wp2_with (go_at_call 93; refine (rin_any yb yA yn yc a n _ HV.out ha0 ha1 (by omega) hn1).mono ?_; rintro e w2 ⟨rfl, hb2⟩; have hs2 := hb2.size; rw [HI.out])
            go_ret2
            exact ⟨by rw [HRES.out]; rfl, (by repeat' (first | exact Below.refl _ _ | assumption | (refine below_call (by assumption) ?_ (by first | omega | (simp <;> omega))) | (refine below_callB (by assumption) ?_ (by omega)) | (refine Below.setCell ?_ (by first | omega | (simp <;> omega)) _) | (refine Below.alloc ?_ (by first | omega | (simp <;> omega)) _) | (refine Below.drew ?_) | (refine below_drewN ?_ _)))⟩
          · have hin' : inb yb yn a n = false := by simpa using hin
            have HI := Lib.hid hin'; clear hin hin'
            go_wp2_with (go_at_call 93; refine (rin_any yb yA yn yc a n _ HV.out ha0 ha1 (by omega) hn1).mono ?_; rintro e w2 ⟨rfl, hb2⟩; have hs2 := hb2.size; rw [HI.out])
            go_roundw
            case rel =>
              refine ⟨k + 1, by omega, by go_num, fun i h1 h2 => ?_, (by repeat' (first | exact Below.refl _ _ | assumption | (refine below_call (by assumption) ?_ (by first | omega | (simp <;> omega))) | (refine below_callB (by assumption) ?_ (by omega)) | (refine Below.setCell ?_ (by first | omega | (simp <;> omega)) _) | (refine Below.alloc ?_ (by first | omega | (simp <;> omega)) _) | (refine Below.drew ?_) | (refine below_drewN ?_ _)))⟩
              by_cases hi' : i < k
              · exact HNO3.out i hi' h2
              · obtain rfl : i = k := by omega
                rw [← HYX.out]; exact HI.out
            case measure => simp [intOf] <;> omega
        · obtain rfl : k = l.length := by omega
          have hres : findS l a n = (0, 6) := findS_none HLI.out hn1' (fun i h => HNO3.out i h h)
          have HRES := Lib.hid hres; clear hres hc1 hf1
          go_wp2
          go_ret2
          exact ⟨by rw [HRES.out]; rfl, (by repeat' (first | exact Below.refl _ _ | assumption | (refine below_call (by assumption) ?_ (by first | omega | (simp <;> omega))) | (refine below_callB (by assumption) ?_ (by omega)) | (refine Below.setCell ?_ (by first | omega | (simp <;> omega)) _) | (refine Below.alloc ?_ (by first | omega | (simp <;> omega)) _) | (refine Below.drew ?_) | (refine below_drewN ?_ _)))⟩
  · have hq1 : (listedS l != 0) = true := by simpa using hli
    have HRES := Lib.hid (findS_err (a := a) (n := n) hli)
    clear hli
    go_enter Try.func36, Try.ntmps36
    go_wp2_with fail; refine (rlisted_any A l c _ hr hok hlm).mono ?_; rintro e w1 ⟨rfl, hb1⟩; obtain ⟨hc1, hf1⟩ := bcell hb1; have hs1 := hb1.size; (try simp at hs1)
    go_wp2_with fail; refine (rlisted_any A l c _ (by apply Rd.more; (repeat' (first | (show Rd _ _ _ _; with_reducible assumption) | (with_reducible apply Ow.rd; (show Ow _ _ _ _ _ _ _ _; with_reducible assumption)) | with_reducible exact Rd.nil_ | with_reducible apply Rd.alloc | with_reducible apply Rd.drew | with_reducible apply Rd.drewN | with_reducible apply Rd.setCell | (with_reducible apply Rd.call; (show Below _ _ _; with_reducible assumption)))); all_goals (first | omega | (simp <;> omega))) hok hlm).mono ?_; rintro e w2 ⟨rfl, hb2⟩; obtain ⟨hc2, hf2⟩ := bcell hb2; have hs2 := hb2.size; (try simp at hs2)
    go_wp2
    go_ret2
    exact ⟨by rw [HRES.out]; rfl, (by repeat' (first | exact Below.refl _ _ | assumption | (refine below_call (by assumption) ?_ (by first | omega | (simp <;> omega))) | (refine below_callB (by assumption) ?_ (by omega)) | (refine Below.setCell ?_ (by first | omega | (simp <;> omega)) _) | (refine Below.alloc ?_ (by first | omega | (simp <;> omega)) _) | (refine Below.drew ?_) | (refine below_drewN ?_ _)))⟩

set_option maxHeartbeats 1600000 in
theorem regionFinds_walk (A : Option Addr) (l : List Hd) (c : Nat) (a n : Int) (w : World) (hr : Rd w w.heap.size A (hv l)) (hok : ∀ r ∈ l, HdOk r) (hcap : l.length ≤ c) (hc : c ≤ 9223372036854775807) (ha0 : 0 ≤ a) (ha1 : a < 18446744073709551616) (hn0 : -9223372036854775808 ≤ n) (hn1 : n ≤ 9223372036854775807) :
    Calls Try.prog 5 #[.slice A l.length c, .int .u64 a, .int .i64 n] w fun e w' => e = .returned (.bool true) ∧ Below w.heap.size w w' := by
  by_cases hl : 25 < l.length
  · go_enter Try.func5, Try.ntmps5
    go_wp2
    go_ret
    exact ⟨rfl, (by repeat' (first | exact Below.refl _ _ | assumption | (refine below_call (by assumption) ?_ (by first | omega | (simp <;> omega))) | (refine below_callB (by assumption) ?_ (by omega)) | (refine Below.setCell ?_ (by first | omega | (simp <;> omega)) _) | (refine Below.alloc ?_ (by first | omega | (simp <;> omega)) _) | (refine Below.drew ?_) | (refine below_drewN ?_ _)))⟩
  have hl25 : l.length ≤ 25 := by omega
  clear hl
  go_enter Try.func5, Try.ntmps5
  go_wp2
  go_loopw [7] (fun s wr => ∃ k : Nat, k ≤ l.length ∧ s = .int .i64 k ∧ Below w.heap.size w wr) (fun s _ => l.length - (intOf s).toNat)
  case atStart => exact ⟨0, Nat.zero_le _, rfl, Below.refl _ _⟩
  case round =>
    obtain ⟨k, hk, rfl, hbel⟩ := hrel
    have hsz := hbel.size
    have hrw : Rd wr w.heap.size A (hv l) := hr.below hbel
    by_cases hkl : k < l.length
    · obtain ⟨ab, ao, rfl, hab, hcl0, hcl1⟩ := hd_cells hrw hkl
      obtain ⟨hq0, hq1, hq2⟩ := hok (l[k]) (List.getElem_mem _)
      generalize l[k] = y at *
      obtain ⟨yb, yA, yn, yc⟩ := y
      simp only at hcl0 hcl1 hq0 hq1 hq2
      have habi : ab < wr.heap.size := by omega
      have hk0 : (0 : Int) ≤ (k : Int) := by omega
      have hk1 : (k : Int) < (l.length : Int) := by omega
      cases hg : great13 yn with
      | true =>
        have HG := Lib.hid hg; clear hg
        go_wp2_with fail; refine (rgreat13_any yb yA yn yc _ hq2).mono ?_; rintro e w1 ⟨rfl, hb1⟩; rw [HG.out]; obtain ⟨hc1, hf1⟩ := bcell hb1; have hs1 := hb1.size; (try simp at hs1)
        go_wp2
        go_ret
        exact ⟨rfl, (by repeat' (first | exact Below.refl _ _ | assumption | (refine below_call (by assumption) ?_ (by first | omega | (simp <;> omega))) | (refine below_callB (by assumption) ?_ (by omega)) | (refine Below.setCell ?_ (by first | omega | (simp <;> omega)) _) | (refine Below.alloc ?_ (by first | omega | (simp <;> omega)) _) | (refine Below.drew ?_) | (refine below_drewN ?_ _)))⟩
      | false =>
        have HG := Lib.hid hg; clear hg
        go_wp2_with fail; refine (rgreat13_any yb yA yn yc _ hq2).mono ?_; rintro e w1 ⟨rfl, hb1⟩; rw [HG.out]; obtain ⟨hc1, hf1⟩ := bcell hb1; have hs1 := hb1.size; (try simp at hs1)
        go_wp2
        go_roundw
        case rel => exact ⟨k + 1, by omega, by go_num, (by repeat' (first | exact Below.refl _ _ | assumption | (refine below_call (by assumption) ?_ (by first | omega | (simp <;> omega))) | (refine below_callB (by assumption) ?_ (by omega)) | (refine Below.setCell ?_ (by first | omega | (simp <;> omega)) _) | (refine Below.alloc ?_ (by first | omega | (simp <;> omega)) _) | (refine Below.drew ?_) | (refine below_drewN ?_ _)))⟩
        case measure => simp [intOf] <;> omega
    · obtain rfl : k = l.length := by omega
      go_wp2_with fail
      refine (find_any A l c a n _ (hrw.more (by omega)) hok hcap hc ha0 ha1 hn0 hn1).mono ?_
      rintro e w2 ⟨rfl, hb2⟩
      have hs2 := hb2.size
      go_wp2_with fail
      refine (rfind_any A l c a n _ ((Rd.call hb2 (hrw.more (Nat.le_trans (by omega) (Nat.le_refl _))) (Nat.le_refl _)).more hs2) hok (by omega) ha0 ha1 hn0 hn1).mono ?_
      rintro e w3 ⟨rfl, hb3⟩
      have hs3 := hb3.size
      go_wp2
      go_ret
      exact ⟨by simp, (by repeat' (first | exact Below.refl _ _ | assumption | (refine below_call (by assumption) ?_ (by first | omega | (simp <;> omega))) | (refine below_callB (by assumption) ?_ (by omega)) | (refine Below.setCell ?_ (by first | omega | (simp <;> omega)) _) | (refine Below.alloc ?_ (by first | omega | (simp <;> omega)) _) | (refine Below.drew ?_) | (refine below_drewN ?_ _)))⟩
end Go.Proofs.Ytbcjkdekppomgaa
