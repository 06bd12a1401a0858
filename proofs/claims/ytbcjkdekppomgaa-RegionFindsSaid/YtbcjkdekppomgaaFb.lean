/- The contract of region.Find. -/
import Derived.Test.YtbcjkdekppomgaaFa
namespace Go.Proofs.Ytbcjkdekppomgaa
open Go.RowKit
set_option linter.unusedVariables false
set_option maxRecDepth 100000
set_option linter.unusedSimpArgs false
attribute [local go_sem ↓] Go.wp_at_zero Go.wp_at_succ

theorem findS_many {l : List Hd} {a n : Int} (h : 17 < l.length) : findS l a n = (0, 4) := by
  unfold findS listedS; simp [h]
theorem findS_bad {l : List Hd} {a n : Int} (h : l.length ≤ 17) (hb : l.any badB = true) : findS l a n = (0, 8) := by
  unfold findS listedS; rw [if_neg (by omega : ¬ 17 < l.length), if_pos hb]; simp
theorem findS_twice {l : List Hd} {a n : Int} (h : l.length ≤ 17) (hb : l.any badB = false) (ht : twiceB l = true) : findS l a n = (0, 14) := by
  have h1 : listedS l = 14 := by
    unfold listedS; rw [if_neg (by omega : ¬ 17 < l.length), if_neg (by simp [hb]), if_pos ht]
  unfold findS; rw [if_pos (by rw [h1]; decide), h1]
theorem listedS_ok {l : List Hd} (h : l.length ≤ 17) (hb : l.any badB = false) (ht : twiceB l = false) : listedS l = 0 := by
  unfold listedS; rw [if_neg (by omega : ¬ 17 < l.length), if_neg (by simp [hb]), if_neg (by simp [ht])]
theorem findS_arg {l : List Hd} {a n : Int} (h : listedS l = 0) (hn : n < 1) : findS l a n = (0, 2) := by
  unfold findS; simp [h, hn]
theorem findS_none {l : List Hd} {a n : Int} (h : listedS l = 0) (hn : 1 ≤ n) (hno : ∀ i (h : i < l.length), inb (l[i]).b (l[i]).n a n = false) : findS l a n = (0, 6) := by
  have hf : firstI (fun r => inb r.b r.n a n) l 0 = -1 := firstI_none fun r hr => by
    obtain ⟨i, hi, rfl⟩ := List.getElem_of_mem hr
    exact hno i hi
  unfold findS; rw [if_neg (by simp [h]), if_neg (by omega), hf]; rfl
theorem findS_at {l : List Hd} {a n : Int} {j : Nat} (h : listedS l = 0) (hn : 1 ≤ n) (hj : j < l.length) (hno : ∀ i (h : i < j), inb (l[i]'(by omega)).b (l[i]'(by omega)).n a n = false) (hx : inb (l[j]).b (l[j]).n a n = true) : findS l a n = ((j : Int), 0) := by
  have hf : firstI (fun r => inb r.b r.n a n) l 0 = j := by rw [firstI_at (p := fun r => inb r.b r.n a n) hj hno hx]; simp
  unfold findS; rw [if_neg (by simp [h]), if_neg (by omega), hf, if_neg (by omega)]
theorem noBad {l : List Hd} (h : l.any badB = false) {r : Hd} (hr : r ∈ l) : chkR r.b r.n = 0 := by
  rw [List.any_eq_false] at h
  have := h r hr
  simpa [badB] using this

set_option maxHeartbeats 3200000 in
theorem find_any (A : Option Addr) (l : List Hd) (c : Nat) (a n : Int) (w : World) (hr : Rd w w.heap.size A (hv l)) (hok : ∀ r ∈ l, HdOk r) (hcap : l.length ≤ c) (hc : c ≤ 9223372036854775807) (ha0 : 0 ≤ a) (ha1 : a < 18446744073709551616) (hn0 : -9223372036854775808 ≤ n) (hn1 : n ≤ 9223372036854775807) :
    Calls Try.prog 35 #[.slice A l.length c, .int .u64 a, .int .i64 n] w fun e w' => e = .returned (.tuple #[.int .i64 (findS l a n).1, .int .i64 (findS l a n).2]) ∧ Below w.heap.size w w' := by
  by_cases hl : 17 < l.length
  · rw [findS_many hl]
    go_enter Try.func35, Try.ntmps35
    go_wp2
    go_ret2
    exact ⟨rfl, (by repeat' (first | exact Below.refl _ _ | assumption | (refine below_call (by assumption) ?_ (by first | omega | (simp <;> omega))) | (refine below_callB (by assumption) ?_ (by omega)) | (refine Below.setCell ?_ (by first | omega | (simp <;> omega)) _) | (refine Below.alloc ?_ (by first | omega | (simp <;> omega)) _) | (refine Below.drew ?_) | (refine below_drewN ?_ _)))⟩
  have hl17 : l.length ≤ 17 := by omega
  clear hl
  by_cases hbad : l.any badB = true
  · rw [findS_bad hl17 hbad]
    have HB := Lib.hid hbad; clear hbad
    go_enter Try.func35, Try.ntmps35
    go_wp2_with (go_at_call 88; refine (containsfunc_any _ _ _ _ hr hok hl17).mono ?_; rintro e w1 ⟨rfl, hb1⟩; rw [HB.out]; obtain ⟨hc1, hf1⟩ := bcell hb1; have hs1 := hb1.size; (try simp at hs1))
    go_ret2
    exact ⟨rfl, (by repeat' (first | exact Below.refl _ _ | assumption | (refine below_call (by assumption) ?_ (by first | omega | (simp <;> omega))) | (refine below_callB (by assumption) ?_ (by omega)) | (refine Below.setCell ?_ (by first | omega | (simp <;> omega)) _) | (refine Below.alloc ?_ (by first | omega | (simp <;> omega)) _) | (refine Below.drew ?_) | (refine below_drewN ?_ _)))⟩
  have hbad' : l.any badB = false := by simpa using hbad
  have HB := Lib.hid hbad'; clear hbad hbad'
  go_enter Try.func35, Try.ntmps35
  go_wp2_with (go_at_call 88; refine (containsfunc_any _ _ _ _ hr hok hl17).mono ?_; rintro e w1 ⟨rfl, hb1⟩; rw [HB.out]; obtain ⟨hc1, hf1⟩ := bcell hb1; have hs1 := hb1.size; (try simp at hs1))
  go_loopw [23] (fun s wr => ∃ i : Nat, i ≤ l.length ∧ s = .int .i64 i ∧ (∀ i' k (h1 : i' < i) (h2 : i' < l.length) (h3 : k < i'), overB (l[i']) (l[k]'(by omega)) = false) ∧ Below w.heap.size w wr) (fun i _ => l.length - (intOf i).toNat)
  case atStart => exact ⟨0, Nat.zero_le _, rfl, fun i' k h => by omega, (by repeat' (first | exact Below.refl _ _ | assumption | (refine below_call (by assumption) ?_ (by first | omega | (simp <;> omega))) | (refine below_callB (by assumption) ?_ (by omega)) | (refine Below.setCell ?_ (by first | omega | (simp <;> omega)) _) | (refine Below.alloc ?_ (by first | omega | (simp <;> omega)) _) | (refine Below.drew ?_) | (refine below_drewN ?_ _)))⟩
  case round =>
    rename World => wo
    obtain ⟨i, hi, rfl, hno, hbel⟩ := hrel
    have HNO := Lib.hid hno; clear hno
    by_cases hlt : i < l.length
    · obtain ⟨ab, ao, rfl, hab, hcell0, hcell1⟩ := hd_cells (hr.below hbel) hlt
      have hval := noBad HB.out (List.getElem_mem hlt)
      obtain ⟨hv0, hv1, _, hv2⟩ := chkR_ok hval
      clear hval
      have HX := Lib.hid (show ∃ r : Hd, r = l[i] from ⟨_, rfl⟩)
      obtain ⟨r, hrx⟩ := HX.out
      rw [← hrx] at hcell0 hcell1 hv0 hv1 hv2
      have HRX := Lib.hid hrx
      clear hrx HX
      obtain ⟨rb, rA, rn, rc⟩ := r
      simp only at hcell0 hcell1 hv0 hv1 hv2
      have hsz := hbel.size
      have hab2 : ab < wo.heap.size := by omega
      have hi0 : (0 : Int) ≤ (i : Int) := by omega
      have hi1 : (i : Int) < (l.length : Int) := by omega
      have hic : (i : Int) ≤ (c : Int) := by omega
      clear hc1 hf1
      go_wp2_with fail
      go_loopw [32] (fun s wr => ∃ k : Nat, k ≤ i ∧ s = .int .i64 k ∧ (∀ k' (h1 : k' < k) (h2 : k' < l.length), overB (l[i]) (l[k']) = false) ∧ Below (wo.heap.size + 1) (wo.alloc (.cells #[.int .u64 rb, .slice rA rn rc] 25)) wr) (fun s _ => i - (intOf s).toNat)
      case atStart => exact ⟨0, Nat.zero_le _, rfl, fun k h => by omega, Below.refl _ _⟩
      case round =>
        obtain ⟨k, hk, rfl, hno2, hbi⟩ := hrel
        have HNO2 := Lib.hid hno2; clear hno2
        have hszi := hbi.size
        simp at hszi
        obtain ⟨hci, hfi⟩ := bcellB hbi
        have kb0 : wr.cell? ⟨wo.heap.size, 0, none⟩ = some (.int .u64 rb) := by rw [hci _ _ (by omega)]; go_simp
        have kb1 : wr.cell? ⟨wo.heap.size, 1, none⟩ = some (.slice rA rn rc) := by rw [hci _ _ (by omega)]; go_simp
        by_cases hlk : k < i
        · have hkl : k < l.length := by omega
          have hri : Rd wr w.heap.size (some ⟨ab, ao, none⟩) (hv l) := by
            have h9 : Rd wo w.heap.size (some ⟨ab, ao, none⟩) (hv l) := hr.below hbel
            exact Rd.call hbi (h9.alloc hsz _) (by omega)
          obtain ⟨ab', ao', he, _, hcl0, hcl1⟩ := hd_cells hri hkl
          injection he with he
          injection he with e1 e2
          subst e1; subst e2
          have hval2 := noBad HB.out (List.getElem_mem hkl)
          obtain ⟨hu0, hu1, _, hu2⟩ := chkR_ok hval2
          clear hval2
          have HY := Lib.hid (show ∃ r : Hd, r = l[k] from ⟨_, rfl⟩)
          obtain ⟨y, hyx⟩ := HY.out
          rw [← hyx] at hcl0 hcl1 hu0 hu1 hu2
          have HYX := Lib.hid hyx
          clear hyx HY
          obtain ⟨yb, yA, yn, yc⟩ := y
          simp only at hcl0 hcl1 hu0 hu1 hu2
          have habi : ab < wr.heap.size := by omega
          have hwi : wo.heap.size < wr.heap.size := by omega
          have hk0 : (0 : Int) ≤ (k : Int) := by omega
          have hk1 : (k : Int) < (i : Int) := by omega
          clear hci hfi
          have hstep : ∀ wn, Below w.heap.size w wn → True := fun _ _ => trivial
          by_cases hpos : 0 < rn ∧ 0 < yn
          · obtain ⟨hp1, hp2⟩ := hpos
            have hov := overlap_any rb rA rn rc yb yA yn yc
            by_cases hoB : overB ⟨rb, rA, rn, rc⟩ ⟨yb, yA, yn, yc⟩ = true
            · have HO := Lib.hid hoB
              have hres : findS l a n = (0, 14) := findS_twice hl17 HB.out (twice_at hlt hlk (by rw [← HRX.out, ← HYX.out]; exact hoB))
              have HRES := Lib.hid hres
              clear hoB hres hov
              go_wp2_with (go_at_call 90; refine (overlap_any rb rA rn rc yb yA yn yc _ (by omega) hv1 hv2 (by omega) hu1 hu2 hp1 hp2).mono ?_; rintro e w2 ⟨rfl, hb2⟩; rw [HO.out])
              go_ret2
              exact ⟨by rw [HRES.out]; rfl, (by repeat' (first | exact Below.refl _ _ | assumption | (refine below_call (by assumption) ?_ (by first | omega | (simp <;> omega))) | (refine below_callB (by assumption) ?_ (by omega)) | (refine Below.setCell ?_ (by first | omega | (simp <;> omega)) _) | (refine Below.alloc ?_ (by first | omega | (simp <;> omega)) _) | (refine Below.drew ?_) | (refine below_drewN ?_ _)))⟩
            · have hoB' : overB ⟨rb, rA, rn, rc⟩ ⟨yb, yA, yn, yc⟩ = false := by simpa using hoB
              have HO := Lib.hid hoB'
              clear hoB hoB' hov
              go_wp2_with (go_at_call 90; refine (overlap_any rb rA rn rc yb yA yn yc _ (by omega) hv1 hv2 (by omega) hu1 hu2 hp1 hp2).mono ?_; rintro e w2 ⟨rfl, hb2⟩; have hs2 := hb2.size; rw [HO.out])
              go_roundw
              case rel =>
                refine ⟨k + 1, by omega, by go_num, fun k' h1 h2 => ?_, (by repeat' (first | exact Below.refl _ _ | assumption | (refine below_call (by assumption) ?_ (by first | omega | (simp <;> omega))) | (refine below_callB (by assumption) ?_ (by omega)) | (refine Below.setCell ?_ (by first | omega | (simp <;> omega)) _) | (refine Below.alloc ?_ (by first | omega | (simp <;> omega)) _) | (refine Below.drew ?_) | (refine below_drewN ?_ _)))⟩
                by_cases hk' : k' < k
                · exact HNO2.out k' hk' h2
                · obtain rfl : k' = k := by omega
                  rw [← HRX.out, ← HYX.out]; exact HO.out
              case measure => simp [intOf] <;> omega
          · have hoB' : overB ⟨rb, rA, rn, rc⟩ ⟨yb, yA, yn, yc⟩ = false := by
              unfold overB; simp only [decide_eq_false_iff_not]; omega
            have HO := Lib.hid hoB'
            have hpos' : rn = 0 ∨ (0 < rn ∧ yn = 0) := by omega
            clear hoB' hpos
            rcases hpos' with rfl | ⟨hp1, rfl⟩
            all_goals
              go_wp2
              go_roundw
              case rel =>
                refine ⟨k + 1, by omega, by go_num, fun k' h1 h2 => ?_, (by repeat' (first | exact Below.refl _ _ | assumption | (refine below_call (by assumption) ?_ (by first | omega | (simp <;> omega))) | (refine below_callB (by assumption) ?_ (by omega)) | (refine Below.setCell ?_ (by first | omega | (simp <;> omega)) _) | (refine Below.alloc ?_ (by first | omega | (simp <;> omega)) _) | (refine Below.drew ?_) | (refine below_drewN ?_ _)))⟩
                by_cases hk' : k' < k
                · exact HNO2.out k' hk' h2
                · obtain rfl : k' = k := by omega
                  rw [← HRX.out, ← HYX.out]; exact HO.out
              case measure => simp [intOf] <;> omega
        · obtain rfl : k = i := by omega
          clear hci hfi
          have hbel2 : Below w.heap.size w wr := below_callB hbi (hbel.alloc hsz _) (by omega)
          go_wp2
          go_roundw
          case rel =>
            refine ⟨k + 1, by omega, by go_num, fun i' k' h1 h2 h3 => ?_, hbel2⟩
            by_cases hi' : i' < k
            · exact HNO.out i' k' hi' h2 h3
            · obtain rfl : i' = k := by omega
              exact HNO2.out k' h3 (by omega)
          case measure => simp [intOf] <;> omega
    · obtain rfl : i = l.length := by omega
      have HLI := Lib.hid (listedS_ok hl17 HB.out (twice_none fun i k hi hk => HNO.out i k hi hi hk))
      clear hc1 hf1
      by_cases hn : n < 1
      · have HRES := Lib.hid (findS_arg (a := a) HLI.out hn)
        go_wp2
        go_ret2
        exact ⟨by rw [HRES.out]; rfl, (by repeat' (first | exact Below.refl _ _ | assumption | (refine below_call (by assumption) ?_ (by first | omega | (simp <;> omega))) | (refine below_callB (by assumption) ?_ (by omega)) | (refine Below.setCell ?_ (by first | omega | (simp <;> omega)) _) | (refine Below.alloc ?_ (by first | omega | (simp <;> omega)) _) | (refine Below.drew ?_) | (refine below_drewN ?_ _)))⟩
      · have hn1' : 1 ≤ n := by omega
        clear hn
        go_wp2
        go_loopw [57] (fun s wr => ∃ k : Nat, k ≤ l.length ∧ s = .int .i64 k ∧ (∀ i (h1 : i < k) (h2 : i < l.length), inb (l[i]).b (l[i]).n a n = false) ∧ Below w.heap.size w wr) (fun s _ => l.length - (intOf s).toNat)
        case atStart => exact ⟨0, Nat.zero_le _, rfl, fun k h => by omega, hbel⟩
        case round =>
          obtain ⟨k, hk, rfl, hno3, hbel3⟩ := hrel
          have HNO3 := Lib.hid hno3; clear hno3
          have hsz3 := hbel3.size
          by_cases hkl : k < l.length
          · obtain ⟨ab, ao, rfl, hab, hcl0, hcl1⟩ := hd_cells (hr.below hbel3) hkl
            have hval2 := noBad HB.out (List.getElem_mem hkl)
            have HY := Lib.hid (show ∃ r : Hd, r = l[k] from ⟨_, rfl⟩)
            obtain ⟨y, hyx⟩ := HY.out
            rw [← hyx] at hcl0 hcl1 hval2
            have HYX := Lib.hid hyx
            clear hyx HY
            obtain ⟨yb, yA, yn, yc⟩ := y
            simp only at hcl0 hcl1 hval2
            have HV := Lib.hid hval2
            clear hval2
            have habi : ab < wr.heap.size := by omega
            have hk0 : (0 : Int) ≤ (k : Int) := by omega
            have hk1 : (k : Int) < (l.length : Int) := by omega
            have HS := Lib.hid (indexS_snd (b := yb) (n := yn) (a := a) (k := n) (by omega))
            by_cases hin : inb yb yn a n = true
            · have HI := Lib.hid hin; clear hin
              have hres : findS l a n = ((k : Int), 0) := findS_at HLI.out hn1' hkl (fun i h => HNO3.out i h (by omega)) (by rw [← HYX.out]; exact HI.out)
              have HRES := Lib.hid hres; clear hres
              go_wp2_with (go_at_call 91; refine (index_any yb yA yn yc a n _ HV.out ha0 ha1 hn0 hn1).mono ?_; rintro e w2 ⟨rfl, hb2⟩; have hs2 := hb2.size; rw [HS.out, HI.out])
              go_ret2
              exact ⟨by rw [HRES.out]; rfl, (by repeat' (first | exact Below.refl _ _ | assumption | (refine below_call (by assumption) ?_ (by first | omega | (simp <;> omega))) | (refine below_callB (by assumption) ?_ (by omega)) | (refine Below.setCell ?_ (by first | omega | (simp <;> omega)) _) | (refine Below.alloc ?_ (by first | omega | (simp <;> omega)) _) | (refine Below.drew ?_) | (refine below_drewN ?_ _)))⟩
            · have hin' : inb yb yn a n = false := by simpa using hin
              have HI := Lib.hid hin'; clear hin hin'
              go_wp2_with (go_at_call 91; refine (index_any yb yA yn yc a n _ HV.out ha0 ha1 hn0 hn1).mono ?_; rintro e w2 ⟨rfl, hb2⟩; have hs2 := hb2.size; rw [HS.out, HI.out])
              go_roundw
              case rel =>
                refine ⟨k + 1, by omega, by go_num, fun i h1 h2 => ?_, (by repeat' (first | exact Below.refl _ _ | assumption | (refine below_call (by assumption) ?_ (by first | omega | (simp <;> omega))) | (refine below_callB (by assumption) ?_ (by omega)) | (refine Below.setCell ?_ (by first | omega | (simp <;> omega)) _) | (refine Below.alloc ?_ (by first | omega | (simp <;> omega)) _) | (refine Below.drew ?_) | (refine below_drewN ?_ _)))⟩
                by_cases hi' : i < k
                · exact HNO3.out i hi' h2
                · obtain rfl : i = k := by omega
                  rw [← HYX.out]; exact HI.out
              case measure => simp [intOf] <;> omega
          · obtain rfl : k = l.length := by omega
            have hres : findS l a n = (0, 6) := findS_none HLI.out hn1' (fun i h => HNO3.out i h h)
            have HRES := Lib.hid hres; clear hres
            go_wp2
            go_ret2
            exact ⟨by rw [HRES.out]; rfl, (by repeat' (first | exact Below.refl _ _ | assumption | (refine below_call (by assumption) ?_ (by first | omega | (simp <;> omega))) | (refine below_callB (by assumption) ?_ (by omega)) | (refine Below.setCell ?_ (by first | omega | (simp <;> omega)) _) | (refine Below.alloc ?_ (by first | omega | (simp <;> omega)) _) | (refine Below.drew ?_) | (refine below_drewN ?_ _)))⟩
end Go.Proofs.Ytbcjkdekppomgaa
