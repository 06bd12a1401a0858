/- Contracts of the reference 13: Meet, Listed, Find. -/
import Derived.Test.YtbcjkdekppomgaaFb
namespace Go.Proofs.Ytbcjkdekppomgaa
open Go.RowKit
set_option linter.unusedVariables false
set_option maxRecDepth 100000
set_option linter.unusedSimpArgs false
attribute [local go_sem ↓] Go.wp_at_zero Go.wp_at_succ

theorem over_of {b : Int} {A : Option Addr} {n c : Nat} {b2 : Int} {A2 : Option Addr} {n2 c2 : Nat} {j : Nat} (hj : j < n) (h : inb b2 n2 (b + j) 1 = true) : overB ⟨b, A, n, c⟩ ⟨b2, A2, n2, c2⟩ = true := by
  obtain ⟨h1, h2⟩ := inb_iff.1 h
  unfold overB
  simp only [decide_eq_true_eq]
  omega
theorem over_not {b : Int} {A : Option Addr} {n c : Nat} {b2 : Int} {A2 : Option Addr} {n2 c2 : Nat} (h : ∀ j : Nat, j < n → inb b2 n2 (b + j) 1 = false) : overB ⟨b, A, n, c⟩ ⟨b2, A2, n2, c2⟩ = false := by
  cases ho : overB ⟨b, A, n, c⟩ ⟨b2, A2, n2, c2⟩ with
  | false => rfl
  | true =>
    unfold overB at ho
    simp only [decide_eq_true_eq] at ho
    obtain ⟨h1, h2, h3, h4⟩ := ho
    have := h (max b b2 - b).toNat (by omega)
    have ht : inb b2 n2 (b + ((max b b2 - b).toNat : Nat)) 1 = true := inb_iff.2 ⟨by omega, by omega⟩
    rw [ht] at this
    cases this

set_option maxHeartbeats 800000 in
theorem rmeet_any (b : Int) (A : Option Addr) (n c : Nat) (b2 : Int) (A2 : Option Addr) (n2 c2 : Nat) (w : World) (hv : chkR b n = 0) (hv2 : chkR b2 n2 = 0) :
    Calls Try.prog 115 #[.agg #[.int .u64 b, .slice A n c], .agg #[.int .u64 b2, .slice A2 n2 c2]] w fun e w' => e = .returned (.bool (overB ⟨b, A, n, c⟩ ⟨b2, A2, n2, c2⟩)) ∧ Below w.heap.size w w' := by
  obtain ⟨h0, h1, _, h3⟩ := chkR_ok hv
  have HV := Lib.hid hv
  have HV2 := Lib.hid hv2
  clear hv hv2
  go_enter Try.func115, Try.ntmps115
  go_wp2
  go_loopw [5] (fun s wr => ∃ j : Nat, j ≤ n ∧ s = .int .i64 j ∧ (∀ i : Nat, i < j → inb b2 n2 (b + i) 1 = false) ∧ Below (w.heap.size + 2) ((w.alloc (.cells #[.int .u64 b, .slice A n c] 25)).alloc (.cells #[.int .u64 b2, .slice A2 n2 c2] 25)) wr) (fun s _ => n - (intOf s).toNat)
  case atStart => exact ⟨0, Nat.zero_le _, rfl, fun i h => by omega, Below.refl _ _⟩
  case round =>
    obtain ⟨j, hj, rfl, hno, hbel⟩ := hrel
    have HNO := Lib.hid hno; clear hno
    obtain ⟨hcr, hfr⟩ := bcellB hbel
    have hsz := hbel.size
    simp at hsz
    have kx0 : wr.cell? ⟨w.heap.size, 0, none⟩ = some (.int .u64 b) := by rw [hcr _ _ (by first | omega | (simp <;> omega))]; go_simp
    have kx1 : wr.cell? ⟨w.heap.size, 1, none⟩ = some (.slice A n c) := by rw [hcr _ _ (by first | omega | (simp <;> omega))]; go_simp
    have kx2 : wr.cell? ⟨w.heap.size + 1, 0, none⟩ = some (.int .u64 b2) := by rw [hcr _ _ (by first | omega | (simp <;> omega))]; go_simp
    have kx3 : wr.cell? ⟨w.heap.size + 1, 1, none⟩ = some (.slice A2 n2 c2) := by rw [hcr _ _ (by first | omega | (simp <;> omega))]; go_simp
    have hbw : Below w.heap.size w wr := below_callB hbel (by exact (Below.refl _ _ |>.alloc (Nat.le_refl _) _).alloc (by simp) _) (by omega)
    clear hcr hfr
    by_cases hlt : j < n
    · have e1 : IntKind.u64.wrap (j : Int) = (j : Int) := IntWalk.u64_in _ (by omega)
      have e2 : IntKind.u64.wrap (b + (j : Int)) = b + (j : Int) := IntWalk.u64_in _ (by omega)
      by_cases hin : inb b2 n2 (b + j) 1 = true
      · have HI := Lib.hid hin
        have HR := Lib.hid (over_of (A := A) (c := c) (A2 := A2) (c2 := c2) hlt hin)
        clear hin
        go_wp2_with fail; refine (rin_any b2 A2 n2 c2 (b + j) 1 _ HV2.out (by omega) (by omega) (by omega) (by omega)).mono ?_; rintro e w1 ⟨rfl, hb1⟩; rw [HI.out]; obtain ⟨hc1, hf1⟩ := bcell hb1; have hs1 := hb1.size; (try simp at hs1); have hz1_0 : w.heap.size < w1.heap.size := (by omega); have hz1_1 : w.heap.size + 1 < w1.heap.size := (by omega)
        go_wp2
        go_ret
        exact ⟨by rw [HR.out]; rfl, (by repeat' (first | exact Below.refl _ _ | assumption | (refine below_call (by assumption) ?_ (by first | omega | (simp <;> omega))) | (refine below_callB (by assumption) ?_ (by omega)) | (refine Below.setCell ?_ (by first | omega | (simp <;> omega)) _) | (refine Below.alloc ?_ (by first | omega | (simp <;> omega)) _) | (refine Below.drew ?_) | (refine below_drewN ?_ _)))⟩
      · have hin' : inb b2 n2 (b + j) 1 = false := by simpa using hin
        have HI := Lib.hid hin'; clear hin hin'
        go_wp2_with fail; refine (rin_any b2 A2 n2 c2 (b + j) 1 _ HV2.out (by omega) (by omega) (by omega) (by omega)).mono ?_; rintro e w1 ⟨rfl, hb1⟩; rw [HI.out]; obtain ⟨hc1, hf1⟩ := bcell hb1; have hs1 := hb1.size; (try simp at hs1); have hz1_0 : w.heap.size < w1.heap.size := (by omega); have hz1_1 : w.heap.size + 1 < w1.heap.size := (by omega)
        go_wp2
        go_roundw
        case rel =>
          refine ⟨j + 1, by omega, by go_num, fun i h => ?_, (by repeat' (first | exact Below.refl _ _ | assumption | (refine below_call (by assumption) ?_ (by first | omega | (simp <;> omega))) | (refine below_callB (by assumption) ?_ (by omega)) | (refine Below.setCell ?_ (by first | omega | (simp <;> omega)) _) | (refine Below.alloc ?_ (by first | omega | (simp <;> omega)) _) | (refine Below.drew ?_) | (refine below_drewN ?_ _)))⟩
          by_cases hi : i < j
          · exact HNO.out i hi
          · obtain rfl : i = j := by omega
            exact HI.out
        case measure => simp [intOf] <;> omega
    · obtain rfl : j = n := by omega
      have HR := Lib.hid (over_not (A := A) (c := c) (A2 := A2) (c2 := c2) HNO.out)
      go_wp2
      go_ret
      exact ⟨by rw [HR.out]; rfl, hbw⟩

set_option maxHeartbeats 3200000 in
theorem rlisted_any (A : Option Addr) (l : List Hd) (c : Nat) (w : World) (hr : Rd w w.heap.size A (hv l)) (hok : ∀ r ∈ l, HdOk r) (hlm : l.length ≤ 9223372036854775807) :
    Calls Try.prog 92 #[.slice A l.length c] w fun e w' => e = .returned (.int .i64 (listedS l)) ∧ Below w.heap.size w w' := by
  by_cases hl : 17 < l.length
  · have HR := Lib.hid (show listedS l = 4 by unfold listedS; rw [if_pos hl])
    go_enter Try.func92, Try.ntmps92
    go_wp2
    go_ret
    exact ⟨by rw [HR.out]; rfl, (by repeat' (first | exact Below.refl _ _ | assumption | (refine below_call (by assumption) ?_ (by first | omega | (simp <;> omega))) | (refine below_callB (by assumption) ?_ (by omega)) | (refine Below.setCell ?_ (by first | omega | (simp <;> omega)) _) | (refine Below.alloc ?_ (by first | omega | (simp <;> omega)) _) | (refine Below.drew ?_) | (refine below_drewN ?_ _)))⟩
  have hl17 : l.length ≤ 17 := by omega
  clear hl
  go_enter Try.func92, Try.ntmps92
  go_wp2
  go_loopw [3] (fun s wr => ∃ j : Nat, j ≤ l.length ∧ s = .int .i64 j ∧ (∀ k (h : k < j) (h2 : k < l.length), badB (l[k]) = false) ∧ Below w.heap.size w wr) (fun s _ => l.length - (intOf s).toNat)
  case atStart => exact ⟨0, Nat.zero_le _, rfl, fun k h => by omega, Below.refl _ _⟩
  case round =>
    obtain ⟨j, hj, rfl, hno, hbel⟩ := hrel
    have HNO := Lib.hid hno; clear hno
    have hsz := hbel.size
    by_cases hlt : j < l.length
    · obtain ⟨ab, ao, rfl, hab, hcell0, hcell1⟩ := hd_cells (hr.below hbel) hlt
      obtain ⟨hq0, hq1, hq2⟩ := hok (l[j]) (List.getElem_mem _)
      have hbd : badB (l[j]) = (chkR (l[j]).b (l[j]).n != 0) := rfl
      have HA := Lib.hid (fun h : badB (l[j]) = true => (show l.any badB = true by rw [List.any_eq_true]; exact ⟨l[j], List.getElem_mem _, h⟩))
      have HX := Lib.hid (show ∃ r : Hd, r = l[j] from ⟨_, rfl⟩)
      obtain ⟨r, hrx⟩ := HX.out
      rw [← hrx] at hcell0 hcell1 hq0 hq1 hq2 hbd
      have HRX := Lib.hid hrx
      have HBD := Lib.hid hbd
      clear hrx hbd HX
      obtain ⟨rb, rA, rn, rc⟩ := r
      simp only at hcell0 hcell1 hq0 hq1 hq2
      have hab2 : ab < wr.heap.size := by omega
      have hi0 : (0 : Int) ≤ (j : Int) := by omega
      have hi1 : (j : Int) < (l.length : Int) := by omega
      by_cases hb : chkR rb rn = 0
      · have HB := Lib.hid hb; clear hb
        go_wp2_with fail; refine (rcheck_any rb rA rn rc _ hq0 hq1 hq2).mono ?_; rintro e w1 ⟨rfl, hb1⟩; rw [HB.out]; obtain ⟨hc1, hf1⟩ := bcell hb1; have hs1 := hb1.size; (try simp at hs1)
        go_wp2
        go_roundw
        case rel =>
          refine ⟨j + 1, by omega, by go_num, fun k h h2 => ?_, (by repeat' (first | exact Below.refl _ _ | assumption | (refine below_call (by assumption) ?_ (by first | omega | (simp <;> omega))) | (refine below_callB (by assumption) ?_ (by omega)) | (refine Below.setCell ?_ (by first | omega | (simp <;> omega)) _) | (refine Below.alloc ?_ (by first | omega | (simp <;> omega)) _) | (refine Below.drew ?_) | (refine below_drewN ?_ _)))⟩
          by_cases hk : k < j
          · exact HNO.out k hk h2
          · obtain rfl : k = j := by omega
            rw [← HRX.out, HBD.out, HB.out]; rfl
        case measure => simp [intOf] <;> omega
      · have hbt : (chkR rb rn != 0) = true := by simpa using hb
        have hany := HA.out (by rw [← HRX.out, HBD.out, hbt])
        have HR := Lib.hid (show listedS l = 8 by unfold listedS; rw [if_neg (by omega : ¬ 17 < l.length), if_pos hany])
        clear hany hb
        go_wp2_with fail; refine (rcheck_any rb rA rn rc _ hq0 hq1 hq2).mono ?_; rintro e w1 ⟨rfl, hb1⟩; obtain ⟨hc1, hf1⟩ := bcell hb1; have hs1 := hb1.size; (try simp at hs1)
        go_wp2
        go_ret
        exact ⟨by rw [HR.out]; rfl, (by repeat' (first | exact Below.refl _ _ | assumption | (refine below_call (by assumption) ?_ (by first | omega | (simp <;> omega))) | (refine below_callB (by assumption) ?_ (by omega)) | (refine Below.setCell ?_ (by first | omega | (simp <;> omega)) _) | (refine Below.alloc ?_ (by first | omega | (simp <;> omega)) _) | (refine Below.drew ?_) | (refine below_drewN ?_ _)))⟩
    · obtain rfl : j = l.length := by omega
      have hbad : l.any badB = false := by
        rw [List.any_eq_false]
        intro r hr'
        obtain ⟨k, hk, rfl⟩ := List.getElem_of_mem hr'
        rw [HNO.out k hk hk]; simp
      have HB := Lib.hid hbad; clear hbad HNO
      go_wp2
      rename World => w0
      go_loopw [4] (fun s wr => ∃ i : Nat, i ≤ l.length ∧ s = .int .i64 i ∧ (∀ i' k (h1 : i' < i) (h2 : i' < l.length) (h3 : k < i'), overB (l[i']) (l[k]'(by omega)) = false) ∧ Below w.heap.size w wr) (fun s _ => l.length - (intOf s).toNat)
      case atStart => exact ⟨0, Nat.zero_le _, rfl, fun i' k h => by omega, hbel⟩
      case round =>
        rename World => wo
        obtain ⟨i, hi, rfl, hno, hbel⟩ := hrel
        have HNO := Lib.hid hno; clear hno
        by_cases hlt : i < l.length
        · go_wp2
          go_loopw [5] (fun s wr => ∃ k : Nat, k ≤ i ∧ s = .int .i64 k ∧ (∀ k' (h1 : k' < k) (h2 : k' < l.length), overB (l[i]) (l[k']) = false) ∧ Below w.heap.size w wr) (fun s _ => i - (intOf s).toNat)
          case atStart => exact ⟨0, Nat.zero_le _, rfl, fun k h => by omega, hbel⟩
          case round =>
            obtain ⟨k, hk, rfl, hno2, hbi⟩ := hrel
            have HNO2 := Lib.hid hno2; clear hno2
            have hszi := hbi.size
            by_cases hlk : k < i
            · have hkl : k < l.length := by omega
              obtain ⟨ab, ao, rfl, hab, hcell0, hcell1⟩ := hd_cells (hr.below hbi) hlt
              obtain ⟨ab', ao', he, _, hcl0, hcl1⟩ := hd_cells (hr.below hbi) hkl
              injection he with he
              injection he with e1 e2
              subst e1; subst e2
              have hval := noBad HB.out (List.getElem_mem hlt)
              have hval2 := noBad HB.out (List.getElem_mem hkl)
              have HX := Lib.hid (show ∃ r : Hd, r = l[i] from ⟨_, rfl⟩)
              have HY := Lib.hid (show ∃ r : Hd, r = l[k] from ⟨_, rfl⟩)
              obtain ⟨r, hrx⟩ := HX.out
              obtain ⟨y, hyx⟩ := HY.out
              rw [← hrx] at hcell0 hcell1 hval
              rw [← hyx] at hcl0 hcl1 hval2
              have HRX := Lib.hid hrx
              have HYX := Lib.hid hyx
              clear hrx hyx HX HY
              obtain ⟨rb, rA, rn, rc⟩ := r
              obtain ⟨yb, yA, yn, yc⟩ := y
              simp only at hcell0 hcell1 hcl0 hcl1 hval hval2
              have HV := Lib.hid hval
              have HV2 := Lib.hid hval2
              clear hval hval2
              have habi : ab < wr.heap.size := by omega
              have hk0 : (0 : Int) ≤ (k : Int) := by omega
              have hk1 : (k : Int) < (l.length : Int) := by omega
              have hi0 : (0 : Int) ≤ (i : Int) := by omega
              have hi1 : (i : Int) < (l.length : Int) := by omega
              cases hoB : overB ⟨rb, rA, rn, rc⟩ ⟨yb, yA, yn, yc⟩ with
              | true =>
                have HO := Lib.hid hoB
                have htw : twiceB l = true := twice_at hlt hlk (by rw [← HRX.out, ← HYX.out]; exact hoB)
                have HR := Lib.hid (show listedS l = 14 by unfold listedS; rw [if_neg (by omega : ¬ 17 < l.length), if_neg (by simp [HB.out]), if_pos htw])
                clear hoB htw
                go_wp2
                go_region_held3 (fun w' => w'.cell? ⟨ab, ao + i * 2, none⟩ = some (.int .u64 rb) ∧ w'.cell? ⟨ab, ao + i * 2 + 1, none⟩ = some (.slice rA rn rc) ∧ w'.cell? ⟨ab, ao + k * 2, none⟩ = some (.int .u64 yb) ∧ w'.cell? ⟨ab, ao + k * 2 + 1, none⟩ = some (.slice yA yn yc)) (go_keep) ((go_at_call 115; refine (rmeet_any rb rA rn rc yb yA yn yc _ HV.out HV2.out).mono ?_; rintro e w2 ⟨rfl, hb2⟩; obtain ⟨hc2, hf2⟩ := bcell hb2; have hs2 := hb2.size; have k0 := (hc2 _ _ habi).trans hcell0; have k1 := (hc2 _ _ habi).trans hcell1; have k2 := (hc2 _ _ habi).trans hcl0; have k3 := (hc2 _ _ habi).trans hcl1; clear hc2 hf2; rw [HO.out]))
                go_wp2
                go_ret
                exact ⟨by rw [HR.out]; rfl, (by repeat' (first | exact Below.refl _ _ | assumption | (refine below_call (by assumption) ?_ (by first | omega | (simp <;> omega))) | (refine below_callB (by assumption) ?_ (by omega)) | (refine Below.setCell ?_ (by first | omega | (simp <;> omega)) _) | (refine Below.alloc ?_ (by first | omega | (simp <;> omega)) _) | (refine Below.drew ?_) | (refine below_drewN ?_ _)))⟩
              | false =>
                have HO := Lib.hid hoB
                clear hoB
                go_wp2
                go_region_held3 (fun w' => w'.cell? ⟨ab, ao + i * 2, none⟩ = some (.int .u64 rb) ∧ w'.cell? ⟨ab, ao + i * 2 + 1, none⟩ = some (.slice rA rn rc) ∧ w'.cell? ⟨ab, ao + k * 2, none⟩ = some (.int .u64 yb) ∧ w'.cell? ⟨ab, ao + k * 2 + 1, none⟩ = some (.slice yA yn yc)) (go_keep) ((go_at_call 115; refine (rmeet_any rb rA rn rc yb yA yn yc _ HV.out HV2.out).mono ?_; rintro e w2 ⟨rfl, hb2⟩; obtain ⟨hc2, hf2⟩ := bcell hb2; have hs2 := hb2.size; have k0 := (hc2 _ _ habi).trans hcell0; have k1 := (hc2 _ _ habi).trans hcell1; have k2 := (hc2 _ _ habi).trans hcl0; have k3 := (hc2 _ _ habi).trans hcl1; clear hc2 hf2; rw [HO.out]))
                go_wp2
                go_roundw
                case rel =>
                  refine ⟨k + 1, by omega, by go_num, fun k' h1 h2 => ?_, (by repeat' (first | exact Below.refl _ _ | assumption | (refine below_call (by assumption) ?_ (by first | omega | (simp <;> omega))) | (refine below_callB (by assumption) ?_ (by omega)) | (refine Below.setCell ?_ (by first | omega | (simp <;> omega)) _) | (refine Below.alloc ?_ (by first | omega | (simp <;> omega)) _) | (refine Below.drew ?_) | (refine below_drewN ?_ _)))⟩
                  by_cases hk' : k' < k
                  · exact HNO2.out k' hk' h2
                  · obtain rfl : k' = k := by omega
                    rw [← HRX.out, ← HYX.out]; exact HO.out
                case measure => simp [intOf] <;> omega
            · obtain rfl : k = i := by omega
              go_wp2
              go_roundw
              case rel =>
                refine ⟨k + 1, by omega, by go_num, fun i' k' h1 h2 h3 => ?_, hbi⟩
                by_cases hi' : i' < k
                · exact HNO.out i' k' hi' h2 h3
                · obtain rfl : i' = k := by omega
                  exact HNO2.out k' h3 (by omega)
              case measure => simp [intOf] <;> omega
        · obtain rfl : i = l.length := by omega
          have HR := Lib.hid (listedS_ok hl17 HB.out (twice_none fun i k hi hk => HNO.out i k hi hi hk))
          go_wp2
          go_ret
          exact ⟨by rw [HR.out]; rfl, hbel⟩
end Go.Proofs.Ytbcjkdekppomgaa
