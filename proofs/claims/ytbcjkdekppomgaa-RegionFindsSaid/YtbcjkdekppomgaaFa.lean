/- Contracts of Find's callees: the closure, slices.IndexFunc, slices.ContainsFunc, overlap. -/
import Derived.Test.YtbcjkdekppomgaaSf
import Derived.Test.YtbcjkdekppomgaaRe
import Derived.Test.YtbcjkdekppomgaaWa
namespace Go.Proofs.Ytbcjkdekppomgaa
open Go.RowKit
set_option linter.unusedVariables false
set_option maxRecDepth 100000
set_option linter.unusedSimpArgs false
attribute [local go_sem ↓] Go.wp_at_zero Go.wp_at_succ

theorem hd_cells {w : World} {B : Nat} {A : Option Addr} {l : List Hd} (hr : Rd w B A (hv l)) {j : Nat} (hj : j < l.length) :
    ∃ b off, A = some ⟨b, off, none⟩ ∧ b < B ∧ w.cell? ⟨b, off + j * 2, none⟩ = some (.int .u64 (l[j]).b) ∧ w.cell? ⟨b, off + j * 2 + 1, none⟩ = some (.slice (l[j]).A (l[j]).n (l[j]).c) := by
  obtain ⟨b, off, rfl, hb, h0⟩ := hr.at_ (hv_get0 l j hj)
  obtain ⟨b', off', he, _, h1⟩ := hr.at_ (hv_get1 l j hj)
  injection he with he
  injection he with e1 e2
  subst e1; subst e2
  exact ⟨b, off, rfl, hb, h0, h1⟩

set_option maxHeartbeats 400000 in
theorem find1_any (b : Int) (A : Option Addr) (n c : Nat) (w : World) (h0 : 0 ≤ b) (h1 : b < 18446744073709551616) (hn : n ≤ 9223372036854775807) :
    Calls Try.prog 89 #[.agg #[.int .u64 b, .slice A n c]] w fun e w' => e = .returned (.bool (chkR b n != 0)) ∧ Below w.heap.size w w' := by
  go_enter Try.func89, Try.ntmps89
  go_wp2_with (go_at_call 51; refine (check_any _ _ _ _ _ h0 h1 hn).mono ?_; rintro e w1 ⟨rfl, hb1⟩; obtain ⟨hc1, hf1⟩ := bcell hb1; have hs1 := hb1.size; (try simp at hs1); have hz1_0 : w.heap.size < w1.heap.size := (by omega))
  go_ret
  exact ⟨rfl, (by repeat' (first | exact Below.refl _ _ | assumption | (refine below_call (by assumption) ?_ (by first | omega | (simp <;> omega))) | (refine below_callB (by assumption) ?_ (by omega)) | (refine Below.setCell ?_ (by first | omega | (simp <;> omega)) _) | (refine Below.alloc ?_ (by first | omega | (simp <;> omega)) _) | (refine Below.drew ?_) | (refine below_drewN ?_ _)))⟩

set_option maxHeartbeats 800000 in
theorem overlap_any (b : Int) (A : Option Addr) (n c : Nat) (b2 : Int) (A2 : Option Addr) (n2 c2 : Nat) (w : World) (h0 : 0 ≤ b) (h1 : b ≤ 1099511627776) (hn : n ≤ 20000) (h2 : 0 ≤ b2) (h3 : b2 ≤ 1099511627776) (hn2 : n2 ≤ 20000) (hp : 0 < n) (hp2 : 0 < n2) :
    Calls Try.prog 90 #[.agg #[.int .u64 b, .slice A n c], .agg #[.int .u64 b2, .slice A2 n2 c2]] w fun e w' => e = .returned (.bool (overB ⟨b, A, n, c⟩ ⟨b2, A2, n2, c2⟩)) ∧ Below w.heap.size w w' := by
  have e1 : IntKind.u64.wrap (n : Int) = (n : Int) := IntWalk.u64_in _ (by omega)
  have e2 : IntKind.u64.wrap (n2 : Int) = (n2 : Int) := IntWalk.u64_in _ (by omega)
  have e3 : IntKind.u64.wrap (b + (n : Int)) = b + (n : Int) := IntWalk.u64_in _ (by omega)
  have e4 : IntKind.u64.wrap (b2 + (n2 : Int)) = b2 + (n2 : Int) := IntWalk.u64_in _ (by omega)
  unfold overB
  go_enter Try.func90, Try.ntmps90
  go_wp2
  all_goals (go_ret; exact ⟨ret_bool (by go_light; grind), (by repeat' (first | exact Below.refl _ _ | assumption | (refine below_call (by assumption) ?_ (by first | omega | (simp <;> omega))) | (refine below_callB (by assumption) ?_ (by omega)) | (refine Below.setCell ?_ (by first | omega | (simp <;> omega)) _) | (refine Below.alloc ?_ (by first | omega | (simp <;> omega)) _) | (refine Below.drew ?_) | (refine below_drewN ?_ _)))⟩)

set_option maxHeartbeats 800000 in
theorem indexfunc_any (A : Option Addr) (l : List Hd) (c : Nat) (w : World) (hr : Rd w w.heap.size A (hv l)) (hok : ∀ r ∈ l, HdOk r) (hl : l.length ≤ 17) :
    Calls Try.prog 114 #[.slice A l.length c, .func (.func 89) #[] #[]] w fun e w' => e = .returned (.int .i64 (firstI badB l 0)) ∧ Below w.heap.size w w' := by
  go_enter Try.func114, Try.ntmps114
  go_wp2
  go_loopw [5, 8] (fun _ i wr => ∃ j : Nat, j ≤ l.length ∧ i = .int .i64 j ∧ (∀ k (h : k < j) (h2 : k < l.length), badB (l[k]) = false) ∧ Below w.heap.size w wr) (fun _ i _ => l.length - (intOf i).toNat)
  case atStart => exact ⟨0, Nat.zero_le _, rfl, fun k h => by omega, Below.refl _ _⟩
  case round =>
    obtain ⟨j, hj, rfl, hno, hbel⟩ := hrel
    have HNO := Lib.hid hno; clear hno
    by_cases hlt : j < l.length
    · obtain ⟨ab, ao, rfl, hab, hcell0, hcell1⟩ := hd_cells (hr.below hbel) hlt
      obtain ⟨hq0, hq1, hq2⟩ := hok (l[j]) (List.getElem_mem _)
      have hbd : badB (l[j]) = (chkR (l[j]).b (l[j]).n != 0) := rfl
      have HF := Lib.hid (fun h1 h2 => firstI_at (p := badB) (l := l) (k := 0) (j := j) hlt h1 h2)
      have HX := Lib.hid (show ∃ r : Hd, r = l[j] from ⟨_, rfl⟩)
      obtain ⟨r, hrx⟩ := HX.out
      rw [← hrx] at hcell0 hcell1 hq0 hq1 hq2 hbd
      have HRX := Lib.hid hrx
      have HBD := Lib.hid hbd
      clear hrx hbd HX
      obtain ⟨rb, rA, rn, rc⟩ := r
      simp only at hcell0 hcell1 hq0 hq1 hq2
      have hsz := hbel.size
      have hab2 : ab < wr.heap.size := by omega
      have hi0 : (0 : Int) ≤ (j : Int) := by omega
      have hi1 : (j : Int) < (l.length : Int) := by omega
      by_cases hb : chkR rb rn = 0
      · have HB := Lib.hid hb; clear hb
        go_wp2_with fail
        refine (find1_any rb rA rn rc _ hq0 hq1 hq2).mono ?_
        rintro e w1 ⟨rfl, hb1⟩
        have hs1 := hb1.size
        rw [HB.out]
        go_wp2
        go_roundw
        case rel =>
          refine ⟨j + 1, by omega, by go_num, fun k h h2 => ?_, (by repeat' (first | exact Below.refl _ _ | assumption | (refine below_call (by assumption) ?_ (by first | omega | (simp <;> omega))) | (refine below_callB (by assumption) ?_ (by omega)) | (refine Below.setCell ?_ (by first | omega | (simp <;> omega)) _) | (refine Below.alloc ?_ (by first | omega | (simp <;> omega)) _) | (refine Below.drew ?_) | (refine below_drewN ?_ _)))⟩
          by_cases hk : k < j
          · exact HNO.out k hk h2
          · obtain rfl : k = j := by omega
            rw [← HRX.out, HBD.out, HB.out]; rfl
        case measure => simp [intOf] <;> omega
      · have hbt : (chkR rb rn != 0) = true := by simpa using hb
        have HB := Lib.hid hbt; clear hb hbt
        have hres := HF.out (fun k h => HNO.out k h (by omega)) (by rw [← HRX.out, HBD.out, HB.out])
        have HRES := Lib.hid hres; clear hres
        go_wp2_with fail
        refine (find1_any rb rA rn rc _ hq0 hq1 hq2).mono ?_
        rintro e w1 ⟨rfl, hb1⟩
        rw [HB.out]
        go_wp2
        go_ret
        exact ⟨by rw [HRES.out]; simp, (by repeat' (first | exact Below.refl _ _ | assumption | (refine below_call (by assumption) ?_ (by first | omega | (simp <;> omega))) | (refine below_callB (by assumption) ?_ (by omega)) | (refine Below.setCell ?_ (by first | omega | (simp <;> omega)) _) | (refine Below.alloc ?_ (by first | omega | (simp <;> omega)) _) | (refine Below.drew ?_) | (refine below_drewN ?_ _)))⟩
    · obtain rfl : j = l.length := by omega
      have hres : firstI badB l 0 = -1 := firstI_none fun r hr' => by
        obtain ⟨k, hk, rfl⟩ := List.getElem_of_mem hr'
        exact HNO.out k hk hk
      have HRES := Lib.hid hres; clear hres
      go_wp2
      go_ret
      exact ⟨by rw [HRES.out]; rfl, (by repeat' (first | exact Below.refl _ _ | assumption | (refine below_call (by assumption) ?_ (by first | omega | (simp <;> omega))) | (refine below_callB (by assumption) ?_ (by omega)) | (refine Below.setCell ?_ (by first | omega | (simp <;> omega)) _) | (refine Below.alloc ?_ (by first | omega | (simp <;> omega)) _) | (refine Below.drew ?_) | (refine below_drewN ?_ _)))⟩

theorem firstI_neg {p : Hd → Bool} (l : List Hd) : decide (firstI p l 0 ≥ 0) = l.any p := by
  by_cases h : ∃ r ∈ l, p r = true
  · have h2 : l.any p = true := by rw [List.any_eq_true]; exact h
    rw [h2, decide_eq_true_eq]
    have : ∀ (l : List Hd) (k : Int), 0 ≤ k → (∃ r ∈ l, p r = true) → firstI p l k ≥ 0 := by
      intro l
      induction l with
      | nil => rintro k hk ⟨r, hr, _⟩; cases hr
      | cons r l ih =>
        rintro k hk ⟨r', hr', hp⟩
        rw [firstI]
        split
        · exact hk
        · rename_i hn
          cases hr' with
          | head => exact absurd hp hn
          | tail _ hm => exact ih (k + 1) (by omega) ⟨r', hm, hp⟩
    exact this l 0 (by omega) h
  · have h3 : ∀ r ∈ l, p r = false := fun r hr => by
      cases hp : p r with
      | false => rfl
      | true => exact absurd ⟨r, hr, hp⟩ h
    have h2 : l.any p = false := by rw [List.any_eq_false]; intro r hr; rw [h3 r hr]; simp
    rw [h2, firstI_none h3]; decide

set_option maxHeartbeats 400000 in
theorem containsfunc_any (A : Option Addr) (l : List Hd) (c : Nat) (w : World) (hr : Rd w w.heap.size A (hv l)) (hok : ∀ r ∈ l, HdOk r) (hl : l.length ≤ 17) :
    Calls Try.prog 88 #[.slice A l.length c, .func (.func 89) #[] #[]] w fun e w' => e = .returned (.bool (l.any badB)) ∧ Below w.heap.size w w' := by
  have HN := Lib.hid (firstI_neg (p := badB) l)
  go_enter Try.func88, Try.ntmps88
  go_wp2_with (go_at_call 114; refine (indexfunc_any _ _ _ _ hr hok hl).mono ?_; rintro e w1 ⟨rfl, hb1⟩; obtain ⟨hc1, hf1⟩ := bcell hb1; have hs1 := hb1.size; (try simp at hs1))
  go_ret
  exact ⟨ret_bool (by rw [← HN.out]), (by repeat' (first | exact Below.refl _ _ | assumption | (refine below_call (by assumption) ?_ (by first | omega | (simp <;> omega))) | (refine below_callB (by assumption) ?_ (by omega)) | (refine Below.setCell ?_ (by first | omega | (simp <;> omega)) _) | (refine Below.alloc ?_ (by first | omega | (simp <;> omega)) _) | (refine Below.drew ?_) | (refine below_drewN ?_ _)))⟩
end Go.Proofs.Ytbcjkdekppomgaa
