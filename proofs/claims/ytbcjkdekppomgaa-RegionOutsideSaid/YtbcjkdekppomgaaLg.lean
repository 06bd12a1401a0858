/- The walk of the law RegionOutside. -/
import Derived.Test.YtbcjkdekppomgaaLf
import Derived.Test.YtbcjkdekppomgaaWd
namespace Go.Proofs.Ytbcjkdekppomgaa
open Go.RowKit
set_option linter.unusedVariables false
set_option maxRecDepth 100000
set_option linter.unusedSimpArgs false
attribute [local go_sem ↓] Go.wp_at_zero Go.wp_at_succ

theorem write_to {b : Int} (A : Option Addr) {xs : List UInt8} {k : Nat} (c : Nat) {a : Int} (A2 : Option Addr) {ys : List UInt8} {q : Nat} (c2 : Nat) {b2 e2 : Int} {zs : List UInt8} {m : Nat} (w : World) (h : writeS b xs a ys = ((b2, zs), e2)) (hk : xs.length = k) (hq : ys.length = q) (hm : zs.length = m) (h0 : 0 ≤ b) (h1 : b < 18446744073709551616) (hn : k ≤ 9223372036854775807) (hr : Rd w w.heap.size A (bv xs)) (ha0 : 0 ≤ a) (ha1 : a < 18446744073709551616) (hcap : k ≤ c) (hc : c ≤ 9223372036854775807) (hr2 : Rd w w.heap.size A2 (bv ys)) (hn2 : q ≤ 9223372036854775807) :
    Calls Try.prog 39 #[.agg #[.int .u64 b, .slice A k c], .int .u64 a, .slice A2 q c2] w fun e w' => ∃ A' c', e = .returned (.tuple #[.agg #[.int .u64 b2, .slice A' m c'], .int .i64 e2]) ∧ Ow w' w.heap.size w'.heap.size 5 A' m c' (bv zs) ∧ Below w.heap.size w w' := by
  subst hk; subst hm; subst hq
  have := write_any b A xs c a A2 ys c2 w h0 h1 hn hr ha0 ha1 hcap hc hr2 hn2
  rw [h] at this
  exact this
theorem load_one {b : Int} {xs : List UInt8} {a : Int} {at_ j : Nat} (hc : chkR b xs.length = 0) (ha : a - b = at_) (h : at_ + j < xs.length) : loadS b xs (a + j) 1 = (((xs[at_ + j]'h).toNat : Int), 0) := by
  have hE : wordE b xs.length (a + j) 1 = 0 := by
    unfold wordE; rw [if_pos hc, if_pos (.inl rfl), if_pos (inb_iff.2 ⟨by omega, by omega⟩)]
  unfold loadS
  rw [if_pos hE]
  congr 1
  unfold wordV
  rw [show (a + j - b).toNat = at_ + j from by omega, List.drop_eq_getElem_cons h]
  show le (List.take (0 + 1) _) = _
  rw [List.take_succ_cons, List.take_zero, le_cons]
  simp [le]

set_option maxHeartbeats 3200000 in
theorem regionOutside_walk (b : Int) (A : Option Addr) (xs : List UInt8) (c : Nat) (a v : Int) (w : World) (h0 : 0 ≤ b) (h1 : b < 18446744073709551616) (hr : Rd w w.heap.size A (bv xs)) (hn : xs.length ≤ 9223372036854775807) (hcap : xs.length ≤ c) (hcm : c ≤ 9223372036854775807) (ha0 : 0 ≤ a) (ha1 : a < 18446744073709551616) (hv0 : 0 ≤ v) (hv1 : v < 18446744073709551616) :
    Calls Try.prog 9 #[.agg #[.int .u64 b, .slice A xs.length c], .int .u64 a, .int .u64 v] w fun e w' => e = .returned (.bool true) ∧ Below w.heap.size w w' := by
  rcases chkR_cases b xs.length with hc | hc
  · by_cases hl : xs.length ≤ 500
    · have HC := Lib.hid hc
      obtain ⟨hb8, hb9, _, _⟩ := chkR_ok hc
      by_cases hin : inb b xs.length a 8 = true
      · obtain ⟨h5, h6⟩ := inb_iff.1 hin
        have hwe : wordE b xs.length a 8 = 0 := by unfold wordE; rw [if_pos hc, if_pos (.inr rfl), if_pos hin]
        have hse : storeE b xs.length a 8 v = 0 := by unfold storeE; rw [if_pos hc, if_pos (.inr rfl), if_pos hin]
        obtain ⟨at_, hat⟩ : ∃ at_ : Nat, a - b = at_ := ⟨(a - b).toNat, by omega⟩
        have hlen : at_ + 8 ≤ xs.length := by omega
        have hld : loadS b xs a 8 = (wordV xs at_ 8, 0) := by unfold loadS; rw [if_pos hwe, hat]; rfl
        have hst : storeS b xs a 8 v = ((b, put xs at_ (toLE 8 v)), 0) := by unfold storeS; rw [if_pos hse, hat]; rfl
        have hby : bytesS b xs a 8 = ((xs.drop at_).take 8, 0) := by unfold bytesS; rw [if_pos hc, if_neg (by decide), if_pos hin, hat]; rfl
        have hwr : writeS b xs a (toLE 8 v) = ((b, put xs at_ (toLE 8 v)), 0) := by unfold writeS; rw [toLE_length, if_pos hc, if_pos (show inb b xs.length a ((8 : Nat) : Int) = true from hin), hat]; rfl
        have hlp : (put xs at_ (toLE 8 v)).length = xs.length := put_length (by rw [toLE_length]; omega)
        have hlb : ((xs.drop at_).take 8).length = 8 := by simp; omega
        have hone := fun (j : Nat) (h : at_ + j < xs.length) => load_one (a := a) hc hat h
        have HLD := Lib.hid hld
        have HST := Lib.hid hst
        have HBY := Lib.hid hby
        have HWR := Lib.hid hwr
        have HLP := Lib.hid hlp
        have HLB := Lib.hid hlb
        have HONE := Lib.hid hone
        have h8 : 8 ≤ xs.length := by omega
        have h9 : a - b ≤ (xs.length : Int) - 8 := by omega
        have e1 : IntKind.u64.wrap (a - b) = a - b := IntWalk.u64_in _ (by omega)
        have e2 : IntKind.u64.wrap ((xs.length : Int) - 8) = (xs.length : Int) - 8 := IntWalk.u64_in _ (by omega)
        have e3 : IntKind.i64.wrap ((xs.length : Int) - 8) = (xs.length : Int) - 8 := IntWalk.i64_in _ (by omega)
        clear hld hst hby hwr hlp hlb hone hc hin hwe hse hat
        obtain ⟨i0, hi0, hz0, hz1, hz2⟩ := info_parts Try.u8info
        go_enter Try.func9, Try.ntmps9
        go_wp2_with fail; refine (alive13_walk _).mono ?_; rintro e w1 ⟨rfl, hb1⟩; obtain ⟨hc1, hf1⟩ := bcell hb1; have hs1 := hb1.size; (try simp at hs1); have hz1_0 : w.heap.size < w1.heap.size := (by omega)
        go_wp2_with fail; refine (rcheck_any b A xs.length c _ h0 h1 hn).mono ?_; rintro e w2 ⟨rfl, hb2⟩; rw [HC.out]; obtain ⟨hc2, hf2⟩ := bcell hb2; have hs2 := hb2.size; (try simp at hs2); have hz2_0 : w.heap.size < w2.heap.size := (by omega)
        go_wp2_with fail; refine (load_to A c _ HLD.out rfl h0 h1 hn (by apply Rd.more; (repeat' (first | (show Rd _ _ _ _; with_reducible assumption) | (with_reducible apply Ow.rd; (show Ow _ _ _ _ _ _ _ _; with_reducible assumption)) | with_reducible exact Rd.nil_ | with_reducible apply Rd.alloc | with_reducible apply Rd.drew | with_reducible apply Rd.drewN | with_reducible apply Rd.setCell | (with_reducible apply Rd.call; (show Below _ _ _; with_reducible assumption)))); all_goals (first | omega | (simp <;> omega))) ha0 ha1 (by omega) (by omega)).mono ?_; rintro e w3 ⟨rfl, hb3⟩; obtain ⟨hc3, hf3⟩ := bcell hb3; have hs3 := hb3.size; (try simp at hs3); have hz3_0 : w.heap.size < w3.heap.size := (by omega)
        go_wp2_with fail; refine (store_to A c _ HST.out rfl HLP.out h0 h1 hn (by apply Rd.more; (repeat' (first | (show Rd _ _ _ _; with_reducible assumption) | (with_reducible apply Ow.rd; (show Ow _ _ _ _ _ _ _ _; with_reducible assumption)) | with_reducible exact Rd.nil_ | with_reducible apply Rd.alloc | with_reducible apply Rd.drew | with_reducible apply Rd.drewN | with_reducible apply Rd.setCell | (with_reducible apply Rd.call; (show Below _ _ _; with_reducible assumption)))); all_goals (first | omega | (simp <;> omega))) hv0 hv1 ha0 ha1 (by omega) (by omega)).mono ?_; rintro e w4 ⟨A4, c4, rfl, ho4, hb4⟩; obtain ⟨hc4, hf4⟩ := bcell hb4; have hs4 := hb4.size; (try simp at hs4); have hz4_0 : w.heap.size < w4.heap.size := (by omega)
        go_wp2_with fail; refine (bytes_to A c _ HBY.out rfl HLB.out h0 h1 hn (by apply Rd.more; (repeat' (first | (show Rd _ _ _ _; with_reducible assumption) | (with_reducible apply Ow.rd; (show Ow _ _ _ _ _ _ _ _; with_reducible assumption)) | with_reducible exact Rd.nil_ | with_reducible apply Rd.alloc | with_reducible apply Rd.drew | with_reducible apply Rd.drewN | with_reducible apply Rd.setCell | (with_reducible apply Rd.call; (show Below _ _ _; with_reducible assumption)))); all_goals (first | omega | (simp <;> omega))) ha0 ha1 (by omega) (by omega) hcap hcm).mono ?_; rintro e w5 ⟨A5, c5, rfl, ho5, hb5⟩; obtain ⟨hc5, hf5⟩ := bcell hb5; have hs5 := hb5.size; (try simp at hs5); have hz5_0 : w.heap.size < w5.heap.size := (by omega); have hz5_1 : w4.heap.size < w5.heap.size := (by omega)
        go_wp2
        clear e1 e2 e3
        go_loopw [15, 16, 17, 18, 19] (fun s l i _ _ wr => ∃ (j : Nat) (A6 : Option Addr) (c6 : Nat), j ≤ 8 ∧ i = .int .i64 j ∧ s = .int .u64 (le ((xs.drop at_).take j)) ∧ l = .slice A6 j c6 ∧ wr.ownsRow w5.heap.size 5 1 (.slice A6 j c6) j (bv (toLE j v)) ∧ Below w5.heap.size w5 wr) (fun _ _ i _ _ _ => 8 - (intOf i).toNat)
        case atStart => exact ⟨0, none, 0, by omega, rfl, by simp [le], rfl, World.ownsRow_nil _ _ _ _, Below.refl _ _⟩
        case round =>
          obtain ⟨j, A6, c6, hj, rfl, rfl, rfl, hown, hbel⟩ := hrel
          obtain ⟨hcr, hfr⟩ := bcellB hbel
          have hsr := hbel.size
          have hzr_0 : w.heap.size < w5.heap.size := by omega
          have hzr_1 : w4.heap.size < w5.heap.size := by omega
          have kx0 : wr.cell? ⟨w.heap.size, 0, none⟩ = some (.int .u64 b) := by rw [hcr _ _ (by first | omega | (simp <;> omega))]; go_simp
          have kx1 : wr.cell? ⟨w.heap.size, 1, none⟩ = some (.slice A xs.length c) := by rw [hcr _ _ (by first | omega | (simp <;> omega))]; go_simp
          have hrw : Rd wr w.heap.size A (bv xs) := by
            have h9 : Rd w5 w.heap.size A (bv xs) := (by apply Rd.more; (repeat' (first | (show Rd _ _ _ _; with_reducible assumption) | (with_reducible apply Ow.rd; (show Ow _ _ _ _ _ _ _ _; with_reducible assumption)) | with_reducible exact Rd.nil_ | with_reducible apply Rd.alloc | with_reducible apply Rd.drew | with_reducible apply Rd.drewN | with_reducible apply Rd.setCell | (with_reducible apply Rd.call; (show Below _ _ _; with_reducible assumption)))); all_goals (first | omega | (simp <;> omega)))
            exact Rd.call hbel h9 (by omega)
          by_cases hlt : j < 8
          · have hrb : Rd wr w5.heap.size A5 (bv ((xs.drop at_).take 8)) := by
              have h9 : Rd w5 w5.heap.size A5 (bv ((xs.drop at_).take 8)) := (by apply Rd.more; (repeat' (first | (show Rd _ _ _ _; with_reducible assumption) | (with_reducible apply Ow.rd; (show Ow _ _ _ _ _ _ _ _; with_reducible assumption)) | with_reducible exact Rd.nil_ | with_reducible apply Rd.alloc | with_reducible apply Rd.drew | with_reducible apply Rd.drewN | with_reducible apply Rd.setCell | (with_reducible apply Rd.call; (show Below _ _ _; with_reducible assumption)))); all_goals (first | omega | (simp <;> omega)))
              exact Rd.call hbel h9 (by omega)
            have hlx : at_ + j < xs.length := by omega
            have hgx : ((xs.drop at_).take 8)[j]'(by rw [HLB.out]; exact hlt) = xs[at_ + j] := by simp
            have hbx := bv_get (l := (xs.drop at_).take 8) (k := j) (by rw [HLB.out]; exact hlt)
            rw [hgx] at hbx
            obtain ⟨ab, ao, rfl, hab, hcell5⟩ := hrb.at_ hbx
            have hst := Lib.hid (wordV_snoc (xs := xs) (at_ := at_) (m := j) hlx)
            have hv0' := le_nonneg ((xs.drop at_).take j)
            have hv1' : le ((xs.drop at_).take j) < 256 ^ j := by
              have := le_lt ((xs.drop at_).take j)
              rwa [List.length_take, List.length_drop, Nat.min_eq_left (by omega)] at this
            obtain ⟨hp1, hp2⟩ := pow256_le (m := j) (by omega)
            have hby := UInt8.toNat_lt (xs[at_ + j])
            have HO := Lib.hid (HONE.out j hlx)
            generalize (xs[at_ + j]).toNat = x at *
            generalize le ((xs.drop at_).take j) = s at *
            have hpw : (2 : Int) ^ (8 * j) = 256 ^ j := by rw [Int.pow_mul]; rfl
            have HPW := Lib.hid hpw
            have e1 : IntKind.u64.wrap (a + (j : Int)) = a + (j : Int) := IntWalk.u64_in _ (by omega)
            have e2 : IntKind.u64.wrap (j : Int) = (j : Int) := IntWalk.u64_in _ (by omega)
            have e3 : IntKind.i64.wrap (8 * (j : Int)) = 8 * (j : Int) := IntWalk.i64_in _ (by omega)
            have e4 : (8 * (j : Int)).toNat = 8 * j := by omega
            have e5 : 0 ≤ 8 * (j : Int) := by omega
            have e6 : 8 * (j : Int) ≤ 64 := by omega
            have habr : ab < wr.heap.size := by omega
            clear hbx hgx hpw hcr hfr
            go_wp2_with fail; refine (load_to A c _ HO.out rfl h0 h1 hn (by apply Rd.more; (repeat' (first | (show Rd _ _ _ _; with_reducible assumption) | (with_reducible apply Ow.rd; (show Ow _ _ _ _ _ _ _ _; with_reducible assumption)) | with_reducible exact Rd.nil_ | with_reducible apply Rd.alloc | with_reducible apply Rd.drew | with_reducible apply Rd.drewN | with_reducible apply Rd.setCell | (with_reducible apply Rd.call; (show Below _ _ _; with_reducible assumption)))); all_goals (first | omega | (simp <;> omega))) (by omega) (by omega) (by omega) (by omega)).mono ?_; rintro e w6 ⟨rfl, hb6⟩; obtain ⟨hc6, hf6⟩ := bcell hb6; have hs6 := hb6.size; (try simp at hs6); have hz6_0 : w.heap.size < w6.heap.size := (by omega); have hz6_1 : w4.heap.size < w6.heap.size := (by omega)
            have hown6 := (Ow.call hb6 (Ow.of_own' hown) (Nat.le_refl _)).own
            go_wp2_with (at_builtin; refine wpList_append_rd _ rfl (.tmp 142) (.tmp 148) 23 rfl w5.heap.size 5 i0 _ 1 Try.underlying23 hi0 hz0 hz1 hz2 rfl _ j _ (by rfl) (hown6.alloc _) _ _ 1 1 [.int .u8 (v / 2 ^ (8 * j) % 256)] (by rfl) rfl (rd_bk (Bk.new _ _ _)) (by simp [Value.oneCell']) (by unfold maxLen; omega) (by omega) (by simp; omega) ?_; intro A7 c7 w7 hown7 hg7 hbl7 hat7)
            have E7 : IntKind.u64.wrap ((x : Int) * 2 ^ (8 * j)) = 256 ^ j * (x : Int) := by
              rw [HPW.out, Int.mul_comm]
              have hpx0 : 0 ≤ (256 : Int) ^ j * (x : Int) := Int.mul_nonneg (by omega) (by omega)
              have hpx1 : (256 : Int) ^ j * (x : Int) ≤ 256 ^ j * 255 := Int.mul_le_mul_of_nonneg_left (by omega) (by omega)
              exact IntWalk.u64_in _ (by omega)
            have E8 : IntKind.u64.wrap (s + 256 ^ j * (x : Int)) = s + 256 ^ j * (x : Int) := by
              have hpx0 : 0 ≤ (256 : Int) ^ j * (x : Int) := Int.mul_nonneg (by omega) (by omega)
              have hpx1 : (256 : Int) ^ j * (x : Int) ≤ 256 ^ j * 255 := Int.mul_le_mul_of_nonneg_left (by omega) (by omega)
              exact IntWalk.u64_in _ (by omega)
            go_roundw
            case rel =>
              refine ⟨j + 1, A7, c7, by omega, by go_num, by rw [E7, E8, hst.out], rfl, ?_, (by repeat' (first | exact Below.refl _ _ | assumption | (refine below_call (by assumption) ?_ (by first | omega | (simp <;> omega))) | (refine below_callB (by assumption) ?_ (by omega)) | (refine Below.setCell ?_ (by first | omega | (simp <;> omega)) _) | (refine Below.alloc ?_ (by first | omega | (simp <;> omega)) _) | (refine Below.drew ?_) | (refine below_drewN ?_ _)))⟩
              rw [byteAt_shr v j] at hown7
              have hbv : bv (toLE (j + 1) v) = bv (toLE j v) ++ [.int .u8 (byteAt v j).toNat] := by rw [toLE_succ]; simp [bv]
              rw [hbv]
              exact hown7
            case measure => simp [intOf] <;> omega
          · obtain rfl : j = 8 := by omega
            have how := Ow.of_own' hown
            have kx2 : wr.cell? ⟨w4.heap.size, 0, none⟩ = some (.int .u64 b) := by rw [hcr _ _ (by first | omega | (simp <;> omega))]; go_simp
            have kx3 : wr.cell? ⟨w4.heap.size, 1, none⟩ = some (.slice A4 xs.length c4) := by rw [hcr _ _ (by first | omega | (simp <;> omega))]; go_simp
            have hsum : (le ((xs.drop at_).take 8) == wordV xs at_ 8) = true := by simp [wordV]
            have how4 : Ow wr w.heap.size w5.heap.size 5 A4 xs.length c4 (bv (put xs at_ (toLE 8 v))) := by
              have h9 : Ow w5 w.heap.size w5.heap.size 5 A4 xs.length c4 (bv (put xs at_ (toLE 8 v))) := (by apply Ow.mono; (repeat' (first | (show Ow _ _ _ _ _ _ _ _; with_reducible assumption) | with_reducible exact Ow.nil_ | (with_reducible apply Ow.of_own'; (show World.ownsRow _ _ _ _ _ _ _; with_reducible assumption)) | with_reducible apply Ow.alloc | with_reducible apply Ow.drew | with_reducible apply Ow.drewN | with_reducible apply Ow.set | (with_reducible apply Ow.call; (show Below _ _ _; with_reducible assumption)))); all_goals (first | omega | (simp <;> omega)))
              exact Ow.call hbel h9 (Nat.le_refl _)
            have hzr_2 : w.heap.size < wr.heap.size := by omega
            have hzr_3 : w4.heap.size < wr.heap.size := by omega
            clear hcr hfr
            go_wp2_with fail; refine (write_to A c A6 c6 _ HWR.out rfl (toLE_length 8 v) HLP.out h0 h1 hn (by apply Rd.more; (repeat' (first | (show Rd _ _ _ _; with_reducible assumption) | (with_reducible apply Ow.rd; (show Ow _ _ _ _ _ _ _ _; with_reducible assumption)) | with_reducible exact Rd.nil_ | with_reducible apply Rd.alloc | with_reducible apply Rd.drew | with_reducible apply Rd.drewN | with_reducible apply Rd.setCell | (with_reducible apply Rd.call; (show Below _ _ _; with_reducible assumption)))); all_goals (first | omega | (simp <;> omega))) ha0 ha1 hcap hcm (by apply Rd.more; (repeat' (first | (show Rd _ _ _ _; with_reducible assumption) | (with_reducible apply Ow.rd; (show Ow _ _ _ _ _ _ _ _; with_reducible assumption)) | with_reducible exact Rd.nil_ | with_reducible apply Rd.alloc | with_reducible apply Rd.drew | with_reducible apply Rd.drewN | with_reducible apply Rd.setCell | (with_reducible apply Rd.call; (show Below _ _ _; with_reducible assumption)))); all_goals (first | omega | (simp <;> omega))) (by omega)).mono ?_; rintro e w7 ⟨A7, c7, rfl, ho7, hb7⟩; obtain ⟨hc7, hf7⟩ := bcell hb7; have hs7 := hb7.size; (try simp at hs7); have hz7_0 : w.heap.size < w7.heap.size := (by omega); have hz7_1 : w4.heap.size < w7.heap.size := (by omega)
            go_wp2_with fail; refine (rsame_any _ A4 _ _ (put xs at_ (toLE 8 v)) _ A7 _ _ (put xs at_ (toLE 8 v)) _ HLP.out HLP.out (by apply Rd.more; (repeat' (first | (show Rd _ _ _ _; with_reducible assumption) | (with_reducible apply Ow.rd; (show Ow _ _ _ _ _ _ _ _; with_reducible assumption)) | with_reducible exact Rd.nil_ | with_reducible apply Rd.alloc | with_reducible apply Rd.drew | with_reducible apply Rd.drewN | with_reducible apply Rd.setCell | (with_reducible apply Rd.call; (show Below _ _ _; with_reducible assumption)))); all_goals (first | omega | (simp <;> omega))) (by apply Rd.more; (repeat' (first | (show Rd _ _ _ _; with_reducible assumption) | (with_reducible apply Ow.rd; (show Ow _ _ _ _ _ _ _ _; with_reducible assumption)) | with_reducible exact Rd.nil_ | with_reducible apply Rd.alloc | with_reducible apply Rd.drew | with_reducible apply Rd.drewN | with_reducible apply Rd.setCell | (with_reducible apply Rd.call; (show Below _ _ _; with_reducible assumption)))); all_goals (first | omega | (simp <;> omega)))).mono ?_; rintro e w8 ⟨rfl, hb8⟩; rw [sameB_self]; obtain ⟨hc8, hf8⟩ := bcell hb8; have hs8 := hb8.size; (try simp at hs8); have hz8_0 : w.heap.size < w8.heap.size := (by omega); have hz8_1 : w4.heap.size < w8.heap.size := (by omega)
            go_wp2
            go_ret
            exact ⟨by simp [*], (by repeat' (first | exact Below.refl _ _ | assumption | (refine below_call (by assumption) ?_ (by first | omega | (simp <;> omega))) | (refine below_callB (by assumption) ?_ (by omega)) | (refine Below.setCell ?_ (by first | omega | (simp <;> omega)) _) | (refine Below.alloc ?_ (by first | omega | (simp <;> omega)) _) | (refine Below.drew ?_) | (refine below_drewN ?_ _)))⟩
      · have hin' : inb b xs.length a 8 = false := by simpa using hin
        have hwe : wordE b xs.length a 8 = 16 := by unfold wordE; rw [if_pos hc, if_pos (.inr rfl), if_neg hin]
        have hse : storeE b xs.length a 8 v = 16 := by unfold storeE; rw [if_pos hc, if_pos (.inr rfl), if_neg hin]
        have hld : loadS b xs a 8 = (0, 16) := by unfold loadS; rw [if_neg (by omega), hwe]
        have hst : storeS b xs a 8 v = ((0, []), 16) := by unfold storeS; rw [if_neg (by omega), hse]
        have hby : bytesS b xs a 8 = ([], 16) := by unfold bytesS; rw [if_pos hc, if_neg (by decide), if_neg hin]
        have HLD := Lib.hid hld
        have HST := Lib.hid hst
        have HBY := Lib.hid hby
        have hd : xs.length < 8 ∨ (8 ≤ xs.length ∧ a < b) ∨ (8 ≤ xs.length ∧ b ≤ a ∧ (xs.length : Int) - 8 < a - b) := by
          have : ¬ (b ≤ a ∧ a + 8 ≤ b + xs.length) := fun h => hin (inb_iff.2 h)
          omega
        clear hld hst hby hc hin hin' hwe hse
        rcases hd with h8 | ⟨h8, h9⟩ | ⟨h8, h9, h10⟩
        rotate_left 2
        have e1 : IntKind.u64.wrap (a - b) = a - b := IntWalk.u64_in _ (by omega)
        have e2 : IntKind.u64.wrap ((xs.length : Int) - 8) = (xs.length : Int) - 8 := IntWalk.u64_in _ (by omega)
        have e3 : IntKind.i64.wrap ((xs.length : Int) - 8) = (xs.length : Int) - 8 := IntWalk.i64_in _ (by omega)
        have hdd : decide (a - b ≤ (xs.length : Int) - 8) = false := by simp; omega
        all_goals
          go_enter Try.func9, Try.ntmps9
          go_wp2_with fail; refine (alive13_walk _).mono ?_; rintro e w1 ⟨rfl, hb1⟩; obtain ⟨hc1, hf1⟩ := bcell hb1; have hs1 := hb1.size; (try simp at hs1); have hz1_0 : w.heap.size < w1.heap.size := (by omega)
          go_wp2_with fail; refine (rcheck_any b A xs.length c _ h0 h1 hn).mono ?_; rintro e w2 ⟨rfl, hb2⟩; rw [HC.out]; obtain ⟨hc2, hf2⟩ := bcell hb2; have hs2 := hb2.size; (try simp at hs2); have hz2_0 : w.heap.size < w2.heap.size := (by omega)
          go_wp2_with fail; refine (load_to A c _ HLD.out rfl h0 h1 hn (by apply Rd.more; (repeat' (first | (show Rd _ _ _ _; with_reducible assumption) | (with_reducible apply Ow.rd; (show Ow _ _ _ _ _ _ _ _; with_reducible assumption)) | with_reducible exact Rd.nil_ | with_reducible apply Rd.alloc | with_reducible apply Rd.drew | with_reducible apply Rd.drewN | with_reducible apply Rd.setCell | (with_reducible apply Rd.call; (show Below _ _ _; with_reducible assumption)))); all_goals (first | omega | (simp <;> omega))) ha0 ha1 (by omega) (by omega)).mono ?_; rintro e w3 ⟨rfl, hb3⟩; obtain ⟨hc3, hf3⟩ := bcell hb3; have hs3 := hb3.size; (try simp at hs3); have hz3_0 : w.heap.size < w3.heap.size := (by omega)
          go_wp2_with fail; refine (store_to (m := 0) A c _ HST.out rfl rfl h0 h1 hn (by apply Rd.more; (repeat' (first | (show Rd _ _ _ _; with_reducible assumption) | (with_reducible apply Ow.rd; (show Ow _ _ _ _ _ _ _ _; with_reducible assumption)) | with_reducible exact Rd.nil_ | with_reducible apply Rd.alloc | with_reducible apply Rd.drew | with_reducible apply Rd.drewN | with_reducible apply Rd.setCell | (with_reducible apply Rd.call; (show Below _ _ _; with_reducible assumption)))); all_goals (first | omega | (simp <;> omega))) hv0 hv1 ha0 ha1 (by omega) (by omega)).mono ?_; rintro e w4 ⟨A4, c4, rfl, ho4, hb4⟩; obtain ⟨hc4, hf4⟩ := bcell hb4; have hs4 := hb4.size; (try simp at hs4); have hz4_0 : w.heap.size < w4.heap.size := (by omega)
          go_wp2_with fail; refine (bytes_to (m := 0) A c _ HBY.out rfl rfl h0 h1 hn (by apply Rd.more; (repeat' (first | (show Rd _ _ _ _; with_reducible assumption) | (with_reducible apply Ow.rd; (show Ow _ _ _ _ _ _ _ _; with_reducible assumption)) | with_reducible exact Rd.nil_ | with_reducible apply Rd.alloc | with_reducible apply Rd.drew | with_reducible apply Rd.drewN | with_reducible apply Rd.setCell | (with_reducible apply Rd.call; (show Below _ _ _; with_reducible assumption)))); all_goals (first | omega | (simp <;> omega))) ha0 ha1 (by omega) (by omega) hcap hcm).mono ?_; rintro e w5 ⟨A5, c5, rfl, ho5, hb5⟩; obtain ⟨hc5, hf5⟩ := bcell hb5; have hs5 := hb5.size; (try simp at hs5); have hz5_0 : w.heap.size < w5.heap.size := (by omega); have hz5_1 : w4.heap.size < w5.heap.size := (by omega)
          go_wp2
          go_ret
          exact ⟨rfl, (by repeat' (first | exact Below.refl _ _ | assumption | (refine below_call (by assumption) ?_ (by first | omega | (simp <;> omega))) | (refine below_callB (by assumption) ?_ (by omega)) | (refine Below.setCell ?_ (by first | omega | (simp <;> omega)) _) | (refine Below.alloc ?_ (by first | omega | (simp <;> omega)) _) | (refine Below.drew ?_) | (refine below_drewN ?_ _)))⟩
    · have HC := Lib.hid hc; clear hc
      have hl' : 500 < xs.length := by omega
      go_enter Try.func9, Try.ntmps9
      go_wp2_with fail; refine (alive13_walk _).mono ?_; rintro e w1 ⟨rfl, hb1⟩; obtain ⟨hc1, hf1⟩ := bcell hb1; have hs1 := hb1.size; (try simp at hs1); have hz1_0 : w.heap.size < w1.heap.size := (by omega)
      go_wp2_with fail; refine (rcheck_any b A xs.length c _ h0 h1 hn).mono ?_; rintro e w2 ⟨rfl, hb2⟩; rw [HC.out]; obtain ⟨hc2, hf2⟩ := bcell hb2; have hs2 := hb2.size; (try simp at hs2); have hz2_0 : w.heap.size < w2.heap.size := (by omega)
      go_wp2
      go_ret
      exact ⟨rfl, (by repeat' (first | exact Below.refl _ _ | assumption | (refine below_call (by assumption) ?_ (by first | omega | (simp <;> omega))) | (refine below_callB (by assumption) ?_ (by omega)) | (refine Below.setCell ?_ (by first | omega | (simp <;> omega)) _) | (refine Below.alloc ?_ (by first | omega | (simp <;> omega)) _) | (refine Below.drew ?_) | (refine below_drewN ?_ _)))⟩
  · have HC := Lib.hid hc; clear hc
    go_enter Try.func9, Try.ntmps9
    go_wp2_with fail; refine (alive13_walk _).mono ?_; rintro e w1 ⟨rfl, hb1⟩; obtain ⟨hc1, hf1⟩ := bcell hb1; have hs1 := hb1.size; (try simp at hs1); have hz1_0 : w.heap.size < w1.heap.size := (by omega)
    go_wp2_with fail; refine (rcheck_any b A xs.length c _ h0 h1 hn).mono ?_; rintro e w2 ⟨rfl, hb2⟩; rw [HC.out]; obtain ⟨hc2, hf2⟩ := bcell hb2; have hs2 := hb2.size; (try simp at hs2); have hz2_0 : w.heap.size < w2.heap.size := (by omega)
    go_wp2
    all_goals
      go_ret
      exact ⟨rfl, (by repeat' (first | exact Below.refl _ _ | assumption | (refine below_call (by assumption) ?_ (by first | omega | (simp <;> omega))) | (refine below_callB (by assumption) ?_ (by omega)) | (refine Below.setCell ?_ (by first | omega | (simp <;> omega)) _) | (refine Below.alloc ?_ (by first | omega | (simp <;> omega)) _) | (refine Below.drew ?_) | (refine below_drewN ?_ _)))⟩
end Go.Proofs.Ytbcjkdekppomgaa
