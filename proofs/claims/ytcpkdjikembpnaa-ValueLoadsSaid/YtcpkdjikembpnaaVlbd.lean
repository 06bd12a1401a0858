/- Parts of the proof of ValueLoads: Gb, Hm, Op, Qz, Ot. No condition of its own. -/
import Derived.ProofKit
import Derived.Lib.SmallJoins
import Derived.OpenShut
import Derived.ChangeOld
import Derived.SliceStrings
import Derived.Deep.SlicePairs
import Derived.Test.YtcpkdjikembpnaaVlaa
import Derived.Test.YtcpkdjikembpnaaVlai
import Derived.Test.YtcpkdjikembpnaaVlaj
import Derived.Test.YtcpkdjikembpnaaVlar
import Derived.Test.YtcpkdjikembpnaaVlau
import Derived.Test.YtcpkdjikembpnaaVlbc
set_option linter.unusedVariables false
set_option linter.unusedSimpArgs false
set_option maxRecDepth 100000
set_option maxHeartbeats 4000000
namespace Go.Proofs.Ytcpkdjikembpnaa.Ce
open Go.RowKit
theorem b_self (s : List UInt8) : (ByteArray.toList ⟨⟨s⟩⟩ == ByteArray.toList ⟨⟨s⟩⟩) = true := beq_self_eq_true _
theorem b_diff {s t : List UInt8} (h : s ≠ t) : (ByteArray.toList ⟨⟨s⟩⟩ == ByteArray.toList ⟨⟨t⟩⟩) = false := by
  rw [beq_eq_false_iff_ne]
  intro e
  exact h (by simpa [ByteArray.toList_eq] using e)
theorem b_bneqx (a b : Bool) (h : Hp) (n : Nat) : mBin Try.prog .neq 4 (.bool a) (.bool b) h n = some ⟨.bool (a != b), h, n, [], []⟩ := by cases a <;> cases b <;> rfl
theorem b_beqlx (a b : Bool) (h : Hp) (n : Nat) : mBin Try.prog .eql 4 (.bool a) (.bool b) h n = some ⟨.bool (a == b), h, n, [], []⟩ := by cases a <;> cases b <;> rfl
theorem b_beql0 (a : Bool) (h : Hp) (n : Nat) : mBin Try.prog .eql 4 (.bool a) (.bool a) h n = some ⟨.bool true, h, n, [], []⟩ := by cases a <;> rfl
theorem b_bneq0 (a : Bool) (h : Hp) (n : Nat) : mBin Try.prog .neq 4 (.bool a) (.bool a) h n = some ⟨.bool false, h, n, [], []⟩ := by cases a <;> rfl
theorem V.ext {v w : V} (h1 : v.kd = w.kd) (h2 : v.i = w.i) (h3 : v.s = w.s) (h4 : v.c = w.c) (h5 : v.l = w.l) : v = w := V.eq_iff.2 ⟨h1, h2, h3, h4, h5⟩
open Classical in
noncomputable def sameVs (l m : List V) : Bool := decide (l = m)
theorem sameVs_t {l m : List V} (h : l = m) : sameVs l m = true := by unfold sameVs; simp [h]
theorem sameVs_f {l m : List V} (h : l ≠ m) : sameVs l m = false := by unfold sameVs; simp [h]
variable (k d cl : Nat) (h : Hp) (n : Nat)
theorem eqfn_ev (hk : 30000 ≤ k) (A B : Option Addr) (l m : List V) (c c2 : Nat) (h1 : LH h n A l) (h2 : LH h n B m) (hl : l.length ≤ 20000)
    (ih : ∀ j (hj : j < l.length) (hj2 : j < m.length) (cl : Nat) (h : Hp) (n : Nat) (cs cs' : List Value), VH h n l[j] cs → VH h n m[j] cs' → SQ k d cl 24 [.agg ⟨cs⟩, .agg ⟨cs'⟩] h n fun v h' n' => v = .bool (sameV l[j] m[j]) ∧ h = h' ∧ n = n') :
    SQ k (d + 1) cl 53 [.slice A l.length c, .slice B m.length c2, .func (.func 24) ⟨[]⟩ ⟨[]⟩] h n fun v h' n' => v = .bool (sameVs l m) ∧ h' = h ∧ n' = n := by
  by_cases hlen : l.length = m.length
  · refine enter Try.func53 (by kernel_rfl) rfl (by kernel_rfl) rfl rfl rfl ?_
    (repeat' first | refine zcd ?_ | intro K' hK | (with_reducible refine zn hK ?_; clear hK) | fail | ((with_reducible first | apply zo1 | apply zo2 | apply o_guard rfl | apply x_cond | apply k_e1 rfl | apply k_e2 rfl | apply k_e0 rfl | apply k_e3 rfl | apply k_e4 rfl); (case he => exact ez0); (try case hok => exact ezO); all_goals try (intro hb; (try simp only [hbs, reduceCtorEq] at hb); try exact ezX)) | ((with_reducible apply o_undef rfl); (case hb => exact ez0)))
    refine x_loopV [6, 7, 8, 9, 17, 18, 19, 20, 21, 22, 23, 24, 25, 26, 27, 28, 29, 30, 31] [17] (fun k2 vs h5 n5 => ∃ q : Nat, k2 = l.length - q ∧ q ≤ l.length ∧ vs = [.int .i64 q] ∧ n ≤ n5 ∧ LH h5 n A l ∧ LH h5 n B m ∧ l.take q = m.take q) l.length rfl (by omega) ⟨0, rfl, by omega, ez0, Nat.le_refl _, h1, h2, by simp⟩ ?_
    rintro k2 g _ h5 n5 ⟨q, rfl, hq, rfl, hn5, hA5, hB5, htk⟩
    by_cases hql : q < l.length
    · have hqm : q < m.length := by omega
      obtain ⟨i1, o1, A1, cc1, rfl, hi1, c1, v1⟩ := hA5.at_ hql
      obtain ⟨i2, o2, A2, cc2, rfl, hi2, c2', v2⟩ := hB5.at_ hqm
      obtain ⟨x, hx⟩ : ∃ x, l[q] = x := ⟨_, rfl⟩
      obtain ⟨y, hy⟩ : ∃ y, m[q] = y := ⟨_, rfl⟩
      have ihq := ih q hql hqm
      rw [hx] at c1 v1
      rw [hy] at c2' v2
      rw [hx, hy] at ihq
      by_cases hxy : x = y
      · have hs : sameV x y = true := by rw [hxy]; exact sameV_t
        rw [hs] at ihq
        (repeat' first | refine zcd ?_ | intro K' hK | (with_reducible refine zn hK ?_; clear hK) | ((with_reducible apply o_callV (g := 24) w_none); (case hx => exact ez0); (case ha => exact ez0); (case hs => ((with_reducible apply ihq); (case a => exact (((v1.more hn5).set (by omega) _).set (by omega) _).more (by omega)); (case a => exact (((v2.more hn5).set (by omega) _).set (by omega) _).more (by omega)))); (case' hk => rintro _ h' n' ⟨rfl, rfl, rfl⟩)) | ((with_reducible first | apply zo1 | apply zo2 | apply o_guard rfl | apply x_cond | apply k_e1 rfl | apply k_e2 rfl | apply k_e0 rfl | apply k_e3 rfl | apply k_e4 rfl); (case he => exact ez2 c1 c2'); (try case hok => exact ezO); all_goals try (intro hb; (try simp only [hbs, reduceCtorEq] at hb); try exact ezX)) | ((with_reducible apply o_undef rfl); (case hb => exact ez0)))
        refine k_round (l.length - (q + 1)) (by omega) ⟨q + 1, rfl, by omega, ez0, by omega, (ezL hA5), (ezL hB5), ?_⟩
        rw [List.take_succ_eq_append_getElem hql, List.take_succ_eq_append_getElem hqm, htk, hx, hy, hxy]
      · have hs : sameV x y = false := sameV_f hxy
        rw [hs] at ihq
        have hne : l ≠ m := fun e => by subst e; exact hxy (by rw [← hx, ← hy])
        rw [sameVs_f hne]
        (repeat' first | refine zcd ?_ | intro K' hK | (with_reducible refine zn hK ?_; clear hK) | ((with_reducible apply o_callV (g := 24) w_none); (case hx => exact ez0); (case ha => exact ez0); (case hs => ((with_reducible apply ihq); (case a => exact (((v1.more hn5).set (by omega) _).set (by omega) _).more (by omega)); (case a => exact (((v2.more hn5).set (by omega) _).set (by omega) _).more (by omega)))); (case' hk => rintro _ h' n' ⟨rfl, rfl, rfl⟩)) | ((with_reducible first | apply zo1 | apply zo2 | apply o_guard rfl | apply x_cond | apply k_e1 rfl | apply k_e2 rfl | apply k_e0 rfl | apply k_e3 rfl | apply k_e4 rfl); (case he => exact ez2 c1 c2'); (try case hok => exact ezO); all_goals try (intro hb; (try simp only [hbs, reduceCtorEq] at hb); try exact ezX)) | ((with_reducible apply o_undef rfl); (case hb => exact ez0)))
        all_goals exact sw_flat rfl rfl ⟨rfl, rfl, rfl⟩
    · obtain rfl : q = l.length := by omega
      have hE : l = m := by
        have e2 := htk
        rw [List.take_length, hlen, List.take_length] at e2
        exact e2
      rw [sameVs_t hE]
      (repeat' first | refine zcd ?_ | intro K' hK | (with_reducible refine zn hK ?_; clear hK) | fail | ((with_reducible first | apply zo1 | apply zo2 | apply o_guard rfl | apply x_cond | apply k_e1 rfl | apply k_e2 rfl | apply k_e0 rfl | apply k_e3 rfl | apply k_e4 rfl); (case he => exact ez0); (try case hok => exact ezO); all_goals try (intro hb; (try simp only [hbs, reduceCtorEq] at hb); try exact ezX)) | ((with_reducible apply o_undef rfl); (case hb => exact ez0)))
      all_goals exact sw_flat rfl rfl ⟨rfl, rfl, rfl⟩
  · rw [sameVs_f fun e => hlen (by rw [e])]
    refine enter Try.func53 (by kernel_rfl) rfl (by kernel_rfl) rfl rfl rfl ?_
    (repeat' first | refine zcd ?_ | intro K' hK | (with_reducible refine zn hK ?_; clear hK) | fail | ((with_reducible first | apply zo1 | apply zo2 | apply o_guard rfl | apply x_cond | apply k_e1 rfl | apply k_e2 rfl | apply k_e0 rfl | apply k_e3 rfl | apply k_e4 rfl); (case he => exact ez0); (try case hok => exact ezO); all_goals try (intro hb; (try simp only [hbs, reduceCtorEq] at hb); try exact ezX)) | ((with_reducible apply o_undef rfl); (case hb => exact ez0)))
    all_goals exact sw_flat rfl rfl ⟨rfl, rfl, rfl⟩
theorem psamev_ev (hk : 30000 ≤ k) : ∀ N, ∀ (v w : V) (d cl : Nat) (h : Hp) (n : Nat) (cs cs' : List Value), Bd N v → VH h n v cs → VH h n w cs' →
    SQ k (d + 2 * N) cl 24 [.agg ⟨cs⟩, .agg ⟨cs'⟩] h n fun x h' n' => x = .bool (sameV v w) ∧ h' = h ∧ n' = n := by
  intro N
  induction N with
  | zero => intro v w d cl h n cs cs' hv; exact absurd hv (by unfold Bd; exact id)
  | succ N ihN =>
    intro v w d cl h n cs cs' hv h1 h2
    obtain ⟨hv1, hv2⟩ := hv
    rw [show d + 2 * (N + 1) = d + 2 * N + 1 + 1 from by omega]
    obtain ⟨A, cc, rfl, hA, hl1⟩ := h1.cut
    obtain ⟨B, cc2, rfl, hB, hl2⟩ := h2.cut
    by_cases he : v.kd = w.kd ∧ v.i = w.i ∧ v.s = w.s ∧ v.c = w.c
    · obtain ⟨e1, e2, e3, e4⟩ := he
      have hEq : sameV v w = sameVs v.l w.l := by
        by_cases hl : v.l = w.l
        · rw [sameVs_t hl, V.ext e1 e2 e3 e4 hl, sameV_t]
        · rw [sameVs_f hl, sameV_f fun h => hl (by rw [h])]
      rw [hEq]
      have q := fun (h5 : Hp) (n5 : Nat) (hA5 : LH h5 n5 A v.l) (hB5 : LH h5 n5 B w.l) => (eqfn_ev k (d + 2 * N) n h5 n5 hk A B v.l w.l cc cc2 hA5 hB5 (by omega) fun j hj hj2 cl h n cs cs' a b => (ihN _ _ d cl h n cs cs' (hv2 _ (List.getElem_mem hj)) a b).mono fun _ _ _ hp => ⟨hp.1, hp.2.1.symm, hp.2.2.symm⟩).mono (Φ' := fun v2 h2 n2 => v2 = .bool (sameVs v.l w.l) ∧ h5 = h2 ∧ n5 = n2) fun _ _ _ hp => ⟨hp.1, hp.2.1.symm, hp.2.2.symm⟩
      rw [e1, e2, e3, e4]
      refine enter Try.func24 (by kernel_rfl) rfl (by kernel_rfl) rfl rfl rfl ?_
      (repeat' first | refine zcd ?_ | intro K' hK | (with_reducible refine zn hK ?_; clear hK) | ((with_reducible apply o_callF (g := 53) w_none); (case ha => exact ez0); (case hs => ((with_reducible apply q); (case hA5 => exact ((hl1.set (Nat.le_refl _) _).set (by omega) _).more (by omega)); (case hB5 => exact ((hl2.set (Nat.le_refl _) _).set (by omega) _).more (by omega)))); (case' hk => rintro _ h' n' ⟨rfl, rfl, rfl⟩)) | ((with_reducible first | apply zo1 | apply zo2 | apply o_guard rfl | apply x_cond | apply k_e1 rfl | apply k_e2 rfl | apply k_e0 rfl | apply k_e3 rfl | apply k_e4 rfl); (case he => exact ez3 @b_strEql @b_self @b_beql0); (try case hok => exact ezO); all_goals try (intro hb; (try simp only [hbs, reduceCtorEq] at hb); try exact ezX)) | ((with_reducible apply o_undef rfl); (case hb => exact ez0)))
      all_goals exact sw_flat rfl rfl ⟨rfl, rfl, rfl⟩
    · rw [sameV_f fun h => he (by rw [h]; exact ⟨rfl, rfl, rfl, rfl⟩)]
      by_cases e1 : v.kd = w.kd
      · by_cases e2 : v.i = w.i
        · by_cases e3 : v.s = w.s
          · have e4 : (v.c == w.c) = false := beq_eq_false_iff_ne.2 fun e4 => he ⟨e1, e2, e3, e4⟩
            rw [e1, e2, e3]
            refine enter Try.func24 (by kernel_rfl) rfl (by kernel_rfl) rfl rfl rfl ?_
            (repeat' first | refine zcd ?_ | intro K' hK | (with_reducible refine zn hK ?_; clear hK) | fail | ((with_reducible first | apply zo1 | apply zo2 | apply o_guard rfl | apply x_cond | apply k_e1 rfl | apply k_e2 rfl | apply k_e0 rfl | apply k_e3 rfl | apply k_e4 rfl); (case he => exact ez4 @b_strEql @b_self @b_beqlx e4); (try case hok => exact ezO); all_goals try (intro hb; (try simp only [hbs, reduceCtorEq] at hb); try exact ezX)) | ((with_reducible apply o_undef rfl); (case hb => exact ez0)))
            all_goals exact sw_flat rfl rfl ⟨rfl, rfl, rfl⟩
          · have e5 := b_diff e3
            rw [e1, e2]
            refine enter Try.func24 (by kernel_rfl) rfl (by kernel_rfl) rfl rfl rfl ?_
            (repeat' first | refine zcd ?_ | intro K' hK | (with_reducible refine zn hK ?_; clear hK) | fail | ((with_reducible first | apply zo1 | apply zo2 | apply o_guard rfl | apply x_cond | apply k_e1 rfl | apply k_e2 rfl | apply k_e0 rfl | apply k_e3 rfl | apply k_e4 rfl); (case he => exact ez2 @b_strEql e5); (try case hok => exact ezO); all_goals try (intro hb; (try simp only [hbs, reduceCtorEq] at hb); try exact ezX)) | ((with_reducible apply o_undef rfl); (case hb => exact ez0)))
            all_goals exact sw_flat rfl rfl ⟨rfl, rfl, rfl⟩
        · rw [e1]
          refine enter Try.func24 (by kernel_rfl) rfl (by kernel_rfl) rfl rfl rfl ?_
          (repeat' first | refine zcd ?_ | intro K' hK | (with_reducible refine zn hK ?_; clear hK) | fail | ((with_reducible first | apply zo1 | apply zo2 | apply o_guard rfl | apply x_cond | apply k_e1 rfl | apply k_e2 rfl | apply k_e0 rfl | apply k_e3 rfl | apply k_e4 rfl); (case he => exact ez0); (try case hok => exact ezO); all_goals try (intro hb; (try simp only [hbs, reduceCtorEq] at hb); try exact ezX)) | ((with_reducible apply o_undef rfl); (case hb => exact ez0)))
          all_goals exact sw_flat rfl rfl ⟨rfl, rfl, rfl⟩
      · refine enter Try.func24 (by kernel_rfl) rfl (by kernel_rfl) rfl rfl rfl ?_
        (repeat' first | refine zcd ?_ | intro K' hK | (with_reducible refine zn hK ?_; clear hK) | fail | ((with_reducible first | apply zo1 | apply zo2 | apply o_guard rfl | apply x_cond | apply k_e1 rfl | apply k_e2 rfl | apply k_e0 rfl | apply k_e3 rfl | apply k_e4 rfl); (case he => exact ez0); (try case hok => exact ezO); all_goals try (intro hb; (try simp only [hbs, reduceCtorEq] at hb); try exact ezX)) | ((with_reducible apply o_undef rfl); (case hb => exact ez0)))
        all_goals exact sw_flat rfl rfl ⟨rfl, rfl, rfl⟩
theorem rsamev_ev (hk : 30000 ≤ k) : ∀ N, ∀ (v w : V) (d cl : Nat) (h : Hp) (n : Nat) (cs cs' : List Value), Bd N v → VH h n v cs → VH h n w cs' →
    SQ k (d + N) cl 15 [.agg ⟨cs⟩, .agg ⟨cs'⟩] h n fun x h' n' => x = .bool (sameV v w) ∧ h' = h ∧ n' = n := by
  intro N
  induction N with
  | zero => intro v w d cl h n cs cs' hv; exact absurd hv (by unfold Bd; exact id)
  | succ N ihN =>
    intro v w d cl h n cs cs' hv h1 h2
    obtain ⟨hv1, hv2⟩ := hv
    rw [show d + (N + 1) = d + N + 1 from by omega]
    obtain ⟨A, cc, rfl, hA, hl1⟩ := h1.cut
    obtain ⟨B, cc2, rfl, hB, hl2⟩ := h2.cut
    by_cases he : v.kd = w.kd ∧ v.i = w.i ∧ v.s = w.s ∧ v.c = w.c
    · obtain ⟨e1, e2, e3, e4⟩ := he
      by_cases hlen : v.l.length = w.l.length
      · have hlw : w.l.length ≤ 20000 := by omega
        rw [e1, e2, e3, e4]
        refine enter Try.func15 (by kernel_rfl) rfl (by kernel_rfl) rfl rfl rfl ?_
        (repeat' first | refine zcd ?_ | intro K' hK | (with_reducible refine zn hK ?_; clear hK) | fail | ((with_reducible first | apply zo1 | apply zo2 | apply o_guard rfl | apply x_cond | apply k_e1 rfl | apply k_e2 rfl | apply k_e0 rfl | apply k_e3 rfl | apply k_e4 rfl); (case he => exact ez4 @b_strNeq @b_self @b_bneq0 hlen); (try case hok => exact ezO); all_goals try (intro hb; (try simp only [hbs, reduceCtorEq] at hb); try exact ezX)) | ((with_reducible apply o_undef rfl); (case hb => exact ez0)))
        refine x_loopV [4, 5, 41, 42, 43, 44, 45, 46, 47, 48, 49, 50, 51, 52, 53, 54, 55, 56, 57, 58, 59] [5] (fun k2 vs h5 n5 => ∃ q : Nat, k2 = v.l.length - q ∧ q ≤ v.l.length ∧ vs = [.int .i64 q] ∧ n + 2 ≤ n5 ∧ LH h5 n A v.l ∧ LH h5 n B w.l ∧ v.l.take q = w.l.take q ∧ rowOf h5 n = some (32, false, vcell w.kd w.i w.s A w.l.length cc w.c) ∧ rowOf h5 (n + 1) = some (32, false, vcell w.kd w.i w.s B w.l.length cc2 w.c)) v.l.length rfl (by omega) ⟨0, rfl, by omega, ez0, Nat.le_refl _, (ezL hl1), (ezL hl2), by simp, ez0, ez0⟩ ?_
        rintro k2 g _ h5 n5 ⟨q, rfl, hq, rfl, hn5, hA5, hB5, htk, r1, r2⟩
        have f1 := cellAt_row (off := 3) r1
        have f2 := cellAt_row (off := 3) r2
        by_cases hql : q < v.l.length
        · have hqm : q < w.l.length := by omega
          obtain ⟨i1, o1, A1, cc1, rfl, hi1, c1, v1⟩ := hA5.at_ hql
          obtain ⟨i2, o2, A2, cc2, rfl, hi2, c2', v2⟩ := hB5.at_ hqm
          have ihq := fun (cl : Nat) (h : Hp) (n : Nat) (cs cs' : List Value) (a : VH h n v.l[q] cs) (b : VH h n w.l[q] cs') => (ihN _ _ d cl h n cs cs' (hv2 _ (List.getElem_mem hql)) a b).mono (Φ' := fun x2 h2 n2 => x2 = .bool (sameV v.l[q] w.l[q]) ∧ h = h2 ∧ n = n2) fun _ _ _ hp => ⟨hp.1, hp.2.1.symm, hp.2.2.symm⟩
          obtain ⟨x, hx⟩ : ∃ x, v.l[q] = x := ⟨_, rfl⟩
          obtain ⟨y, hy⟩ : ∃ y, w.l[q] = y := ⟨_, rfl⟩
          rw [hx] at c1 v1
          rw [hy] at c2' v2
          simp only [hx, hy] at ihq
          by_cases hxy : x = y
          · have hs : sameV x y = true := by rw [hxy]; exact sameV_t
            simp only [hs] at ihq
            (repeat' first | refine zcd ?_ | intro K' hK | (with_reducible refine zn hK ?_; clear hK) | ((with_reducible apply d_callS (g := 15) w_none); (case hs0 => exact rfl); (case ha => exact ez0); (case hs => ((with_reducible apply ihq); (case a => exact v1.more (by omega)); (case b => exact v2.more (by omega)))); (case' hk => rintro _ h' n' ⟨rfl, rfl, rfl⟩)) | (with_reducible refine x_drawnD (id := 6) [(1, 6), (4, 6), (1, 9), (4, 9)] (by kernel_rfl) fun K' hK => ?_) | ((with_reducible apply d_nil); (case hp => exact ezP); (case' hx => (refine hK _ _ _ ?_; clear hK))) | ((with_reducible apply d_pure w_none); (case hp => exact rfl); (case hc => exact rfl); (case he => exact ez4 f1 f2 c1 c2')) | ((with_reducible apply d_eff w_none); (case hc => exact rfl); (case he => exact ez4 f1 f2 c1 c2'); (case hok => exact ezO)) | ((with_reducible apply d_guard rfl); (case hb => exact ez4 f1 f2 c1 c2'); (case' h1 => intro hb; (try simp only [hbs, reduceCtorEq] at hb); try exact ezX); (case' h2 => intro hb; (try simp only [hbs, reduceCtorEq] at hb); try exact ezX)) | ((with_reducible first | apply zo1 | apply zo2 | apply o_guard rfl | apply x_cond | apply k_e1 rfl | apply k_e2 rfl | apply k_e0 rfl | apply k_e3 rfl | apply k_e4 rfl); (case he => exact ez4 f1 f2 c1 c2'); (try case hok => exact ezO); all_goals try (intro hb; (try simp only [hbs, reduceCtorEq] at hb); try exact ezX)) | ((with_reducible apply o_undef rfl); (case hb => exact ez0)))
            refine k_round (v.l.length - (q + 1)) (by omega) ⟨q + 1, rfl, by omega, ez0, by omega, (ezL hA5), (ezL hB5), ?_, r1, r2⟩
            rw [List.take_succ_eq_append_getElem hql, List.take_succ_eq_append_getElem hqm, htk, hx, hy, hxy]
          · have hs : sameV x y = false := sameV_f hxy
            simp only [hs] at ihq
            have hne : v ≠ w := fun e => by subst e; exact hxy (by rw [← hx, ← hy])
            rw [sameV_f hne]
            (repeat' first | refine zcd ?_ | intro K' hK | (with_reducible refine zn hK ?_; clear hK) | ((with_reducible apply d_callS (g := 15) w_none); (case hs0 => exact rfl); (case ha => exact ez0); (case hs => ((with_reducible apply ihq); (case a => exact v1.more (by omega)); (case b => exact v2.more (by omega)))); (case' hk => rintro _ h' n' ⟨rfl, rfl, rfl⟩)) | (with_reducible refine x_drawnD (id := 6) [(1, 6), (4, 6), (1, 9), (4, 9)] (by kernel_rfl) fun K' hK => ?_) | ((with_reducible apply d_nil); (case hp => exact ezP); (case' hx => (refine hK _ _ _ ?_; clear hK))) | ((with_reducible apply d_pure w_none); (case hp => exact rfl); (case hc => exact rfl); (case he => exact ez4 f1 f2 c1 c2')) | ((with_reducible apply d_eff w_none); (case hc => exact rfl); (case he => exact ez4 f1 f2 c1 c2'); (case hok => exact ezO)) | ((with_reducible apply d_guard rfl); (case hb => exact ez4 f1 f2 c1 c2'); (case' h1 => intro hb; (try simp only [hbs, reduceCtorEq] at hb); try exact ezX); (case' h2 => intro hb; (try simp only [hbs, reduceCtorEq] at hb); try exact ezX)) | ((with_reducible first | apply zo1 | apply zo2 | apply o_guard rfl | apply x_cond | apply k_e1 rfl | apply k_e2 rfl | apply k_e0 rfl | apply k_e3 rfl | apply k_e4 rfl); (case he => exact ez4 f1 f2 c1 c2'); (try case hok => exact ezO); all_goals try (intro hb; (try simp only [hbs, reduceCtorEq] at hb); try exact ezX)) | ((with_reducible apply o_undef rfl); (case hb => exact ez0)))
            all_goals exact sw_flat rfl rfl ⟨rfl, rfl, rfl⟩
        · obtain rfl : q = v.l.length := by omega
          have hE : v.l = w.l := by
            have e2 := htk
            rw [List.take_length, hlen, List.take_length] at e2
            exact e2
          rw [V.ext e1 e2 e3 e4 hE, sameV_t]
          (repeat' first | refine zcd ?_ | intro K' hK | (with_reducible refine zn hK ?_; clear hK) | fail | ((with_reducible first | apply zo1 | apply zo2 | apply o_guard rfl | apply x_cond | apply k_e1 rfl | apply k_e2 rfl | apply k_e0 rfl | apply k_e3 rfl | apply k_e4 rfl); (case he => exact ez2 f1 f2); (try case hok => exact ezO); all_goals try (intro hb; (try simp only [hbs, reduceCtorEq] at hb); try exact ezX)) | ((with_reducible apply o_undef rfl); (case hb => exact ez0)))
          all_goals exact sw_flat rfl rfl ⟨rfl, rfl, rfl⟩
      · rw [sameV_f fun h => hlen (by rw [h])]
        rw [e1, e2, e3, e4]
        refine enter Try.func15 (by kernel_rfl) rfl (by kernel_rfl) rfl rfl rfl ?_
        (repeat' first | refine zcd ?_ | intro K' hK | (with_reducible refine zn hK ?_; clear hK) | fail | ((with_reducible first | apply zo1 | apply zo2 | apply o_guard rfl | apply x_cond | apply k_e1 rfl | apply k_e2 rfl | apply k_e0 rfl | apply k_e3 rfl | apply k_e4 rfl); (case he => exact ez3 @b_strNeq @b_self @b_bneq0); (try case hok => exact ezO); all_goals try (intro hb; (try simp only [hbs, reduceCtorEq] at hb); try exact ezX)) | ((with_reducible apply o_undef rfl); (case hb => exact ez0)))
        all_goals exact sw_flat rfl rfl ⟨rfl, rfl, rfl⟩
    · rw [sameV_f fun h => he (by rw [h]; exact ⟨rfl, rfl, rfl, rfl⟩)]
      by_cases e1 : v.kd = w.kd
      · by_cases e2 : v.i = w.i
        · by_cases e3 : v.s = w.s
          · have e4 : (v.c == w.c) = false := beq_eq_false_iff_ne.2 fun e4 => he ⟨e1, e2, e3, e4⟩
            have e5b : (v.c != w.c) = true := by rw [bne_iff_ne]; exact fun e4 => he ⟨e1, e2, e3, e4⟩
            rw [e1, e2, e3]
            refine enter Try.func15 (by kernel_rfl) rfl (by kernel_rfl) rfl rfl rfl ?_
            (repeat' first | refine zcd ?_ | intro K' hK | (with_reducible refine zn hK ?_; clear hK) | fail | ((with_reducible first | apply zo1 | apply zo2 | apply o_guard rfl | apply x_cond | apply k_e1 rfl | apply k_e2 rfl | apply k_e0 rfl | apply k_e3 rfl | apply k_e4 rfl); (case he => (intros; simp (disch := first | assumption | omega | rfl | decide) only [go_sem, seval, tys, b_strNeq, b_self, b_bneqx, e5b, Bool.not_false] <;> rfl)); (try case hok => exact ezO); all_goals try (intro hb; (try simp only [hbs, reduceCtorEq] at hb); try exact ezX)) | ((with_reducible apply o_undef rfl); (case hb => exact ez0)))
            all_goals exact sw_flat rfl rfl ⟨rfl, rfl, rfl⟩
          · have e5 := b_diff e3
            rw [e1, e2]
            refine enter Try.func15 (by kernel_rfl) rfl (by kernel_rfl) rfl rfl rfl ?_
            (repeat' first | refine zcd ?_ | intro K' hK | (with_reducible refine zn hK ?_; clear hK) | fail | ((with_reducible first | apply zo1 | apply zo2 | apply o_guard rfl | apply x_cond | apply k_e1 rfl | apply k_e2 rfl | apply k_e0 rfl | apply k_e3 rfl | apply k_e4 rfl); (case he => exact ez2 @b_strNeq e5); (try case hok => exact ezO); all_goals try (intro hb; (try simp only [hbs, reduceCtorEq] at hb); try exact ezX)) | ((with_reducible apply o_undef rfl); (case hb => exact ez0)))
            all_goals exact sw_flat rfl rfl ⟨rfl, rfl, rfl⟩
        · rw [e1]
          refine enter Try.func15 (by kernel_rfl) rfl (by kernel_rfl) rfl rfl rfl ?_
          (repeat' first | refine zcd ?_ | intro K' hK | (with_reducible refine zn hK ?_; clear hK) | fail | ((with_reducible first | apply zo1 | apply zo2 | apply o_guard rfl | apply x_cond | apply k_e1 rfl | apply k_e2 rfl | apply k_e0 rfl | apply k_e3 rfl | apply k_e4 rfl); (case he => exact ez0); (try case hok => exact ezO); all_goals try (intro hb; (try simp only [hbs, reduceCtorEq] at hb); try exact ezX)) | ((with_reducible apply o_undef rfl); (case hb => exact ez0)))
          all_goals exact sw_flat rfl rfl ⟨rfl, rfl, rfl⟩
      · refine enter Try.func15 (by kernel_rfl) rfl (by kernel_rfl) rfl rfl rfl ?_
        (repeat' first | refine zcd ?_ | intro K' hK | (with_reducible refine zn hK ?_; clear hK) | fail | ((with_reducible first | apply zo1 | apply zo2 | apply o_guard rfl | apply x_cond | apply k_e1 rfl | apply k_e2 rfl | apply k_e0 rfl | apply k_e3 rfl | apply k_e4 rfl); (case he => exact ez0); (try case hok => exact ezO); all_goals try (intro hb; (try simp only [hbs, reduceCtorEq] at hb); try exact ezX)) | ((with_reducible apply o_undef rfl); (case hb => exact ez0)))
        all_goals exact sw_flat rfl rfl ⟨rfl, rfl, rfl⟩
end Go.Proofs.Ytcpkdjikembpnaa.Ce
namespace Go.Proofs.Ytcpkdjikembpnaa.Ce
open Go.RowKit
theorem sp_fixt15 {P : Program} {F : CallE} {cl n : Nat} {g : FuncId} {ar : List Value} {h : Hp} {Φ : Value → Hp → Nat → Prop} (hs : Sp P F cl g ar h n Φ) : ∃ v h' n', Φ v h' n' ∧ Sp P F cl g ar h n fun v2 h2 n2 => v2 = v ∧ h2 = h' ∧ n2 = n' := by
  obtain ⟨hg, v, h', n', hr, hp⟩ := hs
  exact ⟨v, h', n', hp, hg, v, h', n', hr, rfl, rfl, rfl⟩
variable (k d cl : Nat) (h : Hp) (n : Nat)
theorem lvl_no (TA A : Option Addr) (T : List Tp) (L : List Rg) (tc gc : Nat) (a t dp : Int) (hS1 : SQ k (d + 4100) n 9 [.slice TA T.length tc] h n fun v2 h2 n2 => v2 = .bool true ∧ h = h2 ∧ n = n2) :
    SQ k (d + 4101) cl 3 [.slice TA T.length tc, .slice A L.length gc, .int .u64 a, .int .i64 t, .int .i64 dp] h n fun v h' n' => v = .bool true := by
  refine enter Try.func3 (by kernel_rfl) rfl (by kernel_rfl) rfl rfl rfl ?_
  (repeat' first | refine zcd ?_ | intro K' hK | (with_reducible refine zn hK ?_; clear hK) | ((with_reducible apply o_callF (g := 9) w_none); (case ha => exact ez0); (case hs => (exact hS1)); (case' hk => rintro _ h' n' ⟨rfl, rfl, rfl⟩)) | ((with_reducible first | apply zo1 | apply zo2 | apply o_guard rfl | apply x_cond | apply k_e1 rfl | apply k_e2 rfl | apply k_e0 rfl | apply k_e3 rfl | apply k_e4 rfl); (case he => exact ez0); (try case hok => exact ezO); all_goals try (intro hb; (try simp only [hbs, reduceCtorEq] at hb); try exact ezX)) | ((with_reducible apply o_undef rfl); (case hb => exact ez0)))
  all_goals exact sw_flat rfl rfl rfl
theorem lvl_many (TA A : Option Addr) (T : List Tp) (L : List Rg) (tc gc : Nat) (hl : 20 < L.length) (a t dp : Int) (hS1 : SQ k (d + 4100) n 9 [.slice TA T.length tc] h n fun v2 h2 n2 => v2 = .bool false ∧ h = h2 ∧ n = n2) :
    SQ k (d + 4101) cl 3 [.slice TA T.length tc, .slice A L.length gc, .int .u64 a, .int .i64 t, .int .i64 dp] h n fun v h' n' => v = .bool true := by
  refine enter Try.func3 (by kernel_rfl) rfl (by kernel_rfl) rfl rfl rfl ?_
  (repeat' first | refine zcd ?_ | intro K' hK | (with_reducible refine zn hK ?_; clear hK) | ((with_reducible apply o_callF (g := 9) w_none); (case ha => exact ez0); (case hs => (exact hS1)); (case' hk => rintro _ h' n' ⟨rfl, rfl, rfl⟩)) | ((with_reducible first | apply zo1 | apply zo2 | apply o_guard rfl | apply x_cond | apply k_e1 rfl | apply k_e2 rfl | apply k_e0 rfl | apply k_e3 rfl | apply k_e4 rfl); (case he => exact ez0); (try case hok => exact ezO); all_goals try (intro hb; (try simp only [hbs, reduceCtorEq] at hb); try exact ezX)) | ((with_reducible apply o_undef rfl); (case hb => exact ez0)))
  all_goals exact sw_flat rfl rfl rfl
theorem lvl_yes (hk : 30000 ≤ k) (TA A : Option Addr) (T : List Tp) (L : List Rg) (tc gc : Nat) (hT : TabH h n TA T) (hg : T.length ≤ 40 ∧ ∀ t ∈ T, t.fs.length ≤ 20) (hR : RgH h n A L) (hl : L.length ≤ 20) (a t dp : Int) (ha0 : 0 ≤ a) (ha1 : a < 18446744073709551616) (hS1 : SQ k (d + 4100) n 9 [.slice TA T.length tc] h n fun v2 h2 n2 => v2 = .bool false ∧ h = h2 ∧ n = n2) :
    SQ k (d + 4101) cl 3 [.slice TA T.length tc, .slice A L.length gc, .int .u64 a, .int .i64 t, .int .i64 dp] h n fun v h' n' => v = .bool true := by
  have hST : ∀ t ∈ T, t.fs.length ≤ 20000 := fun t ht => by have := hg.2 t ht; omega
  have hm : T.length ≤ 9223372036854775807 := by omega
  obtain ⟨X, hX⟩ : ∃ X, rvV (LoadR T L a t dp) = X := ⟨_, rfl⟩
  obtain ⟨E, hE⟩ : ∃ E, rvE (LoadR T L a t dp) = E := ⟨_, rfl⟩
  obtain ⟨Z, hZ⟩ : ∃ Z, rvV (ZeroR T t) = Z := ⟨_, rfl⟩
  obtain ⟨G, hG⟩ : ∃ G, rvE (ZeroR T t) = G := ⟨_, rfl⟩
  have bX : Bd 1001 X := by rw [← hX]; exact LoadR_bd
  have bZ : Bd 1001 Z := by rw [← hZ]; exact ZeroR_bd
  refine enter Try.func3 (by kernel_rfl) rfl (by kernel_rfl) rfl rfl rfl ?_
  (repeat' first | refine zcd ?_ | intro K' hK | (with_reducible refine zn hK ?_; clear hK) | ((with_reducible apply o_callF (g := 9) w_none); (case ha => exact ez0); (case hs => (exact hS1)); (case' hk => rintro _ h' n' ⟨rfl, rfl, rfl⟩)) | ((with_reducible first | apply zo1 | apply zo2 | apply o_guard rfl | apply x_cond | apply k_e1 rfl | apply k_e2 rfl | apply k_e0 rfl | apply k_e3 rfl | apply k_e4 rfl); (case he => exact ez0); (try case hok => exact ezO); all_goals try (intro hb; (try simp only [hbs, reduceCtorEq] at hb); try exact ezX)) | ((with_reducible apply o_undef rfl); (case hb => exact ez0)))
  refine x_loopF [10, 11, 27, 28, 29, 30, 31, 32, 33, 34, 35, 36, 37] [11] (fun m vs => ∃ q : Nat, m = L.length - q ∧ q ≤ L.length ∧ vs = [.int .i64 q] ∧ ∀ p (hp : p < q) (hpl : p < L.length), L[p].xs.length ≤ 20100) L.length rfl (by omega) ⟨0, rfl, by omega, ez0, fun p hp => absurd hp (Nat.not_lt_zero _)⟩ ?_
  rintro m g _ ⟨q, rfl, hq, rfl, hall⟩
  by_cases hql : q < L.length
  · obtain ⟨id, off, rfl, hid, c1⟩ := hR.at_ hql
    have hbX := hR.bd _ (List.getElem_mem hql)
    have hlX := hR.ln _ (List.getElem_mem hql)
    obtain ⟨Y, hY⟩ : ∃ Y, L[q] = Y := ⟨_, rfl⟩
    rw [hY] at c1 hbX hlX
    obtain ⟨v2, h2, n2, ⟨⟨B, rfl, hB⟩, rfl, rfl⟩, hS2⟩ := sp_fixt15 (rgreatG_ev k (d + 4099) n h n Y.b Y.A Y.xs.length Y.c)
    have hS2 := hS2.mono (Φ' := fun v3 h3 n3 => v3 = .bool B ∧ h = h3 ∧ n = n3) fun _ _ _ hp => ⟨hp.1, hp.2.1.symm, hp.2.2.symm⟩
    cases B with
    | true =>
      (repeat' first | refine zcd ?_ | intro K' hK | (with_reducible refine zn hK ?_; clear hK) | ((with_reducible apply o_callF (g := 10) w_none); (case ha => exact ez0); (case hs => (exact hS2)); (case' hk => rintro _ h' n' ⟨rfl, rfl, rfl⟩)) | ((with_reducible first | apply zo1 | apply zo2 | apply o_guard rfl | apply x_cond | apply k_e1 rfl | apply k_e2 rfl | apply k_e0 rfl | apply k_e3 rfl | apply k_e4 rfl); (case he => exact ez1 c1); (try case hok => exact ezO); all_goals try (intro hb; (try simp only [hbs, reduceCtorEq] at hb); try exact ezX)) | ((with_reducible apply o_undef rfl); (case hb => exact ez0)))
      all_goals exact sw_flat rfl rfl rfl
    | false =>
      (repeat' first | refine zcd ?_ | intro K' hK | (with_reducible refine zn hK ?_; clear hK) | ((with_reducible apply o_callF (g := 10) w_none); (case ha => exact ez0); (case hs => (exact hS2)); (case' hk => rintro _ h' n' ⟨rfl, rfl, rfl⟩)) | ((with_reducible first | apply zo1 | apply zo2 | apply o_guard rfl | apply x_cond | apply k_e1 rfl | apply k_e2 rfl | apply k_e0 rfl | apply k_e3 rfl | apply k_e4 rfl); (case he => exact ez1 c1); (try case hok => exact ezO); all_goals try (intro hb; (try simp only [hbs, reduceCtorEq] at hb); try exact ezX)) | ((with_reducible apply o_undef rfl); (case hb => exact ez0)))
      refine k_round (L.length - (q + 1)) (by omega) ⟨⟨rfl, rfl⟩, q + 1, rfl, by omega, ez0, fun p hp hpl => ?_⟩
      by_cases e : p = q
      · subst e; rw [hY]; exact hB rfl
      · exact hall p (by omega) hpl
  · obtain rfl : q = L.length := by omega
    have hlx : ∀ g ∈ L, g.xs.length ≤ 20100 := fun g hg => by
      obtain ⟨p, hp, rfl⟩ := List.getElem_of_mem hg
      exact hall p hp hp
    have q1 := (vload_ev k (d + 1000) n h n hk TA A T L tc gc hT hST hm hR (by omega) a t dp ha0 ha1).mono fun _ _ _ hp => hp.uni
    rw [hX, hE] at q1
    (repeat' first | refine zcd ?_ | intro K' hK | (with_reducible refine zn hK ?_; clear hK) | ((with_reducible apply o_callF (g := 11) w_none); (case ha => exact ez0); (case hs => (exact q1)); (case' hk => rintro _ h' n' ⟨A1, cc1, rfl, v1, hn1, hk1⟩)) | ((with_reducible first | apply zo1 | apply zo2 | apply o_guard rfl | apply x_cond | apply k_e1 rfl | apply k_e2 rfl | apply k_e0 rfl | apply k_e3 rfl | apply k_e4 rfl); (case he => exact ez0); (try case hok => exact ezO); all_goals try (intro hb; (try simp only [hbs, reduceCtorEq] at hb); try exact ezX)) | ((with_reducible apply o_undef rfl); (case hb => exact ez0)))
    obtain ⟨h1, rfl⟩ : ∃ y, y = h' := ⟨_, rfl⟩
    obtain ⟨n1, rfl⟩ : ∃ y, y = n' := ⟨_, rfl⟩
    obtain ⟨g1, hg1⟩ : ∃ y, y = h1.set n1 (.row 32 false (vcell X.kd X.i X.s A1 X.l.length cc1 X.c)) := ⟨_, rfl⟩
    have b1 : ∀ b, b < n → g1.get b = h.get b := fun b hb => by rw [hg1, Hp.get_ne _ _ (by omega), hk1 b (by omega)]
    have w1 : rowOf g1 n1 = some (32, false, vcell X.kd X.i X.s A1 X.l.length cc1 X.c) := by rw [hg1]; exact rowOf_same _ _ _ _ _
    have v1 : VH g1 (n1 + 1) X (vcell X.kd X.i X.s A1 X.l.length cc1 X.c) := by rw [hg1]; exact (v1.set (Nat.le_refl _) _).more (by omega)
    have hTT : TabH g1 (n1 + 1) TA T := (hT.keep (Nat.le_refl _) b1).more (by omega)
    have hRR : RgH g1 (n1 + 1) A L := (hR.keep (Nat.le_refl _) b1).more (by omega)
    have q2 := (rload0_ev k d n g1 (n1 + 1) hk TA A T L tc gc hTT hST hm hRR (by omega) hlx a t dp ha0 ha1).mono fun _ _ _ hp => hp.uni
    rw [hX, hE] at q2
    rw [← hg1]
    (repeat' first | refine zcd ?_ | intro K' hK | (with_reducible refine zn hK ?_; clear hK) | ((with_reducible apply o_callF (g := 12) w_none); (case ha => exact ez0); (case hs => (exact q2)); (case' hk => rintro _ h' n' ⟨A2, cc2, rfl, v2, hn2, hk2⟩)) | ((with_reducible first | apply zo1 | apply zo2 | apply o_guard rfl | apply x_cond | apply k_e1 rfl | apply k_e2 rfl | apply k_e0 rfl | apply k_e3 rfl | apply k_e4 rfl); (case he => exact ez0); (try case hok => exact ezO); all_goals try (intro hb; (try simp only [hbs, reduceCtorEq] at hb); try exact ezX)) | ((with_reducible apply o_undef rfl); (case hb => exact ez0)))
    obtain ⟨h2, rfl⟩ : ∃ y, y = h' := ⟨_, rfl⟩
    obtain ⟨n2, rfl⟩ : ∃ y, y = n' := ⟨_, rfl⟩
    obtain ⟨g2, hg2⟩ : ∃ y, y = h2.set n2 (.row 32 false (vcell X.kd X.i X.s A2 X.l.length cc2 X.c)) := ⟨_, rfl⟩
    have b2 : ∀ b, b < n → g2.get b = h.get b := fun b hb => by rw [hg2, Hp.get_ne _ _ (by omega), hk2 b (by omega)]; exact b1 b hb
    have w2 : rowOf g2 n2 = some (32, false, vcell X.kd X.i X.s A2 X.l.length cc2 X.c) := by rw [hg2]; exact rowOf_same _ _ _ _ _
    have v2 : VH g2 (n2 + 1) X (vcell X.kd X.i X.s A2 X.l.length cc2 X.c) := by rw [hg2]; exact (v2.set (Nat.le_refl _) _).more (by omega)
    have w1 : rowOf g2 n1 = some (32, false, vcell X.kd X.i X.s A1 X.l.length cc1 X.c) := by rw [hg2, rowOf_ne _ _ (by omega), rowOf_keep (hk2 _ (by omega))]; exact w1
    have v1 := (v1.keep (h' := g2) (B' := n2 + 1) (by omega) fun b hb => by rw [hg2, Hp.get_ne _ _ (by omega), hk2 b (by omega)])
    have hTT : TabH g2 (n2 + 1) TA T := (hT.keep (Nat.le_refl _) b2).more (by omega)
    have hRR : RgH g2 (n2 + 1) A L := (hR.keep (Nat.le_refl _) b2).more (by omega)
    have q3 := (vzero0_ev k (d + 3000) n g2 (n2 + 1) hk TA T tc hTT hST hm t).mono fun _ _ _ hp => hp.uni
    rw [hZ, hG] at q3
    rw [← hg2]
    (repeat' first | refine zcd ?_ | intro K' hK | (with_reducible refine zn hK ?_; clear hK) | ((with_reducible apply o_callF (g := 13) w_none); (case ha => exact ez0); (case hs => (exact q3)); (case' hk => rintro _ h' n' ⟨A3, cc3, rfl, v3, hn3, hk3⟩)) | ((with_reducible first | apply zo1 | apply zo2 | apply o_guard rfl | apply x_cond | apply k_e1 rfl | apply k_e2 rfl | apply k_e0 rfl | apply k_e3 rfl | apply k_e4 rfl); (case he => exact ez0); (try case hok => exact ezO); all_goals try (intro hb; (try simp only [hbs, reduceCtorEq] at hb); try exact ezX)) | ((with_reducible apply o_undef rfl); (case hb => exact ez0)))
    obtain ⟨h3, rfl⟩ : ∃ y, y = h' := ⟨_, rfl⟩
    obtain ⟨n3, rfl⟩ : ∃ y, y = n' := ⟨_, rfl⟩
    obtain ⟨g3, hg3⟩ : ∃ y, y = h3.set n3 (.row 32 false (vcell Z.kd Z.i Z.s A3 Z.l.length cc3 Z.c)) := ⟨_, rfl⟩
    have b3 : ∀ b, b < n → g3.get b = h.get b := fun b hb => by rw [hg3, Hp.get_ne _ _ (by omega), hk3 b (by omega)]; exact b2 b hb
    have w3 : rowOf g3 n3 = some (32, false, vcell Z.kd Z.i Z.s A3 Z.l.length cc3 Z.c) := by rw [hg3]; exact rowOf_same _ _ _ _ _
    have v3 : VH g3 (n3 + 1) Z (vcell Z.kd Z.i Z.s A3 Z.l.length cc3 Z.c) := by rw [hg3]; exact (v3.set (Nat.le_refl _) _).more (by omega)
    have w1 : rowOf g3 n1 = some (32, false, vcell X.kd X.i X.s A1 X.l.length cc1 X.c) := by rw [hg3, rowOf_ne _ _ (by omega), rowOf_keep (hk3 _ (by omega))]; exact w1
    have v1 := (v1.keep (h' := g3) (B' := n3 + 1) (by omega) fun b hb => by rw [hg3, Hp.get_ne _ _ (by omega), hk3 b (by omega)])
    have w2 : rowOf g3 n2 = some (32, false, vcell X.kd X.i X.s A2 X.l.length cc2 X.c) := by rw [hg3, rowOf_ne _ _ (by omega), rowOf_keep (hk3 _ (by omega))]; exact w2
    have v2 := (v2.keep (h' := g3) (B' := n3 + 1) (by omega) fun b hb => by rw [hg3, Hp.get_ne _ _ (by omega), hk3 b (by omega)])
    have hTT : TabH g3 (n3 + 1) TA T := (hT.keep (Nat.le_refl _) b3).more (by omega)
    have hRR : RgH g3 (n3 + 1) A L := (hR.keep (Nat.le_refl _) b3).more (by omega)
    have q4 := (rzero0_ev k (d + 3000) n g3 (n3 + 1) hk TA T tc hTT hST hm t).mono fun _ _ _ hp => hp.uni
    rw [hZ, hG] at q4
    rw [← hg3]
    (repeat' first | refine zcd ?_ | intro K' hK | (with_reducible refine zn hK ?_; clear hK) | ((with_reducible apply o_callF (g := 14) w_none); (case ha => exact ez0); (case hs => (exact q4)); (case' hk => rintro _ h' n' ⟨A4, cc4, rfl, v4, hn4, hk4⟩)) | ((with_reducible first | apply zo1 | apply zo2 | apply o_guard rfl | apply x_cond | apply k_e1 rfl | apply k_e2 rfl | apply k_e0 rfl | apply k_e3 rfl | apply k_e4 rfl); (case he => exact ez0); (try case hok => exact ezO); all_goals try (intro hb; (try simp only [hbs, reduceCtorEq] at hb); try exact ezX)) | ((with_reducible apply o_undef rfl); (case hb => exact ez0)))
    obtain ⟨h4, rfl⟩ : ∃ y, y = h' := ⟨_, rfl⟩
    obtain ⟨n4, rfl⟩ : ∃ y, y = n' := ⟨_, rfl⟩
    obtain ⟨g4, hg4⟩ : ∃ y, y = h4.set n4 (.row 32 false (vcell Z.kd Z.i Z.s A4 Z.l.length cc4 Z.c)) := ⟨_, rfl⟩
    have b4 : ∀ b, b < n → g4.get b = h.get b := fun b hb => by rw [hg4, Hp.get_ne _ _ (by omega), hk4 b (by omega)]; exact b3 b hb
    have w4 : rowOf g4 n4 = some (32, false, vcell Z.kd Z.i Z.s A4 Z.l.length cc4 Z.c) := by rw [hg4]; exact rowOf_same _ _ _ _ _
    have v4 : VH g4 (n4 + 1) Z (vcell Z.kd Z.i Z.s A4 Z.l.length cc4 Z.c) := by rw [hg4]; exact (v4.set (Nat.le_refl _) _).more (by omega)
    have w1 : rowOf g4 n1 = some (32, false, vcell X.kd X.i X.s A1 X.l.length cc1 X.c) := by rw [hg4, rowOf_ne _ _ (by omega), rowOf_keep (hk4 _ (by omega))]; exact w1
    have v1 := (v1.keep (h' := g4) (B' := n4 + 1) (by omega) fun b hb => by rw [hg4, Hp.get_ne _ _ (by omega), hk4 b (by omega)])
    have w2 : rowOf g4 n2 = some (32, false, vcell X.kd X.i X.s A2 X.l.length cc2 X.c) := by rw [hg4, rowOf_ne _ _ (by omega), rowOf_keep (hk4 _ (by omega))]; exact w2
    have v2 := (v2.keep (h' := g4) (B' := n4 + 1) (by omega) fun b hb => by rw [hg4, Hp.get_ne _ _ (by omega), hk4 b (by omega)])
    have w3 : rowOf g4 n3 = some (32, false, vcell Z.kd Z.i Z.s A3 Z.l.length cc3 Z.c) := by rw [hg4, rowOf_ne _ _ (by omega), rowOf_keep (hk4 _ (by omega))]; exact w3
    have v3 := (v3.keep (h' := g4) (B' := n4 + 1) (by omega) fun b hb => by rw [hg4, Hp.get_ne _ _ (by omega), hk4 b (by omega)])
    rw [← hg4]
    have f1 := cellsAt_row (off := 0) (k := 5) w1
    have f2 := cellsAt_row (off := 0) (k := 5) w2
    have f3 := cellsAt_row (off := 0) (k := 5) w3
    have f4 := cellsAt_row (off := 0) (k := 5) w4
    have s1 := (rsamev_ev k hk 1001 X X (d + 3099) n g4 (n4 + 1) _ _ bX v1 v2).mono (Φ' := fun x h' n' => x = .bool true ∧ g4 = h' ∧ n4 + 1 = n') fun _ _ _ hp => ⟨by rw [hp.1, sameV_t], hp.2.1.symm, hp.2.2.symm⟩
    have s2 := (rsamev_ev k hk 1001 Z Z (d + 3099) n g4 (n4 + 1) _ _ bZ v3 v4).mono (Φ' := fun x h' n' => x = .bool true ∧ g4 = h' ∧ n4 + 1 = n') fun _ _ _ hp => ⟨by rw [hp.1, sameV_t], hp.2.1.symm, hp.2.2.symm⟩
    (repeat' first | refine zcd ?_ | intro K' hK | (with_reducible refine zn hK ?_; clear hK) | ((with_reducible apply o_callF (g := 15) w_none); (case ha => exact ez0); (case hs => (first | exact s1 | exact s2)); (case' hk => rintro _ h' n' ⟨rfl, rfl, rfl⟩)) | ((with_reducible first | apply zo1 | apply zo2 | apply o_guard rfl | apply x_cond | apply k_e1 rfl | apply k_e2 rfl | apply k_e0 rfl | apply k_e3 rfl | apply k_e4 rfl); (case he => exact ez4 f1 f2 f3 f4); (try case hok => exact ezO); all_goals try (intro hb; (try simp only [hbs, reduceCtorEq] at hb); try exact ezX)) | ((with_reducible apply o_undef rfl); (case hb => exact ez0)))
    all_goals exact sw_flat rfl rfl rfl
theorem valueLoads_ev (hk : 30000 ≤ k) (TA A : Option Addr) (T : List Tp) (L : List Rg) (tc gc : Nat) (hT : TabH h n TA T) (hm : T.length ≤ 9223372036854775807) (hS0 : ∀ t ∈ T, t.fs.length ≤ 9223372036854775807) (hR : RgH h n A L) (hlm : L.length ≤ 9223372036854775807) (a t dp : Int) (ha0 : 0 ≤ a) (ha1 : a < 18446744073709551616) :
    SQ k (d + 4101) cl 3 [.slice TA T.length tc, .slice A L.length gc, .int .u64 a, .int .i64 t, .int .i64 dp] h n fun v h' n' => v = .bool true := by
  obtain ⟨v, h2, n2, ⟨B, rfl, hg, rfl, rfl⟩, hB⟩ := sp_fixt15 (tgreat_ev k (d + 4099) n h n hk TA T tc hT hm hS0)
  have hB2 : SQ k (d + 4100) n2 9 [.slice TA T.length tc] h2 n2 fun v3 h3 n3 => v3 = .bool B ∧ h2 = h3 ∧ n2 = n3 := hB.mono fun _ _ _ hp => ⟨hp.1, hp.2.1.symm, hp.2.2.symm⟩
  rcases B with _ | _
  · by_cases hl : L.length ≤ 20
    · exact lvl_yes k d cl h2 n2 hk TA A T L tc gc hT (hg rfl) hR hl a t dp ha0 ha1 hB2
    · exact lvl_many k d cl h2 n2 TA A T L tc gc (by omega) a t dp hB2
  · exact lvl_no k d cl h2 n2 TA A T L tc gc a t dp hB2
end Go.Proofs.Ytcpkdjikembpnaa.Ce
namespace Go.Proofs.Ytcpkdjikembpnaa
open Go.ChangeShapes Go.WideShapes Go.ChangeAt Go.RowKit Go.Joins Go.Deep
section
variable {H : Type} {enc : TypeId × Value → H} {P : Program} {w : World} {base : Nat}
theorem open_bytes_cell {t e : TypeId} {held : Bool} {fuel : Nat} {v : Value} {x : DataW H × List MemPlace} (ht : P.underlying t = some (.slice e)) (he : P.underlying e = some (.int .u8)) (hc : P.cellsOf e = 1)
    (h : DataW.trod enc P w base (fun _ => true) held fuel t [v] = some x) :
    ∃ (A : Option Addr) (xs : List UInt8) (c : Nat), v = .slice A xs.length c ∧ Rd w w.heap.size A (bv xs) ∧ xs.length ≤ c ∧ c ≤ 9223372036854775807 ∧ (A = none → c = 0) := by
  rcases open_ints ht he hc h with ⟨hcs, _⟩ | ⟨a, len, cap, zs, hcs, _, hl, hm, hz, _, hcell, hwz⟩
  · injection hcs with hcs _
    exact ⟨none, [], 0, hcs, Rd.nil_, by simp, by omega, fun _ => rfl⟩
  · injection hcs with hcs _
    simp at hz
    have hzl : ((zs.take len).map fun n => UInt8.ofNat n.toNat).length = len := by simp; omega
    refine ⟨some a, (zs.take len).map fun n => UInt8.ofNat n.toNat, cap, by rw [hzl, hcs], ?_, by rw [hzl]; exact hl, by unfold maxLen at hm; omega, fun h => (by cases h)⟩
    by_cases h0 : len = 0
    · subst h0; exact .inl (by simp [bv])
    · obtain ⟨b, off, spot⟩ := a
      have hc0 := hcell 0 (by omega)
      have hspot : spot = none := by simpa [Addr.add] using World.cell?_spot hc0
      subst hspot
      have hbl : b < w.heap.size := by
        have := World.block_lt_of_cell? w _ hc0
        rw [add_none] at this
        exact this
      refine .inr ⟨b, off, rfl, hbl, fun j v hj => ?_⟩
      have hjl : j < len := by
        rcases Nat.lt_or_ge j len with hlt | hge
        · exact hlt
        · rw [List.getElem?_eq_none (by rw [bv_length, hzl]; exact hge)] at hj; cases hj
      have hjz : j < zs.length := by omega
      have hcj := hcell j hjz
      rw [add_none] at hcj
      rw [hcj]
      have hw := hwz (zs[j]) (List.getElem_mem _)
      have hb := bounds_u8 hw
      simp only [bv, List.getElem?_map, List.getElem?_take, hjl, if_true, List.getElem?_eq_getElem hjz, Option.map_some] at hj
      rw [← hj]
      simp only [List.getD, List.getElem?_eq_getElem hjz, Option.getD_some]
      congr 2
      simp
      omega
end
end Go.Proofs.Ytcpkdjikembpnaa
namespace Go.Proofs.Ytcpkdjikembpnaa
open Go.ChangeShapes Go.WideShapes Go.ChangeAt Go.RowKit Go.Joins Go.Deep
section
variable {H : Type} {enc : TypeId × Value → H} {P : Program} {w : World} {base : Nat}
end
end Go.Proofs.Ytcpkdjikembpnaa
namespace Go.Proofs.Ytcpkdjikembpnaa
open Go.ChangeShapes Go.WideShapes Go.ChangeAt Go.RowKit Go.Joins Go.Deep
section
variable {H : Type} {enc : TypeId × Value → H} {P : Program} {w : World} {base : Nat}
end
end Go.Proofs.Ytcpkdjikembpnaa
namespace Go.Proofs.Ytcpkdjikembpnaa
open Go.ChangeShapes Go.WideShapes Go.ChangeAt Go.RowKit Go.Joins Go.Deep
def iv (l : List Int) : List Value := l.map fun z => .int .i64 z
theorem iv_length (l : List Int) : (iv l).length = l.length := by simp [iv]
theorem rd_of_cells {w : World} {a : Addr} {vs : List Value} (h : ∀ i v, vs[i]? = some v → w.cell? (a.add i) = some v) : Rd w w.heap.size (some a) vs := by
  by_cases hx : vs = []
  · exact .inl hx
  · obtain ⟨b, off, spot⟩ := a
    obtain ⟨v0, hv0⟩ : ∃ v, vs[0]? = some v := by
      cases vs with
      | nil => exact absurd rfl hx
      | cons v _ => exact ⟨v, rfl⟩
    have hc0 := h 0 v0 hv0
    have hspot : spot = none := by simpa [Addr.add] using World.cell?_spot hc0
    subst hspot
    have hbl : b < w.heap.size := by
      have := World.block_lt_of_cell? w _ hc0
      rw [add_none] at this
      exact this
    exact .inr ⟨b, off, rfl, hbl, fun j v hj => by have := h j v hj; rwa [add_none] at this⟩
section
variable {H : Type} {enc : TypeId × Value → H} {P : Program} {w : World} {base : Nat}
end
end Go.Proofs.Ytcpkdjikembpnaa
namespace Go.Proofs.Ytcpkdjikembpnaa.Ce
open Go.RowKit
theorem calls_sp {P : Program} (hm : P.follows .mixedOrders = true) {W : FuncId → Bool} {k d : Nat} {g : FuncId} {args vs : List Value} {w : World} (ha : args.map (visV w.heap.size) = vs)
    (hs : Sp P (acall P W k d) w.heap.size g vs (absW w) w.heap.size fun v _ _ => v = .bool true) : Calls P g ⟨args⟩ w fun e w' => e = .returned (.bool true) ∧ Below w.heap.size w w' := by
  subst ha
  exact calls_in hm hs.1 hs.isTrue_
theorem bv_vis (B : Nat) (xs : List UInt8) : (bv xs).map (vis B) = bv xs := by
  unfold bv
  rw [List.map_map]
  apply List.map_congr_left
  intro x _
  exact vis_flat rfl
theorem bytes_here {w : World} {A : Option Addr} {c : Nat} {xs : List UInt8} (h : Rd w w.heap.size A (bv xs)) (hc : xs.length ≤ c) (hm : c ≤ 9223372036854775807) (h0 : A = none → c = 0) :
    ∃ A' c', vis w.heap.size (.slice A xs.length c) = .slice A' xs.length c' ∧ RdH (absW w) w.heap.size A' (bv xs) ∧ (A' = none → c' = 0) := by
  obtain ⟨A', c', h1, h2, _, h3, _⟩ := rd_here h (fun hh => by rw [← bv_length, hh]; rfl) hc hm h0
  rw [bv_vis] at h2
  exact ⟨A', c', h1, h2, h3⟩
end Go.Proofs.Ytcpkdjikembpnaa.Ce
namespace Go.Proofs.Ytcpkdjikembpnaa
open Go.ChangeShapes Go.WideShapes Go.ChangeAt Go.RowKit Go.Joins Go.Deep
section
variable {H : Type} {enc : TypeId × Value → H} {P : Program} {w : World} {base : Nat}
end
end Go.Proofs.Ytcpkdjikembpnaa
namespace Go.Proofs.Ytcpkdjikembpnaa
open Go.ChangeShapes Go.WideShapes Go.ChangeAt Go.RowKit Go.Joins Go.Deep
theorem list_of {α : Type} {Q : Nat → α → Prop} : ∀ {m : Nat}, (∀ i, i < m → ∃ r, Q i r) → ∃ l : List α, l.length = m ∧ ∀ i (hi : i < l.length), Q i l[i]
  | 0, _ => ⟨[], rfl, fun i hi => by simp at hi⟩
  | n + 1, h => by
    obtain ⟨l, hl, hx⟩ := list_of fun i (hi : i < n) => h i (by omega)
    obtain ⟨r, hr⟩ := h n (by omega)
    refine ⟨l ++ [r], by simp [hl], fun i hi => ?_⟩
    by_cases hlt : i < l.length
    · rw [List.getElem_append_left hlt]; exact hx i hlt
    · have : i = l.length := by simp at hi; omega
      subst this
      rw [List.getElem_append_right (Nat.le_refl _)]
      simp only [Nat.sub_self, List.getElem_singleton, hl]
      exact hr
section
variable {H : Type} {enc : TypeId × Value → H} {P : Program} {w : World} {base : Nat}
theorem open_fields_cell {t e ts ti : TypeId} {f0 f1 : Field} {held : Bool} {fuel : Nat} {v : Value} {x : DataW H × List MemPlace} (ht : P.underlying t = some (.slice e)) (he : P.underlying e = some (.struct #[f0, f1]))
    (ce : P.cellsOf e = 2) (o0 : f0.offset = 0) (o1 : f1.offset = 1) (c0 : P.cellsOf f0.type = 1) (c1 : P.cellsOf f1.type = 1) (h0 : f0.type = ts) (h1 : f1.type = ti) (hs : P.underlying ts = some .string) (hi : P.underlying ti = some (.int .i64))
    (h : DataW.trod enc P w base (fun _ => true) held fuel t [v] = some x) :
    ∃ (A : Option Addr) (fs : List (List UInt8 × Int)) (c : Nat), v = .slice A fs.length c ∧ Rd w w.heap.size A (Ce.fv fs) ∧ fs.length ≤ c ∧ c ≤ 9223372036854775807 ∧ (A = none → c = 0) ∧ ∀ f ∈ fs, Ce.I64 f.2 := by
  rcases open_slice_pairs ht he ce o0 o1 c0 c1 h with ⟨hcs, _⟩ | ⟨a, len, cap, m, n, V0, V1, D0, D1, P0, P1, hcs, _, hl, hmx, hmm, _, hx⟩
  · injection hcs with hcs _
    exact ⟨none, [], 0, hcs, Rd.nil_, by simp, by omega, fun _ => rfl, by simp⟩
  · injection hcs with hcs _
    simp at hmm
    obtain ⟨fs, hfl, hfx⟩ := list_of (m := len) (Q := fun i (f : List UInt8 × Int) => w.cell? (a.add (i * 2)) = some (.string ⟨⟨f.1⟩⟩) ∧ w.cell? (a.add (i * 2 + 1)) = some (.int .i64 f.2) ∧ Ce.I64 f.2) fun i hi' => by
      obtain ⟨k0, k1, t0, t1⟩ := hx i (by omega)
      rw [h0] at t0
      rw [h1] at t1
      obtain ⟨s, e0, _, _⟩ := DataW.trod_string hs t0
      obtain ⟨b, e1, _, wb⟩ := DataW.trod_int hi t1
      injection e0 with e0 _
      injection e1 with e1 _
      exact ⟨(s.data.toList, b), by rw [k0, e0], by rw [k1, e1], bounds_i64 wb⟩
    refine ⟨some a, fs, cap, by rw [hfl, hcs], rd_of_cells fun q v hq => ?_, by omega, by unfold maxLen at hmx; omega, fun hh => (by cases hh), fun f hf => ?_⟩
    · have hql : q < fs.length * 2 := by
        rcases Nat.lt_or_ge q (fs.length * 2) with hlt | hge
        · exact hlt
        · rw [List.getElem?_eq_none (by rw [Ce.fv_length]; exact hge)] at hq; cases hq
      obtain ⟨i, j, hj, rfl⟩ : ∃ i j, j < 2 ∧ q = i * 2 + j := ⟨q / 2, q % 2, by omega, by omega⟩
      have hil : i < fs.length := by omega
      obtain ⟨k0, k1, _⟩ := hfx i hil
      unfold Ce.fv at hq
      rw [Ce.rows_get Ce.fcell Ce.fcell_length hil hj] at hq
      match j, hj with
      | 0, _ =>
        injection hq with hq
        rw [← hq]
        exact k0
      | 1, _ =>
        injection hq with hq
        rw [← hq]
        exact k1
    · obtain ⟨i, hi', rfl⟩ := List.getElem_of_mem hf
      exact (hfx i hi').2.2
def TpW (w : World) (t : Ce.Tp) : Prop := Rd w w.heap.size t.A (Ce.fv t.fs) ∧ t.fs.length ≤ t.c ∧ t.c ≤ 9223372036854775807 ∧ (t.A = none → t.c = 0) ∧ Ce.TpOk t
theorem open_types {r : Reach} {b0 : Nat} {t e tk ti tf ef ts : TypeId} {g0 g1 g2 g3 f0 f1 : Field} {v : Value} {d : DataW H} {p : List MemPlace} (ht : P.underlying t = some (.slice e)) (he : P.underlying e = some (.struct #[g0, g1, g2, g3]))
    (ce : P.cellsOf e = 4) (o0 : g0.offset = 0) (o1 : g1.offset = 1) (o2 : g2.offset = 2) (o3 : g3.offset = 3) (c0 : P.cellsOf g0.type = 1) (c1 : P.cellsOf g1.type = 1) (c2 : P.cellsOf g2.type = 1) (c3 : P.cellsOf g3.type = 1)
    (h0 : g0.type = tk) (h1 : g1.type = ti) (h2 : g2.type = ti) (h3 : g3.type = tf) (hk : P.underlying tk = some (.int .u8)) (hi : P.underlying ti = some (.int .i64))
    (hf : P.underlying tf = some (.slice ef)) (hef : P.underlying ef = some (.struct #[f0, f1])) (cef : P.cellsOf ef = 2) (of0 : f0.offset = 0) (of1 : f1.offset = 1) (cf0 : P.cellsOf f0.type = 1) (cf1 : P.cellsOf f1.type = 1) (hf0 : f0.type = ts) (hf1 : f1.type = ti) (hs : P.underlying ts = some .string)
    (hv : Value.okWide P w r b0 t v) (h : DataW.Trod enc P w base (fun _ => true) true t v d p) :
    ∃ (A : Option Addr) (T : List Ce.Tp) (c : Nat), v = .slice A T.length c ∧ Rd w w.heap.size A (Ce.tv T) ∧ T.length ≤ c ∧ c ≤ 9223372036854775807 ∧ (A = none → c = 0) ∧ ∀ x ∈ T, TpW w x := by
  obtain ⟨a, len, cap, rfl⟩ := okWide_slice ht hv
  obtain ⟨fuel, hm⟩ := h
  rcases open_slice ht hm with ⟨hcs, _⟩ | ⟨a, len, cap, m, n, D, Pl, hcs, hb, hl, hmx, hmm, _, hx⟩
  · injection hcs with hcs _
    exact ⟨none, [], 0, hcs, Rd.nil_, by simp, by omega, fun _ => rfl, by simp⟩
  · injection hcs with hcs _
    simp at hmm
    obtain ⟨T, hTl, hTx⟩ := list_of (m := len) (Q := fun i (x : Ce.Tp) => (∀ j v, x.v[j]? = some v → w.cell? (a.add (i * 4 + j)) = some v) ∧ TpW w x) fun i hi' => by
      obtain ⟨cs', e1, e2⟩ := hx i (by omega)
      rw [ce] at e1
      obtain ⟨_, hlen, hcell⟩ := World.cells?_some e1
      obtain ⟨xs, k, hk', hxy, _, hxl, hg⟩ := DataW.trod_struct he e2
      match xs, hxl, cs', hlen with
      | [y0, y1, y2, y3], _, [v0, v1, v2, v3], _ =>
        have q0 := hg 0 g0 rfl
        have q1 := hg 1 g1 rfl
        have q2 := hg 2 g2 rfl
        have q3 := hg 3 g3 rfl
        simp [o0, c0] at q0
        simp [o1, c1] at q1
        simp [o2, c2] at q2
        simp [o3, c3] at q3
        rw [h0] at q0
        rw [h1] at q1
        rw [h2] at q2
        rw [h3] at q3
        obtain ⟨kd, z0, _, w0⟩ := DataW.trod_int hk q0
        obtain ⟨el, z1, _, w1⟩ := DataW.trod_int hi q1
        obtain ⟨ln, z2, _, w2⟩ := DataW.trod_int hi q2
        obtain ⟨A, fs, c, z3, r1, r2, r3, r4, r5⟩ := open_fields_cell hf hef cef of0 of1 cf0 cf1 hf0 hf1 hs hi q3
        injection z0 with z0 _
        injection z1 with z1 _
        injection z2 with z2 _
        have b0 := bounds_u8 w0
        refine ⟨⟨kd, el, ln, fs, A, c⟩, fun j v hj => ?_, r1, r2, r3, r4, ⟨by show 0 ≤ kd ∧ kd < 256; omega, bounds_i64 w1, bounds_i64 w2, r5⟩⟩
        have hj4 : j < 4 := (List.getElem?_eq_some_iff.1 hj).1
        have e := hcell j hj4
        rw [add_add] at e
        rw [e, ← hj, z0, z1, z2, z3]
        rfl
    refine ⟨some a, T, cap, by rw [hTl, hcs], rd_of_cells fun q v hq => ?_, by omega, by unfold maxLen at hmx; omega, fun hh => (by cases hh), fun x hx' => ?_⟩
    · have hql : q < T.length * 4 := by
        rcases Nat.lt_or_ge q (T.length * 4) with hlt | hge
        · exact hlt
        · rw [List.getElem?_eq_none (by rw [Ce.tv_length]; exact hge)] at hq; cases hq
      obtain ⟨i, j, hj, rfl⟩ : ∃ i j, j < 4 ∧ q = i * 4 + j := ⟨q / 4, q % 4, by omega, by omega⟩
      have hil : i < T.length := by omega
      unfold Ce.tv at hq
      rw [Ce.rows_get Ce.Tp.v Ce.Tp.v_length hil hj] at hq
      exact (hTx i hil).1 j v hq
    · obtain ⟨i, hi', rfl⟩ := List.getElem_of_mem hx'
      exact (hTx i hi').2
end
namespace Ce
theorem fv_vis (B : Nat) (fs : List (List UInt8 × Int)) : (fv fs).map (vis B) = fv fs := by
  unfold fv
  rw [List.map_flatMap]
  congr 1
theorem fields_here {w : World} {A : Option Addr} {c : Nat} {fs : List (List UInt8 × Int)} (h : Rd w w.heap.size A (fv fs)) (hc : fs.length ≤ c) (hm : c ≤ 9223372036854775807) (h0 : A = none → c = 0) :
    ∃ A' c', vis w.heap.size (.slice A fs.length c) = .slice A' fs.length c' ∧ RdH (absW w) w.heap.size A' (fv fs) ∧ (A' = none → c' = 0) := by
  obtain ⟨A', c', h1, h2, _, h3, _⟩ := rd_here h (fun hh => by have := fv_length fs; rw [hh] at this; simp at this; omega) hc hm h0
  rw [fv_vis] at h2
  exact ⟨A', c', h1, h2, h3⟩
theorem types_vis {w : World} : ∀ T : List Tp, (∀ t ∈ T, TpW w t) → ∃ T' : List Tp, T'.length = T.length ∧ (tv T).map (vis w.heap.size) = tv T' ∧ ∀ t ∈ T', RdH (absW w) w.heap.size t.A (fv t.fs) ∧ (t.A = none → t.c = 0) ∧ TpOk t ∧ t.fs.length ≤ 9223372036854775807
  | [], _ => ⟨[], rfl, rfl, by simp⟩
  | t :: T, h => by
    obtain ⟨T', i1, i2, i3⟩ := types_vis T fun x hx => h x (List.mem_cons_of_mem _ hx)
    obtain ⟨t1, t2, t3, t4, t5⟩ := h t List.mem_cons_self
    obtain ⟨A', c', e1, e2, e3⟩ := fields_here t1 t2 t3 t4
    refine ⟨⟨t.kd, t.el, t.ln, t.fs, A', c'⟩ :: T', by simp [i1], ?_, fun x hx => ?_⟩
    · unfold tv at i2 ⊢
      rw [List.flatMap_cons, List.flatMap_cons, List.map_append, i2]
      congr 1
      unfold Tp.v
      simp only [List.map_cons, List.map_nil, e1]
      rfl
    · rcases List.mem_cons.1 hx with rfl | hx
      · exact ⟨e2, e3, t5, by show t.fs.length ≤ _; omega⟩
      · exact i3 x hx
theorem types_here {w : World} {A : Option Addr} {c : Nat} {T : List Tp} (h : Rd w w.heap.size A (tv T)) (hc : T.length ≤ c) (hm : c ≤ 9223372036854775807) (h0 : A = none → c = 0) (ht : ∀ t ∈ T, TpW w t) :
    ∃ A' c' T', vis w.heap.size (.slice A T.length c) = .slice A' (List.length T') c' ∧ TabH (absW w) w.heap.size A' T' ∧ (A' = none → c' = 0) ∧ T'.length ≤ 9223372036854775807 ∧ ∀ t ∈ T', t.fs.length ≤ 9223372036854775807 := by
  obtain ⟨A', c', h1, h2, _, h3, _⟩ := rd_here h (fun hh => by have := tv_length T; rw [hh] at this; simp at this; omega) hc hm h0
  obtain ⟨T', i1, i2, i3⟩ := types_vis T ht
  rw [i2] at h2
  exact ⟨A', c', T', by rw [i1]; exact h1, ⟨h2, fun t ht => (i3 t ht).1, fun t ht => (i3 t ht).2.1, fun t ht => (i3 t ht).2.2.1⟩, h3, by omega, fun t ht => (i3 t ht).2.2.2⟩
end Ce
end Go.Proofs.Ytcpkdjikembpnaa
