/- Parts of the proof of TopCode: Zi, Zj. No condition of its own. -/
import Derived.Test.YtkngdfbibffdcaaTal
import Derived.Test.YtkngdfbibffdcaaTan
set_option linter.unusedVariables false
set_option linter.unusedSimpArgs false
set_option maxRecDepth 100000
set_option maxHeartbeats 4000000
namespace Go.Proofs.Ytkngdfbibffdcaa.Ce
open Go.RowKit
def xv (l : List (List UInt8)) : List Value := l.map fun s => .string ⟨⟨s⟩⟩
theorem xv_length (l : List (List UInt8)) : (xv l).length = l.length := List.length_map _
theorem xv_get {l : List (List UInt8)} {i : Nat} (hi : i < l.length) : (xv l)[i]? = some (.string ⟨⟨l[i]⟩⟩) := by
  unfold xv
  rw [List.getElem?_map, List.getElem?_eq_getElem hi]
  rfl
variable (k d cl : Nat) (h : Hp) (n : Nat)
theorem many_ev (hk : 30000 ≤ k) (A : Option Addr) (l : List (List UInt8)) (c : Nat) (hr : RdH h n A (xv l)) (hl : l.length ≤ 64) (hs : ∀ s ∈ l, s.length ≤ 400) : SQ k (d + 1) cl 37 [.slice A l.length c] h n fun v h' n' => v = .bool false ∧ h' = h ∧ n' = n := by
  obtain ⟨ll, hll⟩ : ∃ ll, l.length = ll := ⟨_, rfl⟩
  rw [hll] at hl ⊢
  refine enter Try.func37 (by kernel_rfl) rfl (by kernel_rfl) rfl rfl rfl ?_
  (repeat' first | refine zcd ?_ | intro K' hK | (with_reducible refine zn hK ?_; clear hK) | fail | ((with_reducible first | apply zo1 | apply zo2 | apply o_guard rfl | apply x_cond | apply k_e1 rfl | apply k_e2 rfl | apply k_e0 rfl | apply k_e3 rfl | apply k_e4 rfl); (case he => exact ez0); (try case hok => exact ezO); all_goals try (intro hb; (try simp only [hbs, reduceCtorEq] at hb); try exact ezX)) | ((with_reducible apply o_undef rfl); (case hb => exact ez0)))
  refine x_loopF [2, 4, 7, 8, 9, 10, 11, 12, 13, 14] [7] (fun m vs => m ≤ ll ∧ vs = [.int .i64 ((ll - m : Nat) : Int)]) ll rfl (by omega) ⟨Nat.le_refl _, by simp (disch := first | assumption | omega | rfl | decide) only [go_sem, seval, tys]; rw [Nat.sub_self]; rfl⟩ ?_
  rintro m g _ ⟨hm, rfl⟩
  rcases m with _ | m
  · rw [Nat.sub_zero]
    (repeat' first | refine zcd ?_ | intro K' hK | (with_reducible refine zn hK ?_; clear hK) | fail | ((with_reducible first | apply zo1 | apply zo2 | apply o_guard rfl | apply x_cond | apply k_e1 rfl | apply k_e2 rfl | apply k_e0 rfl | apply k_e3 rfl | apply k_e4 rfl); (case he => exact ez0); (try case hok => exact ezO); all_goals try (intro hb; (try simp only [hbs, reduceCtorEq] at hb); try exact ezX)) | ((with_reducible apply o_undef rfl); (case hb => exact ez0)))
    all_goals exact sw_flat rfl rfl ⟨by first | rfl | (congr 1; simp; omega), rfl, rfl⟩
  · obtain ⟨i, hi⟩ : ∃ i, ll - (m + 1) = i := ⟨_, rfl⟩
    rw [hi]
    have hib : i < l.length := by omega
    obtain ⟨id, off, rfl, hid, hce⟩ := hr.at_ (by rw [xv_length]; omega)
    have hs := hs _ (List.getElem_mem hib)
    have hce := hce _ _ (xv_get hib)
    obtain ⟨s, hse⟩ : ∃ s, l[i] = s := ⟨_, rfl⟩
    rw [hse] at hs hce
    have hsl := tx_len s
    have hnx : (i : Int) + 1 = ((ll - m : Nat) : Int) := by omega
    (repeat' first | refine zcd ?_ | intro K' hK | (with_reducible refine zn hK ?_; clear hK) | fail | ((with_reducible first | apply zo1 | apply zo2 | apply o_guard rfl | apply x_cond | apply k_e1 rfl | apply k_e2 rfl | apply k_e0 rfl | apply k_e3 rfl | apply k_e4 rfl); (case he => exact ez2 hce hsl); (try case hok => exact ezO); all_goals try (intro hb; (try simp only [hbs, reduceCtorEq] at hb); try exact ezX)) | ((with_reducible apply o_undef rfl); (case hb => exact ez0)))
    all_goals exact k_round m (by omega) ⟨⟨rfl, rfl⟩, by omega, by simp (disch := first | assumption | omega | rfl | decide) only [go_sem, seval, tys]; rw [hnx]⟩
theorem list_ev (hk : 30000 ≤ k) (A : Option Addr) (l : List (List UInt8)) (c : Nat) (hr : RdH h n A (xv l)) (hl : l.length ≤ 20) (hs : ∀ s ∈ l, s.length ≤ 100) : SQ k (d + 2) cl 15 [.slice A l.length c] h n fun v h' n' => v = .tuple ⟨[.string ⟨⟨listB l⟩⟩, .int .i64 0]⟩ ∧ h' = h ∧ n' = n := by
  have q1 := fun (h6 : Hp) (n6 : Nat) (hr6 : RdH h6 n6 A (xv l)) => (many_ev k d n h6 n6 hk A l c hr6 (by omega) (fun s hm => by have := hs s hm; omega)).mono (Φ' := fun v h' n' => v = .bool false ∧ h6 = h' ∧ n6 = n') fun _ _ _ hp => ⟨hp.1, hp.2.1.symm, hp.2.2.symm⟩
  obtain ⟨ll, hll⟩ : ∃ ll, l.length = ll := ⟨_, rfl⟩
  rw [hll] at hl ⊢
  simp only [hll] at q1
  have hself : ∀ (h : Hp) (n id len : Nat), mConvert Try.prog 39 39 (.slice (some ⟨id, 0, none⟩) (len + 1) 0) h n = (rwOf h id).bind fun r => some ⟨.slice (some ⟨n, 0, none⟩) (len + 1) 0, (h.set id none).set n (.row r.1 true r.2), n + 1, [id], [id]⟩ := fun _ _ _ _ => m_self apS.1.2.1 apS.2 (by kernel_rfl)
  have hself1 : ∀ (h : Hp) (n id : Nat), mConvert Try.prog 39 39 (.slice (some ⟨id, 0, none⟩) 1 0) h n = (rwOf h id).bind fun r => some ⟨.slice (some ⟨n, 0, none⟩) 1 0, (h.set id none).set n (.row r.1 true r.2), n + 1, [id], [id]⟩ := fun h n id => hself h n id 0
  have hjl := joinB_len (l := l) hs
  refine enter Try.func15 (by kernel_rfl) rfl (by kernel_rfl) rfl rfl rfl ?_
  (repeat' first | refine zcd ?_ | intro K' hK | (with_reducible refine zn hK ?_; clear hK) | ((with_reducible apply o_callF (g := 37) w_none); (case ha => exact ez0); (case hs => ((with_reducible apply q1); exact hr)); (case' hk => rintro _ h' n' ⟨rfl, rfl, rfl⟩)) | ((with_reducible first | apply zo1 | apply zo2 | apply o_guard rfl | apply x_cond | apply k_e1 rfl | apply k_e2 rfl | apply k_e0 rfl | apply k_e3 rfl | apply k_e4 rfl); (case he => exact ez1 hself1); (try case hok => exact ezO); all_goals try (intro hb; (try simp only [hbs, reduceCtorEq] at hb); try exact ezX)) | ((with_reducible apply o_undef rfl); (case hb => exact ez0)))
  refine x_loopV [4, 5, 6, 13, 14, 15, 16, 17, 18, 19, 20, 21, 22, 23, 24, 25] [4, 13] (fun m vs h' n' => m ≤ ll ∧ ∃ B id cap ro, B = 91 :: joinB (l.take (ll - m)) ∧ vs = [.slice (some ⟨id, 0, none⟩) B.length cap, .int .i64 ((ll - m : Nat) : Int)] ∧ rowOf h' id = some (5, ro, bv B) ∧ n ≤ id ∧ id < n' ∧ n ≤ n' ∧ ((ll - m = 0 ∧ ro = true ∧ cap = 0) ∨ (0 < ll - m ∧ ro = false ∧ cap = B.length)) ∧ ∀ b, b < n → h'.get b = h.get b) ll rfl (by omega) ⟨Nat.le_refl _, [91], n + 1, 0, true, by rw [Nat.sub_self]; rfl, by simp (disch := first | assumption | omega | rfl | decide) only [go_sem, seval, tys]; rw [Nat.sub_self]; rfl, ez0, by omega, by omega, by omega, .inl ⟨Nat.sub_self _, rfl, rfl⟩, fun b hb => by repeat rw [Hp.get_ne _ _ (by omega)]⟩ ?_
  rintro m g _ h1 n1 ⟨hm, B, id, cap, ro, hB, rfl, hrB, hi1, hi2, hi3, hcase, hkB⟩
  have hBl := bv_length B
  have hBb : B.length ≤ 8100 := by
    have := joinB_len (l := l.take (ll - m)) fun s hs2 => hs s (List.mem_of_mem_take hs2)
    rw [List.length_take] at this
    rw [hB, List.length_cons]
    omega
  rcases m with _ | m
  · rw [Nat.sub_zero, List.take_of_length_le (by omega)] at hB
    have hfin : B ++ [93] = listB l := by rw [hB]; rfl
    rw [← hfin]
    rw [Nat.sub_zero]
    have hB1 : (B ++ [93]).length = B.length + 1 := by rw [List.length_append]; rfl
    have hrd : ∀ (h6 : Hp) (x : List Value), x = bv B ++ [.int .u8 93] → RdH (h6.set (n1 + 1) (.row 5 false x)) (n1 + 2) (some ⟨n1 + 1, 0, none⟩) (bv (B ++ [93])) := fun h6 x hx => by
      rw [bv_ap2, hx]
      exact RdH.ofRow (rowOf_same _ _ _ _ _) (by omega)
    rcases hcase with ⟨h0, rfl, rfl⟩ | ⟨h0, rfl, rfl⟩
    · have hB0 : 0 < B.length := by rw [hB]; simp
      (repeat' first | refine zcd ?_ | intro K' hK | (with_reducible refine zn hK ?_; clear hK) | ((with_reducible apply o_apX (t := 39) apS w_none); (case hs => exact ez0); (case hy => exact ez0); (case hsrc => exact src_row ez0 rfl); (case hr => exact ez1 hrB); (case hc => rfl); (case h0 => omega); (case hln => omega); (case hm0 => omega); (case hm => omega); (case hcs => rw [hBl]; omega)) | ((with_reducible apply o_b2s (xs := B ++ [93]) b2T39_9 w_none); (case hy => exact ez1 hB1); (case hr => exact hrd _ _ (by rw [List.take_of_length_le (by rw [hBl]; omega)])); (case h0 => intro hh; cases hh)) | ((with_reducible first | apply zo1 | apply zo2 | apply o_guard rfl | apply x_cond | apply k_e1 rfl | apply k_e2 rfl | apply k_e0 rfl | apply k_e3 rfl | apply k_e4 rfl); (case he => exact ez1 hrB); (try case hok => exact ezO); all_goals try (intro hb; (try simp only [hbs, reduceCtorEq] at hb); try exact ezX)) | ((with_reducible apply o_undef rfl); (case hb => exact ez0)))
      all_goals exact sw_flat rfl rfl ⟨rfl, rfl, rfl⟩
    · have hrw := rwOf_row hrB
      (repeat' first | refine zcd ?_ | intro K' hK | (with_reducible refine zn hK ?_; clear hK) | ((with_reducible apply o_apR (t := 39) apT39 w_none); (case hs => exact ez0); (case hy => exact ez0); (case hsrc => exact src_row ez0 rfl); (case hr => exact ez1 hrw); (case hc => rfl); (case hm => omega); (case hli => omega); (case hln => omega); (case hcs => rw [hBl]; omega)) | ((with_reducible apply o_b2s (xs := B ++ [93]) b2T39_9 w_none); (case hy => exact ez1 hB1); (case hr => exact hrd _ _ (by rw [bv_take])); (case h0 => intro hh; cases hh)) | ((with_reducible first | apply zo1 | apply zo2 | apply o_guard rfl | apply x_cond | apply k_e1 rfl | apply k_e2 rfl | apply k_e0 rfl | apply k_e3 rfl | apply k_e4 rfl); (case he => exact ez1 hrw); (try case hok => exact ezO); all_goals try (intro hb; (try simp only [hbs, reduceCtorEq] at hb); try exact ezX)) | ((with_reducible apply o_undef rfl); (case hb => exact ez0)))
      all_goals exact sw_flat rfl rfl ⟨rfl, rfl, rfl⟩
  · obtain ⟨i, hi⟩ : ∃ i, ll - (m + 1) = i := ⟨_, rfl⟩
    rw [hi] at hB hcase ⊢
    have hib : i < l.length := by omega
    have hr1 : RdH h1 n A (xv l) := hr.keep (Nat.le_refl _) hkB
    obtain ⟨tid, off, rfl, htid, hce⟩ := hr1.at_ (by rw [xv_length]; omega)
    have hs100 := hs _ (List.getElem_mem hib)
    have hce := hce _ _ (xv_get hib)
    obtain ⟨s, hse⟩ : ∃ s, l[i] = s := ⟨_, rfl⟩
    rw [hse] at hs100 hce
    have hnx : (i : Int) + 1 = ((ll - m : Nat) : Int) := by omega
    have hBn : 91 :: joinB (l.take (ll - m)) = B ++ (if l.take i = [] then quoB s else 44 :: 32 :: quoB s) := by
      rw [show ll - m = i + 1 from by omega, List.take_succ_eq_append_getElem hib, hse, joinB_snoc, hB]
      rfl
    rcases hcase with ⟨h0, rfl, rfl⟩ | ⟨h0, rfl, rfl⟩
    · rw [if_pos (by rw [h0, List.take_zero])] at hBn
      have hB0 : 0 < B.length := by rw [hB]; simp
      have q2 : SQ k (d + 1) n 38 [.slice (some ⟨id, 0, none⟩) B.length 0, .string ⟨⟨s⟩⟩] h1 n1 (OwnB (B ++ quoB s) (fun b => b < n) h1 n1) := quoted_ev k d n h1 n1 hk _ id B s (by omega) (by omega) hi2 (by omega) _ (fun b hb => by omega) (.inr ⟨rfl, hrB, hB0⟩)
      (repeat' first | refine zcd ?_ | intro K' hK | (with_reducible refine zn hK ?_; clear hK) | ((with_reducible apply o_callF (g := 38) w_none); (case ha => exact ez0); (case hs => (exact q2)); (case' hk => rintro _ h' n' ⟨id2, rfl, hj1, hj2, hj3, hrB2, hkB2⟩)) | ((with_reducible first | apply zo1 | apply zo2 | apply o_guard rfl | apply x_cond | apply k_e1 rfl | apply k_e2 rfl | apply k_e0 rfl | apply k_e3 rfl | apply k_e4 rfl); (case he => exact ez1 hce); (try case hok => exact ezO); all_goals try (intro hb; (try simp only [hbs, reduceCtorEq] at hb); try exact ezX)) | ((with_reducible apply o_undef rfl); (case hb => exact ez0)))
      all_goals exact k_round m (by omega) ⟨by omega, B ++ quoB s, id2, (B ++ quoB s).length, false, hBn.symm, by simp (disch := first | assumption | omega | rfl | decide) only [go_sem, seval, tys]; rw [hnx], hrB2, by omega, by omega, by omega, .inr ⟨by omega, rfl, rfl⟩, fun b hb => (hkB2 b hb).trans (hkB b hb)⟩
    · have hrw := rwOf_row hrB
      have hne : l.take i ≠ [] := by
        intro hh
        have := congrArg List.length hh
        rw [List.length_take, List.length_nil] at this
        omega
      rw [if_neg hne] at hBn
      have hBn2 : 91 :: joinB (l.take (ll - m)) = B ++ [44, 32] ++ quoB s := by rw [hBn, List.append_assoc]; rfl
      have hB2 : (B ++ [44, 32]).length = B.length + 2 := by rw [List.length_append]; rfl
      have q2 : ∀ (h6 : Hp) (x : List Value), x = bv B ++ bv [44, 32] → SQ k (d + 1) n 38 [.slice (some ⟨n1, 0, none⟩) (B.length + 2) (B.length + 2), .string ⟨⟨s⟩⟩] (h6.set n1 (.row 5 false x)) (n1 + 1) (OwnB (B ++ [44, 32] ++ quoB s) (fun b => b < n) (h6.set n1 (.row 5 false x)) (n1 + 1)) := fun h6 x hx => by
        have := quoted_ev k d n (h6.set n1 (.row 5 false x)) (n1 + 1) hk (.slice (some ⟨n1, 0, none⟩) (B ++ [44, 32]).length (B ++ [44, 32]).length) n1 (B ++ [44, 32]) s (by omega) (by omega) (by omega) (by omega) (fun b => b < n) (fun b hb => by omega) (.inl ⟨rfl, by rw [rowOf_same, bv_ap2, hx], by omega, fun b hb => by omega⟩)
        rwa [hB2] at this
      (repeat' first | refine zcd ?_ | intro K' hK | (with_reducible refine zn hK ?_; clear hK) | ((with_reducible apply o_apSR (t := 39) apS.1 w_none); (case hs => exact ez0); (case hy => exact ez0); (case hr => exact ez1 hrw); (case hm => decide); (case hli => omega); (case hln => omega); (case hcs => rw [hBl]; omega)) | ((with_reducible apply o_callF (g := 38) w_none); (case ha => exact ez0); (case hs => (exact q2 _ _ (by rw [List.take_of_length_le (by rw [hBl]; omega)]; rfl))); (case' hk => rintro _ h' n' ⟨id2, rfl, hj1, hj2, hj3, hrB2, hkB2⟩)) | ((with_reducible first | apply zo1 | apply zo2 | apply o_guard rfl | apply x_cond | apply k_e1 rfl | apply k_e2 rfl | apply k_e0 rfl | apply k_e3 rfl | apply k_e4 rfl); (case he => exact ez1 hce); (try case hok => exact ezO); all_goals try (intro hb; (try simp only [hbs, reduceCtorEq] at hb); try exact ezX)) | ((with_reducible apply o_undef rfl); (case hb => exact ez0)))
      all_goals exact k_round m (by omega) ⟨by omega, B ++ [44, 32] ++ quoB s, id2, (B ++ [44, 32] ++ quoB s).length, false, hBn2.symm, by simp (disch := first | assumption | omega | rfl | decide) only [go_sem, seval, tys]; rw [hnx], hrB2, by omega, by omega, by omega, .inr ⟨by omega, rfl, rfl⟩, fun b hb => (hkB2 b hb).trans (by rw [Hp.get_ne _ _ (by omega), Hp.get_ne _ _ (by omega)]; exact hkB b hb)⟩
theorem escape_ev (c : UInt8) (t r : List UInt8) (ht : escB c = 92 :: t) : SQ k (d + 3) cl 59 [.string ⟨⟨t ++ r⟩⟩] h n fun v h' n' => v = .tuple ⟨[.int .u8 c.toNat, .string ⟨⟨r⟩⟩, .bool true]⟩ ∧ h' = h ∧ n' = n := by
  have hc8 := c.toNat_lt
  rcases esc_cases c with ⟨hes, hcc⟩ | ⟨hes, hcc⟩ | ⟨hes, hcc⟩ | ⟨hes, hcc⟩
  · rw [ht] at hes
    injection hes with _ hes
    subst hes
    have e0 : (ByteArray.toList ⟨⟨c :: r⟩⟩ == ByteArray.toList ⟨⟨[]⟩⟩) = false := by rw [tx_eq]; rfl
    have e1 := ix_0 c r
    have e2 : ∀ h n, mSlice Try.prog 9 (.string ⟨⟨c :: r⟩⟩) (some (.int .i64 1)) none h n = some ⟨.string ⟨⟨r⟩⟩, h, n, [], []⟩ := fun h n => ss_L (c :: r) (j := 1) (by simp) h n
    rw [show [c] ++ r = c :: r from rfl]
    refine enter Try.func59 (by kernel_rfl) rfl (by kernel_rfl) rfl rfl rfl ?_
    (repeat' first | refine zcd ?_ | intro K' hK | (with_reducible refine zn hK ?_; clear hK) | (with_reducible refine x_drawn (id := 6) (by kernel_rfl) fun K' hK => ?_) | ((with_reducible first | apply zo1 | apply zo2 | apply o_guard rfl | apply x_cond | apply k_e1 rfl | apply k_e2 rfl | apply k_e0 rfl | apply k_e3 rfl | apply k_e4 rfl); (case he => exact ez4 @b_strEql e0 e1 e2); (try case hok => exact ezO); all_goals try (intro hb; (try simp only [hbs, reduceCtorEq] at hb); try exact ezX)) | ((with_reducible apply o_undef rfl); (case hb => exact ez0)))
    all_goals exact sw_flat rfl rfl ⟨rfl, rfl, rfl⟩
  · rw [ht] at hes
    injection hes with _ hes
    subst hes
    have e0 : (ByteArray.toList ⟨⟨110 :: r⟩⟩ == ByteArray.toList ⟨⟨[]⟩⟩) = false := by rw [tx_eq]; rfl
    have e1 := ix_0 110 r
    have e1 : ∀ h n, mIndex Try.prog 9 (.string ⟨⟨110 :: r⟩⟩) (.int .i64 0) h n = some ⟨.int .u8 110, h, n, [], []⟩ := e1
    have e2 : ∀ h n, mSlice Try.prog 9 (.string ⟨⟨110 :: r⟩⟩) (some (.int .i64 1)) none h n = some ⟨.string ⟨⟨r⟩⟩, h, n, [], []⟩ := fun h n => ss_L (110 :: r) (j := 1) (by simp) h n
    rw [show [110] ++ r = 110 :: r from rfl, hcc]
    refine enter Try.func59 (by kernel_rfl) rfl (by kernel_rfl) rfl rfl rfl ?_
    (repeat' first | refine zcd ?_ | intro K' hK | (with_reducible refine zn hK ?_; clear hK) | (with_reducible refine x_drawn (id := 8) (by kernel_rfl) fun K' hK => ?_) | ((with_reducible first | apply zo1 | apply zo2 | apply o_guard rfl | apply x_cond | apply k_e1 rfl | apply k_e2 rfl | apply k_e0 rfl | apply k_e3 rfl | apply k_e4 rfl); (case he => exact ez4 @b_strEql e0 e1 e2); (try case hok => exact ezO); all_goals try (intro hb; (try simp only [hbs, reduceCtorEq] at hb); try exact ezX)) | ((with_reducible apply o_undef rfl); (case hb => exact ez0)))
    all_goals exact sw_flat rfl rfl ⟨rfl, rfl, rfl⟩
  · rw [ht] at hes
    injection hes with _ hes
    subst hes
    obtain ⟨a, ha⟩ : ∃ a, c.toNat / 16 = a := ⟨_, rfl⟩
    obtain ⟨b, hb⟩ : ∃ b, c.toNat % 16 = b := ⟨_, rfl⟩
    rw [ha, hb]
    have e0 : (ByteArray.toList ⟨⟨120 :: dig a :: dig b :: r⟩⟩ == ByteArray.toList ⟨⟨[]⟩⟩) = false := by rw [tx_eq]; rfl
    have e1 : ∀ h n, mIndex Try.prog 9 (.string ⟨⟨120 :: dig a :: dig b :: r⟩⟩) (.int .i64 0) h n = some ⟨.int .u8 120, h, n, [], []⟩ := ix_0 120 (dig a :: dig b :: r)
    have e2 := ix_1 120 (dig a) (dig b :: r)
    have e3 := ix_2 120 (dig a) (dig b) r
    have e4 : ∀ h n, mSlice Try.prog 9 (.string ⟨⟨120 :: dig a :: dig b :: r⟩⟩) (some (.int .i64 3)) none h n = some ⟨.string ⟨⟨r⟩⟩, h, n, [], []⟩ := fun h n => ss_L (120 :: dig a :: dig b :: r) (j := 3) (by simp) h n
    have hl : ByteArray.size ⟨⟨120 :: dig a :: dig b :: r⟩⟩ = r.length + 3 := rfl
    have q := fun (j : Nat) (hj : j < 16) (h6 : Hp) (n6 : Nat) => (ib_ev k d n h6 n6 digC (dig j)).mono (Φ' := fun v h' n' => v = .int .i64 (j : Int) ∧ h' = h6 ∧ n' = n6) fun _ _ _ hp => ⟨by rw [hp.1, dig_ix hj], hp.2⟩
    have q : ∀ (j : Nat) (hj : j < 16) (h6 : Hp) (n6 : Nat), SQ k (d + 2) n 60 [.string ⟨⟨[48, 49, 50, 51, 52, 53, 54, 55, 56, 57, 97, 98, 99, 100, 101, 102]⟩⟩, .int .u8 (dig j).toNat] h6 n6 fun v h' n' => v = .int .i64 (j : Int) ∧ h' = h6 ∧ n' = n6 := q
    have hsum : 16 * (a : Int) + (b : Int) = ((c.toNat : Nat) : Int) := by omega
    have hw := wrap_u8n hc8
    rw [show [120, dig a, dig b] ++ r = 120 :: dig a :: dig b :: r from rfl]
    obtain ⟨cn, hcn⟩ : ∃ cn, c.toNat = cn := ⟨_, rfl⟩
    rw [hcn] at hsum hw hcc hc8 ⊢
    have hqa := q a (by omega)
    have hqb := q b (by omega)
    obtain ⟨da, hda⟩ : ∃ da, dig a = da := ⟨_, rfl⟩
    obtain ⟨db, hdb⟩ : ∃ db, dig b = db := ⟨_, rfl⟩
    rw [hda, hdb] at e0 e1 e2 e3 e4 hl ⊢
    simp only [hda] at hqa
    simp only [hdb] at hqb
    have ha16 : a < 16 := by omega
    have hb16 : b < 16 := by omega
    refine enter Try.func59 (by kernel_rfl) rfl (by kernel_rfl) rfl rfl rfl ?_
    (repeat' first | refine zcd ?_ | intro K' hK | (with_reducible refine zn hK ?_; clear hK) | (with_reducible refine x_drawn (id := 12) (by kernel_rfl) fun K' hK => ?_) | (with_reducible refine x_drawn (id := 14) (by kernel_rfl) fun K' hK => ?_) | ((with_reducible apply o_callF (g := 60) w_none); (case ha => exact ez0); (case hs => (first | exact hqa _ _ | exact hqb _ _)); (case' hk => rintro _ h' n' ⟨rfl, rfl, rfl⟩)) | ((with_reducible first | apply zo1 | apply zo2 | apply o_guard rfl | apply x_cond | apply k_e1 rfl | apply k_e2 rfl | apply k_e0 rfl | apply k_e3 rfl | apply k_e4 rfl); (case he => exact ez9 @b_strEql e0 e1 e2 e3 e4 hl hsum hw); (try case hok => exact ezO); all_goals try (intro hb; (try simp only [hbs, reduceCtorEq] at hb); try exact ezX)) | ((with_reducible apply o_undef rfl); (case hb => exact ez0)))
    all_goals exact sw_flat rfl rfl ⟨by first | rfl | (congr 3; simp; omega), rfl, rfl⟩
  · rw [ht] at hes
    injection hes with hes _
    subst hes
    exact absurd rfl hcc.2.2.2
end Go.Proofs.Ytkngdfbibffdcaa.Ce
namespace Go.Proofs.Ytkngdfbibffdcaa.Ce
open Go.RowKit
def OwnZ (B : List UInt8) (h : Hp) (n : Nat) (v : Value) (h' : Hp) (n' : Nat) : Prop :=
  n ≤ n' ∧ (∀ b, b < n → h'.get b = h.get b) ∧ ((B = [] ∧ v = .slice none 0 0) ∨ (0 < B.length ∧ ∃ id, v = .slice (some ⟨id, 0, none⟩) B.length B.length ∧ n ≤ id ∧ id < n' ∧ rowOf h' id = some (5, false, bv B)))
theorem OwnZ.rd {B : List UInt8} {h h' : Hp} {n n' : Nat} {v : Value} (ho : OwnZ B h n v h' n') : ∃ A c, v = .slice A B.length c ∧ RdH h' n' A (bv B) ∧ (A = none → c = 0) := by
  obtain ⟨-, -, ⟨rfl, rfl⟩ | ⟨-, id, rfl, h1, h2, h3⟩⟩ := ho
  · exact ⟨none, 0, rfl, RdH.nil, fun _ => rfl⟩
  · exact ⟨_, _, rfl, RdH.ofRow h3 h2, fun hh => by cases hh⟩
theorem OwnZ.nil {h : Hp} {n : Nat} : OwnZ [] h n (.slice none 0 0) h n := ⟨Nat.le_refl _, fun _ _ => rfl, .inl ⟨rfl, rfl⟩⟩
theorem ownz_new {h h1 : Hp} {n n1 : Nat} (c : UInt8) {x : AObj} (hi3 : n ≤ n1) (hk : ∀ b, b < n → h1.get b = h.get b) : OwnZ [c] h n (.slice (some ⟨n1 + 1, 0, none⟩) 1 1) ((h1.set n1 x).set (n1 + 1) (.row 5 false (bv [c]))) (n1 + 1 + 1) :=
  ⟨by omega, fun b hb => by rw [Hp.get_ne _ _ (by omega), Hp.get_ne _ _ (by omega)]; exact hk b hb, .inr ⟨by simp, n1 + 1, rfl, by omega, by omega, rowOf_same _ _ _ _ _⟩⟩
theorem ownz_app {B : List UInt8} {h h1 : Hp} {n n1 id : Nat} (c : UInt8) {x : AObj} (hi1 : n ≤ id) (hi2 : id < n1) (hi3 : n ≤ n1) (hk : ∀ b, b < n → h1.get b = h.get b) :
    OwnZ (B ++ [c]) h n (.slice (some ⟨n1 + 1, 0, none⟩) (B.length + 1) (B.length + 1)) (((h1.set n1 x).set id none).set (n1 + 1) (.row 5 false ((bv B).take (B.length * 1) ++ bv [c]))) (n1 + 1 + 1) := by
  refine ⟨by omega, fun b hb => ?_, .inr ⟨by rw [List.length_append]; simp, n1 + 1, by rw [List.length_append]; rfl, by omega, by omega, by rw [rowOf_same, bv_take, bv_ap2]⟩⟩
  rw [Hp.get_ne _ _ (by omega), Hp.get_ne _ _ (by omega), Hp.get_ne _ _ (by omega)]
  exact hk b hb
theorem sl_1 (c : UInt8) (r : List UInt8) (h : Hp) (n : Nat) : mSlice Try.prog 9 (.string ⟨⟨c :: r⟩⟩) (some (.int .i64 1)) none h n = some ⟨.string ⟨⟨r⟩⟩, h, n, [], []⟩ := ss_L (c :: r) (j := 1) (by simp) h n
variable (k d cl : Nat) (h : Hp) (n : Nat)
theorem next_ev (hk : 30000 ≤ k) (x r : List UInt8) (hx : x.length ≤ 20000) : SQ k (d + 4) cl 40 [.string ⟨⟨quoB x ++ r⟩⟩] h n fun v h' n' => v = .tuple ⟨[.string ⟨⟨x⟩⟩, .string ⟨⟨r⟩⟩, .bool true]⟩ ∧ h' = h ∧ n' = n := by
  have q1 := fun (h6 : Hp) (n6 : Nat) => (cut_ev k d n h6 n6 [34] (escL x ++ 34 :: r)).mono (Φ' := fun v h' n' => v = .tuple ⟨[.string ⟨⟨escL x ++ 34 :: r⟩⟩, .bool true]⟩ ∧ h6 = h' ∧ n6 = n') fun _ _ _ hp => ⟨hp.1, hp.2.1.symm, hp.2.2.symm⟩
  have hq : quoB x ++ r = [34] ++ (escL x ++ 34 :: r) := by unfold quoB; simp
  rw [hq]
  refine enter Try.func40 (by kernel_rfl) rfl (by kernel_rfl) rfl rfl rfl ?_
  (repeat' first | refine zcd ?_ | intro K' hK | (with_reducible refine zn hK ?_; clear hK) | ((with_reducible apply o_callF (g := 39) w_none); (case ha => exact ez0); (case hs => (exact q1 _ _)); (case' hk => rintro _ h' n' ⟨rfl, rfl, rfl⟩)) | ((with_reducible first | apply zo1 | apply zo2 | apply o_guard rfl | apply x_cond | apply k_e1 rfl | apply k_e2 rfl | apply k_e0 rfl | apply k_e3 rfl | apply k_e4 rfl); (case he => exact ez0); (try case hok => exact ezO); all_goals try (intro hb; (try simp only [hbs, reduceCtorEq] at hb); try exact ezX)) | ((with_reducible apply o_undef rfl); (case hb => exact ez0)))
  refine x_loopV [2, 3, 4, 5, 7, 8, 9, 17, 18, 19, 20, 21, 22, 23, 24, 25, 26, 27, 28, 29, 30, 31, 32, 33, 34, 35, 36, 37, 38, 39, 40, 41, 42, 43, 44, 45, 46, 47, 48, 49, 50] [5, 7] (fun m vs h' n' => m ≤ x.length ∧ ∃ w, vs = [.string ⟨⟨escL (x.drop (x.length - m)) ++ 34 :: r⟩⟩, w] ∧ OwnZ (x.take (x.length - m)) h n w h' n') x.length rfl (by omega) ⟨Nat.le_refl _, _, by simp (disch := first | assumption | omega | rfl | decide) only [go_sem, seval, tys]; rw [Nat.sub_self, List.drop_zero], by rw [Nat.sub_self]; exact OwnZ.nil⟩ ?_
  rintro m g _ h1 n1 ⟨hm, w, rfl, how⟩
  rcases m with _ | m
  · rw [Nat.sub_zero, List.drop_of_length_le (Nat.le_refl _), List.take_of_length_le (Nat.le_refl _)] at *
    obtain ⟨A, c, rfl, hrd, hA0⟩ := how.rd
    have e0 : (ByteArray.toList ⟨⟨34 :: r⟩⟩ == ByteArray.toList ⟨⟨[]⟩⟩) = false := by rw [tx_eq]; rfl
    have e1 : ∀ h n, mIndex Try.prog 9 (.string ⟨⟨34 :: r⟩⟩) (.int .i64 0) h n = some ⟨.int .u8 34, h, n, [], []⟩ := ix_0 34 r
    have e2 := sl_1 34 r
    rw [show escL [] ++ 34 :: r = 34 :: r from rfl]
    (repeat' first | refine zcd ?_ | intro K' hK | (with_reducible refine zn hK ?_; clear hK) | ((with_reducible apply o_b2s (xs := x) b2T39_9 w_none); (case hy => exact ez0); (case hr => exact hrd); (case h0 => exact hA0)) | ((with_reducible first | apply zo1 | apply zo2 | apply o_guard rfl | apply x_cond | apply k_e1 rfl | apply k_e2 rfl | apply k_e0 rfl | apply k_e3 rfl | apply k_e4 rfl); (case he => exact ez4 @b_strNeq e0 e1 e2); (try case hok => exact ezO); all_goals try (intro hb; (try simp only [hbs, reduceCtorEq] at hb); try exact ezX)) | ((with_reducible apply o_undef rfl); (case hb => exact ez0)))
    all_goals exact sw_flat rfl rfl ⟨rfl, rfl, rfl⟩
  · obtain ⟨i, hi⟩ : ∃ i, x.length - (m + 1) = i := ⟨_, rfl⟩
    rw [hi] at how ⊢
    have his : i < x.length := by omega
    obtain ⟨c, hc⟩ : ∃ c, x[i] = c := ⟨_, rfl⟩
    have hdr : x.drop i = c :: x.drop (x.length - m) := by rw [List.drop_eq_getElem_cons his, hc, show x.length - m = i + 1 from by omega]
    have htk : x.take (x.length - m) = x.take i ++ [c] := by rw [show x.length - m = i + 1 from by omega, List.take_succ_eq_append_getElem his, hc]
    obtain ⟨R, hR⟩ : ∃ R, escL (x.drop (x.length - m)) ++ 34 :: r = R := ⟨_, rfl⟩
    have hrest : escL (x.drop i) ++ 34 :: r = escB c ++ R := by
      rw [hdr, ← hR, ← List.append_assoc]
      rfl
    rw [hrest]
    have hc8 := c.toNat_lt
    have hBl : (x.take i).length ≤ 20000 := by rw [List.length_take]; omega
    obtain ⟨B, hB⟩ : ∃ B, x.take i = B := ⟨_, rfl⟩
    rw [hB] at how hBl htk
    have hBv := bv_length B
    by_cases h92 : ∃ t, escB c = 92 :: t
    · obtain ⟨t, ht⟩ := h92
      rw [ht, show (92 :: t) ++ R = 92 :: (t ++ R) from rfl]
      have q2 := fun (h6 : Hp) (n6 : Nat) => (escape_ev k d n h6 n6 c t R ht).mono (Φ' := fun v h' n' => v = .tuple ⟨[.int .u8 c.toNat, .string ⟨⟨R⟩⟩, .bool true]⟩ ∧ h6 = h' ∧ n6 = n') fun _ _ _ hp => ⟨hp.1, hp.2.1.symm, hp.2.2.symm⟩
      have e0 : (ByteArray.toList ⟨⟨92 :: (t ++ R)⟩⟩ == ByteArray.toList ⟨⟨[]⟩⟩) = false := by rw [tx_eq]; rfl
      have e1 : ∀ h n, mIndex Try.prog 9 (.string ⟨⟨92 :: (t ++ R)⟩⟩) (.int .i64 0) h n = some ⟨.int .u8 92, h, n, [], []⟩ := ix_0 92 (t ++ R)
      have e2 := sl_1 92 (t ++ R)
      obtain ⟨U, hU⟩ : ∃ U, t ++ R = U := ⟨_, rfl⟩
      rw [hU] at e0 e1 e2 ⊢
      simp only [hU] at q2
      obtain ⟨hn1, hkB, ⟨rfl, rfl⟩ | ⟨hB0, id, rfl, hi1, hi2, hrB⟩⟩ := how
      · (repeat' first | refine zcd ?_ | intro K' hK | (with_reducible refine zn hK ?_; clear hK) | ((with_reducible apply o_callF (g := 59) w_none); (case ha => exact ez0); (case hs => (exact q2 _ _)); (case' hk => rintro _ h' n' ⟨rfl, rfl, rfl⟩)) | ((with_reducible apply o_ap0 (t := 39) apT39 w_none); (case hs => exact ez0); (case hy => exact ez0); (case hsrc => exact src_row ez0 rfl); (case hc => rfl); (case hm => omega); (case h0 => omega)) | ((with_reducible first | apply zo1 | apply zo2 | apply o_guard rfl | apply x_cond | apply k_e1 rfl | apply k_e2 rfl | apply k_e0 rfl | apply k_e3 rfl | apply k_e4 rfl); (case he => exact ez4 @b_strNeq e0 e1 e2); (try case hok => exact ezO); all_goals try (intro hb; (try simp only [hbs, reduceCtorEq] at hb); try exact ezX)) | ((with_reducible apply o_undef rfl); (case hb => exact ez0)))
        all_goals exact k_round m (by omega) ⟨by omega, .slice (some ⟨n1 + 1, 0, none⟩) 1 1, by simp (disch := first | assumption | omega | rfl | decide) only [go_sem, seval, tys]; rw [hR], by rw [htk]; exact ownz_new c hn1 hkB⟩
      · have hrw := rwOf_row hrB
        (repeat' first | refine zcd ?_ | intro K' hK | (with_reducible refine zn hK ?_; clear hK) | ((with_reducible apply o_callF (g := 59) w_none); (case ha => exact ez0); (case hs => (exact q2 _ _)); (case' hk => rintro _ h' n' ⟨rfl, rfl, rfl⟩)) | ((with_reducible apply o_apR (t := 39) apT39 w_none); (case hs => exact ez0); (case hy => exact ez0); (case hsrc => exact src_row ez0 rfl); (case hr => exact ez1 hrw); (case hc => rfl); (case hm => omega); (case hli => omega); (case hln => omega); (case hcs => rw [hBv]; omega)) | ((with_reducible first | apply zo1 | apply zo2 | apply o_guard rfl | apply x_cond | apply k_e1 rfl | apply k_e2 rfl | apply k_e0 rfl | apply k_e3 rfl | apply k_e4 rfl); (case he => exact ez5 @b_strNeq e0 e1 e2 hrw); (try case hok => exact ezO); all_goals try (intro hb; (try simp only [hbs, reduceCtorEq] at hb); try exact ezX)) | ((with_reducible apply o_undef rfl); (case hb => exact ez0)))
        all_goals exact k_round m (by omega) ⟨by omega, .slice (some ⟨n1 + 1, 0, none⟩) (B.length + 1) (B.length + 1), by simp (disch := first | assumption | omega | rfl | decide) only [go_sem, seval, tys]; rw [hR], by rw [htk]; exact ownz_app c hi1 hi2 hn1 hkB⟩
    · have hcc : escB c = [c] ∧ 32 ≤ c.toNat ∧ c.toNat ≤ 126 ∧ c.toNat ≠ 34 ∧ c.toNat ≠ 92 := by
        rcases esc_cases c with ⟨hes, -⟩ | ⟨hes, -⟩ | ⟨hes, -⟩ | hes
        · exact absurd ⟨_, hes⟩ h92
        · exact absurd ⟨_, hes⟩ h92
        · exact absurd ⟨_, hes⟩ h92
        · exact hes
      obtain ⟨hes, hcc⟩ := hcc
      rw [hes, show [c] ++ R = c :: R from rfl]
      have e0 : (ByteArray.toList ⟨⟨c :: R⟩⟩ == ByteArray.toList ⟨⟨[]⟩⟩) = false := by rw [tx_eq]; rfl
      have e1 := ix_0 c R
      have e2 := sl_1 c R
      obtain ⟨hn1, hkB, ⟨rfl, rfl⟩ | ⟨hB0, id, rfl, hi1, hi2, hrB⟩⟩ := how
      · (repeat' first | refine zcd ?_ | intro K' hK | (with_reducible refine zn hK ?_; clear hK) | ((with_reducible apply o_ap0 (t := 39) apT39 w_none); (case hs => exact ez0); (case hy => exact ez0); (case hsrc => exact src_row ez0 rfl); (case hc => rfl); (case hm => omega); (case h0 => omega)) | ((with_reducible first | apply zo1 | apply zo2 | apply o_guard rfl | apply x_cond | apply k_e1 rfl | apply k_e2 rfl | apply k_e0 rfl | apply k_e3 rfl | apply k_e4 rfl); (case he => exact ez4 @b_strNeq e0 e1 e2); (try case hok => exact ezO); all_goals try (intro hb; (try simp only [hbs, reduceCtorEq] at hb); try exact ezX)) | ((with_reducible apply o_undef rfl); (case hb => exact ez0)))
        all_goals exact k_round m (by omega) ⟨by omega, .slice (some ⟨n1 + 1, 0, none⟩) 1 1, by simp (disch := first | assumption | omega | rfl | decide) only [go_sem, seval, tys]; rw [hR], by rw [htk]; exact ownz_new c hn1 hkB⟩
      · have hrw := rwOf_row hrB
        (repeat' first | refine zcd ?_ | intro K' hK | (with_reducible refine zn hK ?_; clear hK) | ((with_reducible apply o_apR (t := 39) apT39 w_none); (case hs => exact ez0); (case hy => exact ez0); (case hsrc => exact src_row ez0 rfl); (case hr => exact ez1 hrw); (case hc => rfl); (case hm => omega); (case hli => omega); (case hln => omega); (case hcs => rw [hBv]; omega)) | ((with_reducible first | apply zo1 | apply zo2 | apply o_guard rfl | apply x_cond | apply k_e1 rfl | apply k_e2 rfl | apply k_e0 rfl | apply k_e3 rfl | apply k_e4 rfl); (case he => exact ez5 @b_strNeq e0 e1 e2 hrw); (try case hok => exact ezO); all_goals try (intro hb; (try simp only [hbs, reduceCtorEq] at hb); try exact ezX)) | ((with_reducible apply o_undef rfl); (case hb => exact ez0)))
        all_goals exact k_round m (by omega) ⟨by omega, .slice (some ⟨n1 + 1, 0, none⟩) (B.length + 1) (B.length + 1), by simp (disch := first | assumption | omega | rfl | decide) only [go_sem, seval, tys]; rw [hR], by rw [htk]; exact ownz_app c hi1 hi2 hn1 hkB⟩
def OwnX (L : List (List UInt8)) (h : Hp) (n : Nat) (v : Value) (h' : Hp) (n' : Nat) : Prop :=
  n ≤ n' ∧ (∀ b, b < n → h'.get b = h.get b) ∧ ((L = [] ∧ v = .slice none 0 0) ∨ (0 < L.length ∧ ∃ id, v = .slice (some ⟨id, 0, none⟩) L.length L.length ∧ n ≤ id ∧ id < n' ∧ rowOf h' id = some (9, false, xv L)))
theorem xv_app (a b : List (List UInt8)) : xv (a ++ b) = xv a ++ xv b := by simp [xv]
theorem xv_idA (n : Nat) (L : List (List UInt8)) : ∀ v ∈ xv L, idA n v = [] := by
  intro v hv
  obtain ⟨s, -, rfl⟩ := List.mem_map.1 hv
  rfl
theorem xv_take (L : List (List UInt8)) : (xv L).take (L.length * 1) = xv L := List.take_of_length_le (by rw [xv_length]; omega)
theorem unlist_ev (hk : 30000 ≤ k) (l : List (List UInt8)) (hl : l.length ≤ 20) (hs : ∀ s ∈ l, s.length ≤ 100) : SQ k (d + 5) cl 16 [.string ⟨⟨listB l⟩⟩] h n fun v h' n' => (l = [] ∧ v = .tuple ⟨[.slice none 0 0, .int .i64 0]⟩ ∧ h' = h ∧ n' = n) ∨ (0 < l.length ∧ v = .tuple ⟨[.slice (some ⟨n, 0, none⟩) l.length l.length, .int .i64 0]⟩ ∧ h' = h.set n (.row 9 false (xv l)) ∧ n' = n + 1) := by
  have hjl := joinB_len (l := l) hs
  have hll : ByteArray.size ⟨⟨listB l⟩⟩ ≤ 10000 := by
    rw [tx_len]
    unfold listB
    rw [List.length_cons, List.length_append]
    simp
    omega
  rcases l with _ | ⟨s0, ls⟩
  · have e0 : (ByteArray.toList ⟨⟨[91, 93]⟩⟩ == ByteArray.toList ⟨⟨[91, 93]⟩⟩) = true := beq_self_eq_true _
    have hsz : ByteArray.size ⟨⟨[91, 93]⟩⟩ = 2 := rfl
    rw [show listB [] = [91, 93] from rfl]
    refine enter Try.func16 (by kernel_rfl) rfl (by kernel_rfl) rfl rfl rfl ?_
    (repeat' first | refine zcd ?_ | intro K' hK | (with_reducible refine zn hK ?_; clear hK) | fail | ((with_reducible first | apply zo1 | apply zo2 | apply o_guard rfl | apply x_cond | apply k_e1 rfl | apply k_e2 rfl | apply k_e0 rfl | apply k_e3 rfl | apply k_e4 rfl); (case he => exact ez3 @b_strEql e0 hsz); (try case hok => exact ezO); all_goals try (intro hb; (try simp only [hbs, reduceCtorEq] at hb); try exact ezX)) | ((with_reducible apply o_undef rfl); (case hb => exact ez0)))
    all_goals exact sw_flat rfl rfl (.inl ⟨rfl, rfl, rfl, rfl⟩)
  · obtain ⟨l, hle⟩ : ∃ l, s0 :: ls = l := ⟨_, rfl⟩
    have hl0 : 0 < l.length := by rw [← hle]; simp
    rw [hle] at hll hl hs hjl ⊢
    have e0 : (ByteArray.toList ⟨⟨listB l⟩⟩ == ByteArray.toList ⟨⟨[91, 93]⟩⟩) = false := by
      rw [tx_eq, decide_eq_false_iff_not, ← hle]
      intro hh
      have hh2 : joinB (s0 :: ls) ++ [93] = [93] := by injection hh
      have := congrArg List.length hh2
      rw [List.length_append, List.length_singleton] at this
      have h3 : 0 < (joinB (s0 :: ls)).length := by unfold joinB quoB; simp
      omega
    have q1 := fun (h6 : Hp) (n6 : Nat) => (cut_ev k (d + 1) n h6 n6 [91] (joinB l ++ [93])).mono (Φ' := fun v h' n' => v = .tuple ⟨[.string ⟨⟨joinB l ++ [93]⟩⟩, .bool true]⟩ ∧ h6 = h' ∧ n6 = n') fun _ _ _ hp => ⟨hp.1, hp.2.1.symm, hp.2.2.symm⟩
    have q1 : ∀ (h6 : Hp) (n6 : Nat), SQ k (d + 1 + 3) n 39 [.string ⟨⟨listB l⟩⟩, .string ⟨⟨[91]⟩⟩] h6 n6 fun v h' n' => v = .tuple ⟨[.string ⟨⟨joinB l ++ [93]⟩⟩, .bool true]⟩ ∧ h6 = h' ∧ n6 = n' := q1
    obtain ⟨S, hS⟩ : ∃ S, listB l = S := ⟨_, rfl⟩
    rw [hS] at e0 hll ⊢
    simp only [hS] at q1
    obtain ⟨SL, hSL⟩ : ∃ SL, ByteArray.size ⟨⟨S⟩⟩ = SL := ⟨_, rfl⟩
    rw [hSL] at hll
    refine enter Try.func16 (by kernel_rfl) rfl (by kernel_rfl) rfl rfl rfl ?_
    (repeat' first | refine zcd ?_ | intro K' hK | (with_reducible refine zn hK ?_; clear hK) | ((with_reducible apply o_callF (g := 39) w_none); (case ha => exact ez0); (case hs => (exact q1 _ _)); (case' hk => rintro _ h' n' ⟨rfl, rfl, rfl⟩)) | ((with_reducible first | apply zo1 | apply zo2 | apply o_guard rfl | apply x_cond | apply k_e1 rfl | apply k_e2 rfl | apply k_e0 rfl | apply k_e3 rfl | apply k_e4 rfl); (case he => exact ez3 @b_strEql e0 hSL); (try case hok => exact ezO); all_goals try (intro hb; (try simp only [hbs, reduceCtorEq] at hb); try exact ezX)) | ((with_reducible apply o_undef rfl); (case hb => exact ez0)))
    refine x_loopV [2, 3, 4, 5, 6, 7, 18, 19, 20, 21, 22, 23, 24, 25, 26, 27, 28, 29, 30, 31, 32, 33, 34, 35, 36, 37, 38, 39, 40] [4, 5, 6] (fun m vs h' n' => m < l.length ∧ ∃ w, vs = [w, .string ⟨⟨joinB (l.drop (l.length - 1 - m)) ++ [93]⟩⟩, .bool true] ∧ OwnX (l.take (l.length - 1 - m)) h n w h' n') (l.length - 1) rfl (by omega) ⟨by omega, .slice none 0 0, by simp (disch := first | assumption | omega | rfl | decide) only [go_sem, seval, tys]; rw [Nat.sub_self, List.drop_zero], by rw [Nat.sub_self]; exact ⟨Nat.le_refl _, fun _ _ => rfl, .inl ⟨rfl, rfl⟩⟩⟩ ?_
    rintro m g _ h1 n1 ⟨hm, w, rfl, hn1, hkB, how⟩
    obtain ⟨i, hi⟩ : ∃ i, l.length - 1 - m = i := ⟨_, rfl⟩
    rw [hi] at how ⊢
    have his : i < l.length := by omega
    obtain ⟨x, hx⟩ : ∃ x, l[i] = x := ⟨_, rfl⟩
    have hx100 : x.length ≤ 100 := by rw [← hx]; exact hs _ (List.getElem_mem his)
    have hdr : l.drop i = x :: l.drop (i + 1) := by rw [List.drop_eq_getElem_cons his, hx]
    have htk : l.take (i + 1) = l.take i ++ [x] := by rw [List.take_succ_eq_append_getElem his, hx]
    have hrest : joinB (l.drop i) ++ [93] = quoB x ++ (tailB (l.drop (i + 1)) ++ [93]) := by
      rw [hdr, ← List.append_assoc]
      rfl
    have q2 := fun (h6 : Hp) (n6 : Nat) => (next_ev k d n h6 n6 hk x (tailB (l.drop (i + 1)) ++ [93]) (by omega)).mono (Φ' := fun v h' n' => v = .tuple ⟨[.string ⟨⟨x⟩⟩, .string ⟨⟨tailB (l.drop (i + 1)) ++ [93]⟩⟩, .bool true]⟩ ∧ h6 = h' ∧ n6 = n') fun _ _ _ hp => ⟨hp.1, hp.2.1.symm, hp.2.2.symm⟩
    rw [← hrest] at q2
    obtain ⟨R, hR⟩ : ∃ R, joinB (l.drop i) ++ [93] = R := ⟨_, rfl⟩
    rw [hR] at q2 ⊢
    obtain ⟨B, hB⟩ : ∃ B, l.take i = B := ⟨_, rfl⟩
    have hBi : B.length = i := by rw [← hB, List.length_take]; omega
    rw [hB] at how htk
    have hBv := xv_length B
    rcases m with _ | m
    · have hi1 : i + 1 = l.length := by omega
      have hfin : B ++ [x] = l := by rw [← htk, hi1, List.take_length]
      rw [hi1, List.drop_length, show tailB [] ++ [93] = [93] from rfl] at q2
      have e9 : (ByteArray.toList ⟨⟨[93]⟩⟩ == ByteArray.toList ⟨⟨[93]⟩⟩) = true := beq_self_eq_true _
      have q4 := fun (h6 : Hp) (n6 : Nat) (A : Option Addr) (c : Nat) (hr6 : RdH h6 n6 A (xv l)) => (many_ev k (d + 3) n h6 n6 hk A l c hr6 (by omega) (fun s hm => by have := hs s hm; omega)).mono (Φ' := fun v h' n' => v = .bool false ∧ h6 = h' ∧ n6 = n') fun _ _ _ hp => ⟨hp.1, hp.2.1.symm, hp.2.2.symm⟩
      have hl1 : l.length = i + 1 := hi1.symm
      rw [hl1] at q4 ⊢
      rcases how with ⟨rfl, rfl⟩ | ⟨hB0, id, rfl, hj1, hj2, hrB⟩
      · have hi0 : i = 0 := by rw [← hBi]; rfl
        have hl2 : xv l = [.string ⟨⟨x⟩⟩] := by rw [← hfin]; rfl
        have hrd : ∀ h6 : Hp, RdH (h6.set (n1 + 1) (.row 9 false [.string ⟨⟨x⟩⟩])) (n1 + 1 + 1) (some ⟨n1 + 1, 0, none⟩) (xv l) := fun h6 => by rw [hl2]; exact RdH.row (by omega)
        rw [hi0] at q4 ⊢
        (repeat' first | refine zcd ?_ | intro K' hK | (with_reducible refine zn hK ?_; clear hK) | ((with_reducible apply o_callF (g := 40) w_none); (case ha => exact ez0); (case hs => (exact q2 _ _)); (case' hk => rintro _ h' n' ⟨rfl, rfl, rfl⟩)) | ((with_reducible apply o_ap0 (t := 22) apT22 w_none); (case hs => exact ez0); (case hy => exact ez0); (case hsrc => exact src_row ez0 rfl); (case hc => rfl); (case hm => omega); (case h0 => omega)) | ((with_reducible apply o_callF (g := 37) w_none); (case ha => exact ez0); (case hs => ((with_reducible apply q4); exact hrd _)); (case' hk => rintro _ h' n' ⟨rfl, rfl, rfl⟩)) | ((with_reducible first | apply zo1 | apply zo2 | apply o_guard rfl | apply x_cond | apply k_e1 rfl | apply k_e2 rfl | apply k_e0 rfl | apply k_e3 rfl | apply k_e4 rfl); (case he => exact ez2 @b_strEql e9); (try case hok => exact ezO); all_goals try (intro hb; (try simp only [hbs, reduceCtorEq] at hb); try exact ezX)) | ((with_reducible apply o_undef rfl); (case hb => exact ez0)))
        all_goals (refine sw_row ezI rfl (by omega) (rowOf_same _ _ _ _ _) (xv_idA n [x]) ezR ?_; exact .inr ⟨by omega, rfl, by rw [hl2], rfl⟩)
      · have hrw := rwOf_row hrB
        have hl2 : (xv B).take (B.length * 1) ++ [.string ⟨⟨x⟩⟩] = xv l := by rw [xv_take, ← hfin, xv_app]; rfl
        have hrd : ∀ h6 : Hp, RdH (h6.set (n1 + 1) (.row 9 false ((xv B).take (B.length * 1) ++ [.string ⟨⟨x⟩⟩]))) (n1 + 1 + 1) (some ⟨n1 + 1, 0, none⟩) (xv l) := fun h6 => by rw [hl2]; exact RdH.row (by omega)
        rw [← hBi] at q4 ⊢
        (repeat' first | refine zcd ?_ | intro K' hK | (with_reducible refine zn hK ?_; clear hK) | ((with_reducible apply o_callF (g := 40) w_none); (case ha => exact ez0); (case hs => (exact q2 _ _)); (case' hk => rintro _ h' n' ⟨rfl, rfl, rfl⟩)) | ((with_reducible apply o_apR (t := 22) apT22 w_none); (case hs => exact ez0); (case hy => exact ez0); (case hsrc => exact src_row ez0 rfl); (case hr => exact ez1 hrw); (case hc => rfl); (case hm => omega); (case hli => omega); (case hln => omega); (case hcs => rw [hBv]; omega)) | ((with_reducible apply o_callF (g := 37) w_none); (case ha => exact ez0); (case hs => ((with_reducible apply q4); exact hrd _)); (case' hk => rintro _ h' n' ⟨rfl, rfl, rfl⟩)) | ((with_reducible first | apply zo1 | apply zo2 | apply o_guard rfl | apply x_cond | apply k_e1 rfl | apply k_e2 rfl | apply k_e0 rfl | apply k_e3 rfl | apply k_e4 rfl); (case he => exact ez3 @b_strEql e9 hrw); (try case hok => exact ezO); all_goals try (intro hb; (try simp only [hbs, reduceCtorEq] at hb); try exact ezX)) | ((with_reducible apply o_undef rfl); (case hb => exact ez0)))
        all_goals (refine sw_row ezI rfl (by omega) (rowOf_same _ _ _ _ _) (by rw [hl2]; exact xv_idA n l) ezR ?_; exact .inr ⟨by omega, rfl, by rw [hl2], rfl⟩)
    · have his2 : i + 1 < l.length := by omega
      have hnext : tailB (l.drop (i + 1)) ++ [93] = [44, 32] ++ (joinB (l.drop (i + 1)) ++ [93]) := by
        rw [List.drop_eq_getElem_cons his2]
        show (44 :: 32 :: quoB _) ++ tailB _ ++ [93] = _
        simp [joinB]
      have q3 := fun (h6 : Hp) (n6 : Nat) => (cut_ev k (d + 1) n h6 n6 [44, 32] (joinB (l.drop (i + 1)) ++ [93])).mono (Φ' := fun v h' n' => v = .tuple ⟨[.string ⟨⟨joinB (l.drop (i + 1)) ++ [93]⟩⟩, .bool true]⟩ ∧ h6 = h' ∧ n6 = n') fun _ _ _ hp => ⟨hp.1, hp.2.1.symm, hp.2.2.symm⟩
      rw [← hnext] at q3
      have e9 : (ByteArray.toList ⟨⟨tailB (l.drop (i + 1)) ++ [93]⟩⟩ == ByteArray.toList ⟨⟨[93]⟩⟩) = false := by
        rw [hnext, tx_eq]
        rfl
      obtain ⟨R2, hR2⟩ : ∃ R2, tailB (l.drop (i + 1)) ++ [93] = R2 := ⟨_, rfl⟩
      rw [hR2] at e9
      simp only [hR2] at q2 q3
      have hi2 : l.length - 1 - m = i + 1 := by omega
      rcases how with ⟨rfl, rfl⟩ | ⟨hB0, id, rfl, hj1, hj2, hrB⟩
      · (repeat' first | refine zcd ?_ | intro K' hK | (with_reducible refine zn hK ?_; clear hK) | ((with_reducible apply o_callF (g := 40) w_none); (case ha => exact ez0); (case hs => (exact q2 _ _)); (case' hk => rintro _ h' n' ⟨rfl, rfl, rfl⟩)) | ((with_reducible apply o_ap0 (t := 22) apT22 w_none); (case hs => exact ez0); (case hy => exact ez0); (case hsrc => exact src_row ez0 rfl); (case hc => rfl); (case hm => omega); (case h0 => omega)) | ((with_reducible apply o_callF (g := 39) w_none); (case ha => exact ez0); (case hs => (exact q3 _ _)); (case' hk => rintro _ h' n' ⟨rfl, rfl, rfl⟩)) | ((with_reducible first | apply zo1 | apply zo2 | apply o_guard rfl | apply x_cond | apply k_e1 rfl | apply k_e2 rfl | apply k_e0 rfl | apply k_e3 rfl | apply k_e4 rfl); (case he => exact ez2 @b_strEql e9); (try case hok => exact ezO); all_goals try (intro hb; (try simp only [hbs, reduceCtorEq] at hb); try exact ezX)) | ((with_reducible apply o_undef rfl); (case hb => exact ez0)))
        all_goals exact k_round m (by omega) ⟨by omega, .slice (some ⟨n1 + 1, 0, none⟩) 1 1, by simp (disch := first | assumption | omega | rfl | decide) only [go_sem, seval, tys]; rw [hi2], by omega, fun b hb => by rw [Hp.get_ne _ _ (by omega), Hp.get_ne _ _ (by omega)]; exact hkB b hb, .inr (by rw [hi2, htk]; exact ⟨by simp, n1 + 1, rfl, by omega, by omega, rowOf_same _ _ _ _ _⟩)⟩
      · have hrw := rwOf_row hrB
        (repeat' first | refine zcd ?_ | intro K' hK | (with_reducible refine zn hK ?_; clear hK) | ((with_reducible apply o_callF (g := 40) w_none); (case ha => exact ez0); (case hs => (exact q2 _ _)); (case' hk => rintro _ h' n' ⟨rfl, rfl, rfl⟩)) | ((with_reducible apply o_apR (t := 22) apT22 w_none); (case hs => exact ez0); (case hy => exact ez0); (case hsrc => exact src_row ez0 rfl); (case hr => exact ez1 hrw); (case hc => rfl); (case hm => omega); (case hli => omega); (case hln => omega); (case hcs => rw [hBv]; omega)) | ((with_reducible apply o_callF (g := 39) w_none); (case ha => exact ez0); (case hs => (exact q3 _ _)); (case' hk => rintro _ h' n' ⟨rfl, rfl, rfl⟩)) | ((with_reducible first | apply zo1 | apply zo2 | apply o_guard rfl | apply x_cond | apply k_e1 rfl | apply k_e2 rfl | apply k_e0 rfl | apply k_e3 rfl | apply k_e4 rfl); (case he => exact ez3 @b_strEql e9 hrw); (try case hok => exact ezO); all_goals try (intro hb; (try simp only [hbs, reduceCtorEq] at hb); try exact ezX)) | ((with_reducible apply o_undef rfl); (case hb => exact ez0)))
        all_goals exact k_round m (by omega) ⟨by omega, .slice (some ⟨n1 + 1, 0, none⟩) (B.length + 1) (B.length + 1), by simp (disch := first | assumption | omega | rfl | decide) only [go_sem, seval, tys]; rw [hi2], by omega, fun b hb => by rw [Hp.get_ne _ _ (by omega), Hp.get_ne _ _ (by omega), Hp.get_ne _ _ (by omega)]; exact hkB b hb, .inr (by rw [hi2, htk]; exact ⟨by simp, n1 + 1, by rw [List.length_append]; rfl, by omega, by omega, by rw [rowOf_same, xv_take, xv_app]; rfl⟩)⟩
end Go.Proofs.Ytkngdfbibffdcaa.Ce
