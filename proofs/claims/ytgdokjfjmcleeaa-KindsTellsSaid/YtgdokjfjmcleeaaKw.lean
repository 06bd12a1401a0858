/- Widths of types: package kinds by symbolic runs. -/
import Derived.Test.YtgdokjfjmcleeaaKp
namespace Go.Proofs.Ytgdokjfjmcleeaa.Ce
open Go.RowKit
set_option linter.unusedVariables false
set_option linter.unusedSimpArgs false


set_option maxRecDepth 100000
set_option maxHeartbeats 2000000

variable (k d cl : Nat) (h : Hp) (n : Nat)
/-- the widths at the head of a round -/
def wAt (T : List Tp) (r : Nat) : List Int := match r with | 0 => zeros T.length | r + 1 => wD T r
theorem wAt_succ (T : List Tp) (r : Nat) : wAt T (r + 1) = wRow (wAt T r) T := by cases r <;> rfl
theorem wAt_bnd {T : List Tp} (hf : Fine T) (r : Nat) : Bnd (wAt T r) := by cases r with | zero => exact zeros_bnd _ | succ r => exact wD_bnd hf r
theorem wAt_length (T : List Tp) (r : Nat) : (wAt T r).length = T.length := by cases r with | zero => simp [wAt, zeros] | succ r => exact wD_length T r
theorem mk_zeros (m : Nat) : (List.replicate m [Value.int IntKind.i64 0]).flatten = iv (zeros m) := by unfold iv zeros; rw [List.map_replicate]; induction m with | zero => rfl | succ m ih => rw [List.replicate_succ, List.flatten_cons, ih, List.replicate_succ]; rfl
theorem min_lt {a : Int} : (if 5001 < a then (5001 : Int) else a) = min a 5001 := by rw [Int.min_def]; split <;> split <;> omega
theorem pwidths_ev (hk : 30000 ≤ k) (A : Option Addr) (T : List Tp) (c : Nat) (hT : TabH h n A T) (hl : T.length ≤ 32) (hF : Fine T) :
    Sp Try.prog (acall Try.prog WW k (d + 1)) cl 68 [.slice A T.length c] h n fun v h' n' => v = .slice (some ⟨n, 0, none⟩) T.length T.length ∧ h' = h.set n (.row 3 false (iv (wD T 3))) ∧ n' = n + 1 := by
  refine enter Try.func68 (by kernel_rfl) rfl (by kernel_rfl) rfl rfl rfl ?_
  (repeat' first | (with_reducible first | apply x_seq | apply k_then | apply x_block | apply x_skip | apply x_ret | apply x_exit | apply x_label | apply k_pass | apply k_hit | apply k_miss rfl | apply k_out | apply k_turned | refine x_text fun K' hK => ?_) | ((with_reducible apply o_nil); refine hK _ _ _ ?_; clear hK) | fail | ((first | ((with_reducible apply o_pure w_none); (case hp => exact rfl); (case' he => intro h n)) | (with_reducible first | apply o_eff w_none | apply o_guard rfl | apply x_cond | apply k_e1 rfl | apply k_e2 rfl | apply k_e0 rfl | apply k_e3 rfl | apply k_e4 rfl)); (case he => (simp (disch := first | assumption | omega | rfl | decide) only [go_sem, seval, tys, mk_zeros] <;> rfl)); (try (case hok => first | exact rfl | exact ok_w (by omega) rfl)); all_goals (try (intro hb; (try (simp only [hbs, reduceCtorEq] at hb)); try (exfalso; omega)))) | ((with_reducible apply o_undef rfl); (case hb => (simp (disch := first | assumption | omega | rfl | decide) only [go_sem, seval, tys]))))
  refine x_loopV [3, 4, 5, 6, 7, 9, 13, 14, 15, 16, 17, 18, 19, 20, 21, 22, 23, 24, 25, 26, 27, 28, 29, 30, 31, 32, 33, 34, 35, 36, 37, 38, 39, 40, 41, 42, 43, 44, 45, 46, 47, 48, 49, 50, 51, 52, 53, 54, 55, 56, 57, 58, 59, 60, 61, 62, 63, 64, 65, 66, 67, 68, 69, 70, 71, 72, 73, 74, 75, 76, 77, 78, 79, 80] [3, 13] (fun m vs h' n' => ∃ (r id : Nat), m = 4 - r ∧ r ≤ 4 ∧ vs = [.slice (some ⟨id, 0, none⟩) T.length T.length, .int .i64 r] ∧ n ≤ id ∧ id < n' ∧ rowOf h' id = some (3, false, iv (wAt T r)) ∧ TabH h' n A T) 4 rfl (by omega) ?_ ?_
  · exact ⟨0, n, rfl, by omega, by simp (disch := first | assumption | omega | rfl | decide) only [go_sem, seval, tys] <;> rfl, by omega, by omega, by simp (disch := first | assumption | omega | rfl | decide) only [go_sem, seval, tys] <;> rfl, hT.set (Nat.le_refl _) _⟩
  · rintro m g _ h' n' ⟨r, id, rfl, hr, rfl, hid0, hid1, q0, hT2⟩
    by_cases hr4 : r < 4
    · have hBb := wAt_bnd hF r
      have hBl := wAt_length T r
      (repeat' first | (with_reducible first | apply x_seq | apply k_then | apply x_block | apply x_skip | apply x_ret | apply x_exit | apply x_label | apply k_pass | apply k_hit | apply k_miss rfl | apply k_out | apply k_turned | refine x_text fun K' hK => ?_) | ((with_reducible apply o_nil); refine hK _ _ _ ?_; clear hK) | fail | ((first | ((with_reducible apply o_pure w_none); (case hp => exact rfl); (case' he => intro h n)) | (with_reducible first | apply o_eff w_none | apply o_guard rfl | apply x_cond | apply k_e1 rfl | apply k_e2 rfl | apply k_e0 rfl | apply k_e3 rfl | apply k_e4 rfl)); (case he => (simp (disch := first | assumption | omega | rfl | decide) only [go_sem, seval, tys, mk_zeros] <;> rfl)); (try (case hok => first | exact rfl | exact ok_w (by omega) rfl)); all_goals (try (intro hb; (try (simp only [hbs, reduceCtorEq] at hb)); try (exfalso; omega)))) | ((with_reducible apply o_undef rfl); (case hb => (simp (disch := first | assumption | omega | rfl | decide) only [go_sem, seval, tys]))))
      refine x_loopV [5, 6, 7, 9, 20, 21, 22, 23, 24, 25, 26, 27, 28, 29, 30, 31, 32, 33, 34, 35, 36, 37, 38, 39, 40, 41, 42, 43, 44, 45, 46, 47, 48, 49, 50, 51, 52, 53, 54, 55, 56, 57, 58, 59, 60, 61, 62, 63, 64, 65, 66, 67, 68, 69, 70, 71, 72, 73, 74, 75, 76, 77, 78] [20] (fun m vs h2 n2 => ∃ (i : Nat), m = T.length - i ∧ i ≤ T.length ∧ vs = [.int .i64 i] ∧ n' + 1 ≤ n2 ∧ rowOf h2 id = some (3, false, iv (wAt T r)) ∧ rowOf h2 n' = some (3, false, iv (pad (wAt T r) T i)) ∧ TabH h2 n A T) T.length rfl (by omega) ?_ ?_
      · exact ⟨0, rfl, by omega, by simp (disch := first | assumption | omega | rfl | decide) only [go_sem, seval, tys] <;> rfl, by omega, by simp (disch := first | assumption | omega | rfl | decide) only [go_sem, seval, tys, q0], by rw [pad_zero]; simp (disch := first | assumption | omega | rfl | decide) only [go_sem, seval, tys], hT2.set (by omega) _⟩
      · rintro m2 g2 _ h2 n2 ⟨i, rfl, hi, rfl, hn2, q1, q2, hT3⟩
        have e1 := fun o => cellAt_row (off := o) q1
        have e2 := fun o => cellAt_row (off := o) q2
        have w2 := rwOf_row q2
        by_cases hiT : i < T.length
        · obtain ⟨tid, toff, hA, htid, ht4, -, -, -, -⟩ := hT3.at_ hiT
          have hfine := hF i hiT
          have hnb := wRow_bnd hBb hF i hi
          have hpl := pad_length (wAt T r) hi
          have hwh := wHead_bnd hBb hnb hfine
          have hsp := pad_succ (wAt T r) hiT
          obtain ⟨t, htt⟩ : ∃ t, T[i] = t := ⟨_, rfl⟩
          have hmem : t ∈ T := by rw [← htt]; exact List.getElem_mem hiT
          rw [htt] at ht4 hfine hwh hsp
          have hfl := fine_len hfine
          obtain ⟨now, hnow⟩ : ∃ now, wRow (wAt T r) (T.take i) = now := ⟨_, rfl⟩
          rw [hnow] at hnb hwh hsp
          have hel : (t.kd = 4 ∨ t.kd = 7) → 0 ≤ t.el ∧ t.el < T.length := fine_el hfine
          have har : t.kd = 6 → 0 ≤ t.el ∧ t.el < i ∧ 1 ≤ t.ln ∧ t.ln ≤ 16 := fine_arr hfine
          have hxb := hBb.getD t.el.toNat
          have hyb := hnb.getD t.el.toNat
          have hbe4 : t.kd = 4 → lget (iv (wAt T r)) t.el.toNat = some (.int .i64 ((wAt T r).getD t.el.toNat 0)) := fun h4 => iv_lget (by have := hel (.inl h4); omega)
          have hbe7 : t.kd = 7 → lget (iv (wAt T r)) t.el.toNat = some (.int .i64 ((wAt T r).getD t.el.toNat 0)) := fun h7 => iv_lget (by have := hel (.inr h7); omega)
          have hne6 : t.kd = 6 → lget (iv (pad (wAt T r) T i)) t.el.toNat = some (.int .i64 (now.getD t.el.toNat 0)) := fun h6 => by
            have := har h6
            rw [iv_lget (by omega), pad_getD _ hi (by omega), hnow]
          have hmul : t.kd = 6 → 0 ≤ t.ln * now.getD t.el.toNat 0 ∧ t.ln * now.getD t.el.toNat 0 ≤ 16 * 5001 := fun h6 => by
            have := har h6
            exact ⟨Int.mul_nonneg (by omega) hyb.1, Int.mul_le_mul this.2.2.2 hyb.2 hyb.1 (by omega)⟩
          have hW4 : t.kd = 4 → wHead (wAt T r) now t = 1 + (wAt T r).getD t.el.toNat 0 := fun h4 => by unfold wHead; rw [if_pos h4]
          have hW7 : t.kd = 7 → wHead (wAt T r) now t = 1 + 16 * (wAt T r).getD t.el.toNat 0 := fun h7 => by unfold wHead; rw [if_neg (by omega), if_pos h7]
          have hW6 : t.kd = 6 → wHead (wAt T r) now t = 1 + t.ln * now.getD t.el.toNat 0 := fun h6 => by unfold wHead; rw [if_neg (by omega), if_neg (by omega), if_pos h6]
          have hW0 : ¬ t.kd = 4 → ¬ t.kd = 7 → ¬ t.kd = 6 → wHead (wAt T r) now t = 1 := fun h4 h7 h6 => by unfold wHead; rw [if_neg h4, if_neg h7, if_neg h6]; rfl
          subst hA
          have hb2 := hT3.fd t hmem
          (repeat' first | ((with_reducible apply x_cutF (x := .seq (.region 9 _ _) _) [7, 25, 26, 27, 28, 29, 30, 31, 32, 33, 34, 35, 36, 37, 38, 39, 40, 41, 42, 43, 44, 45, 46, 47, 48, 49, 50, 51, 52, 53, 54, 55, 56, 57] [7] (fun vs => vs = [.int .i64 (wHead (wAt T r) now t)])); (case hw => kernel_rfl); (case' hy => rintro g3 _ rfl)) | ((with_reducible apply k_cut); (show List.map _ _ = _); first | (rw [hW4 (by assumption)]; simp (disch := first | assumption | omega | rfl | decide) only [go_sem, seval, tys] <;> rfl) | (rw [hW7 (by assumption)]; simp (disch := first | assumption | omega | rfl | decide) only [go_sem, seval, tys] <;> rfl) | (rw [hW6 (by assumption)]; simp (disch := first | assumption | omega | rfl | decide) only [go_sem, seval, tys] <;> rfl) | (rw [hW0 (by assumption) (by assumption) (by assumption)]; simp (disch := first | assumption | omega | rfl | decide) only [go_sem, seval, tys] <;> rfl)) | (with_reducible first | apply x_seq | apply k_then | apply x_block | apply x_skip | apply x_ret | apply x_exit | apply x_label | apply k_pass | apply k_hit | apply k_miss rfl | apply k_out | apply k_turned | refine x_text fun K' hK => ?_) | ((with_reducible apply o_nil); refine hK _ _ _ ?_; clear hK) | (with_reducible refine x_drawnD (id := 15) [(2, 5), (2, 7)] (by kernel_rfl) fun K' hK => ?_) | ((with_reducible apply d_nil); (case hp => (simp (disch := omega) only [pairsOk, List.all_cons, List.all_nil, List.reverse_cons, List.reverse_nil, List.nil_append, List.cons_append, lget_zero, lget_succ, apartB, touches, made_mm, made_lt, made_ge, all_true, ble_t, ble_f, blt_t, blt_f, beq_f, List.contains_cons, List.contains_nil, Bool.and_true, Bool.true_and, Bool.and_false, Bool.false_and, Bool.or_false, Bool.false_or, Bool.not_false, Bool.not_true, beq_self_eq_true])); (case' hx => (refine hK _ _ _ ?_; clear hK))) | ((with_reducible apply d_pure w_none); (case hp => exact rfl); (case hc => exact rfl); (case he => (intro h n; simp (disch := first | assumption | omega | rfl | decide) only [go_sem, seval, tys, ht4, e1, e2, hbe4, hbe7, hne6] <;> rfl))) | ((with_reducible apply d_eff w_none); (case hc => exact rfl); (case he => (simp (disch := first | assumption | omega | rfl | decide) only [go_sem, seval, tys, ht4, e1, e2, hbe4, hbe7, hne6] <;> rfl)); (case hok => first | exact rfl | exact ok_w (by omega) rfl)) | ((with_reducible apply d_guard rfl); (case hb => (simp (disch := first | assumption | omega | rfl | decide) only [go_sem, seval, tys, ht4, e1, e2, hbe4, hbe7, hne6] <;> rfl)); (case' h1 => intro hb; (try (simp only [hbs, reduceCtorEq] at hb)); try (exfalso; omega)); (case' h2 => intro hb; (try (simp only [hbs, reduceCtorEq] at hb)); try (exfalso; omega))) | ((first | ((with_reducible apply o_pure w_none); (case hp => exact rfl); (case' he => intro h n)) | (with_reducible first | apply o_eff w_none | apply o_guard rfl | apply x_cond | apply k_e1 rfl | apply k_e2 rfl | apply k_e0 rfl | apply k_e3 rfl | apply k_e4 rfl)); (case he => (simp (disch := first | assumption | omega | rfl | decide) only [go_sem, seval, tys, ht4, e1, e2, hbe4, hbe7, hne6] <;> rfl)); (try (case hok => first | exact rfl | exact ok_w (by omega) rfl)); all_goals (try (intro hb; (try (simp only [hbs, reduceCtorEq] at hb)); try (exfalso; omega)))) | ((with_reducible apply o_undef rfl); (case hb => (simp (disch := first | assumption | omega | rfl | decide) only [go_sem, seval, tys]))))
          refine x_loopV [7, 9, 61, 62, 63, 64, 65, 66, 67, 68, 69, 70, 71, 72] [7, 61] (fun m vs h3 n3 => ∃ (q : Nat), m = t.fs.length - q ∧ q ≤ t.fs.length ∧ vs = [.int .i64 (wHead (wAt T r) now t + sumF now (t.fs.take q)), .int .i64 q] ∧ n2 + 1 ≤ n3 ∧ rowOf h3 id = some (3, false, iv (wAt T r)) ∧ rowOf h3 n' = some (3, false, iv (pad (wAt T r) T i)) ∧ TabH h3 n (some ⟨tid, toff, none⟩) T) t.fs.length rfl (by omega) ?_ ?_
          · exact ⟨0, rfl, by omega, by simp (disch := first | assumption | omega | rfl | decide) only [go_sem, seval, tys]; simp [sumF], by omega, by simp (disch := first | assumption | omega | rfl | decide) only [go_sem, seval, tys, q1], by simp (disch := first | assumption | omega | rfl | decide) only [go_sem, seval, tys, q2], hT3.set (by omega) _⟩
          · rintro m3 g4 _ h3 n3 ⟨q, rfl, hq, rfl, hn3, p1, p2, hT4⟩
            have f2 := fun o => cellAt_row (off := o) p2
            have v2 := rwOf_row p2
            have hsq := sumF_bnd hnb (t.fs.take q)
            have hql : (t.fs.take q).length ≤ 8 := by rw [List.length_take]; omega
            by_cases hqf : q < t.fs.length
            · obtain ⟨id2, off2, hFA, hid2, hf2, -, -⟩ := fld_at (hT4.fd t hmem) hqf
              have hfd := fine_fld hfine hqf
              have hst := sumF_take now hqf
              obtain ⟨ty, hty⟩ : ∃ ty, (t.fs[q]).2 = ty := ⟨_, rfl⟩
              rw [hty] at hf2 hfd hst
              have hzb := hnb.getD ty.toNat
              have hfe : lget (iv (pad (wAt T r) T i)) ty.toNat = some (.int .i64 (now.getD ty.toNat 0)) := by rw [iv_lget (by omega), pad_getD _ hi (by omega), hnow]
              (repeat' first | (with_reducible first | apply x_seq | apply k_then | apply x_block | apply x_skip | apply x_ret | apply x_exit | apply x_label | apply k_pass | apply k_hit | apply k_miss rfl | apply k_out | apply k_turned | refine x_text fun K' hK => ?_) | ((with_reducible apply o_nil); refine hK _ _ _ ?_; clear hK) | fail | ((first | ((with_reducible apply o_pure w_none); (case hp => exact rfl); (case' he => intro h n)) | (with_reducible first | apply o_eff w_none | apply o_guard rfl | apply x_cond | apply k_e1 rfl | apply k_e2 rfl | apply k_e0 rfl | apply k_e3 rfl | apply k_e4 rfl)); (case he => (simp (disch := first | assumption | omega | rfl | decide) only [go_sem, seval, tys, hFA, hf2, f2, hfe] <;> rfl)); (try (case hok => first | exact rfl | exact ok_w (by omega) rfl)); all_goals (try (intro hb; (try (simp only [hbs, reduceCtorEq] at hb)); try (exfalso; omega)))) | ((with_reducible apply o_undef rfl); (case hb => (simp (disch := first | assumption | omega | rfl | decide) only [go_sem, seval, tys]))))
              refine k_round (t.fs.length - (q + 1)) (by omega) ⟨q + 1, rfl, by omega, by rw [hst]; simp (disch := first | assumption | omega | rfl | decide) only [go_sem, seval, tys]; rw [Int.add_assoc]; exact rfl, by omega, by simp (disch := first | assumption | omega | rfl | decide) only [go_sem, seval, tys, p1], by simp (disch := first | assumption | omega | rfl | decide) only [go_sem, seval, tys, p2], hT4.set (by omega) _⟩
            · obtain rfl : q = t.fs.length := by omega
              rw [List.take_length]
              rw [List.take_length] at hsq
              have hov : ∀ v, overAt i [v] (iv (pad (wAt T r) T i)) = some ((iv (pad (wAt T r) T i)).set i v) := fun v => overAt_one (by rw [iv_length, hpl]; exact hiT)
              have hwo : min (wHead (wAt T r) now t + sumF now t.fs) 5001 = wOne (wAt T r) now t := rfl
              (repeat' first | (with_reducible first | apply x_seq | apply k_then | apply x_block | apply x_skip | apply x_ret | apply x_exit | apply x_label | apply k_pass | apply k_hit | apply k_miss rfl | apply k_out | apply k_turned | refine x_text fun K' hK => ?_) | ((with_reducible apply o_nil); refine hK _ _ _ ?_; clear hK) | fail | ((first | ((with_reducible apply o_pure w_none); (case hp => exact rfl); (case' he => intro h n)) | (with_reducible first | apply o_eff w_none | apply o_guard rfl | apply x_cond | apply k_e1 rfl | apply k_e2 rfl | apply k_e0 rfl | apply k_e3 rfl | apply k_e4 rfl)); (case he => (simp (disch := first | assumption | omega | rfl | decide) only [go_sem, seval, tys, v2, hov] <;> rfl)); (try (case hok => first | exact rfl | exact ok_w (by omega) rfl)); all_goals (try (intro hb; (try (simp only [hbs, reduceCtorEq] at hb)); try (exfalso; omega)))) | ((with_reducible apply o_undef rfl); (case hb => (simp (disch := first | assumption | omega | rfl | decide) only [go_sem, seval, tys]))))
              refine k_round (T.length - (i + 1)) (by omega) ⟨i + 1, rfl, by omega, by simp (disch := first | assumption | omega | rfl | decide) only [go_sem, seval, tys] <;> rfl, by omega, by simp (disch := first | assumption | omega | rfl | decide) only [go_sem, seval, tys, p1], by simp (disch := first | assumption | omega | rfl | decide) only [go_sem, seval, tys]; rw [min_lt, hwo, iv_set, hsp], hT4.set (by omega) _⟩
        · obtain rfl : i = T.length := by omega
          rw [pad_all, ← wAt_succ] at q2
          (repeat' first | (with_reducible first | apply x_seq | apply k_then | apply x_block | apply x_skip | apply x_ret | apply x_exit | apply x_label | apply k_pass | apply k_hit | apply k_miss rfl | apply k_out | apply k_turned | refine x_text fun K' hK => ?_) | ((with_reducible apply o_nil); refine hK _ _ _ ?_; clear hK) | fail | ((first | ((with_reducible apply o_pure w_none); (case hp => exact rfl); (case' he => intro h n)) | (with_reducible first | apply o_eff w_none | apply o_guard rfl | apply x_cond | apply k_e1 rfl | apply k_e2 rfl | apply k_e0 rfl | apply k_e3 rfl | apply k_e4 rfl)); (case he => (simp (disch := first | assumption | omega | rfl | decide) only [go_sem, seval, tys] <;> rfl)); (try (case hok => first | exact rfl | exact ok_w (by omega) rfl)); all_goals (try (intro hb; (try (simp only [hbs, reduceCtorEq] at hb)); try (exfalso; omega)))) | ((with_reducible apply o_undef rfl); (case hb => (simp (disch := first | assumption | omega | rfl | decide) only [go_sem, seval, tys]))))
          refine k_round (4 - (r + 1)) (by omega) ⟨r + 1, n', rfl, by omega, by simp (disch := first | assumption | omega | rfl | decide) only [go_sem, seval, tys] <;> rfl, by omega, by omega, q2, hT3⟩
    · obtain rfl : r = 4 := by omega
      (repeat' first | (with_reducible first | apply x_seq | apply k_then | apply x_block | apply x_skip | apply x_ret | apply x_exit | apply x_label | apply k_pass | apply k_hit | apply k_miss rfl | apply k_out | apply k_turned | refine x_text fun K' hK => ?_) | ((with_reducible apply o_nil); refine hK _ _ _ ?_; clear hK) | fail | ((first | ((with_reducible apply o_pure w_none); (case hp => exact rfl); (case' he => intro h n)) | (with_reducible first | apply o_eff w_none | apply o_guard rfl | apply x_cond | apply k_e1 rfl | apply k_e2 rfl | apply k_e0 rfl | apply k_e3 rfl | apply k_e4 rfl)); (case he => (simp (disch := first | assumption | omega | rfl | decide) only [go_sem, seval, tys] <;> rfl)); (try (case hok => first | exact rfl | exact ok_w (by omega) rfl)); all_goals (try (intro hb; (try (simp only [hbs, reduceCtorEq] at hb)); try (exfalso; omega)))) | ((with_reducible apply o_undef rfl); (case hb => (simp (disch := first | assumption | omega | rfl | decide) only [go_sem, seval, tys]))))
      refine sw_row (by simp (disch := first | assumption | omega) only [idV_tuple, idV_agg, idV_int, idV_bool, idV_str, idV_slice, idV_nil, idV1_agg, idV1_int, idV1_bool, idV1_str, idV1_slice, idV1_nil, idA_int, idA_bool, idA_str, idA_slice, idA_nil, idA_old, idV_old, idV1_old, ble_t, ble_f, cond_true, cond_false, List.flatMap_cons, List.flatMap_nil, List.append_nil, List.nil_append, List.cons_append] <;> rfl) rfl (by omega) (by simp (disch := first | assumption | omega | rfl | decide) only [go_sem, seval, tys, q0]; exact rfl) (iv_idA _ _) (by simp only [reV_tuple, reV_agg, reV_slice, reV1_agg, reV1_int, reV1_bool, reV1_str, reV1_slice, reV1_snil, reA_int, reA_bool, reA_str, reA_slice, reA_snil, reN_hit, List.map_cons, List.map_nil] <;> rfl) ?_
      exact ⟨rfl, rfl, rfl⟩
end Go.Proofs.Ytgdokjfjmcleeaa.Ce
