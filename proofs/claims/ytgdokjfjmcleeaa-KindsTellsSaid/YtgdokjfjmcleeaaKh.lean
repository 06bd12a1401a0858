/- Which types are valid, by the reference: symbolic runs. Which types are valid, by the reference: fine. -/
import Derived.Test.YtgdokjfjmcleeaaKp
namespace Go.Proofs.Ytgdokjfjmcleeaa.Ce
open Go.RowKit
set_option linter.unusedVariables false
set_option linter.unusedSimpArgs false


set_option maxRecDepth 100000
set_option maxHeartbeats 2000000

variable (k d cl : Nat) (h : Hp) (n : Nat)
theorem b_strq (s t : List UInt8) (h : Hp) (n : Nat) : mBin Try.prog .eql 9 (.string ⟨⟨s⟩⟩) (.string ⟨⟨t⟩⟩) h n = some ⟨.bool (decide (s = t)), h, n, [], []⟩ := by
  show (prun Try.prog (Op.stringOp .eql ⟨⟨s⟩⟩ ⟨⟨t⟩⟩)).bind (fun v => bif flat1 v then mV v h n else none) = _
  have : prun Try.prog (Op.stringOp .eql ⟨⟨s⟩⟩ ⟨⟨t⟩⟩) = some (.bool (decide (s = t))) := by
    show some (Value.bool ((⟨⟨s⟩⟩ : ByteArray).toList == (⟨⟨t⟩⟩ : ByteArray).toList)) = _
    rw [show ((⟨⟨s⟩⟩ : ByteArray).toList == (⟨⟨t⟩⟩ : ByteArray).toList) = decide (s = t) from by rw [Bool.eq_iff_iff, decide_eq_true_eq, beq_iff_eq]; simp [ByteArray.toList_eq]]
  rw [this]
  rfl
def flB (fs : List (List UInt8 × Int)) : Bool := fs.all (fun f => namedB f.1) && decide ((fs.map (·.1)).Nodup)
theorem flB_no {q : Nat} {fs : List (List UInt8 × Int)} (hq : q < fs.length) (h : namedB (fs[q]).1 = false) : flB fs = false := by
  unfold flB
  have : fs.all (fun f => namedB f.1) = false := by
    rw [List.all_eq_false]
    exact ⟨fs[q], List.getElem_mem _, by rw [h]; exact Bool.false_ne_true⟩
  rw [this, Bool.false_and]
theorem flB_dup {q j : Nat} {fs : List (List UInt8 × Int)} (hq : q < fs.length) (hj : j < q) (h : (fs[j]).1 = (fs[q]).1) : flB fs = false := by
  unfold flB
  have : ¬ (fs.map (·.1)).Nodup := by
    intro hn
    rw [List.nodup_iff_pairwise_ne, List.pairwise_iff_getElem] at hn
    exact hn j q (by simp; omega) (by simp; omega) hj (by simpa using h)
  rw [decide_eq_false this, Bool.and_false]
theorem fldsB_eq (i : Nat) (fs : List (List UInt8 × Int)) : fldsB i fs = (fs.all (fun f => decide (0 ≤ f.2 ∧ f.2 < (i : Int))) && flB fs) := by
  unfold fldsB flB
  rw [← Bool.and_assoc]
  congr 1
  rw [Bool.eq_iff_iff]
  simp only [List.all_eq_true, Bool.and_eq_true, fldB]
  constructor
  · intro h; exact ⟨fun x hx => (h x hx).2, fun x hx => (h x hx).1⟩
  · intro h x hx; exact ⟨h.2 x hx, h.1 x hx⟩
theorem rfields_ev (hk : 30000 ≤ k) (FA : Option Addr) (fs : List (List UInt8 × Int)) (c : Nat) (hr : RdH h n FA (fv fs)) (hl2 : fs.length ≤ 20000) :
    Sp Try.prog (acall Try.prog WW k (d + 3)) cl 89 [.slice FA fs.length c, .int .i64 8] h n fun v h' n' => v = .bool (decide (fs.length ≤ 8) && flB fs) ∧ h' = h ∧ n' = n := by
  refine enter Try.func89 (by kernel_rfl) rfl (by kernel_rfl) rfl rfl rfl ?_
  by_cases h8 : fs.length ≤ 8
  · rw [decide_eq_true h8]
    (repeat' first | (with_reducible first | apply x_seq | apply k_then | apply x_block | apply x_skip | apply x_ret | apply x_exit | apply x_label | apply k_pass | apply k_hit | apply k_miss rfl | apply k_out | apply k_turned | refine x_text fun K' hK => ?_) | ((with_reducible apply o_nil); refine hK _ _ _ ?_; clear hK) | fail | ((first | ((with_reducible apply o_pure w_none); (case hp => exact rfl); (case' he => intro h n)) | (with_reducible first | apply o_eff w_none | apply o_guard rfl | apply x_cond | apply k_e1 rfl | apply k_e2 rfl | apply k_e0 rfl | apply k_e3 rfl | apply k_e4 rfl)); (case he => (simp (disch := first | assumption | omega | rfl | decide) only [go_sem, seval, tys] <;> rfl)); (try (case hok => first | exact rfl | exact ok_w (by omega) rfl)); all_goals (try (intro hb; (try (simp only [hbs, reduceCtorEq] at hb)); try (exfalso; omega)))) | ((with_reducible apply o_undef rfl); (case hb => (simp (disch := first | assumption | omega | rfl | decide) only [go_sem, seval, tys]))))
    refine x_loopF [4, 5, 6, 11, 12, 13, 14, 15, 16, 17, 18, 19, 20, 21, 22, 23, 24, 25, 26, 27, 28, 29, 30, 31, 32, 33, 34, 35, 36, 37, 38, 39] [5] (fun m vs => ∃ q : Nat, m = fs.length - q ∧ q ≤ fs.length ∧ vs = [.int .i64 q] ∧ (fs.take q).all (fun f => namedB f.1) = true ∧ ((fs.take q).map (·.1)).Nodup) fs.length rfl (by omega) ⟨0, rfl, by omega, by simp (disch := first | assumption | omega | rfl | decide) only [go_sem, seval, tys] <;> rfl, rfl, by simp⟩ ?_
    rintro m g _ ⟨q, rfl, hq, rfl, hall, hnd⟩
    by_cases hqf : q < fs.length
    · obtain ⟨id2, off2, rfl, hid2, hf2, hfa, hfb⟩ := fld_at hr hqf
      have hfq : ∀ j (hj : j < fs.length), cellAt h id2 (off2 + j * 2) = some (.string ⟨⟨(fs[j]).1⟩⟩) := fun j hj => by
        obtain ⟨id3, off3, e, -, -, e3, -⟩ := fld_at hr hj
        injection e with e
        injection e with e1 e2
        subst e1; subst e2
        exact e3
      obtain ⟨f, hff⟩ : ∃ f, fs[q] = f := ⟨_, rfl⟩
      obtain ⟨s, ty⟩ := f
      rw [hff] at hf2 hfa hfb
      dsimp only at hf2 hfa hfb
      have htk : (fs.take (q + 1)) = fs.take q ++ [(s, ty)] := by rw [List.take_succ_eq_append_getElem hqf, hff]
      cases hnm : namedB s
      · have hno : flB fs = false := flB_no hqf (by rw [hff]; exact hnm)
        (repeat' first | (with_reducible first | apply x_seq | apply k_then | apply x_block | apply x_skip | apply x_ret | apply x_exit | apply x_label | apply k_pass | apply k_hit | apply k_miss rfl | apply k_out | apply k_turned | refine x_text fun K' hK => ?_) | ((with_reducible apply o_nil); refine hK _ _ _ ?_; clear hK) | ((with_reducible apply o_callF (g := 48) w_none); (case ha => (simp (disch := first | assumption | omega | rfl | decide) only [go_sem, seval, tys] <;> rfl)); (case hs => exact rnamed_ev (hk := hk) ..); (case' hk => rintro _ h' n' ⟨rfl, rfl, rfl⟩)) | ((first | ((with_reducible apply o_pure w_none); (case hp => exact rfl); (case' he => intro h n)) | (with_reducible first | apply o_eff w_none | apply o_guard rfl | apply x_cond | apply k_e1 rfl | apply k_e2 rfl | apply k_e0 rfl | apply k_e3 rfl | apply k_e4 rfl)); (case he => (simp (disch := first | assumption | omega | rfl | decide) only [go_sem, seval, tys, hfa, hnm] <;> rfl)); (try (case hok => first | exact rfl | exact ok_w (by omega) rfl)); all_goals (try (intro hb; (try (simp only [hbs, reduceCtorEq] at hb)); try (exfalso; omega)))) | ((with_reducible apply o_undef rfl); (case hb => (simp (disch := first | assumption | omega | rfl | decide) only [go_sem, seval, tys]))))
        all_goals exact sw_flat rfl rfl ⟨by rw [hno]; rfl, rfl, rfl⟩
      · (repeat' first | (with_reducible first | apply x_seq | apply k_then | apply x_block | apply x_skip | apply x_ret | apply x_exit | apply x_label | apply k_pass | apply k_hit | apply k_miss rfl | apply k_out | apply k_turned | refine x_text fun K' hK => ?_) | ((with_reducible apply o_nil); refine hK _ _ _ ?_; clear hK) | ((with_reducible apply o_callF (g := 48) w_none); (case ha => (simp (disch := first | assumption | omega | rfl | decide) only [go_sem, seval, tys] <;> rfl)); (case hs => exact rnamed_ev (hk := hk) ..); (case' hk => rintro _ h' n' ⟨rfl, rfl, rfl⟩)) | ((first | ((with_reducible apply o_pure w_none); (case hp => exact rfl); (case' he => intro h n)) | (with_reducible first | apply o_eff w_none | apply o_guard rfl | apply x_cond | apply k_e1 rfl | apply k_e2 rfl | apply k_e0 rfl | apply k_e3 rfl | apply k_e4 rfl)); (case he => (simp (disch := first | assumption | omega | rfl | decide) only [go_sem, seval, tys, hfa, hnm] <;> rfl)); (try (case hok => first | exact rfl | exact ok_w (by omega) rfl)); all_goals (try (intro hb; (try (simp only [hbs, reduceCtorEq] at hb)); try (exfalso; omega)))) | ((with_reducible apply o_undef rfl); (case hb => (simp (disch := first | assumption | omega | rfl | decide) only [go_sem, seval, tys]))))
        refine x_loopF [4, 6, 24, 25, 26, 27, 28, 29, 30, 31, 32, 33, 34, 35, 36, 37, 38, 39] [6] (fun m vs => ∃ j : Nat, m = q - j ∧ j ≤ q ∧ vs = [.int .i64 j] ∧ s ∉ (fs.take j).map (·.1)) q rfl (by omega) ⟨0, rfl, by omega, by simp (disch := first | assumption | omega | rfl | decide) only [go_sem, seval, tys] <;> rfl, by simp⟩ ?_
        rintro m g2 _ ⟨j, rfl, hj, rfl, hni⟩
        by_cases hjq : j < q
        · have hfj := hfq j (by omega)
          cases hst : decide ((fs[j]'(by omega)).1 = s)
          · have hst' := of_decide_eq_false hst
            (repeat' first | (with_reducible first | apply x_seq | apply k_then | apply x_block | apply x_skip | apply x_ret | apply x_exit | apply x_label | apply k_pass | apply k_hit | apply k_miss rfl | apply k_out | apply k_turned | refine x_text fun K' hK => ?_) | ((with_reducible apply o_nil); refine hK _ _ _ ?_; clear hK) | (with_reducible refine x_drawnD (id := 11) [(4, 9)] (by kernel_rfl) fun K' hK => ?_) | ((with_reducible apply d_nil); (case hp => (simp (disch := omega) only [pairsOk, List.all_cons, List.all_nil, List.reverse_cons, List.reverse_nil, List.nil_append, List.cons_append, lget_zero, lget_succ, apartB, touches, made_mm, made_lt, made_ge, all_true, ble_t, ble_f, blt_t, blt_f, beq_f, List.contains_cons, List.contains_nil, Bool.and_true, Bool.true_and, Bool.and_false, Bool.false_and, Bool.or_false, Bool.false_or, Bool.not_false, Bool.not_true, beq_self_eq_true])); (case' hx => (refine hK _ _ _ ?_; clear hK))) | ((with_reducible apply d_pure w_none); (case hp => exact rfl); (case hc => exact rfl); (case he => (intro h n; simp (disch := first | assumption | omega | rfl | decide) only [go_sem, seval, tys, hfa, hfj, hst, b_strq] <;> rfl))) | ((with_reducible apply d_eff w_none); (case hc => exact rfl); (case he => (simp (disch := first | assumption | omega | rfl | decide) only [go_sem, seval, tys, hfa, hfj, hst, b_strq] <;> rfl)); (case hok => first | exact rfl | exact ok_w (by omega) rfl)) | ((with_reducible apply d_guard rfl); (case hb => (simp (disch := first | assumption | omega | rfl | decide) only [go_sem, seval, tys, hfa, hfj, hst, b_strq] <;> rfl)); (case' h1 => intro hb; (try (simp only [hbs, reduceCtorEq] at hb)); try (exfalso; omega)); (case' h2 => intro hb; (try (simp only [hbs, reduceCtorEq] at hb)); try (exfalso; omega))) | ((first | ((with_reducible apply o_pure w_none); (case hp => exact rfl); (case' he => intro h n)) | (with_reducible first | apply o_eff w_none | apply o_guard rfl | apply x_cond | apply k_e1 rfl | apply k_e2 rfl | apply k_e0 rfl | apply k_e3 rfl | apply k_e4 rfl)); (case he => (simp (disch := first | assumption | omega | rfl | decide) only [go_sem, seval, tys, hfa, hfj, hst, b_strq] <;> rfl)); (try (case hok => first | exact rfl | exact ok_w (by omega) rfl)); all_goals (try (intro hb; (try (simp only [hbs, reduceCtorEq] at hb)); try (exfalso; omega)))) | ((with_reducible apply o_undef rfl); (case hb => (simp (disch := first | assumption | omega | rfl | decide) only [go_sem, seval, tys]))))
            refine k_round (q - (j + 1)) (by omega) ⟨⟨rfl, rfl⟩, j + 1, rfl, by omega, by simp (disch := first | assumption | omega | rfl | decide) only [go_sem, seval, tys] <;> rfl, ?_⟩
            rw [List.take_succ_eq_append_getElem (by omega), List.map_append, List.mem_append]
            rintro (hh | hh)
            · exact hni hh
            · simp at hh; exact hst' hh.symm
          · have hno : flB fs = false := flB_dup hqf hjq (by rw [hff]; exact of_decide_eq_true hst)
            (repeat' first | (with_reducible first | apply x_seq | apply k_then | apply x_block | apply x_skip | apply x_ret | apply x_exit | apply x_label | apply k_pass | apply k_hit | apply k_miss rfl | apply k_out | apply k_turned | refine x_text fun K' hK => ?_) | ((with_reducible apply o_nil); refine hK _ _ _ ?_; clear hK) | (with_reducible refine x_drawnD (id := 11) [(4, 9)] (by kernel_rfl) fun K' hK => ?_) | ((with_reducible apply d_nil); (case hp => (simp (disch := omega) only [pairsOk, List.all_cons, List.all_nil, List.reverse_cons, List.reverse_nil, List.nil_append, List.cons_append, lget_zero, lget_succ, apartB, touches, made_mm, made_lt, made_ge, all_true, ble_t, ble_f, blt_t, blt_f, beq_f, List.contains_cons, List.contains_nil, Bool.and_true, Bool.true_and, Bool.and_false, Bool.false_and, Bool.or_false, Bool.false_or, Bool.not_false, Bool.not_true, beq_self_eq_true])); (case' hx => (refine hK _ _ _ ?_; clear hK))) | ((with_reducible apply d_pure w_none); (case hp => exact rfl); (case hc => exact rfl); (case he => (intro h n; simp (disch := first | assumption | omega | rfl | decide) only [go_sem, seval, tys, hfa, hfj, hst, b_strq] <;> rfl))) | ((with_reducible apply d_eff w_none); (case hc => exact rfl); (case he => (simp (disch := first | assumption | omega | rfl | decide) only [go_sem, seval, tys, hfa, hfj, hst, b_strq] <;> rfl)); (case hok => first | exact rfl | exact ok_w (by omega) rfl)) | ((with_reducible apply d_guard rfl); (case hb => (simp (disch := first | assumption | omega | rfl | decide) only [go_sem, seval, tys, hfa, hfj, hst, b_strq] <;> rfl)); (case' h1 => intro hb; (try (simp only [hbs, reduceCtorEq] at hb)); try (exfalso; omega)); (case' h2 => intro hb; (try (simp only [hbs, reduceCtorEq] at hb)); try (exfalso; omega))) | ((first | ((with_reducible apply o_pure w_none); (case hp => exact rfl); (case' he => intro h n)) | (with_reducible first | apply o_eff w_none | apply o_guard rfl | apply x_cond | apply k_e1 rfl | apply k_e2 rfl | apply k_e0 rfl | apply k_e3 rfl | apply k_e4 rfl)); (case he => (simp (disch := first | assumption | omega | rfl | decide) only [go_sem, seval, tys, hfa, hfj, hst, b_strq] <;> rfl)); (try (case hok => first | exact rfl | exact ok_w (by omega) rfl)); all_goals (try (intro hb; (try (simp only [hbs, reduceCtorEq] at hb)); try (exfalso; omega)))) | ((with_reducible apply o_undef rfl); (case hb => (simp (disch := first | assumption | omega | rfl | decide) only [go_sem, seval, tys]))))
            all_goals exact sw_flat rfl rfl ⟨by rw [hno]; rfl, rfl, rfl⟩
        · obtain rfl : j = q := by omega
          (repeat' first | (with_reducible first | apply x_seq | apply k_then | apply x_block | apply x_skip | apply x_ret | apply x_exit | apply x_label | apply k_pass | apply k_hit | apply k_miss rfl | apply k_out | apply k_turned | refine x_text fun K' hK => ?_) | ((with_reducible apply o_nil); refine hK _ _ _ ?_; clear hK) | fail | ((first | ((with_reducible apply o_pure w_none); (case hp => exact rfl); (case' he => intro h n)) | (with_reducible first | apply o_eff w_none | apply o_guard rfl | apply x_cond | apply k_e1 rfl | apply k_e2 rfl | apply k_e0 rfl | apply k_e3 rfl | apply k_e4 rfl)); (case he => (simp (disch := first | assumption | omega | rfl | decide) only [go_sem, seval, tys] <;> rfl)); (try (case hok => first | exact rfl | exact ok_w (by omega) rfl)); all_goals (try (intro hb; (try (simp only [hbs, reduceCtorEq] at hb)); try (exfalso; omega)))) | ((with_reducible apply o_undef rfl); (case hb => (simp (disch := first | assumption | omega | rfl | decide) only [go_sem, seval, tys]))))
          refine k_round (fs.length - (j + 1)) (by omega) ⟨⟨rfl, rfl⟩, j + 1, rfl, by omega, by simp (disch := first | assumption | omega | rfl | decide) only [go_sem, seval, tys] <;> rfl, ?_, ?_⟩
          · rw [htk, List.all_append, hall]
            simp [hnm]
          · rw [htk, List.map_append, List.nodup_append]
            refine ⟨hnd, by simp, ?_⟩
            intro a ha b hb
            simp at hb
            subst hb
            intro e
            exact hni (e ▸ ha)
    · obtain rfl : q = fs.length := by omega
      rw [List.take_length] at hall hnd
      (repeat' first | (with_reducible first | apply x_seq | apply k_then | apply x_block | apply x_skip | apply x_ret | apply x_exit | apply x_label | apply k_pass | apply k_hit | apply k_miss rfl | apply k_out | apply k_turned | refine x_text fun K' hK => ?_) | ((with_reducible apply o_nil); refine hK _ _ _ ?_; clear hK) | fail | ((first | ((with_reducible apply o_pure w_none); (case hp => exact rfl); (case' he => intro h n)) | (with_reducible first | apply o_eff w_none | apply o_guard rfl | apply x_cond | apply k_e1 rfl | apply k_e2 rfl | apply k_e0 rfl | apply k_e3 rfl | apply k_e4 rfl)); (case he => (simp (disch := first | assumption | omega | rfl | decide) only [go_sem, seval, tys] <;> rfl)); (try (case hok => first | exact rfl | exact ok_w (by omega) rfl)); all_goals (try (intro hb; (try (simp only [hbs, reduceCtorEq] at hb)); try (exfalso; omega)))) | ((with_reducible apply o_undef rfl); (case hb => (simp (disch := first | assumption | omega | rfl | decide) only [go_sem, seval, tys]))))
      all_goals exact sw_flat rfl rfl ⟨by congr 1; unfold flB; rw [hall, decide_eq_true hnd]; rfl, rfl, rfl⟩
  · rw [decide_eq_false h8]
    (repeat' first | (with_reducible first | apply x_seq | apply k_then | apply x_block | apply x_skip | apply x_ret | apply x_exit | apply x_label | apply k_pass | apply k_hit | apply k_miss rfl | apply k_out | apply k_turned | refine x_text fun K' hK => ?_) | ((with_reducible apply o_nil); refine hK _ _ _ ?_; clear hK) | fail | ((first | ((with_reducible apply o_pure w_none); (case hp => exact rfl); (case' he => intro h n)) | (with_reducible first | apply o_eff w_none | apply o_guard rfl | apply x_cond | apply k_e1 rfl | apply k_e2 rfl | apply k_e0 rfl | apply k_e3 rfl | apply k_e4 rfl)); (case he => (simp (disch := first | assumption | omega | rfl | decide) only [go_sem, seval, tys] <;> rfl)); (try (case hok => first | exact rfl | exact ok_w (by omega) rfl)); all_goals (try (intro hb; (try (simp only [hbs, reduceCtorEq] at hb)); try (exfalso; omega)))) | ((with_reducible apply o_undef rfl); (case hb => (simp (disch := first | assumption | omega | rfl | decide) only [go_sem, seval, tys]))))
    all_goals exact sw_flat rfl rfl ⟨rfl, rfl, rfl⟩
end Go.Proofs.Ytgdokjfjmcleeaa.Ce
namespace Go.Proofs.Ytgdokjfjmcleeaa.Ce
open Go.RowKit
set_option linter.unusedVariables false
set_option linter.unusedSimpArgs false


set_option maxRecDepth 100000
set_option maxHeartbeats 2000000

variable (k d cl : Nat) (h : Hp) (n : Nat)
theorem rfine_a (hk : 30000 ≤ k) (A : Option Addr) (T : List Tp) (c : Nat) (hT : TabH h n A T) (i : Nat) (hi : i < T.length) (hl : T.length ≤ 100) (h5 : T[i].kd ≠ 5) :
    Sp Try.prog (acall Try.prog WW k (d + 4)) cl 78 [.slice A T.length c, .int .i64 i] h n fun v h' n' => v = .bool (fineB T.length i T[i]) ∧ h' = h ∧ n' = n := by
  obtain ⟨id, off, rfl, hid, ht4, ht0, ht1, ht2, ht3⟩ := hT.at_ hi
  have hfd := hT.fd _ (List.getElem_mem hi)
  have hbd := hT.bd _ (List.getElem_mem hi)
  obtain ⟨t, htt⟩ : ∃ t, T[i] = t := ⟨_, rfl⟩
  rw [htt] at h5 ht4 ht0 ht1 ht2 ht3 hfd hbd ⊢
  obtain ⟨kd, el, ln, fs, FA, fc⟩ := t
  dsimp only at h5 ht4 ht0 ht1 ht2 ht3 hfd
  refine enter Try.func78 (by kernel_rfl) rfl (by kernel_rfl) rfl rfl rfl ?_
  by_cases h123 : kd = 1 ∨ kd = 2 ∨ kd = 3
  · have hf := @fineB_123 T.length i ⟨kd, el, ln, fs, FA, fc⟩ h123
    dsimp only at hf
    rcases h123 with rfl | rfl | rfl
    all_goals
      (repeat' first | (with_reducible first | apply x_seq | apply k_then | apply x_block | apply x_skip | apply x_ret | apply x_exit | apply x_label | apply k_pass | apply k_hit | apply k_miss rfl | apply k_out | apply k_turned | refine x_text fun K' hK => ?_) | ((with_reducible apply o_nil); refine hK _ _ _ ?_; clear hK) | fail | ((first | ((with_reducible apply o_pure w_none); (case hp => exact rfl); (case' he => intro h n)) | (with_reducible first | apply o_eff w_none | apply o_guard rfl | apply x_cond | apply k_e1 rfl | apply k_e2 rfl | apply k_e0 rfl | apply k_e3 rfl | apply k_e4 rfl)); (case he => (simp (disch := first | assumption | omega | rfl | decide) only [go_sem, seval, tys, ht4] <;> rfl)); (try (case hok => first | exact rfl | exact ok_w (by omega) rfl)); all_goals (try (intro hb; (try (simp only [hbs, reduceCtorEq] at hb)); try (exfalso; omega)))) | ((with_reducible apply o_undef rfl); (case hb => (simp (disch := first | assumption | omega | rfl | decide) only [go_sem, seval, tys]))))
      all_goals exact sw_flat rfl rfl ⟨by rw [hf]; congr 1; rw [Bool.eq_iff_iff]; simp only [decide_eq_true_eq, Bool.and_eq_true, List.all_cons, List.all_nil, Bool.and_true, beq_iff_eq]; (try simp only [Bool.false_eq_true, false_iff, iff_false]); omega, rfl, rfl⟩
  · by_cases h47 : kd = 4 ∨ kd = 7
    · have hf := @fineB_47 T.length i ⟨kd, el, ln, fs, FA, fc⟩ h47
      dsimp only at hf
      rcases h47 with rfl | rfl
      all_goals
        (repeat' first | (with_reducible first | apply x_seq | apply k_then | apply x_block | apply x_skip | apply x_ret | apply x_exit | apply x_label | apply k_pass | apply k_hit | apply k_miss rfl | apply k_out | apply k_turned | refine x_text fun K' hK => ?_) | ((with_reducible apply o_nil); refine hK _ _ _ ?_; clear hK) | fail | ((first | ((with_reducible apply o_pure w_none); (case hp => exact rfl); (case' he => intro h n)) | (with_reducible first | apply o_eff w_none | apply o_guard rfl | apply x_cond | apply k_e1 rfl | apply k_e2 rfl | apply k_e0 rfl | apply k_e3 rfl | apply k_e4 rfl)); (case he => (simp (disch := first | assumption | omega | rfl | decide) only [go_sem, seval, tys, ht4] <;> rfl)); (try (case hok => first | exact rfl | exact ok_w (by omega) rfl)); all_goals (try (intro hb; (try (simp only [hbs, reduceCtorEq] at hb)); try (exfalso; omega)))) | ((with_reducible apply o_undef rfl); (case hb => (simp (disch := first | assumption | omega | rfl | decide) only [go_sem, seval, tys]))))
        all_goals exact sw_flat rfl rfl ⟨by rw [hf]; congr 1; rw [Bool.eq_iff_iff]; simp only [decide_eq_true_eq, Bool.and_eq_true, List.all_cons, List.all_nil, Bool.and_true, beq_iff_eq]; (try simp only [Bool.false_eq_true, false_iff, iff_false]); omega, rfl, rfl⟩
    · by_cases h6 : kd = 6
      · have hf := @fineB_6 T.length i ⟨kd, el, ln, fs, FA, fc⟩ h6
        dsimp only at hf
        subst h6
        (repeat' first | (with_reducible first | apply x_seq | apply k_then | apply x_block | apply x_skip | apply x_ret | apply x_exit | apply x_label | apply k_pass | apply k_hit | apply k_miss rfl | apply k_out | apply k_turned | refine x_text fun K' hK => ?_) | ((with_reducible apply o_nil); refine hK _ _ _ ?_; clear hK) | fail | ((first | ((with_reducible apply o_pure w_none); (case hp => exact rfl); (case' he => intro h n)) | (with_reducible first | apply o_eff w_none | apply o_guard rfl | apply x_cond | apply k_e1 rfl | apply k_e2 rfl | apply k_e0 rfl | apply k_e3 rfl | apply k_e4 rfl)); (case he => (simp (disch := first | assumption | omega | rfl | decide) only [go_sem, seval, tys, ht4] <;> rfl)); (try (case hok => first | exact rfl | exact ok_w (by omega) rfl)); all_goals (try (intro hb; (try (simp only [hbs, reduceCtorEq] at hb)); try (exfalso; omega)))) | ((with_reducible apply o_undef rfl); (case hb => (simp (disch := first | assumption | omega | rfl | decide) only [go_sem, seval, tys]))))
        all_goals exact sw_flat rfl rfl ⟨by rw [hf]; congr 1; rw [Bool.eq_iff_iff]; simp only [decide_eq_true_eq, Bool.and_eq_true, List.all_cons, List.all_nil, Bool.and_true, beq_iff_eq]; (try simp only [Bool.false_eq_true, false_iff, iff_false]); omega, rfl, rfl⟩
      · have hf : fineB T.length i ⟨kd, el, ln, fs, FA, fc⟩ = false := fineB_no (by dsimp only; omega)
        (repeat' first | (with_reducible first | apply x_seq | apply k_then | apply x_block | apply x_skip | apply x_ret | apply x_exit | apply x_label | apply k_pass | apply k_hit | apply k_miss rfl | apply k_out | apply k_turned | refine x_text fun K' hK => ?_) | ((with_reducible apply o_nil); refine hK _ _ _ ?_; clear hK) | fail | ((first | ((with_reducible apply o_pure w_none); (case hp => exact rfl); (case' he => intro h n)) | (with_reducible first | apply o_eff w_none | apply o_guard rfl | apply x_cond | apply k_e1 rfl | apply k_e2 rfl | apply k_e0 rfl | apply k_e3 rfl | apply k_e4 rfl)); (case he => (simp (disch := first | assumption | omega | rfl | decide) only [go_sem, seval, tys, ht4] <;> rfl)); (try (case hok => first | exact rfl | exact ok_w (by omega) rfl)); all_goals (try (intro hb; (try (simp only [hbs, reduceCtorEq] at hb)); try (exfalso; omega)))) | ((with_reducible apply o_undef rfl); (case hb => (simp (disch := first | assumption | omega | rfl | decide) only [go_sem, seval, tys]))))
        all_goals exact sw_flat rfl rfl ⟨by rw [hf], rfl, rfl⟩
theorem rfine_b (hk : 30000 ≤ k) (A : Option Addr) (T : List Tp) (c : Nat) (hT : TabH h n A T) (i : Nat) (hi : i < T.length) (hl : T.length ≤ 100) (hl2 : T[i].fs.length ≤ 20000) (h5 : T[i].kd = 5) :
    Sp Try.prog (acall Try.prog WW k (d + 4)) cl 78 [.slice A T.length c, .int .i64 i] h n fun v h' n' => v = .bool (fineB T.length i T[i]) ∧ h' = h ∧ n' = n := by
  obtain ⟨id, off, rfl, hid, ht4, ht0, ht1, ht2, ht3⟩ := hT.at_ hi
  have hfd := hT.fd _ (List.getElem_mem hi)
  have hbd := hT.bd _ (List.getElem_mem hi)
  obtain ⟨t, htt⟩ : ∃ t, T[i] = t := ⟨_, rfl⟩
  rw [htt] at h5 hl2 ht4 ht0 ht1 ht2 ht3 hfd hbd ⊢
  obtain ⟨kd, el, ln, fs, FA, fc⟩ := t
  dsimp only at h5 hl2 ht4 ht0 ht1 ht2 ht3 hfd
  subst h5
  have hf5 := @fineB_5 T.length i ⟨5, el, ln, fs, FA, fc⟩ rfl
  dsimp only at hf5
  rw [fldsB_eq] at hf5
  refine enter Try.func78 (by kernel_rfl) rfl (by kernel_rfl) rfl rfl rfl ?_
  (repeat' first | (with_reducible first | apply x_seq | apply k_then | apply x_block | apply x_skip | apply x_ret | apply x_exit | apply x_label | apply k_pass | apply k_hit | apply k_miss rfl | apply k_out | apply k_turned | refine x_text fun K' hK => ?_) | ((with_reducible apply o_nil); refine hK _ _ _ ?_; clear hK) | fail | ((first | ((with_reducible apply o_pure w_none); (case hp => exact rfl); (case' he => intro h n)) | (with_reducible first | apply o_eff w_none | apply o_guard rfl | apply x_cond | apply k_e1 rfl | apply k_e2 rfl | apply k_e0 rfl | apply k_e3 rfl | apply k_e4 rfl)); (case he => (simp (disch := first | assumption | omega | rfl | decide) only [go_sem, seval, tys, ht4] <;> rfl)); (try (case hok => first | exact rfl | exact ok_w (by omega) rfl)); all_goals (try (intro hb; (try (simp only [hbs, reduceCtorEq] at hb)); try (exfalso; omega)))) | ((with_reducible apply o_undef rfl); (case hb => (simp (disch := first | assumption | omega | rfl | decide) only [go_sem, seval, tys]))))
  refine x_loopF [4, 6, 84, 85, 86, 87, 88, 89, 90, 91, 92, 93, 94, 95, 96, 97, 98, 99, 100, 101, 102, 103, 104, 105, 106, 107] [6] (fun m vs => ∃ q : Nat, m = fs.length - q ∧ q ≤ fs.length ∧ vs = [.int .i64 q] ∧ (fs.take q).all (fun f => decide (0 ≤ f.2 ∧ f.2 < (i : Int))) = true) fs.length rfl (by omega) ⟨0, rfl, by omega, by simp (disch := first | assumption | omega | rfl | decide) only [go_sem, seval, tys] <;> rfl, rfl⟩ ?_
  rintro m g _ ⟨q, rfl, hq, rfl, hall⟩
  by_cases hqf : q < fs.length
  · obtain ⟨id2, off2, rfl, hid2, hf2, hfa, hfb⟩ := fld_at hfd hqf
    obtain ⟨f, hff⟩ : ∃ f, fs[q] = f := ⟨_, rfl⟩
    obtain ⟨s, ty⟩ := f
    rw [hff] at hf2 hfa hfb
    dsimp only at hf2 hfa hfb
    have htk : (fs.take (q + 1)) = fs.take q ++ [(s, ty)] := by rw [List.take_succ_eq_append_getElem hqf, hff]
    by_cases hw : 0 ≤ ty ∧ ty < (i : Int)
    · (repeat' first | (with_reducible first | apply x_seq | apply k_then | apply x_block | apply x_skip | apply x_ret | apply x_exit | apply x_label | apply k_pass | apply k_hit | apply k_miss rfl | apply k_out | apply k_turned | refine x_text fun K' hK => ?_) | ((with_reducible apply o_nil); refine hK _ _ _ ?_; clear hK) | fail | ((first | ((with_reducible apply o_pure w_none); (case hp => exact rfl); (case' he => intro h n)) | (with_reducible first | apply o_eff w_none | apply o_guard rfl | apply x_cond | apply k_e1 rfl | apply k_e2 rfl | apply k_e0 rfl | apply k_e3 rfl | apply k_e4 rfl)); (case he => (simp (disch := first | assumption | omega | rfl | decide) only [go_sem, seval, tys, hfb] <;> rfl)); (try (case hok => first | exact rfl | exact ok_w (by omega) rfl)); all_goals (try (intro hb; (try (simp only [hbs, reduceCtorEq] at hb)); try (exfalso; omega)))) | ((with_reducible apply o_undef rfl); (case hb => (simp (disch := first | assumption | omega | rfl | decide) only [go_sem, seval, tys]))))
      refine k_round (fs.length - (q + 1)) (by omega) ⟨⟨rfl, rfl⟩, q + 1, rfl, by omega, by simp (disch := first | assumption | omega | rfl | decide) only [go_sem, seval, tys] <;> rfl, ?_⟩
      rw [htk, List.all_append, hall]
      simp [hw]
    · have hno : fs.all (fun f => decide (0 ≤ f.2 ∧ f.2 < (i : Int))) = false := by
        rw [List.all_eq_false]
        exact ⟨fs[q], List.getElem_mem _, by rw [hff]; simpa using hw⟩
      (repeat' first | (with_reducible first | apply x_seq | apply k_then | apply x_block | apply x_skip | apply x_ret | apply x_exit | apply x_label | apply k_pass | apply k_hit | apply k_miss rfl | apply k_out | apply k_turned | refine x_text fun K' hK => ?_) | ((with_reducible apply o_nil); refine hK _ _ _ ?_; clear hK) | fail | ((first | ((with_reducible apply o_pure w_none); (case hp => exact rfl); (case' he => intro h n)) | (with_reducible first | apply o_eff w_none | apply o_guard rfl | apply x_cond | apply k_e1 rfl | apply k_e2 rfl | apply k_e0 rfl | apply k_e3 rfl | apply k_e4 rfl)); (case he => (simp (disch := first | assumption | omega | rfl | decide) only [go_sem, seval, tys, hfb] <;> rfl)); (try (case hok => first | exact rfl | exact ok_w (by omega) rfl)); all_goals (try (intro hb; (try (simp only [hbs, reduceCtorEq] at hb)); try (exfalso; omega)))) | ((with_reducible apply o_undef rfl); (case hb => (simp (disch := first | assumption | omega | rfl | decide) only [go_sem, seval, tys]))))
      all_goals exact sw_flat rfl rfl ⟨by rw [hf5, hno]; rfl, rfl, rfl⟩
  · obtain rfl : q = fs.length := by omega
    rw [List.take_length] at hall
    have hz : decide (el = 0 ∧ ln = 0 ∧ 0 < fs.length ∧ fs.length ≤ 8) = (decide (el = 0 ∧ ln = 0 ∧ (0 : Int) < fs.length) && decide (fs.length ≤ 8)) := by
      rw [Bool.eq_iff_iff]; simp only [decide_eq_true_eq, Bool.and_eq_true, List.all_cons, List.all_nil, Bool.and_true, beq_iff_eq]; omega
    rw [hall, hz, Bool.true_and] at hf5
    cases hfl : flB fs
    all_goals
      rw [hfl] at hf5
      cases h8 : decide (fs.length ≤ 8)
      all_goals
        rw [h8] at hf5
        (repeat' first | (with_reducible first | apply x_seq | apply k_then | apply x_block | apply x_skip | apply x_ret | apply x_exit | apply x_label | apply k_pass | apply k_hit | apply k_miss rfl | apply k_out | apply k_turned | refine x_text fun K' hK => ?_) | ((with_reducible apply o_nil); refine hK _ _ _ ?_; clear hK) | ((with_reducible apply o_callF (g := 89) w_none); (case ha => (simp (disch := first | assumption | omega | rfl | decide) only [go_sem, seval, tys] <;> rfl)); (case hs => ((with_reducible apply rfields_ev (fs := fs)); (case hr => (refine RdH.more (B := n) ?_ (by omega); (repeat' (first | with_reducible exact hfd | with_reducible refine RdH.set ?_ (by omega) _)))); (all_goals omega))); (case' hk => rintro _ h' n' ⟨rfl, rfl, rfl⟩)) | ((first | ((with_reducible apply o_pure w_none); (case hp => exact rfl); (case' he => intro h n)) | (with_reducible first | apply o_eff w_none | apply o_guard rfl | apply x_cond | apply k_e1 rfl | apply k_e2 rfl | apply k_e0 rfl | apply k_e3 rfl | apply k_e4 rfl)); (case he => (simp (disch := first | assumption | omega | rfl | decide) only [go_sem, seval, tys, hfl, h8] <;> rfl)); (try (case hok => first | exact rfl | exact ok_w (by omega) rfl)); all_goals (try (intro hb; (try (simp only [hbs, reduceCtorEq] at hb)); try (exfalso; omega)))) | ((with_reducible apply o_undef rfl); (case hb => (simp (disch := first | assumption | omega | rfl | decide) only [go_sem, seval, tys]))))
        all_goals exact sw_flat rfl rfl ⟨by rw [hf5]; first | rfl | (refine congrArg Value.bool ?_; rw [Bool.eq_iff_iff]; simp only [decide_eq_true_eq, Bool.and_eq_true, Bool.false_eq_true, and_false, false_and, false_iff, iff_false, and_true, true_and, beq_iff_eq, iff_self, true_iff, iff_true]; done) | (refine congrArg Value.bool ?_; rw [Bool.eq_iff_iff]; simp only [decide_eq_true_eq, Bool.and_eq_true, Bool.false_eq_true, and_false, false_and, false_iff, iff_false, and_true, true_and, beq_iff_eq, iff_self, true_iff, iff_true]; omega), rfl, rfl⟩
theorem rfine_ev (hk : 30000 ≤ k) (A : Option Addr) (T : List Tp) (c : Nat) (hT : TabH h n A T) (i : Nat) (hi : i < T.length) (hl : T.length ≤ 100) (hl2 : T[i].fs.length ≤ 20000) :
    Sp Try.prog (acall Try.prog WW k (d + 4)) cl 78 [.slice A T.length c, .int .i64 i] h n fun v h' n' => v = .bool (fineB T.length i T[i]) ∧ h' = h ∧ n' = n := by
  by_cases h5 : T[i].kd = 5
  · exact rfine_b k d cl h n hk A T c hT i hi hl hl2 h5
  · exact rfine_a k d cl h n hk A T c hT i hi hl h5
end Go.Proofs.Ytgdokjfjmcleeaa.Ce
