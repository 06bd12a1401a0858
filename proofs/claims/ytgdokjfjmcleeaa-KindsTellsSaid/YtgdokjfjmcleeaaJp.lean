/- Whether two types look the same, by the answer: a symbolic run. -/
import Derived.Test.YtgdokjfjmcleeaaJq
import Derived.Test.YtgdokjfjmcleeaaJx
namespace Go.Proofs.Ytgdokjfjmcleeaa.Ce
open Go.RowKit
set_option linter.unusedVariables false
set_option linter.unusedSimpArgs false
set_option maxRecDepth 100000
set_option maxHeartbeats 2000000

variable (k d cl : Nat) (h : Hp) (n : Nat)
theorem rshape_ev (hk : 30000 ≤ k) (t u : Tp) (hl : t.fs.length ≤ 20000) (h1 : RdH h n t.A (fv t.fs)) (h2 : RdH h n u.A (fv u.fs)) :
    Sp Try.prog (acall Try.prog WW k (d + 1)) cl 55 [.agg ⟨[.int .u8 t.kd, .int .i64 t.el, .int .i64 t.ln, .slice t.A t.fs.length t.c]⟩, .agg ⟨[.int .u8 u.kd, .int .i64 u.el, .int .i64 u.ln, .slice u.A u.fs.length u.c]⟩] h n fun v h' n' => v = .bool (shpB t u) ∧ h' = h ∧ n' = n := by
  by_cases hh : t.kd = u.kd ∧ t.ln = u.ln ∧ t.fs.length = u.fs.length
  · obtain ⟨s1, s2, hlen⟩ := hh
    refine enter Try.func55 (by kernel_rfl) rfl (by kernel_rfl) rfl rfl rfl ?_
    (repeat' first | (with_reducible first | apply x_seq | apply k_then | apply x_block | apply x_skip | apply x_ret | apply x_exit | apply x_label | apply k_pass | apply k_hit | apply k_miss rfl | apply k_out | apply k_turned | refine x_text fun K' hK => ?_) | ((with_reducible apply o_nil); refine hK _ _ _ ?_; clear hK) | fail | ((first | ((with_reducible apply o_pure w_none); (case hp => exact rfl); (case' he => intro h n)) | (with_reducible first | apply o_eff w_none | apply o_guard rfl | apply x_cond | apply k_e1 rfl | apply k_e2 rfl | apply k_e0 rfl | apply k_e3 rfl | apply k_e4 rfl)); (case he => (simp (disch := first | assumption | omega | rfl | decide) only [go_sem, seval, tys] <;> rfl)); (try (case hok => first | exact rfl | exact ok_w (by omega) rfl)); all_goals (try (intro hb; (try (simp only [hbs, reduceCtorEq] at hb)); try (exfalso; omega)))) | ((with_reducible apply o_undef rfl); (case hb => (simp (disch := first | assumption | omega | rfl | decide) only [go_sem, seval, tys]))))
    refine x_loopF [4, 5, 27, 28, 29, 30, 31, 32, 33, 34, 35, 36, 37, 38, 39, 40, 41, 42, 43, 44, 45, 46] [5] (fun m vs => ∃ q : Nat, m = t.fs.length - q ∧ q ≤ t.fs.length ∧ vs = [.int .i64 q] ∧ ∀ x (hx : x < q) (h1 : x < t.fs.length) (h2 : x < u.fs.length), (t.fs[x]).1 = (u.fs[x]).1) t.fs.length rfl (by omega) ⟨0, rfl, by omega, (by simp (disch := first | assumption | omega | rfl | decide) only [go_sem, seval, tys] <;> rfl), fun x hx => absurd hx (by omega)⟩ ?_
    rintro m g _ ⟨q, rfl, hq, rfl, hall⟩
    by_cases hql : q < t.fs.length
    · have hqu : q < u.fs.length := by omega
      have r1 : RdH ((h.set n (.row 60 false [.int .u8 t.kd, .int .i64 t.el, .int .i64 t.ln, .slice t.A t.fs.length t.c])).set (n + 1) (.row 60 false [.int .u8 u.kd, .int .i64 u.el, .int .i64 u.ln, .slice u.A u.fs.length u.c])) n t.A (fv t.fs) := (h1.set (Nat.le_refl _) _).set (by omega) _
      have r2 : RdH ((h.set n (.row 60 false [.int .u8 t.kd, .int .i64 t.el, .int .i64 t.ln, .slice t.A t.fs.length t.c])).set (n + 1) (.row 60 false [.int .u8 u.kd, .int .i64 u.el, .int .i64 u.ln, .slice u.A u.fs.length u.c])) n u.A (fv u.fs) := (h2.set (Nat.le_refl _) _).set (by omega) _
      obtain ⟨i1, o1, hA1, hi1, -, -, -⟩ := fld_at r1 hql
      obtain ⟨i2, o2, hA2, hi2, -, -, -⟩ := fld_at r2 hqu
      obtain ⟨_, _, hB1, -, -, e1, -⟩ := fld_at h1 hql
      obtain ⟨_, _, hB2, -, -, e2, -⟩ := fld_at h2 hqu
      rw [hA1] at hB1
      rw [hA2] at hB2
      injection hB1 with hB1
      injection hB1 with z1 z2
      subst z1; subst z2
      injection hB2 with hB2
      injection hB2 with z1 z2
      subst z1; subst z2
      by_cases hnm : (t.fs[q]).1 = (u.fs[q]).1
      · have hall2 : ∀ x (hx : x < q + 1) (h1 : x < t.fs.length) (h2 : x < u.fs.length), (t.fs[x]).1 = (u.fs[x]).1 := fun x hx h1 h2 => by
          by_cases e : x < q
          · exact hall x e h1 h2
          · obtain rfl : x = q := by omega
            exact hnm
        rw [hnm] at e1
        obtain ⟨nm, hnme⟩ : ∃ nm, (u.fs[q]).1 = nm := ⟨_, rfl⟩
        rw [hnme] at e1 e2
        have hbb : (nm == nm) = true := beq_self_eq_true _
        clear hall hnm
        (repeat' first | (with_reducible first | apply x_seq | apply k_then | apply x_block | apply x_skip | apply x_ret | apply x_exit | apply x_label | apply k_pass | apply k_hit | apply k_miss rfl | apply k_out | apply k_turned | refine x_text fun K' hK => ?_) | ((with_reducible apply o_nil); refine hK _ _ _ ?_; clear hK) | (with_reducible refine x_drawnD (id := 6) [(1, 7), (5, 7), (1, 11), (5, 11)] (by kernel_rfl) fun K' hK => ?_) | ((with_reducible apply d_nil); (case hp => (simp (disch := omega) only [pairsOk, List.all_cons, List.all_nil, List.reverse_cons, List.reverse_nil, List.nil_append, List.cons_append, lget_zero, lget_succ, apartB, touches, made_mm, made_lt, made_ge, all_true, ble_t, ble_f, blt_t, blt_f, beq_f, List.contains_cons, List.contains_nil, Bool.and_true, Bool.true_and, Bool.and_false, Bool.false_and, Bool.or_false, Bool.false_or, Bool.not_false, Bool.not_true, beq_self_eq_true])); (case' hx => (refine hK _ _ _ ?_; clear hK))) | ((with_reducible apply d_pure w_none); (case hp => exact rfl); (case hc => exact rfl); (case he => (intro h n; simp (disch := first | assumption | omega | rfl | decide) only [go_sem, seval, tys, hA1, hA2, e1, e2, b_strNeq, hbb, Bool.not_true] <;> rfl))) | ((with_reducible apply d_eff w_none); (case hc => exact rfl); (case he => (simp (disch := first | assumption | omega | rfl | decide) only [go_sem, seval, tys, hA1, hA2, e1, e2, b_strNeq, hbb, Bool.not_true] <;> rfl)); (case hok => first | exact rfl | exact ok_w (by omega) rfl)) | ((with_reducible apply d_guard rfl); (case hb => (simp (disch := first | assumption | omega | rfl | decide) only [go_sem, seval, tys, hA1, hA2, e1, e2, b_strNeq, hbb, Bool.not_true] <;> rfl)); (case' h1 => intro hb; (try (simp only [hbs, reduceCtorEq] at hb)); try (exfalso; omega)); (case' h2 => intro hb; (try (simp only [hbs, reduceCtorEq] at hb)); try (exfalso; omega))) | ((first | ((with_reducible apply o_pure w_none); (case hp => exact rfl); (case' he => intro h n)) | (with_reducible first | apply o_eff w_none | apply o_guard rfl | apply x_cond | apply k_e1 rfl | apply k_e2 rfl | apply k_e0 rfl | apply k_e3 rfl | apply k_e4 rfl)); (case he => (simp (disch := first | assumption | omega | rfl | decide) only [go_sem, seval, tys, hA1, hA2, e1, e2, b_strNeq, hbb, Bool.not_true] <;> rfl)); (try (case hok => first | exact rfl | exact ok_w (by omega) rfl)); all_goals (try (intro hb; (try (simp only [hbs, reduceCtorEq] at hb)); try (exfalso; omega)))) | ((with_reducible apply o_undef rfl); (case hb => (simp (disch := first | assumption | omega | rfl | decide) only [go_sem, seval, tys]))))
        refine k_round (t.fs.length - (q + 1)) (by omega) ⟨⟨by rw [hA1, hA2], rfl⟩, q + 1, rfl, by omega, (by simp (disch := first | assumption | omega | rfl | decide) only [go_sem, seval, tys] <;> rfl), hall2⟩
      · have hB : shpB t u = false := shpB_f fun hs => hnm (by
          have h5 := congrArg (fun l => l[q]?) hs.2.2
          simp only [List.getElem?_map] at h5
          rw [List.getElem?_eq_getElem hql, List.getElem?_eq_getElem hqu] at h5
          simpa using h5)
        rw [hB]
        obtain ⟨nm, hnme⟩ : ∃ nm, (t.fs[q]).1 = nm := ⟨_, rfl⟩
        obtain ⟨nm2, hnme2⟩ : ∃ nm, (u.fs[q]).1 = nm := ⟨_, rfl⟩
        rw [hnme] at e1 hnm
        rw [hnme2] at e2 hnm
        have hbb : (nm == nm2) = false := beq_eq_false_iff_ne.2 hnm
        clear hall
        (repeat' first | (with_reducible first | apply x_seq | apply k_then | apply x_block | apply x_skip | apply x_ret | apply x_exit | apply x_label | apply k_pass | apply k_hit | apply k_miss rfl | apply k_out | apply k_turned | refine x_text fun K' hK => ?_) | ((with_reducible apply o_nil); refine hK _ _ _ ?_; clear hK) | (with_reducible refine x_drawnD (id := 6) [(1, 7), (5, 7), (1, 11), (5, 11)] (by kernel_rfl) fun K' hK => ?_) | ((with_reducible apply d_nil); (case hp => (simp (disch := omega) only [pairsOk, List.all_cons, List.all_nil, List.reverse_cons, List.reverse_nil, List.nil_append, List.cons_append, lget_zero, lget_succ, apartB, touches, made_mm, made_lt, made_ge, all_true, ble_t, ble_f, blt_t, blt_f, beq_f, List.contains_cons, List.contains_nil, Bool.and_true, Bool.true_and, Bool.and_false, Bool.false_and, Bool.or_false, Bool.false_or, Bool.not_false, Bool.not_true, beq_self_eq_true])); (case' hx => (refine hK _ _ _ ?_; clear hK))) | ((with_reducible apply d_pure w_none); (case hp => exact rfl); (case hc => exact rfl); (case he => (intro h n; simp (disch := first | assumption | omega | rfl | decide) only [go_sem, seval, tys, hA1, hA2, e1, e2, b_strNeq, hbb, Bool.not_false] <;> rfl))) | ((with_reducible apply d_eff w_none); (case hc => exact rfl); (case he => (simp (disch := first | assumption | omega | rfl | decide) only [go_sem, seval, tys, hA1, hA2, e1, e2, b_strNeq, hbb, Bool.not_false] <;> rfl)); (case hok => first | exact rfl | exact ok_w (by omega) rfl)) | ((with_reducible apply d_guard rfl); (case hb => (simp (disch := first | assumption | omega | rfl | decide) only [go_sem, seval, tys, hA1, hA2, e1, e2, b_strNeq, hbb, Bool.not_false] <;> rfl)); (case' h1 => intro hb; (try (simp only [hbs, reduceCtorEq] at hb)); try (exfalso; omega)); (case' h2 => intro hb; (try (simp only [hbs, reduceCtorEq] at hb)); try (exfalso; omega))) | ((first | ((with_reducible apply o_pure w_none); (case hp => exact rfl); (case' he => intro h n)) | (with_reducible first | apply o_eff w_none | apply o_guard rfl | apply x_cond | apply k_e1 rfl | apply k_e2 rfl | apply k_e0 rfl | apply k_e3 rfl | apply k_e4 rfl)); (case he => (simp (disch := first | assumption | omega | rfl | decide) only [go_sem, seval, tys, hA1, hA2, e1, e2, b_strNeq, hbb, Bool.not_false] <;> rfl)); (try (case hok => first | exact rfl | exact ok_w (by omega) rfl)); all_goals (try (intro hb; (try (simp only [hbs, reduceCtorEq] at hb)); try (exfalso; omega)))) | ((with_reducible apply o_undef rfl); (case hb => (simp (disch := first | assumption | omega | rfl | decide) only [go_sem, seval, tys]))))
        all_goals first | exact sw_flat rfl rfl ⟨rfl, rfl, rfl⟩ | exact absurd (by simpa [ByteArray.toList_eq] using hb) hnm
    · obtain rfl : q = t.fs.length := by omega
      have hB : shpB t u = true := shpB_t ⟨s1, s2, List.ext_getElem (by rw [List.length_map, List.length_map, hlen]) fun x h1 h2 => by
        rw [List.length_map] at h1 h2
        rw [List.getElem_map, List.getElem_map]
        exact hall x h1 h1 h2⟩
      rw [hB]
      clear hall
      (repeat' first | (with_reducible first | apply x_seq | apply k_then | apply x_block | apply x_skip | apply x_ret | apply x_exit | apply x_label | apply k_pass | apply k_hit | apply k_miss rfl | apply k_out | apply k_turned | refine x_text fun K' hK => ?_) | ((with_reducible apply o_nil); refine hK _ _ _ ?_; clear hK) | fail | ((first | ((with_reducible apply o_pure w_none); (case hp => exact rfl); (case' he => intro h n)) | (with_reducible first | apply o_eff w_none | apply o_guard rfl | apply x_cond | apply k_e1 rfl | apply k_e2 rfl | apply k_e0 rfl | apply k_e3 rfl | apply k_e4 rfl)); (case he => (simp (disch := first | assumption | omega | rfl | decide) only [go_sem, seval, tys] <;> rfl)); (try (case hok => first | exact rfl | exact ok_w (by omega) rfl)); all_goals (try (intro hb; (try (simp only [hbs, reduceCtorEq] at hb)); try (exfalso; omega)))) | ((with_reducible apply o_undef rfl); (case hb => (simp (disch := first | assumption | omega | rfl | decide) only [go_sem, seval, tys]))))
      all_goals exact sw_flat rfl rfl ⟨rfl, rfl, rfl⟩
  · have hB : shpB t u = false := shpB_f fun hs => hh ⟨hs.1, hs.2.1, by have := congrArg List.length hs.2.2; rwa [List.length_map, List.length_map] at this⟩
    rw [hB]
    refine enter Try.func55 (by kernel_rfl) rfl (by kernel_rfl) rfl rfl rfl ?_
    (repeat' first | (with_reducible first | apply x_seq | apply k_then | apply x_block | apply x_skip | apply x_ret | apply x_exit | apply x_label | apply k_pass | apply k_hit | apply k_miss rfl | apply k_out | apply k_turned | refine x_text fun K' hK => ?_) | ((with_reducible apply o_nil); refine hK _ _ _ ?_; clear hK) | fail | ((first | ((with_reducible apply o_pure w_none); (case hp => exact rfl); (case' he => intro h n)) | (with_reducible first | apply o_eff w_none | apply o_guard rfl | apply x_cond | apply k_e1 rfl | apply k_e2 rfl | apply k_e0 rfl | apply k_e3 rfl | apply k_e4 rfl)); (case he => (simp (disch := first | assumption | omega | rfl | decide) only [go_sem, seval, tys] <;> rfl)); (try (case hok => first | exact rfl | exact ok_w (by omega) rfl)); all_goals (try (intro hb; (try (simp only [hbs, reduceCtorEq] at hb)); try (exfalso; omega)))) | ((with_reducible apply o_undef rfl); (case hb => (simp (disch := first | assumption | omega | rfl | decide) only [go_sem, seval, tys]))))
    all_goals exact sw_flat rfl rfl ⟨rfl, rfl, rfl⟩
end Go.Proofs.Ytgdokjfjmcleeaa.Ce
