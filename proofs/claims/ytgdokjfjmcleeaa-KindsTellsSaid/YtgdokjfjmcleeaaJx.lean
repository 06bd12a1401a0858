/- Widths; types that look the same: symbolic runs. -/
import Derived.Test.YtgdokjfjmcleeaaJw
import Derived.Test.YtgdokjfjmcleeaaJh
namespace Go.Proofs.Ytgdokjfjmcleeaa.Ce
open Go.RowKit
set_option linter.unusedVariables false
set_option linter.unusedSimpArgs false


set_option maxRecDepth 100000
set_option maxHeartbeats 2000000

/-- the width of a type -/
def widT (T : List Tp) (i : Nat) : Int := (wD T 3).getD i 0
variable (k d cl : Nat) (h : Hp) (n : Nat)
theorem pwidth_ok (hk : 30000 ≤ k) (A : Option Addr) (T : List Tp) (c : Nat) (hT : TabH h n A T) (hS : ∀ t ∈ T, t.fs.length ≤ 20000) (hm : T.length ≤ 9223372036854775807) (hC : ChkT T) (i : Nat) (hi : i < T.length) :
    Sp Try.prog (acall Try.prog WW k (d + 8)) cl 39 [.slice A T.length c, .int .i64 i] h n fun v h' n' => v = .tuple ⟨[.int .i64 (widT T i), .int .i64 0]⟩ ∧ h' = h ∧ n' = n := by
  have hl := hC.1
  have ha : askE T i i = 0 := by unfold askE; rw [if_pos hC, if_pos ⟨⟨by omega, by omega⟩, by omega, by omega⟩]
  have hTk : TabH (h.set n (.row 3 false (iv [(i : Int)]))) (n + 1) A T := (hT.set (Nat.le_refl _) _).more (by omega)
  have q1 := pasked_1 k d n (h.set n (.row 3 false (iv [(i : Int)]))) (n + 1) hk A T c hTk hS hm i (some ⟨n, 0, none⟩) 1 (RdH.row (by omega))
  rw [ha] at q1
  have q2 := pwidths_ev k (d + 6) n (h.set n (.row 3 false (iv [(i : Int)]))) (n + 1) hk A T c hTk hl hC.2.1
  have hg := iv_lget (l := wD T 3) (i := i) (by rw [wD_length]; exact hi)
  refine enter Try.func39 (by kernel_rfl) rfl (by kernel_rfl) rfl rfl rfl ?_
  (repeat' first | (with_reducible first | apply x_seq | apply k_then | apply x_block | apply x_skip | apply x_ret | apply x_exit | apply x_label | apply k_pass | apply k_hit | apply k_miss rfl | apply k_out | apply k_turned | refine x_text fun K' hK => ?_) | ((with_reducible apply o_nil); refine hK _ _ _ ?_; clear hK) | ((with_reducible apply o_callF (g := 67) w_none); (case ha => (simp (disch := first | assumption | omega | rfl | decide) only [go_sem, seval, tys] <;> rfl)); (case hs => (exact q1)); (case' hk => rintro _ h' n' ⟨rfl, rfl, rfl⟩)) | ((with_reducible apply o_callF (g := 68) w_none); (case ha => (simp (disch := first | assumption | omega | rfl | decide) only [go_sem, seval, tys] <;> rfl)); (case hs => (exact q2)); (case' hk => rintro _ h' n' ⟨rfl, rfl, rfl⟩)) | ((first | ((with_reducible apply o_pure w_none); (case hp => exact rfl); (case' he => intro h n)) | (with_reducible first | apply o_eff w_none | apply o_guard rfl | apply x_cond | apply k_e1 rfl | apply k_e2 rfl | apply k_e0 rfl | apply k_e3 rfl | apply k_e4 rfl)); (case he => (simp (disch := first | assumption | omega | rfl | decide) only [go_sem, seval, tys, hg] <;> rfl)); (try (case hok => first | exact rfl | exact ok_w (by omega) rfl)); all_goals (try (intro hb; (try (simp only [hbs, reduceCtorEq] at hb)); try (exfalso; omega)))) | ((with_reducible apply o_undef rfl); (case hb => (simp (disch := first | assumption | omega | rfl | decide) only [go_sem, seval, tys]))))
  all_goals exact sw_flat rfl rfl ⟨rfl, rfl, rfl⟩
theorem rshape_t (hk : 30000 ≤ k) (t u : Tp) (hs : Shp t u) (hl : t.fs.length ≤ 20000) (h1 : RdH h n t.A (fv t.fs)) (h2 : RdH h n u.A (fv u.fs)) :
    Sp Try.prog (acall Try.prog WW k (d + 1)) cl 55 [.agg ⟨[.int .u8 t.kd, .int .i64 t.el, .int .i64 t.ln, .slice t.A t.fs.length t.c]⟩, .agg ⟨[.int .u8 u.kd, .int .i64 u.el, .int .i64 u.ln, .slice u.A u.fs.length u.c]⟩] h n fun v h' n' => v = .bool true ∧ h' = h ∧ n' = n := by
  obtain ⟨s1, s2, s3⟩ := hs
  have hlen : t.fs.length = u.fs.length := by have := congrArg List.length s3; rwa [List.length_map, List.length_map] at this
  refine enter Try.func55 (by kernel_rfl) rfl (by kernel_rfl) rfl rfl rfl ?_
  (repeat' first | (with_reducible first | apply x_seq | apply k_then | apply x_block | apply x_skip | apply x_ret | apply x_exit | apply x_label | apply k_pass | apply k_hit | apply k_miss rfl | apply k_out | apply k_turned | refine x_text fun K' hK => ?_) | ((with_reducible apply o_nil); refine hK _ _ _ ?_; clear hK) | fail | ((first | ((with_reducible apply o_pure w_none); (case hp => exact rfl); (case' he => intro h n)) | (with_reducible first | apply o_eff w_none | apply o_guard rfl | apply x_cond | apply k_e1 rfl | apply k_e2 rfl | apply k_e0 rfl | apply k_e3 rfl | apply k_e4 rfl)); (case he => (simp (disch := first | assumption | omega | rfl | decide) only [go_sem, seval, tys] <;> rfl)); (try (case hok => first | exact rfl | exact ok_w (by omega) rfl)); all_goals (try (intro hb; (try (simp only [hbs, reduceCtorEq] at hb)); try (exfalso; omega)))) | ((with_reducible apply o_undef rfl); (case hb => (simp (disch := first | assumption | omega | rfl | decide) only [go_sem, seval, tys]))))
  refine x_loopF [4, 5, 27, 28, 29, 30, 31, 32, 33, 34, 35, 36, 37, 38, 39, 40, 41, 42, 43, 44, 45, 46] [5] (fun m vs => ∃ q : Nat, m = t.fs.length - q ∧ q ≤ t.fs.length ∧ vs = [.int .i64 q]) t.fs.length rfl (by omega) ⟨0, rfl, by omega, (by simp (disch := first | assumption | omega | rfl | decide) only [go_sem, seval, tys] <;> rfl)⟩ ?_
  rintro m g _ ⟨q, rfl, hq, rfl⟩
  by_cases hql : q < t.fs.length
  · have hqu : q < u.fs.length := by omega
    have r1 : RdH ((h.set n (.row 60 false [.int .u8 t.kd, .int .i64 t.el, .int .i64 t.ln, .slice t.A t.fs.length t.c])).set (n + 1) (.row 60 false [.int .u8 u.kd, .int .i64 u.el, .int .i64 u.ln, .slice u.A u.fs.length u.c])) n t.A (fv t.fs) := (h1.set (Nat.le_refl _) _).set (by omega) _
    have r2 : RdH ((h.set n (.row 60 false [.int .u8 t.kd, .int .i64 t.el, .int .i64 t.ln, .slice t.A t.fs.length t.c])).set (n + 1) (.row 60 false [.int .u8 u.kd, .int .i64 u.el, .int .i64 u.ln, .slice u.A u.fs.length u.c])) n u.A (fv u.fs) := (h2.set (Nat.le_refl _) _).set (by omega) _
    obtain ⟨i1, o1, hA1, hi1, -, -, -⟩ := fld_at r1 hql
    obtain ⟨i2, o2, hA2, hi2, -, -, -⟩ := fld_at r2 hqu
    obtain ⟨_, _, hB1, -, -, e1, -⟩ := fld_at h1 hql
    obtain ⟨_, _, hB2, -, -, e2, -⟩ := fld_at h2 hqu
    rw [hA1] at hB1
    rw [hA2] at hB2
    injection hB1 with hB1
    injection hB1 with z1 z2
    subst z1; subst z2
    injection hB2 with hB2
    injection hB2 with z1 z2
    subst z1; subst z2
    have hnm : (t.fs[q]).1 = (u.fs[q]).1 := by
      have h5 := congrArg (fun l => l[q]?) s3
      simp only [List.getElem?_map] at h5
      rw [List.getElem?_eq_getElem hql, List.getElem?_eq_getElem hqu] at h5
      simpa using h5
    rw [hnm] at e1
    obtain ⟨nm, hnme⟩ : ∃ nm, (u.fs[q]).1 = nm := ⟨_, rfl⟩
    rw [hnme] at e1 e2
    have hbb : (nm == nm) = true := beq_self_eq_true _
    (repeat' first | (with_reducible first | apply x_seq | apply k_then | apply x_block | apply x_skip | apply x_ret | apply x_exit | apply x_label | apply k_pass | apply k_hit | apply k_miss rfl | apply k_out | apply k_turned | refine x_text fun K' hK => ?_) | ((with_reducible apply o_nil); refine hK _ _ _ ?_; clear hK) | (with_reducible refine x_drawnD (id := 6) [(1, 7), (5, 7), (1, 11), (5, 11)] (by kernel_rfl) fun K' hK => ?_) | ((with_reducible apply d_nil); (case hp => (simp (disch := omega) only [pairsOk, List.all_cons, List.all_nil, List.reverse_cons, List.reverse_nil, List.nil_append, List.cons_append, lget_zero, lget_succ, apartB, touches, made_mm, made_lt, made_ge, all_true, ble_t, ble_f, blt_t, blt_f, beq_f, List.contains_cons, List.contains_nil, Bool.and_true, Bool.true_and, Bool.and_false, Bool.false_and, Bool.or_false, Bool.false_or, Bool.not_false, Bool.not_true, beq_self_eq_true])); (case' hx => (refine hK _ _ _ ?_; clear hK))) | ((with_reducible apply d_pure w_none); (case hp => exact rfl); (case hc => exact rfl); (case he => (intro h n; simp (disch := first | assumption | omega | rfl | decide) only [go_sem, seval, tys, hA1, hA2, e1, e2, b_strNeq, hbb, Bool.not_true] <;> rfl))) | ((with_reducible apply d_eff w_none); (case hc => exact rfl); (case he => (simp (disch := first | assumption | omega | rfl | decide) only [go_sem, seval, tys, hA1, hA2, e1, e2, b_strNeq, hbb, Bool.not_true] <;> rfl)); (case hok => first | exact rfl | exact ok_w (by omega) rfl)) | ((with_reducible apply d_guard rfl); (case hb => (simp (disch := first | assumption | omega | rfl | decide) only [go_sem, seval, tys, hA1, hA2, e1, e2, b_strNeq, hbb, Bool.not_true] <;> rfl)); (case' h1 => intro hb; (try (simp only [hbs, reduceCtorEq] at hb)); try (exfalso; omega)); (case' h2 => intro hb; (try (simp only [hbs, reduceCtorEq] at hb)); try (exfalso; omega))) | ((first | ((with_reducible apply o_pure w_none); (case hp => exact rfl); (case' he => intro h n)) | (with_reducible first | apply o_eff w_none | apply o_guard rfl | apply x_cond | apply k_e1 rfl | apply k_e2 rfl | apply k_e0 rfl | apply k_e3 rfl | apply k_e4 rfl)); (case he => (simp (disch := first | assumption | omega | rfl | decide) only [go_sem, seval, tys, hA1, hA2, e1, e2, b_strNeq, hbb, Bool.not_true] <;> rfl)); (try (case hok => first | exact rfl | exact ok_w (by omega) rfl)); all_goals (try (intro hb; (try (simp only [hbs, reduceCtorEq] at hb)); try (exfalso; omega)))) | ((with_reducible apply o_undef rfl); (case hb => (simp (disch := first | assumption | omega | rfl | decide) only [go_sem, seval, tys]))))
    refine k_round (t.fs.length - (q + 1)) (by omega) ⟨⟨by rw [hA1, hA2], rfl⟩, q + 1, rfl, by omega, (by simp (disch := first | assumption | omega | rfl | decide) only [go_sem, seval, tys] <;> rfl)⟩
  · obtain rfl : q = t.fs.length := by omega
    (repeat' first | (with_reducible first | apply x_seq | apply k_then | apply x_block | apply x_skip | apply x_ret | apply x_exit | apply x_label | apply k_pass | apply k_hit | apply k_miss rfl | apply k_out | apply k_turned | refine x_text fun K' hK => ?_) | ((with_reducible apply o_nil); refine hK _ _ _ ?_; clear hK) | fail | ((first | ((with_reducible apply o_pure w_none); (case hp => exact rfl); (case' he => intro h n)) | (with_reducible first | apply o_eff w_none | apply o_guard rfl | apply x_cond | apply k_e1 rfl | apply k_e2 rfl | apply k_e0 rfl | apply k_e3 rfl | apply k_e4 rfl)); (case he => (simp (disch := first | assumption | omega | rfl | decide) only [go_sem, seval, tys] <;> rfl)); (try (case hok => first | exact rfl | exact ok_w (by omega) rfl)); all_goals (try (intro hb; (try (simp only [hbs, reduceCtorEq] at hb)); try (exfalso; omega)))) | ((with_reducible apply o_undef rfl); (case hb => (simp (disch := first | assumption | omega | rfl | decide) only [go_sem, seval, tys]))))
    all_goals exact sw_flat rfl rfl ⟨rfl, rfl, rfl⟩
end Go.Proofs.Ytgdokjfjmcleeaa.Ce
