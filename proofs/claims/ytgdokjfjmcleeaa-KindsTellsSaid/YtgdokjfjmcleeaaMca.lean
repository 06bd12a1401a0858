/- The error of a table and indices: the reference of kinds by symbolic runs. -/
import Derived.Test.YtgdokjfjmcleeaaKq
import Derived.Test.YtgdokjfjmcleeaaKo
namespace Go.Proofs.Ytgdokjfjmcleeaa.Ce
open Go.RowKit
set_option linter.unusedVariables false
set_option linter.unusedSimpArgs false


set_option maxRecDepth 100000
set_option maxHeartbeats 2000000

open Classical in
/-- the error of a table and two indices -/
noncomputable def askE (T : List Tp) (i j : Int) : Int := if ChkT T then (if (0 ≤ i ∧ i < T.length) ∧ 0 ≤ j ∧ j < T.length then 0 else 2) else 8
variable (k d cl : Nat) (h : Hp) (n : Nat)
theorem rasked_ev (hk : 30000 ≤ k) (A : Option Addr) (T : List Tp) (c : Nat) (hT : TabH h n A T) (hS : ∀ t ∈ T, t.fs.length ≤ 20000) (hm : T.length ≤ 9223372036854775807) (i j : Int) :
    Sp Try.prog (acall Try.prog WW k (d + 7)) cl 75 [.slice A T.length c, .int .i64 i, .int .i64 j] h n fun v h' n' => v = .int .i64 (askE T i j) ∧ h' = h ∧ n' = n := by
  by_cases hC : ChkT T
  · have he := errT_ok hC
    by_cases hi : (0 ≤ i ∧ i < T.length) ∧ 0 ≤ j ∧ j < T.length
    · have hz : askE T i j = 0 := by unfold askE; rw [if_pos hC, if_pos hi]
      rw [hz]
      refine enter Try.func75 (by kernel_rfl) rfl (by kernel_rfl) rfl rfl rfl ?_
      (repeat' first | (with_reducible first | apply x_seq | apply k_then | apply x_block | apply x_skip | apply x_ret | apply x_exit | apply x_label | apply k_pass | apply k_hit | apply k_miss rfl | apply k_out | apply k_turned | refine x_text fun K' hK => ?_) | ((with_reducible apply o_nil); refine hK _ _ _ ?_; clear hK) | ((with_reducible apply o_callF (g := 49) w_none); (case ha => (simp (disch := first | assumption | omega | rfl | decide) only [go_sem, seval, tys] <;> rfl)); (case hs => ((with_reducible apply rcheck_ev (T := T)); (case hT => first | exact hT | exact hT.set (by omega) _); (case hS => exact hS); (all_goals first | exact hk | omega))); (case' hk => rintro _ h' n' ⟨rfl, rfl, rfl⟩)) | ((first | ((with_reducible apply o_pure w_none); (case hp => exact rfl); (case' he => intro h n)) | (with_reducible first | apply o_eff w_none | apply o_guard rfl | apply x_cond | apply k_e1 rfl | apply k_e2 rfl | apply k_e0 rfl | apply k_e3 rfl | apply k_e4 rfl)); (case he => (simp (disch := first | assumption | omega | rfl | decide) only [go_sem, seval, tys, he] <;> rfl)); (try (case hok => first | exact rfl | exact ok_w (by omega) rfl)); all_goals (try (intro hb; (try (simp only [hbs, reduceCtorEq] at hb)); try (exfalso; omega)))) | ((with_reducible apply o_undef rfl); (case hb => (simp (disch := first | assumption | omega | rfl | decide) only [go_sem, seval, tys]))))
      all_goals exact sw_flat rfl rfl ⟨rfl, rfl, rfl⟩
    · have hz : askE T i j = 2 := by unfold askE; rw [if_pos hC, if_neg hi]
      rw [hz]
      refine enter Try.func75 (by kernel_rfl) rfl (by kernel_rfl) rfl rfl rfl ?_
      (repeat' first | (with_reducible first | apply x_seq | apply k_then | apply x_block | apply x_skip | apply x_ret | apply x_exit | apply x_label | apply k_pass | apply k_hit | apply k_miss rfl | apply k_out | apply k_turned | refine x_text fun K' hK => ?_) | ((with_reducible apply o_nil); refine hK _ _ _ ?_; clear hK) | ((with_reducible apply o_callF (g := 49) w_none); (case ha => (simp (disch := first | assumption | omega | rfl | decide) only [go_sem, seval, tys] <;> rfl)); (case hs => ((with_reducible apply rcheck_ev (T := T)); (case hT => first | exact hT | exact hT.set (by omega) _); (case hS => exact hS); (all_goals first | exact hk | omega))); (case' hk => rintro _ h' n' ⟨rfl, rfl, rfl⟩)) | ((first | ((with_reducible apply o_pure w_none); (case hp => exact rfl); (case' he => intro h n)) | (with_reducible first | apply o_eff w_none | apply o_guard rfl | apply x_cond | apply k_e1 rfl | apply k_e2 rfl | apply k_e0 rfl | apply k_e3 rfl | apply k_e4 rfl)); (case he => (simp (disch := first | assumption | omega | rfl | decide) only [go_sem, seval, tys, he] <;> rfl)); (try (case hok => first | exact rfl | exact ok_w (by omega) rfl)); all_goals (try (intro hb; (try (simp only [hbs, reduceCtorEq] at hb)); try (exfalso; omega)))) | ((with_reducible apply o_undef rfl); (case hb => (simp (disch := first | assumption | omega | rfl | decide) only [go_sem, seval, tys]))))
      all_goals exact sw_flat rfl rfl ⟨rfl, rfl, rfl⟩
  · have he := errT_no hC
    have hz : askE T i j = 8 := by unfold askE; rw [if_neg hC]
    rw [hz]
    refine enter Try.func75 (by kernel_rfl) rfl (by kernel_rfl) rfl rfl rfl ?_
    (repeat' first | (with_reducible first | apply x_seq | apply k_then | apply x_block | apply x_skip | apply x_ret | apply x_exit | apply x_label | apply k_pass | apply k_hit | apply k_miss rfl | apply k_out | apply k_turned | refine x_text fun K' hK => ?_) | ((with_reducible apply o_nil); refine hK _ _ _ ?_; clear hK) | ((with_reducible apply o_callF (g := 49) w_none); (case ha => (simp (disch := first | assumption | omega | rfl | decide) only [go_sem, seval, tys] <;> rfl)); (case hs => ((with_reducible apply rcheck_ev (T := T)); (case hT => first | exact hT | exact hT.set (by omega) _); (case hS => exact hS); (all_goals first | exact hk | omega))); (case' hk => rintro _ h' n' ⟨rfl, rfl, rfl⟩)) | ((first | ((with_reducible apply o_pure w_none); (case hp => exact rfl); (case' he => intro h n)) | (with_reducible first | apply o_eff w_none | apply o_guard rfl | apply x_cond | apply k_e1 rfl | apply k_e2 rfl | apply k_e0 rfl | apply k_e3 rfl | apply k_e4 rfl)); (case he => (simp (disch := first | assumption | omega | rfl | decide) only [go_sem, seval, tys, he] <;> rfl)); (try (case hok => first | exact rfl | exact ok_w (by omega) rfl)); all_goals (try (intro hb; (try (simp only [hbs, reduceCtorEq] at hb)); try (exfalso; omega)))) | ((with_reducible apply o_undef rfl); (case hb => (simp (disch := first | assumption | omega | rfl | decide) only [go_sem, seval, tys]))))
    all_goals exact sw_flat rfl rfl ⟨rfl, rfl, rfl⟩
theorem askE_0 {T : List Tp} {i : Int} (hC : ChkT T) (hi : 0 ≤ i ∧ i < T.length) : askE T i i = 0 := by unfold askE; rw [if_pos hC, if_pos ⟨hi, hi⟩]
theorem askE_2 {T : List Tp} {i : Int} (hC : ChkT T) (hi : ¬ (0 ≤ i ∧ i < T.length)) : askE T i i = 2 := by unfold askE; rw [if_pos hC, if_neg fun hh => hi hh.1]
theorem askE_8 {T : List Tp} {i j : Int} (hC : ¬ ChkT T) : askE T i j = 8 := by unfold askE; rw [if_neg hC]
end Go.Proofs.Ytgdokjfjmcleeaa.Ce
