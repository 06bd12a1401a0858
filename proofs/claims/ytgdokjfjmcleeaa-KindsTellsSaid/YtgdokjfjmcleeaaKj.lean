/- The parts of a type: the reference by symbolic runs. Widths of types by the reference: plain facts. -/
import Derived.Test.YtgdokjfjmcleeaaKp
import Derived.Test.YtgdokjfjmcleeaaKw
namespace Go.Proofs.Ytgdokjfjmcleeaa.Ce
open Go.RowKit
set_option linter.unusedVariables false
set_option linter.unusedSimpArgs false


set_option maxRecDepth 100000
set_option maxHeartbeats 2000000

variable (k d cl : Nat) (h : Hp) (n : Nat)
/-- the parts of a valid type -/
def partsT (t : Tp) : List Int := if t.kd = 6 then [t.el] else t.fs.map (·.2)
theorem rparts_nil (hk : 30000 ≤ k) (kd el ln : Int) (FA : Option Addr) (fc : Nat) (h6 : kd ≠ 6) :
    Sp Try.prog (acall Try.prog WW k (d + 1)) cl 34 [.agg ⟨[.int .u8 kd, .int .i64 el, .int .i64 ln, .slice FA 0 fc]⟩] h n fun v h' n' => v = .slice none 0 0 ∧ h' = h ∧ n' = n := by
  refine enter Try.func34 (by kernel_rfl) rfl (by kernel_rfl) rfl rfl rfl ?_
  (repeat' first | (with_reducible first | apply x_seq | apply k_then | apply x_block | apply x_skip | apply x_ret | apply x_exit | apply x_label | apply k_pass | apply k_hit | apply k_miss rfl | apply k_out | apply k_turned | refine x_text fun K' hK => ?_) | ((with_reducible apply o_nil); refine hK _ _ _ ?_; clear hK) | (with_reducible refine x_turns ?_) | (with_reducible refine x_turn (by omega) ?_) | (with_reducible refine k_turn ?_) | ((first | ((with_reducible apply o_pure w_none); (case hp => exact rfl); (case' he => intro h n)) | (with_reducible first | apply o_eff w_none | apply o_guard rfl | apply x_cond | apply k_e1 rfl | apply k_e2 rfl | apply k_e0 rfl | apply k_e3 rfl | apply k_e4 rfl)); (case he => (simp (disch := first | assumption | omega | rfl | decide) only [go_sem, seval, tys] <;> rfl)); (try (case hok => first | exact rfl | exact ok_w (by omega) rfl)); all_goals (try (intro hb; (try (simp only [hbs, reduceCtorEq] at hb)); try (exfalso; omega)))) | ((with_reducible apply o_undef rfl); (case hb => (simp (disch := first | assumption | omega | rfl | decide) only [go_sem, seval, tys]))))
  all_goals exact sw_flat rfl rfl ⟨rfl, rfl, rfl⟩
theorem rparts_arr0 (hk : 30000 ≤ k) (el ln : Int) (FA : Option Addr) (fc : Nat) :
    Sp Try.prog (acall Try.prog WW k (d + 1)) cl 34 [.agg ⟨[.int .u8 6, .int .i64 el, .int .i64 ln, .slice FA 0 fc]⟩] h n fun v h' n' => v = .slice (some ⟨n, 0, none⟩) 1 1 ∧ h' = h.set n (.row 3 false (iv [el])) ∧ n' = n + 1 := by
  refine enter Try.func34 (by kernel_rfl) rfl (by kernel_rfl) rfl rfl rfl ?_
  (repeat' first | (with_reducible first | apply x_seq | apply k_then | apply x_block | apply x_skip | apply x_ret | apply x_exit | apply x_label | apply k_pass | apply k_hit | apply k_miss rfl | apply k_out | apply k_turned | refine x_text fun K' hK => ?_) | ((with_reducible apply o_nil); refine hK _ _ _ ?_; clear hK) | (with_reducible refine x_turns ?_) | (with_reducible refine x_turn (by omega) ?_) | (with_reducible refine k_turn ?_) | ((with_reducible apply o_ap0 (t := 31) apT31 w_none); (case hs => (simp (disch := first | assumption | omega | rfl | decide) only [go_sem, seval, tys] <;> rfl)); (case hy => (simp (disch := first | assumption | omega | rfl | decide) only [go_sem, seval, tys] <;> rfl)); (case hsrc => exact src_row (rowOf_same _ _ _ _ _) rfl); (case hc => exact rfl); (case hm => omega); (case h0 => omega)) | ((first | ((with_reducible apply o_pure w_none); (case hp => exact rfl); (case' he => intro h n)) | (with_reducible first | apply o_eff w_none | apply o_guard rfl | apply x_cond | apply k_e1 rfl | apply k_e2 rfl | apply k_e0 rfl | apply k_e3 rfl | apply k_e4 rfl)); (case he => (simp (disch := first | assumption | omega | rfl | decide) only [go_sem, seval, tys] <;> rfl)); (try (case hok => first | exact rfl | exact ok_w (by omega) rfl)); all_goals (try (intro hb; (try (simp only [hbs, reduceCtorEq] at hb)); try (exfalso; omega)))) | ((with_reducible apply o_undef rfl); (case hb => (simp (disch := first | assumption | omega | rfl | decide) only [go_sem, seval, tys]))))
  (refine sw_row (by simp (disch := first | assumption | omega) only [idV_tuple, idV_agg, idV_int, idV_bool, idV_str, idV_slice, idV_nil, idV1_agg, idV1_int, idV1_bool, idV1_str, idV1_slice, idV1_nil, idA_int, idA_bool, idA_str, idA_slice, idA_nil, idA_old, idV_old, idV1_old, ble_t, ble_f, cond_true, cond_false, List.flatMap_cons, List.flatMap_nil, List.append_nil, List.nil_append, List.cons_append] <;> rfl) rfl (by omega) (by first | assumption | (simp (disch := first | assumption | omega | rfl | decide) only [go_sem, seval, tys] <;> rfl)) (by exact iv_idA _ [el]) (by simp only [reV_tuple, reV_agg, reV_slice, reV1_agg, reV1_int, reV1_bool, reV1_str, reV1_slice, reV1_snil, reA_int, reA_bool, reA_str, reA_slice, reA_snil, reN_hit, List.map_cons, List.map_nil] <;> rfl) ?_; exact ⟨rfl, rfl, rfl⟩)
theorem rparts_fld (hk : 30000 ≤ k) (kd el ln : Int) (FA : Option Addr) (fs : List (List UInt8 × Int)) (fc : Nat) (h6 : kd ≠ 6) (h0 : fs ≠ []) (hr : RdH h n FA (fv fs)) (hl2 : fs.length ≤ 20000) :
    Sp Try.prog (acall Try.prog WW k (d + 1)) cl 34 [.agg ⟨[.int .u8 kd, .int .i64 el, .int .i64 ln, .slice FA fs.length fc]⟩] h n fun v h' n' => v = .slice (some ⟨n, 0, none⟩) fs.length fs.length ∧ h' = h.set n (.row 3 false (iv (fs.map (·.2)))) ∧ n' = n + 1 := by
  have h0l : 0 < fs.length := List.length_pos_iff.2 h0
  refine enter Try.func34 (by kernel_rfl) rfl (by kernel_rfl) rfl rfl rfl ?_
  (repeat' first | (with_reducible first | apply x_seq | apply k_then | apply x_block | apply x_skip | apply x_ret | apply x_exit | apply x_label | apply k_pass | apply k_hit | apply k_miss rfl | apply k_out | apply k_turned | refine x_text fun K' hK => ?_) | ((with_reducible apply o_nil); refine hK _ _ _ ?_; clear hK) | fail | ((first | ((with_reducible apply o_pure w_none); (case hp => exact rfl); (case' he => intro h n)) | (with_reducible first | apply o_eff w_none | apply o_guard rfl | apply x_cond | apply k_e1 rfl | apply k_e2 rfl | apply k_e0 rfl | apply k_e3 rfl | apply k_e4 rfl)); (case he => (simp (disch := first | assumption | omega | rfl | decide) only [go_sem, seval, tys] <;> rfl)); (try (case hok => first | exact rfl | exact ok_w (by omega) rfl)); all_goals (try (intro hb; (try (simp only [hbs, reduceCtorEq] at hb)); try (exfalso; omega)))) | ((with_reducible apply o_undef rfl); (case hb => (simp (disch := first | assumption | omega | rfl | decide) only [go_sem, seval, tys]))))
  refine x_loopV [3, 4, 13, 14, 15, 16, 17, 18, 19, 20, 21, 22, 23, 24, 25, 26, 27, 28] [3, 4] (fun m vs h' n' => ∃ (q : Nat) (O : Value), m = fs.length - q ∧ q ≤ fs.length ∧ vs = [O, .int .i64 q] ∧ RdH h' n FA (fv fs) ∧ rowOf h' n = some (60, false, [.int .u8 kd, .int .i64 el, .int .i64 ln, .slice FA fs.length fc]) ∧ n + 1 ≤ n' ∧
      ((q = 0 ∧ O = .slice none 0 0) ∨ (0 < q ∧ ∃ id, n + 1 ≤ id ∧ id < n' ∧ O = .slice (some ⟨id, 0, none⟩) q q ∧ rowOf h' id = some (3, false, iv ((fs.take q).map (·.2)))))) fs.length rfl (by omega) ?_ ?_
  · exact ⟨0, .slice none 0 0, rfl, by omega, by simp (disch := first | assumption | omega | rfl | decide) only [go_sem, seval, tys] <;> rfl, by (refine RdH.more (B := n) ?_ (by omega); (repeat' (first | with_reducible exact hr | with_reducible refine RdH.set ?_ (by omega) _))), by simp (disch := first | assumption | omega | rfl | decide) only [go_sem, seval, tys], by omega, .inl ⟨rfl, rfl⟩⟩
  · rintro m g _ h' n' ⟨q, O, rfl, hq, rfl, r2, q0, hn, hO⟩
    have d0 := fun o => cellAt_row (off := o) q0
    by_cases hqf : q < fs.length
    · obtain ⟨id2, off2, rfl, hid2, -, -, hfb⟩ := fld_at r2 hqf
      obtain ⟨ty, hty⟩ : ∃ ty, (fs[q]).2 = ty := ⟨_, rfl⟩
      rw [hty] at hfb
      have htk : iv ((fs.take (q + 1)).map (·.2)) = iv ((fs.take q).map (·.2)) ++ [.int .i64 ty] := by rw [List.take_succ_eq_append_getElem hqf, List.map_append, iv_app]; simp [iv, hty]
      have htl : (iv ((fs.take q).map (·.2))).length = q := by rw [iv_length, List.length_map, List.length_take]; omega
      have htw : (iv ((fs.take q).map (·.2))).take q = iv ((fs.take q).map (·.2)) := List.take_of_length_le (by omega)
      rcases hO with ⟨rfl, rfl⟩ | ⟨hp0, id, k1, k2, rfl, q4⟩
      · (repeat' first | (with_reducible first | apply x_seq | apply k_then | apply x_block | apply x_skip | apply x_ret | apply x_exit | apply x_label | apply k_pass | apply k_hit | apply k_miss rfl | apply k_out | apply k_turned | refine x_text fun K' hK => ?_) | ((with_reducible apply o_nil); refine hK _ _ _ ?_; clear hK) | ((with_reducible apply o_ap0 (t := 31) apT31 w_none); (case hs => (simp (disch := first | assumption | omega | rfl | decide) only [go_sem, seval, tys] <;> rfl)); (case hy => (simp (disch := first | assumption | omega | rfl | decide) only [go_sem, seval, tys] <;> rfl)); (case hsrc => exact src_row (rowOf_same _ _ _ _ _) rfl); (case hc => exact rfl); (case hm => omega); (case h0 => omega)) | ((first | ((with_reducible apply o_pure w_none); (case hp => exact rfl); (case' he => intro h n)) | (with_reducible first | apply o_eff w_none | apply o_guard rfl | apply x_cond | apply k_e1 rfl | apply k_e2 rfl | apply k_e0 rfl | apply k_e3 rfl | apply k_e4 rfl)); (case he => (simp (disch := first | assumption | omega | rfl | decide) only [go_sem, seval, tys, d0, hfb] <;> rfl)); (try (case hok => first | exact rfl | exact ok_w (by omega) rfl)); all_goals (try (intro hb; (try (simp only [hbs, reduceCtorEq] at hb)); try (exfalso; omega)))) | ((with_reducible apply o_undef rfl); (case hb => (simp (disch := first | assumption | omega | rfl | decide) only [go_sem, seval, tys]))))
        refine k_round (fs.length - 1) (by omega) ⟨1, .slice (some ⟨n' + 1, 0, none⟩) 1 1, rfl, by omega, by simp (disch := first | assumption | omega | rfl | decide) only [go_sem, seval, tys] <;> rfl, by (refine RdH.more (B := n) ?_ (by omega); (repeat' (first | with_reducible exact r2 | with_reducible refine RdH.set ?_ (by omega) _))), by simp (disch := first | assumption | omega | rfl | decide) only [go_sem, seval, tys, q0], by omega, .inr ⟨by omega, n' + 1, by omega, by omega, rfl, ?_⟩⟩
        rw [htk]
        simp (disch := first | assumption | omega | rfl | decide) only [go_sem, seval, tys]
        exact rfl
      · have w4 := rwOf_row q4
        (repeat' first | (with_reducible first | apply x_seq | apply k_then | apply x_block | apply x_skip | apply x_ret | apply x_exit | apply x_label | apply k_pass | apply k_hit | apply k_miss rfl | apply k_out | apply k_turned | refine x_text fun K' hK => ?_) | ((with_reducible apply o_nil); refine hK _ _ _ ?_; clear hK) | ((with_reducible apply o_apR (t := 31) apT31 w_none); (case hs => (simp (disch := first | assumption | omega | rfl | decide) only [go_sem, seval, tys, w4] <;> rfl)); (case hy => (simp (disch := first | assumption | omega | rfl | decide) only [go_sem, seval, tys, w4] <;> rfl)); (case hsrc => exact src_row (rowOf_same _ _ _ _ _) rfl); (case hr => (simp (disch := first | assumption | omega | rfl | decide) only [go_sem, seval, tys, w4] <;> rfl)); (case hc => exact rfl); (case hm => omega); (case hli => omega); (case hln => omega); (case hcs => omega)) | ((first | ((with_reducible apply o_pure w_none); (case hp => exact rfl); (case' he => intro h n)) | (with_reducible first | apply o_eff w_none | apply o_guard rfl | apply x_cond | apply k_e1 rfl | apply k_e2 rfl | apply k_e0 rfl | apply k_e3 rfl | apply k_e4 rfl)); (case he => (simp (disch := first | assumption | omega | rfl | decide) only [go_sem, seval, tys, d0, hfb] <;> rfl)); (try (case hok => first | exact rfl | exact ok_w (by omega) rfl)); all_goals (try (intro hb; (try (simp only [hbs, reduceCtorEq] at hb)); try (exfalso; omega)))) | ((with_reducible apply o_undef rfl); (case hb => (simp (disch := first | assumption | omega | rfl | decide) only [go_sem, seval, tys]))))
        refine k_round (fs.length - (q + 1)) (by omega) ⟨q + 1, .slice (some ⟨n' + 1, 0, none⟩) (q + 1) (q + 1), rfl, by omega, by simp (disch := first | assumption | omega | rfl | decide) only [go_sem, seval, tys] <;> rfl, by (refine RdH.more (B := n) ?_ (by omega); (repeat' (first | with_reducible exact r2 | with_reducible refine RdH.set ?_ (by omega) _))), by simp (disch := first | assumption | omega | rfl | decide) only [go_sem, seval, tys, q0], by omega, .inr ⟨by omega, n' + 1, by omega, by omega, rfl, ?_⟩⟩
        rw [htk]
        simp (disch := first | assumption | omega | rfl | decide) only [go_sem, seval, tys, htw]
    · obtain rfl : q = fs.length := by omega
      rcases hO with ⟨hz, -⟩ | ⟨hp0, id, k1, k2, rfl, q4⟩
      · omega
      · rw [List.take_length] at q4
        (repeat' first | (with_reducible first | apply x_seq | apply k_then | apply x_block | apply x_skip | apply x_ret | apply x_exit | apply x_label | apply k_pass | apply k_hit | apply k_miss rfl | apply k_out | apply k_turned | refine x_text fun K' hK => ?_) | ((with_reducible apply o_nil); refine hK _ _ _ ?_; clear hK) | fail | ((first | ((with_reducible apply o_pure w_none); (case hp => exact rfl); (case' he => intro h n)) | (with_reducible first | apply o_eff w_none | apply o_guard rfl | apply x_cond | apply k_e1 rfl | apply k_e2 rfl | apply k_e0 rfl | apply k_e3 rfl | apply k_e4 rfl)); (case he => (simp (disch := first | assumption | omega | rfl | decide) only [go_sem, seval, tys, d0] <;> rfl)); (try (case hok => first | exact rfl | exact ok_w (by omega) rfl)); all_goals (try (intro hb; (try (simp only [hbs, reduceCtorEq] at hb)); try (exfalso; omega)))) | ((with_reducible apply o_undef rfl); (case hb => (simp (disch := first | assumption | omega | rfl | decide) only [go_sem, seval, tys]))))
        refine sw_row (by simp (disch := first | assumption | omega) only [idV_tuple, idV_agg, idV_int, idV_bool, idV_str, idV_slice, idV_nil, idV1_agg, idV1_int, idV1_bool, idV1_str, idV1_slice, idV1_nil, idA_int, idA_bool, idA_str, idA_slice, idA_nil, idA_old, idV_old, idV1_old, ble_t, ble_f, cond_true, cond_false, List.flatMap_cons, List.flatMap_nil, List.append_nil, List.nil_append, List.cons_append] <;> rfl) rfl (by omega) (by simp (disch := first | assumption | omega | rfl | decide) only [go_sem, seval, tys, q4]; exact rfl) (iv_idA _ _) (by simp only [reV_tuple, reV_agg, reV_slice, reV1_agg, reV1_int, reV1_bool, reV1_str, reV1_slice, reV1_snil, reA_int, reA_bool, reA_str, reA_slice, reA_snil, reN_hit, List.map_cons, List.map_nil] <;> rfl) ?_
        exact ⟨rfl, rfl, rfl⟩
end Go.Proofs.Ytgdokjfjmcleeaa.Ce
namespace Go.Proofs.Ytgdokjfjmcleeaa.Ce
open Go.RowKit
set_option linter.unusedVariables false
set_option linter.unusedSimpArgs false
theorem sumF_map (now : List Int) (fs : List (List UInt8 × Int)) (q : Nat) : sumF now (fs.take q) = sumF now (fs.take q) := rfl
/-- a width so far, at most the limit -/
def wq (now : List Int) (fs : List (List UInt8 × Int)) (q : Nat) : Int := min (1 + sumF now (fs.take q)) 5001
theorem wq_zero (now : List Int) (fs : List (List UInt8 × Int)) : wq now fs 0 = 1 := by simp [wq, sumF]; rfl
theorem wq_succ {now : List Int} (hn : Bnd now) {fs : List (List UInt8 × Int)} {q : Nat} (hq : q < fs.length) : min (wq now fs q + now.getD (fs[q]).2.toNat 0) 5001 = wq now fs (q + 1) := by
  have h1 := hn.getD (fs[q]).2.toNat
  have h2 := sumF_bnd hn (fs.take q)
  unfold wq
  rw [sumF_take now hq]
  omega
theorem wOne_4 {below now : List Int} {t : Tp} (h : t.kd = 4) (hf : t.fs = []) : wOne below now t = min (1 + below.getD t.el.toNat 0) 5001 := by unfold wOne wHead; rw [if_pos h, hf]; simp [sumF]
theorem wOne_7 {below now : List Int} {t : Tp} (h : t.kd = 7) (hf : t.fs = []) : wOne below now t = min (1 + 16 * below.getD t.el.toNat 0) 5001 := by unfold wOne wHead; rw [if_neg (by omega), if_pos h, hf]; simp [sumF]
theorem wOne_6 {below now : List Int} {t : Tp} (h : t.kd = 6) (hf : t.fs = []) : wOne below now t = min (1 + t.ln * now.getD t.el.toNat 0) 5001 := by unfold wOne wHead; rw [if_neg (by omega), if_neg (by omega), if_pos h, hf]; simp [sumF]
theorem wOne_f {below now : List Int} {t : Tp} (h4 : t.kd ≠ 4) (h7 : t.kd ≠ 7) (h6 : t.kd ≠ 6) : wOne below now t = wq now t.fs t.fs.length := by unfold wOne wHead wq; rw [if_neg h4, if_neg h7, if_neg h6, List.take_length]; simp
theorem zeros_getD (m i : Nat) : (zeros m).getD i 0 = 0 := by
  rw [List.getD_eq_getElem?_getD]
  unfold zeros
  by_cases h : i < m
  · rw [List.getElem?_replicate]; simp [h]
  · rw [List.getElem?_eq_none (by simp; omega)]; rfl
end Go.Proofs.Ytgdokjfjmcleeaa.Ce
