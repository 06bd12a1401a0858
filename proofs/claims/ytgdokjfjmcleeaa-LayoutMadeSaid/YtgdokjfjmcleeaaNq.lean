/- Cells moved; the law LayoutMade: symbolic runs. -/
import Derived.Test.YtgdokjfjmcleeaaNp
import Derived.Test.YtgdokjfjmcleeaaNk
import Derived.Test.YtgdokjfjmcleeaaAl
import Derived.Test.YtgdokjfjmcleeaaLo
namespace Go.Proofs.Ytgdokjfjmcleeaa.Ce
open Go.RowKit
set_option linter.unusedVariables false
set_option linter.unusedSimpArgs false
attribute [local go_sem ↓] lv_tmp fput_some fput_none fputs_cons fputs_nil mix_in mix_out finit_zero finit_succ cellAt_same cellAt_ne cellsAt_same cellsAt_ne rwOf_same rwOf_ne' rowOf_same rowOf_ne
attribute [local go_sem] a_move a_assign a_pick a_alloc a_box a_build a_buildSlice bif_cok a_load a_store a_bin a_un a_convert a_func a_makeMap a_makeSlice a_slice a_fieldAddr a_indexAddr a_index a_extract a_len a_append a_copy a_max a_min lv_int lv_bool lv_str lv_func lv_nil b_add b_sub b_mul b_eql b_neq b_lss b_leq b_gtr b_geq b_quo b_rem b_shl8 b_or8 b_shr u_not p_pick m_max m_min x_tuple mVO_some lget_zero lget_succ ltake_zero ltake_cons ldrop_zero ldrop_cons overAt_zero overAt_cons over_nil over_cons Hp.set_set fill_nil fill_cons c_int1 c_bool1 c_str1 c_ptr1 c_sli1 c_map1 c_agg c_agg' cok_int cok_bool cok_str cok_ptr cok_sli cok_map List.length_cons List.length_nil List.all_cons List.all_nil Bool.and_true Bool.true_and Bool.and_self beq_self_eq_true wrap_i64 wrap_u64 wrap_u8 tdiv_pos tmod_pos Nat.zero_add Nat.add_zero Nat.mul_one Nat.zero_mul List.take_zero List.take_nil Option.bind_some Option.map_some Option.map_none cond_true cond_false List.map_cons List.map_nil List.cons_append List.nil_append Int.toNat_natCast Int.zero_add Int.add_zero Int.mul_zero Int.mul_one Bool.not_true Bool.not_false r_tmp r_cell
set_option maxRecDepth 100000
set_option maxHeartbeats 2000000

variable (k d cl : Nat) (h : Hp) (n : Nat)
theorem moved_ev (hk : 30000 ≤ k) (A : Option Addr) (ps : List (Int × Int)) (m c : Nat) (hm : m = ps.length) (b : Int) (hr : RdH h n A (pv ps)) (h0 : ps ≠ []) (hl : ps.length ≤ 300) (hp : ∀ p ∈ ps, 0 ≤ p.1 ∧ p.1 ≤ 1000) (hb0 : 0 ≤ b) (hb1 : b ≤ 100000) :
    Sp Try.prog (acall Try.prog WW k (d + 1)) cl 35 [.slice A m c, .int .i64 b] h n fun v h' n' => v = .slice (some ⟨n, 0, none⟩) ps.length ps.length ∧ h' = h.set n (.row 57 false (pv (shift b ps))) ∧ n' = n + 1 := by
  subst hm
  have hlp := List.length_pos_iff.2 h0
  have hsl : ∀ q : List (Int × Int), (shift b q).length = q.length := fun q => by unfold shift; rw [List.length_map]
  obtain ⟨pid, poff, hA, hpid, -, -, -⟩ := prt_at hr hlp
  subst hA
  refine enter Try.func35 (by kernel_rfl) rfl (by kernel_rfl) rfl rfl rfl ?_
  (repeat' first | (with_reducible first | apply x_seq | apply k_then | apply x_block | apply x_skip | apply x_ret | apply x_exit | apply x_label | apply k_pass | apply k_hit | apply k_miss rfl | apply k_out | apply k_turned | refine x_text fun K' hK => ?_) | ((with_reducible apply o_nil); refine hK _ _ _ ?_; clear hK) | fail | ((first | ((with_reducible apply o_pure w_none); (case hp => exact rfl); (case' he => intro h n)) | (with_reducible first | apply o_eff w_none | apply o_guard rfl | apply x_cond | apply k_e1 rfl | apply k_e2 rfl | apply k_e0 rfl | apply k_e3 rfl | apply k_e4 rfl)); (case he => (simp (disch := first | assumption | omega | rfl | decide) only [go_sem, Nat.reduceBEq, ↓reduceIte, Nat.reduceEqDiff, Nat.reduceAdd, Nat.reduceMul, Int.reduceToNat, Int.reduceAdd, Int.reduceMul, Int.reduceSub, tys] <;> rfl)); (try (case hok => first | exact rfl | exact ok_w (by omega) rfl)); all_goals (try (intro hb; (try (simp only [hbs, reduceCtorEq] at hb)); try (exfalso; omega)))) | ((with_reducible apply o_undef rfl); (case hb => (simp (disch := first | assumption | omega | rfl | decide) only [go_sem, Nat.reduceBEq, ↓reduceIte, Nat.reduceEqDiff, Nat.reduceAdd, Nat.reduceMul, Int.reduceToNat, Int.reduceAdd, Int.reduceMul, Int.reduceSub, tys]))))
  refine x_loopV [5, 6, 7, 8, 9, 10, 11, 12, 13, 14, 15, 16, 17, 18, 19, 20, 21, 22, 23, 24, 25, 26, 27, 28] [5, 6] (fun m vs h' n' => ∃ (q : Nat) (O : Value), m = ps.length - q ∧ q ≤ ps.length ∧ vs = [O, .int .i64 q] ∧ n ≤ n' ∧ RdH h' n (some ⟨pid, poff, none⟩) (pv ps) ∧ OwnC (shift b (ps.take q)) O h' n n') ps.length rfl (by omega) ?_ ?_
  · exact ⟨0, .slice none 0 0, rfl, by omega, (by first | (simp (disch := first | assumption | omega | rfl | decide) only [go_sem, Nat.reduceBEq, ↓reduceIte, Nat.reduceEqDiff, Nat.reduceAdd, Nat.reduceMul, Int.reduceToNat, Int.reduceAdd, Int.reduceMul, Int.reduceSub, tys]; done) | (simp (disch := first | assumption | omega | rfl | decide) only [go_sem, Nat.reduceBEq, ↓reduceIte, Nat.reduceEqDiff, Nat.reduceAdd, Nat.reduceMul, Int.reduceToNat, Int.reduceAdd, Int.reduceMul, Int.reduceSub, tys]; exact rfl)), Nat.le_refl _, hr, .inl ⟨rfl, rfl⟩⟩
  · rintro mm fr _ h' n' ⟨q, O, rfl, hq, rfl, hn, hr2, hO⟩
    by_cases hql : q < ps.length
    · obtain ⟨p, hp'⟩ : ∃ p, ps[q] = p := ⟨_, rfl⟩
      have hpb := hp p (by rw [← hp']; exact List.getElem_mem _)
      have hts : shift b (ps.take (q + 1)) = shift b (ps.take q) ++ [(p.1 + b, p.2)] := by
        unfold shift
        rw [List.take_succ_eq_append_getElem hql, List.map_append, hp']
        rfl
      obtain ⟨i1, o1, hA1, -, -, c1, c2⟩ := prt_at hr2 hql
      injection hA1 with hA1
      injection hA1 with e3 e4
      subst e3; subst e4
      rw [hp'] at c1 c2
      have hal : (shift b (ps.take q)).length = q := by rw [hsl, List.length_take]; omega
      obtain ⟨acc, hacc⟩ : ∃ acc, shift b (ps.take q) = acc := ⟨_, rfl⟩
      rw [hacc] at hO hts hal
      rcases hO with ⟨hp0, rfl⟩ | ⟨hp0, id, k1, k2, rfl, q4⟩
      · (repeat' first | (with_reducible first | apply x_seq | apply k_then | apply x_block | apply x_skip | apply x_ret | apply x_exit | apply x_label | apply k_pass | apply k_hit | apply k_miss rfl | apply k_out | apply k_turned | refine x_text fun K' hK => ?_) | ((with_reducible apply o_nil); refine hK _ _ _ ?_; clear hK) | (with_reducible refine x_drawnD (id := 5) [(5, 12)] (by kernel_rfl) fun K' hK => ?_) | ((with_reducible apply d_nil); (case hp => (simp (disch := omega) only [pairsOk, List.all_cons, List.all_nil, List.reverse_cons, List.reverse_nil, List.nil_append, List.cons_append, lget_zero, lget_succ, apartB, touches, made_mm, made_lt, made_ge, all_true, ble_t, ble_f, blt_t, blt_f, beq_f, List.contains_cons, List.contains_nil, Bool.and_true, Bool.true_and, Bool.and_false, Bool.false_and, Bool.or_false, Bool.false_or, Bool.not_false, Bool.not_true, beq_self_eq_true])); (case' hx => (refine hK _ _ _ ?_; clear hK))) | ((with_reducible apply d_pure w_none); (case hp => exact rfl); (case hc => exact rfl); (case he => (intro h n; simp (disch := first | assumption | omega | rfl | decide) only [go_sem, Nat.reduceBEq, ↓reduceIte, Nat.reduceEqDiff, Nat.reduceAdd, Nat.reduceMul, Int.reduceToNat, Int.reduceAdd, Int.reduceMul, Int.reduceSub, tys, c1, c2]; exact rfl))) | ((with_reducible apply d_eff w_none); (case hc => exact rfl); (case he => (simp (disch := first | assumption | omega | rfl | decide) only [go_sem, Nat.reduceBEq, ↓reduceIte, Nat.reduceEqDiff, Nat.reduceAdd, Nat.reduceMul, Int.reduceToNat, Int.reduceAdd, Int.reduceMul, Int.reduceSub, tys, c1, c2]; exact rfl)); (case hok => first | exact rfl | exact ok_w (by omega) rfl)) | ((with_reducible apply d_guard rfl); (case hb => (simp (disch := first | assumption | omega | rfl | decide) only [go_sem, Nat.reduceBEq, ↓reduceIte, Nat.reduceEqDiff, Nat.reduceAdd, Nat.reduceMul, Int.reduceToNat, Int.reduceAdd, Int.reduceMul, Int.reduceSub, tys, c1, c2]; exact rfl)); (case' h1 => intro hb; (try (simp only [hbs, reduceCtorEq] at hb)); try (exfalso; omega)); (case' h2 => intro hb; (try (simp only [hbs, reduceCtorEq] at hb)); try (exfalso; omega))) | ((with_reducible apply d_ap0 (t := 44) apT44 w_none); (case hs => (first | (simp (disch := first | assumption | omega | rfl | decide) only [go_sem, Nat.reduceBEq, ↓reduceIte, Nat.reduceEqDiff, Nat.reduceAdd, Nat.reduceMul, Int.reduceToNat, Int.reduceAdd, Int.reduceMul, Int.reduceSub, tys]; done) | (simp (disch := first | assumption | omega | rfl | decide) only [go_sem, Nat.reduceBEq, ↓reduceIte, Nat.reduceEqDiff, Nat.reduceAdd, Nat.reduceMul, Int.reduceToNat, Int.reduceAdd, Int.reduceMul, Int.reduceSub, tys]; exact rfl))); (case hy => (simp (disch := first | assumption | omega | rfl | decide) only [go_sem, Nat.reduceBEq, ↓reduceIte, Nat.reduceEqDiff, Nat.reduceAdd, Nat.reduceMul, Int.reduceToNat, Int.reduceAdd, Int.reduceMul, Int.reduceSub, tys]; exact rfl)); (case hsrc => exact src_row (rowOf_same _ _ _ _ _) rfl); (case hc => exact rfl); (case hm => omega); (case h0 => omega); (case' hx => intro rd)) | ((first | ((with_reducible apply o_pure w_none); (case hp => exact rfl); (case' he => intro h n)) | (with_reducible first | apply o_eff w_none | apply o_guard rfl | apply x_cond | apply k_e1 rfl | apply k_e2 rfl | apply k_e0 rfl | apply k_e3 rfl | apply k_e4 rfl)); (case he => (simp (disch := first | assumption | omega | rfl | decide) only [go_sem, Nat.reduceBEq, ↓reduceIte, Nat.reduceEqDiff, Nat.reduceAdd, Nat.reduceMul, Int.reduceToNat, Int.reduceAdd, Int.reduceMul, Int.reduceSub, tys, c1, c2] <;> rfl)); (try (case hok => first | exact rfl | exact ok_w (by omega) rfl)); all_goals (try (intro hb; (try (simp only [hbs, reduceCtorEq] at hb)); try (exfalso; omega)))) | ((with_reducible apply o_undef rfl); (case hb => (simp (disch := first | assumption | omega | rfl | decide) only [go_sem, Nat.reduceBEq, ↓reduceIte, Nat.reduceEqDiff, Nat.reduceAdd, Nat.reduceMul, Int.reduceToNat, Int.reduceAdd, Int.reduceMul, Int.reduceSub, tys]))))
        refine k_round (ps.length - (q + 1)) (by omega) ⟨q + 1, .slice (some ⟨n' + 1, 0, none⟩) 1 1, rfl, by omega, (by first | (simp (disch := first | assumption | omega | rfl | decide) only [go_sem, Nat.reduceBEq, ↓reduceIte, Nat.reduceEqDiff, Nat.reduceAdd, Nat.reduceMul, Int.reduceToNat, Int.reduceAdd, Int.reduceMul, Int.reduceSub, tys]; done) | (simp (disch := first | assumption | omega | rfl | decide) only [go_sem, Nat.reduceBEq, ↓reduceIte, Nat.reduceEqDiff, Nat.reduceAdd, Nat.reduceMul, Int.reduceToNat, Int.reduceAdd, Int.reduceMul, Int.reduceSub, tys]; exact rfl)), by omega, (hr2.set (by omega) _).set (by omega) _, .inr ⟨by rw [hts]; simp, n' + 1, by omega, by omega, by rw [hts, hp0]; rfl, by rw [hts, hp0]; exact rowOf_same _ _ _ _ _⟩⟩
      · have w4 := rwOf_row q4
        have htk : (pv acc).take (acc.length * 2) = pv acc := List.take_of_length_le (by rw [pv_length]; omega)
        (repeat' first | (with_reducible first | apply x_seq | apply k_then | apply x_block | apply x_skip | apply x_ret | apply x_exit | apply x_label | apply k_pass | apply k_hit | apply k_miss rfl | apply k_out | apply k_turned | refine x_text fun K' hK => ?_) | ((with_reducible apply o_nil); refine hK _ _ _ ?_; clear hK) | (with_reducible refine x_drawnD (id := 5) [(5, 12)] (by kernel_rfl) fun K' hK => ?_) | ((with_reducible apply d_nil); (case hp => (simp (disch := omega) only [pairsOk, List.all_cons, List.all_nil, List.reverse_cons, List.reverse_nil, List.nil_append, List.cons_append, lget_zero, lget_succ, apartB, touches, made_mm, made_lt, made_ge, all_true, ble_t, ble_f, blt_t, blt_f, beq_f, List.contains_cons, List.contains_nil, Bool.and_true, Bool.true_and, Bool.and_false, Bool.false_and, Bool.or_false, Bool.false_or, Bool.not_false, Bool.not_true, beq_self_eq_true])); (case' hx => (refine hK _ _ _ ?_; clear hK))) | ((with_reducible apply d_pure w_none); (case hp => exact rfl); (case hc => exact rfl); (case he => (intro h n; simp (disch := first | assumption | omega | rfl | decide) only [go_sem, Nat.reduceBEq, ↓reduceIte, Nat.reduceEqDiff, Nat.reduceAdd, Nat.reduceMul, Int.reduceToNat, Int.reduceAdd, Int.reduceMul, Int.reduceSub, tys, c1, c2, w4]; exact rfl))) | ((with_reducible apply d_eff w_none); (case hc => exact rfl); (case he => (simp (disch := first | assumption | omega | rfl | decide) only [go_sem, Nat.reduceBEq, ↓reduceIte, Nat.reduceEqDiff, Nat.reduceAdd, Nat.reduceMul, Int.reduceToNat, Int.reduceAdd, Int.reduceMul, Int.reduceSub, tys, c1, c2, w4]; exact rfl)); (case hok => first | exact rfl | exact ok_w (by omega) rfl)) | ((with_reducible apply d_guard rfl); (case hb => (simp (disch := first | assumption | omega | rfl | decide) only [go_sem, Nat.reduceBEq, ↓reduceIte, Nat.reduceEqDiff, Nat.reduceAdd, Nat.reduceMul, Int.reduceToNat, Int.reduceAdd, Int.reduceMul, Int.reduceSub, tys, c1, c2, w4]; exact rfl)); (case' h1 => intro hb; (try (simp only [hbs, reduceCtorEq] at hb)); try (exfalso; omega)); (case' h2 => intro hb; (try (simp only [hbs, reduceCtorEq] at hb)); try (exfalso; omega))) | ((with_reducible apply d_apR (t := 44) apT44 w_none); (case hs => (first | (simp (disch := first | assumption | omega | rfl | decide) only [go_sem, Nat.reduceBEq, ↓reduceIte, Nat.reduceEqDiff, Nat.reduceAdd, Nat.reduceMul, Int.reduceToNat, Int.reduceAdd, Int.reduceMul, Int.reduceSub, tys, w4]; done) | (simp (disch := first | assumption | omega | rfl | decide) only [go_sem, Nat.reduceBEq, ↓reduceIte, Nat.reduceEqDiff, Nat.reduceAdd, Nat.reduceMul, Int.reduceToNat, Int.reduceAdd, Int.reduceMul, Int.reduceSub, tys, w4]; exact rfl))); (case hy => (simp (disch := first | assumption | omega | rfl | decide) only [go_sem, Nat.reduceBEq, ↓reduceIte, Nat.reduceEqDiff, Nat.reduceAdd, Nat.reduceMul, Int.reduceToNat, Int.reduceAdd, Int.reduceMul, Int.reduceSub, tys, w4]; exact rfl)); (case hsrc => exact src_row (rowOf_same _ _ _ _ _) rfl); (case hr => (simp (disch := first | assumption | omega | rfl | decide) only [go_sem, Nat.reduceBEq, ↓reduceIte, Nat.reduceEqDiff, Nat.reduceAdd, Nat.reduceMul, Int.reduceToNat, Int.reduceAdd, Int.reduceMul, Int.reduceSub, tys, w4]; exact rfl)); (case hc => exact rfl); (case hm => omega); (case hli => omega); (case hln => omega); (case hcs => rw [pv_length]; omega); (case' hx => intro rd)) | ((first | ((with_reducible apply o_pure w_none); (case hp => exact rfl); (case' he => intro h n)) | (with_reducible first | apply o_eff w_none | apply o_guard rfl | apply x_cond | apply k_e1 rfl | apply k_e2 rfl | apply k_e0 rfl | apply k_e3 rfl | apply k_e4 rfl)); (case he => (simp (disch := first | assumption | omega | rfl | decide) only [go_sem, Nat.reduceBEq, ↓reduceIte, Nat.reduceEqDiff, Nat.reduceAdd, Nat.reduceMul, Int.reduceToNat, Int.reduceAdd, Int.reduceMul, Int.reduceSub, tys, c1, c2, w4] <;> rfl)); (try (case hok => first | exact rfl | exact ok_w (by omega) rfl)); all_goals (try (intro hb; (try (simp only [hbs, reduceCtorEq] at hb)); try (exfalso; omega)))) | ((with_reducible apply o_undef rfl); (case hb => (simp (disch := first | assumption | omega | rfl | decide) only [go_sem, Nat.reduceBEq, ↓reduceIte, Nat.reduceEqDiff, Nat.reduceAdd, Nat.reduceMul, Int.reduceToNat, Int.reduceAdd, Int.reduceMul, Int.reduceSub, tys]))))
        refine k_round (ps.length - (q + 1)) (by omega) ⟨q + 1, .slice (some ⟨n' + 1, 0, none⟩) (acc.length + 1) (acc.length + 1), rfl, by omega, (by first | (simp (disch := first | assumption | omega | rfl | decide) only [go_sem, Nat.reduceBEq, ↓reduceIte, Nat.reduceEqDiff, Nat.reduceAdd, Nat.reduceMul, Int.reduceToNat, Int.reduceAdd, Int.reduceMul, Int.reduceSub, tys]; done) | (simp (disch := first | assumption | omega | rfl | decide) only [go_sem, Nat.reduceBEq, ↓reduceIte, Nat.reduceEqDiff, Nat.reduceAdd, Nat.reduceMul, Int.reduceToNat, Int.reduceAdd, Int.reduceMul, Int.reduceSub, tys]; exact rfl)), by omega, ((hr2.set (by omega) _).set k1 _).set (by omega) _, .inr ⟨by rw [hts]; simp, n' + 1, by omega, by omega, by rw [hts, List.length_append]; rfl, by rw [hts, pv_app, htk]; exact rowOf_same _ _ _ _ _⟩⟩
    · obtain rfl : q = ps.length := by omega
      rw [List.take_length] at hO
      rcases hO with ⟨hp0, rfl⟩ | ⟨hp0, id, k1, k2, rfl, q4⟩
      · have := congrArg List.length hp0
        rw [hsl] at this
        exact absurd (List.length_eq_zero_iff.1 this) h0
      · rw [hsl]
        (repeat' first | (with_reducible first | apply x_seq | apply k_then | apply x_block | apply x_skip | apply x_ret | apply x_exit | apply x_label | apply k_pass | apply k_hit | apply k_miss rfl | apply k_out | apply k_turned | refine x_text fun K' hK => ?_) | ((with_reducible apply o_nil); refine hK _ _ _ ?_; clear hK) | fail | ((first | ((with_reducible apply o_pure w_none); (case hp => exact rfl); (case' he => intro h n)) | (with_reducible first | apply o_eff w_none | apply o_guard rfl | apply x_cond | apply k_e1 rfl | apply k_e2 rfl | apply k_e0 rfl | apply k_e3 rfl | apply k_e4 rfl)); (case he => (simp (disch := first | assumption | omega | rfl | decide) only [go_sem, Nat.reduceBEq, ↓reduceIte, Nat.reduceEqDiff, Nat.reduceAdd, Nat.reduceMul, Int.reduceToNat, Int.reduceAdd, Int.reduceMul, Int.reduceSub, tys] <;> rfl)); (try (case hok => first | exact rfl | exact ok_w (by omega) rfl)); all_goals (try (intro hb; (try (simp only [hbs, reduceCtorEq] at hb)); try (exfalso; omega)))) | ((with_reducible apply o_undef rfl); (case hb => (simp (disch := first | assumption | omega | rfl | decide) only [go_sem, Nat.reduceBEq, ↓reduceIte, Nat.reduceEqDiff, Nat.reduceAdd, Nat.reduceMul, Int.reduceToNat, Int.reduceAdd, Int.reduceMul, Int.reduceSub, tys]))))
        refine sw_row (m := id) (by first | (simp (disch := first | assumption | omega) only [idV_tuple, idV_agg, idV_int, idV_bool, idV_str, idV_slice, idV_nil, idV1_agg, idV1_int, idV1_bool, idV1_str, idV1_slice, idV1_nil, idA_int, idA_bool, idA_str, idA_slice, idA_nil, idA_old, idV_old, idV1_old, ble_t, ble_f, cond_true, cond_false, List.flatMap_cons, List.flatMap_nil, List.append_nil, List.nil_append, List.cons_append]; done) | (simp (disch := first | assumption | omega) only [idV_tuple, idV_agg, idV_int, idV_bool, idV_str, idV_slice, idV_nil, idV1_agg, idV1_int, idV1_bool, idV1_str, idV1_slice, idV1_nil, idA_int, idA_bool, idA_str, idA_slice, idA_nil, idA_old, idV_old, idV1_old, ble_t, ble_f, cond_true, cond_false, List.flatMap_cons, List.flatMap_nil, List.append_nil, List.nil_append, List.cons_append]; exact rfl)) rfl (by omega) q4 (pv_idA _ _) (by simp only [reV_tuple, reV_agg, reV_slice, reV1_agg, reV1_int, reV1_bool, reV1_str, reV1_slice, reV1_snil, reA_int, reA_bool, reA_str, reA_slice, reA_snil, reN_hit, List.map_cons, List.map_nil]; exact rfl) ?_
        exact ⟨rfl, rfl, rfl⟩
theorem lmd_no (A : Option Addr) (T : List Tp) (c : Nat) (i : Int)
    (hal : ∀ cl h n, Sp Try.prog (shut (acall Try.prog WW k (d + 50))) cl 33 [] h n fun v h' n' => v = .bool true ∧ h' = h ∧ n' = n)
    (hS1 : Sp Try.prog (acall Try.prog WW k (d + 50)) n 32 [.slice A T.length c, .int .i64 i] h n fun v2 h2 n2 => v2 = .bool false ∧ h = h2 ∧ n = n2) :
    Sp Try.prog (afunc Try.prog (shut (acall Try.prog WW k (d + 50))) WW k) cl 7 [.slice A T.length c, .int .i64 i] h n fun v h' n' => v = .bool true := by
  refine enterS Try.func7 (by kernel_rfl) rfl (by kernel_rfl) rfl rfl rfl ?_
  (repeat' first | (with_reducible first | apply x_seq | apply k_then | apply x_block | apply x_skip | apply x_ret | apply x_exit | apply x_label | apply k_pass | apply k_hit | apply k_miss rfl | apply k_out | apply k_turned | refine x_text fun K' hK => ?_) | ((with_reducible apply o_nil); refine hK _ _ _ ?_; clear hK) | ((with_reducible apply o_callF (g := 33) w_none); (case ha => (simp (disch := first | assumption | omega | rfl | decide) only [go_sem, Nat.reduceBEq, ↓reduceIte, Nat.reduceEqDiff, Nat.reduceAdd, Nat.reduceMul, Int.reduceToNat, Int.reduceAdd, Int.reduceMul, Int.reduceSub, tys]; exact rfl)); (case hs => exact hal _ _ _); (case' hk => rintro _ h' n' ⟨rfl, rfl, rfl⟩)) | ((with_reducible apply o_callF (g := 32) w_none); (case ha => (simp (disch := first | assumption | omega | rfl | decide) only [go_sem, Nat.reduceBEq, ↓reduceIte, Nat.reduceEqDiff, Nat.reduceAdd, Nat.reduceMul, Int.reduceToNat, Int.reduceAdd, Int.reduceMul, Int.reduceSub, tys]; exact rfl)); (case hs => (exact Sp.shut hS1)); (case' hk => rintro _ h' n' ⟨rfl, rfl, rfl⟩)) | ((first | ((with_reducible apply o_pure w_none); (case hp => exact rfl); (case' he => intro h n)) | (with_reducible first | apply o_eff w_none | apply o_guard rfl | apply x_cond | apply k_e1 rfl | apply k_e2 rfl | apply k_e0 rfl | apply k_e3 rfl | apply k_e4 rfl)); (case he => (simp (disch := first | assumption | omega | rfl | decide) only [go_sem, Nat.reduceBEq, ↓reduceIte, Nat.reduceEqDiff, Nat.reduceAdd, Nat.reduceMul, Int.reduceToNat, Int.reduceAdd, Int.reduceMul, Int.reduceSub, tys] <;> rfl)); (try (case hok => first | exact rfl | exact ok_w (by omega) rfl)); all_goals (try (intro hb; (try (simp only [hbs, reduceCtorEq] at hb)); try (exfalso; omega)))) | ((with_reducible apply o_undef rfl); (case hb => (simp (disch := first | assumption | omega | rfl | decide) only [go_sem, Nat.reduceBEq, ↓reduceIte, Nat.reduceEqDiff, Nat.reduceAdd, Nat.reduceMul, Int.reduceToNat, Int.reduceAdd, Int.reduceMul, Int.reduceSub, tys]))))
  all_goals exact sw_flat rfl rfl rfl
theorem lmd_one (hk : 30000 ≤ k) (A : Option Addr) (T : List Tp) (c : Nat) (hT : TabH h n A T) (hm : T.length ≤ 9223372036854775807) (j : Nat) (hj : j < T.length) (hS : ∀ t ∈ T, t.fs.length ≤ 20000) (he : (szR 1048576 T j).2.2 = 0) (h5 : (T[j]).kd ≠ 5) (h6 : (T[j]).kd ≠ 6)
    (hal : ∀ cl h n, Sp Try.prog (shut (acall Try.prog WW k (d + 50))) cl 33 [] h n fun v h' n' => v = .bool true ∧ h' = h ∧ n' = n)
    (hS1 : Sp Try.prog (acall Try.prog WW k (d + 50)) n 32 [.slice A T.length c, .int .i64 j] h n fun v2 h2 n2 => v2 = .bool true ∧ h = h2 ∧ n = n2) :
    Sp Try.prog (afunc Try.prog (shut (acall Try.prog WW k (d + 50))) WW k) cl 7 [.slice A T.length c, .int .i64 j] h n fun v h' n' => v = .bool true := by
  have p2 := lcells_ok k (d + 10) n h n hk A T c hT hS hm j he
  obtain ⟨hC, h0, h1, hsz5, hze⟩ := szR_0 he
  have hl := hC.1
  rw [cells_one hC hj h5 h6] at p2
  have hkd := fine_kd (hC.2.1 j hj)
  obtain ⟨r1, hr1⟩ : ∃ r, AObj.row 57 false (pv [(0, (j : Int))]) = r := ⟨_, rfl⟩
  have p1 := lsize_ev k (d + 42) n (h.set n r1) (n + 1) hk A T c ((hT.set (Nat.le_refl _) _).more (by omega)) hS hm j
  rw [hr1] at p2
  rw [hze] at p1
  obtain ⟨tid, toff, hAA, htid, ht4, ht0, -⟩ := hT.at_ hj
  subst hAA
  have p3 := sameparts_ev k (d + 49) n ((h.set n r1).set (n + 1) (.row 57 false [.int .i64 0, .int .i64 (j : Int)])) (n + 1 + 1) hk (some ⟨n, 0, none⟩) (some ⟨n + 1, 0, none⟩) [(0, (j : Int))] 1 1 1 1 rfl rfl (RdH.ne (by rw [← hr1]; exact RdH.row (by omega)) (by omega) _) (RdH.row (by omega)) (show 1 ≤ 20000 by decide)
  refine enterS Try.func7 (by kernel_rfl) rfl (by kernel_rfl) rfl rfl rfl ?_
  (repeat' first | (with_reducible first | apply x_seq | apply k_then | apply x_block | apply x_skip | apply x_ret | apply x_exit | apply x_label | apply k_pass | apply k_hit | apply k_miss rfl | apply k_out | apply k_turned | refine x_text fun K' hK => ?_) | ((with_reducible apply o_nil); refine hK _ _ _ ?_; clear hK) | ((with_reducible apply o_callF (g := 32) w_none); (case ha => (simp (disch := first | assumption | omega | rfl | decide) only [go_sem, Nat.reduceBEq, ↓reduceIte, Nat.reduceEqDiff, Nat.reduceAdd, Nat.reduceMul, Int.reduceToNat, Int.reduceAdd, Int.reduceMul, Int.reduceSub, tys]; exact rfl)); (case hs => (exact Sp.shut hS1)); (case' hk => rintro _ h' n' ⟨rfl, rfl, rfl⟩)) | ((with_reducible apply o_callF (g := 18) w_none); (case ha => (simp (disch := first | assumption | omega | rfl | decide) only [go_sem, Nat.reduceBEq, ↓reduceIte, Nat.reduceEqDiff, Nat.reduceAdd, Nat.reduceMul, Int.reduceToNat, Int.reduceAdd, Int.reduceMul, Int.reduceSub, tys]; exact rfl)); (case hs => (exact Sp.shut p1)); (case' hk => rintro _ h' n' ⟨rfl, rfl, rfl⟩)) | ((with_reducible apply o_callF (g := 27) w_none); (case ha => (simp (disch := first | assumption | omega | rfl | decide) only [go_sem, Nat.reduceBEq, ↓reduceIte, Nat.reduceEqDiff, Nat.reduceAdd, Nat.reduceMul, Int.reduceToNat, Int.reduceAdd, Int.reduceMul, Int.reduceSub, tys]; exact rfl)); (case hs => (exact Sp.shut p2)); (case' hk => rintro _ h' n' ⟨rfl, rfl, rfl⟩)) | ((with_reducible apply o_callF (g := 31) w_none); (case ha => (simp (disch := first | assumption | omega | rfl | decide) only [go_sem, Nat.reduceBEq, ↓reduceIte, Nat.reduceEqDiff, Nat.reduceAdd, Nat.reduceMul, Int.reduceToNat, Int.reduceAdd, Int.reduceMul, Int.reduceSub, tys]; exact rfl)); (case hs => (exact Sp.shut p3)); (case' hk => rintro _ h' n' ⟨rfl, rfl, rfl⟩)) | ((with_reducible apply o_callF (g := 33) w_none); (case ha => (simp (disch := first | assumption | omega | rfl | decide) only [go_sem, Nat.reduceBEq, ↓reduceIte, Nat.reduceEqDiff, Nat.reduceAdd, Nat.reduceMul, Int.reduceToNat, Int.reduceAdd, Int.reduceMul, Int.reduceSub, tys]; exact rfl)); (case hs => exact hal _ _ _); (case' hk => rintro _ h' n' ⟨rfl, rfl, rfl⟩)) | ((first | ((with_reducible apply o_pure w_none); (case hp => exact rfl); (case' he => intro h n)) | (with_reducible first | apply o_eff w_none | apply o_guard rfl | apply x_cond | apply k_e1 rfl | apply k_e2 rfl | apply k_e0 rfl | apply k_e3 rfl | apply k_e4 rfl)); (case he => (simp (disch := first | assumption | omega | rfl | decide) only [go_sem, Nat.reduceBEq, ↓reduceIte, Nat.reduceEqDiff, Nat.reduceAdd, Nat.reduceMul, Int.reduceToNat, Int.reduceAdd, Int.reduceMul, Int.reduceSub, tys, ht0] <;> rfl)); (try (case hok => first | exact rfl | exact ok_w (by omega) rfl)); all_goals (try (intro hb; (try (simp only [hbs, reduceCtorEq] at hb)); try (exfalso; omega)))) | ((with_reducible apply o_undef rfl); (case hb => (simp (disch := first | assumption | omega | rfl | decide) only [go_sem, Nat.reduceBEq, ↓reduceIte, Nat.reduceEqDiff, Nat.reduceAdd, Nat.reduceMul, Int.reduceToNat, Int.reduceAdd, Int.reduceMul, Int.reduceSub, tys]))))
  all_goals exact sw_flat rfl rfl rfl
theorem lmd_arr (hk : 30000 ≤ k) (A : Option Addr) (T : List Tp) (c : Nat) (hT : TabH h n A T) (hm : T.length ≤ 9223372036854775807) (j : Nat) (hj : j < T.length) (hS : ∀ t ∈ T, t.fs.length ≤ 20000) (he : (szR 1048576 T j).2.2 = 0) (h6 : (T[j]).kd = 6)
    (hal : ∀ cl h n, Sp Try.prog (shut (acall Try.prog WW k (d + 50))) cl 33 [] h n fun v h' n' => v = .bool true ∧ h' = h ∧ n' = n)
    (hS1 : Sp Try.prog (acall Try.prog WW k (d + 50)) n 32 [.slice A T.length c, .int .i64 j] h n fun v2 h2 n2 => v2 = .bool true ∧ h = h2 ∧ n = n2) :
    Sp Try.prog (afunc Try.prog (shut (acall Try.prog WW k (d + 50))) WW k) cl 7 [.slice A T.length c, .int .i64 j] h n fun v h' n' => v = .bool true := by
  have p2 := lcells_ok k (d + 10) n h n hk A T c hT hS hm j he
  obtain ⟨hC, h0, h1, hsz5, hze⟩ := szR_0 he
  have hl := hC.1
  have hF := hC.2.1
  have ha := fine_arr (hF j hj) h6
  have hEok : ∀ p ∈ eRow 1048576 T, EOk 1048576 p := by have := eRow_ok (C := 1048576) (by omega) (by decide) hF T.length (Nat.le_refl _); rwa [List.take_length] at this
  obtain ⟨x, hx⟩ := Int.eq_ofNat_of_zero_le ha.1
  obtain ⟨l, hln⟩ := Int.eq_ofNat_of_zero_le (show 0 ≤ (T[j]).ln by omega)
  have e := eRow_at 1048576 hF hj
  rw [eOne_6 h6, hx, hln] at e
  obtain ⟨S, hS2⟩ : ∃ S, ((eRow 1048576 T).at_ (x : Int)).1 = S := ⟨_, rfl⟩
  obtain ⟨al, hal2⟩ : ∃ al, ((eRow 1048576 T).at_ (x : Int)).2 = al := ⟨_, rfl⟩
  have hS0 : 0 ≤ S := by rw [← hS2]; exact (Ext.at_mem hEok (by omega) (by rw [eRow_length]; omega)).1
  rw [hS2, hal2] at e
  rw [e] at hsz5 hze
  dsimp only at hsz5
  have hm1 : S ≤ (l : Int) * S := by
    have := Int.mul_le_mul_of_nonneg_right (show 1 ≤ (l : Int) by omega) hS0
    rwa [Int.one_mul] at this
  have hmin : min 1048576 ((l : Int) * S) = S * l := by rw [Int.mul_comm S]; omega
  have hb2 : S * (l : Int) ≤ 256 := by rw [Int.mul_comm]; omega
  have hb0 : 0 ≤ S * (l : Int) := Int.mul_nonneg hS0 (by omega)
  rw [hmin] at hze
  have hat : (eRow 1048576 T).at_ (x : Int) = (eRow 1000000 T).at_ (x : Int) := ((ext_rel hF).2 (x : Int) (by omega) (by rw [eRow_length]; omega)).big.2 (by rw [hS2]; omega)
  have hca := cells_arr hC hj h6 hx
  rw [← hat, hS2, hln, Int.toNat_natCast] at hca
  have hex : (szR 1048576 T (x : Int)) = (S, al, 0) := by unfold szR; rw [if_pos hC, if_pos ⟨by omega, by omega⟩, if_neg (by rw [hS2]; omega), hS2, hal2]
  have hne := cells_ne (C := 1000000) hF 32 x 0 (by omega) (by omega)
  have hnj := cells_ne (C := 1000000) hF 32 j 0 (by omega) (by omega)
  obtain ⟨hascx, -, hlenx⟩ := cellsT_bnd hC (j := x) (by omega) (by rw [hS2]; omega)
  have hlenj := (cellsT_bnd hC (j := j) (by omega) (by rw [e]; exact hsz5)).2.2
  have hbx : ∀ p ∈ cellsT T x, 0 ≤ p.1 ∧ p.1 ≤ 1000 := fun p hp => by
    have := hascx.mem p hp
    have h3 : szT 1048576 T x = S := hS2
    omega
  obtain ⟨r1, hr1⟩ : ∃ r, AObj.row 57 false (pv (cellsT T j)) = r := ⟨_, rfl⟩
  have hT2 : TabH (h.set n r1) (n + 1) A T := (hT.set (Nat.le_refl _) _).more (by omega)
  have p1 := lsize_ev k (d + 42) n (h.set n r1) (n + 1) hk A T c hT2 hS hm j
  have p3 := lcells_ok k (d + 10) n (h.set n r1) (n + 1) hk A T c hT2 hS hm x (by rw [hex])
  obtain ⟨r2, hr2⟩ : ∃ r, AObj.row 57 false (pv (cellsT T x)) = r := ⟨_, rfl⟩
  have p4 := lsize_ev k (d + 42) n ((h.set n r1).set (n + 1) r2) (n + 1 + 1) hk A T c ((hT2.set (Nat.le_refl _) _).more (by omega)) hS hm x
  rw [hr1] at p2
  rw [hr2] at p3
  rw [hze] at p1
  rw [hex] at p4
  dsimp only at p1 p4
  obtain ⟨ps, hps⟩ : ∃ ps, cellsT T j = ps := ⟨_, rfl⟩
  obtain ⟨qs, hqs⟩ : ∃ qs, cellsT T x = qs := ⟨_, rfl⟩
  have hnx : qs ≠ [] := by rw [← hqs]; exact hne
  have hnp : ps ≠ [] := by rw [← hps]; exact hnj
  rw [hps] at p2 hca hlenj hr1
  rw [hqs] at p3 hca hlenx hbx hr2
  obtain ⟨g, hg⟩ : ∃ g : Nat → List (Int × Int), g = fun (q : Nat) => shift ((q : Int) * S) qs := ⟨_, rfl⟩
  rw [← hg] at hca
  obtain ⟨tid, toff, hAA, htid, -, ht0, ht1, ht2, -⟩ := hT.at_ hj
  have htn := fun {h4 : Hp} (hT4 : TabH h4 n A T) => hT4.at_ hj
  subst hAA
  rw [hx] at ht1
  rw [h6] at ht0
  rw [hln] at ht2
  refine enterS Try.func7 (by kernel_rfl) rfl (by kernel_rfl) rfl rfl rfl ?_
  (repeat' first | (with_reducible first | apply x_seq | apply k_then | apply x_block | apply x_skip | apply x_ret | apply x_exit | apply x_label | apply k_pass | apply k_hit | apply k_miss rfl | apply k_out | apply k_turned | refine x_text fun K' hK => ?_) | ((with_reducible apply o_nil); refine hK _ _ _ ?_; clear hK) | ((with_reducible apply o_callF (g := 32) w_none); (case ha => (simp (disch := first | assumption | omega | rfl | decide) only [go_sem, Nat.reduceBEq, ↓reduceIte, Nat.reduceEqDiff, Nat.reduceAdd, Nat.reduceMul, Int.reduceToNat, Int.reduceAdd, Int.reduceMul, Int.reduceSub, tys]; exact rfl)); (case hs => (exact Sp.shut hS1)); (case' hk => rintro _ h' n' ⟨rfl, rfl, rfl⟩)) | ((with_reducible apply o_callF (g := 18) w_none); (case ha => (simp (disch := first | assumption | omega | rfl | decide) only [go_sem, Nat.reduceBEq, ↓reduceIte, Nat.reduceEqDiff, Nat.reduceAdd, Nat.reduceMul, Int.reduceToNat, Int.reduceAdd, Int.reduceMul, Int.reduceSub, tys]; exact rfl)); (case hs => (with_reducible first | exact Sp.shut p1 | exact Sp.shut p4)); (case' hk => rintro _ h' n' ⟨rfl, rfl, rfl⟩)) | ((with_reducible apply o_callF (g := 27) w_none); (case ha => (simp (disch := first | assumption | omega | rfl | decide) only [go_sem, Nat.reduceBEq, ↓reduceIte, Nat.reduceEqDiff, Nat.reduceAdd, Nat.reduceMul, Int.reduceToNat, Int.reduceAdd, Int.reduceMul, Int.reduceSub, tys]; exact rfl)); (case hs => (with_reducible first | exact Sp.shut p2 | exact Sp.shut p3)); (case' hk => rintro _ h' n' ⟨rfl, rfl, rfl⟩)) | ((first | ((with_reducible apply o_pure w_none); (case hp => exact rfl); (case' he => intro h n)) | (with_reducible first | apply o_eff w_none | apply o_guard rfl | apply x_cond | apply k_e1 rfl | apply k_e2 rfl | apply k_e0 rfl | apply k_e3 rfl | apply k_e4 rfl)); (case he => (simp (disch := first | assumption | omega | rfl | decide) only [go_sem, Nat.reduceBEq, ↓reduceIte, Nat.reduceEqDiff, Nat.reduceAdd, Nat.reduceMul, Int.reduceToNat, Int.reduceAdd, Int.reduceMul, Int.reduceSub, tys, ht0, ht1, ht2] <;> rfl)); (try (case hok => first | exact rfl | exact ok_w (by omega) rfl)); all_goals (try (intro hb; (try (simp only [hbs, reduceCtorEq] at hb)); try (exfalso; omega)))) | ((with_reducible apply o_undef rfl); (case hb => (simp (disch := first | assumption | omega | rfl | decide) only [go_sem, Nat.reduceBEq, ↓reduceIte, Nat.reduceEqDiff, Nat.reduceAdd, Nat.reduceMul, Int.reduceToNat, Int.reduceAdd, Int.reduceMul, Int.reduceSub, tys]))))
  have hlg : ∀ q, q ≤ l → ((List.range q).flatMap g).length ≤ 16 * 256 := fun q hq => by
    have h1 := flat_le (g := g) (B := 256) q fun j _ => by rw [hg]; show (shift ((j : Int) * S) qs).length ≤ 256; unfold shift; rw [List.length_map]; exact hlenx
    have h2 : q * 256 ≤ 16 * 256 := Nat.mul_le_mul (by omega) (Nat.le_refl _)
    omega
  refine x_loopV [10, 16, 101, 102, 103, 104, 105, 106, 107, 108, 109, 110, 111, 112, 113, 114, 115, 116] [10, 16] (fun m vs h4 n4 => ∃ (q : Nat) (O : Value), m = l - q ∧ q ≤ l ∧ vs = [O, .int .i64 q] ∧ n + 1 + 1 ≤ n4 ∧ TabH h4 n (some ⟨tid, toff, none⟩) T ∧ rowOf h4 n = some (57, false, pv ps) ∧ rowOf h4 (n + 1) = some (57, false, pv qs) ∧ OwnC ((List.range q).flatMap g) O h4 (n + 1 + 1) n4) l rfl (by omega) ?_ ?_
  · exact ⟨0, .slice none 0 0, rfl, by omega, (by first | (simp (disch := first | assumption | omega | rfl | decide) only [go_sem, Nat.reduceBEq, ↓reduceIte, Nat.reduceEqDiff, Nat.reduceAdd, Nat.reduceMul, Int.reduceToNat, Int.reduceAdd, Int.reduceMul, Int.reduceSub, tys]; done) | (simp (disch := first | assumption | omega | rfl | decide) only [go_sem, Nat.reduceBEq, ↓reduceIte, Nat.reduceEqDiff, Nat.reduceAdd, Nat.reduceMul, Int.reduceToNat, Int.reduceAdd, Int.reduceMul, Int.reduceSub, tys]; exact rfl)), Nat.le_refl _, (hT.set (by omega) _).set (by omega) _, by rw [rowOf_ne _ _ (by omega), ← hr1]; exact rowOf_same _ _ _ _ _, by rw [← hr2]; exact rowOf_same _ _ _ _ _, .inl ⟨rfl, rfl⟩⟩
  · rintro m fr _ h4 n4 ⟨q, O, rfl, hq, rfl, hn4, hT4, qc, qp, hO⟩
    obtain ⟨_, _, hA2, -, -, -, -, c2, -⟩ := hT4.at_ hj
    injection hA2 with hA2
    injection hA2 with z1 z2
    subst z1
    subst z2
    rw [hln] at c2
    by_cases hql : q < l
    · have hj1 : 0 ≤ (q : Int) * S := Int.mul_nonneg (by omega) hS0
      have hj2 : (q : Int) * S ≤ 256 := by
        have := Int.mul_le_mul_of_nonneg_right (show (q : Int) ≤ l by omega) hS0
        rw [Int.mul_comm (l : Int)] at this
        omega
      have hgq : g q = shift ((q : Int) * S) qs := by rw [hg]
      have hgl : (g q).length = qs.length := by rw [hgq]; unfold shift; rw [List.length_map]
      have hgn : g q ≠ [] := fun e0 => hnx (List.length_eq_zero_iff.1 (by rw [← hgl, e0]; rfl))
      have q1 := moved_ev k (d + 49) n h4 n4 hk (some ⟨n + 1, 0, none⟩) qs qs.length qs.length rfl ((q : Int) * S) (RdH.ofRow qp (by omega)) hnx (by omega) hbx hj1 (by omega)
      rw [← hgq] at q1
      have hfl : (List.range (q + 1)).flatMap g = (List.range q).flatMap g ++ g q := by rw [List.range_succ, List.flatMap_append, List.flatMap_cons, List.flatMap_nil, List.append_nil]
      have hlq := hlg q hq
      obtain ⟨acc, hacc⟩ : ∃ acc, (List.range q).flatMap g = acc := ⟨_, rfl⟩
      rw [hacc] at hO hfl hlq
      rcases hO with ⟨hp0, rfl⟩ | ⟨hp0, id5, j1, j2, rfl, j3⟩
      · (repeat' first | (with_reducible first | apply x_seq | apply k_then | apply x_block | apply x_skip | apply x_ret | apply x_exit | apply x_label | apply k_pass | apply k_hit | apply k_miss rfl | apply k_out | apply k_turned | refine x_text fun K' hK => ?_) | ((with_reducible apply o_nil); refine hK _ _ _ ?_; clear hK) | ((with_reducible apply o_callF (g := 35) w_none); (case ha => (simp (disch := first | assumption | omega | rfl | decide) only [go_sem, Nat.reduceBEq, ↓reduceIte, Nat.reduceEqDiff, Nat.reduceAdd, Nat.reduceMul, Int.reduceToNat, Int.reduceAdd, Int.reduceMul, Int.reduceSub, tys]; exact rfl)); (case hs => (exact Sp.shut q1)); (case' hk => rintro _ h' n' ⟨rfl, rfl, rfl⟩)) | ((with_reducible apply o_ap0 (t := 44) apT44 w_none); (case hs => (first | (simp (disch := first | assumption | omega | rfl | decide) only [go_sem, Nat.reduceBEq, ↓reduceIte, Nat.reduceEqDiff, Nat.reduceAdd, Nat.reduceMul, Int.reduceToNat, Int.reduceAdd, Int.reduceMul, Int.reduceSub, tys]; done) | (simp (disch := first | assumption | omega | rfl | decide) only [go_sem, Nat.reduceBEq, ↓reduceIte, Nat.reduceEqDiff, Nat.reduceAdd, Nat.reduceMul, Int.reduceToNat, Int.reduceAdd, Int.reduceMul, Int.reduceSub, tys]; exact rfl))); (case hy => (first | (simp (disch := first | assumption | omega | rfl | decide) only [go_sem, Nat.reduceBEq, ↓reduceIte, Nat.reduceEqDiff, Nat.reduceAdd, Nat.reduceMul, Int.reduceToNat, Int.reduceAdd, Int.reduceMul, Int.reduceSub, tys]; done) | (simp (disch := first | assumption | omega | rfl | decide) only [go_sem, Nat.reduceBEq, ↓reduceIte, Nat.reduceEqDiff, Nat.reduceAdd, Nat.reduceMul, Int.reduceToNat, Int.reduceAdd, Int.reduceMul, Int.reduceSub, tys]; exact rfl))); (case hsrc => exact src_row (rowOf_same _ _ _ _ _) (by rw [pv_length, hgl])); (case hc => exact pv_cok _); (case hm => omega); (case h0 => exact fun hh => hnx (List.length_eq_zero_iff.1 hh))) | ((first | ((with_reducible apply o_pure w_none); (case hp => exact rfl); (case' he => intro h n)) | (with_reducible first | apply o_eff w_none | apply o_guard rfl | apply x_cond | apply k_e1 rfl | apply k_e2 rfl | apply k_e0 rfl | apply k_e3 rfl | apply k_e4 rfl)); (case he => (simp (disch := first | assumption | omega | rfl | decide) only [go_sem, Nat.reduceBEq, ↓reduceIte, Nat.reduceEqDiff, Nat.reduceAdd, Nat.reduceMul, Int.reduceToNat, Int.reduceAdd, Int.reduceMul, Int.reduceSub, tys, c2] <;> rfl)); (try (case hok => first | exact rfl | exact ok_w (by omega) rfl)); all_goals (try (intro hb; (try (simp only [hbs, reduceCtorEq] at hb)); try (exfalso; omega)))) | ((with_reducible apply o_undef rfl); (case hb => (simp (disch := first | assumption | omega | rfl | decide) only [go_sem, Nat.reduceBEq, ↓reduceIte, Nat.reduceEqDiff, Nat.reduceAdd, Nat.reduceMul, Int.reduceToNat, Int.reduceAdd, Int.reduceMul, Int.reduceSub, tys]))))
        refine k_round (l - (q + 1)) (by omega) ⟨q + 1, .slice (some ⟨n4 + 1, 0, none⟩) qs.length qs.length, rfl, by omega, (by first | (simp (disch := first | assumption | omega | rfl | decide) only [go_sem, Nat.reduceBEq, ↓reduceIte, Nat.reduceEqDiff, Nat.reduceAdd, Nat.reduceMul, Int.reduceToNat, Int.reduceAdd, Int.reduceMul, Int.reduceSub, tys]; done) | (simp (disch := first | assumption | omega | rfl | decide) only [go_sem, Nat.reduceBEq, ↓reduceIte, Nat.reduceEqDiff, Nat.reduceAdd, Nat.reduceMul, Int.reduceToNat, Int.reduceAdd, Int.reduceMul, Int.reduceSub, tys]; exact rfl)), by omega, (hT4.set (by omega) _).set (by omega) _, by rw [rowOf_ne _ _ (by omega), rowOf_ne _ _ (by omega)]; exact qc, by rw [rowOf_ne _ _ (by omega), rowOf_ne _ _ (by omega)]; exact qp, .inr ⟨by rw [hfl, hp0]; exact hgn, n4 + 1, by omega, by omega, by rw [hfl, hp0, List.nil_append, hgl], by rw [hfl, hp0]; exact rowOf_same _ _ _ _ _⟩⟩
      · have w4 := rwOf_row j3
        have htk : (pv acc).take (acc.length * 2) = pv acc := List.take_of_length_le (by rw [pv_length]; omega)
        (repeat' first | (with_reducible first | apply x_seq | apply k_then | apply x_block | apply x_skip | apply x_ret | apply x_exit | apply x_label | apply k_pass | apply k_hit | apply k_miss rfl | apply k_out | apply k_turned | refine x_text fun K' hK => ?_) | ((with_reducible apply o_nil); refine hK _ _ _ ?_; clear hK) | ((with_reducible apply o_callF (g := 35) w_none); (case ha => (simp (disch := first | assumption | omega | rfl | decide) only [go_sem, Nat.reduceBEq, ↓reduceIte, Nat.reduceEqDiff, Nat.reduceAdd, Nat.reduceMul, Int.reduceToNat, Int.reduceAdd, Int.reduceMul, Int.reduceSub, tys]; exact rfl)); (case hs => (exact Sp.shut q1)); (case' hk => rintro _ h' n' ⟨rfl, rfl, rfl⟩)) | ((with_reducible apply o_apR (t := 44) apT44 w_none); (case hs => (simp (disch := first | assumption | omega | rfl | decide) only [go_sem, Nat.reduceBEq, ↓reduceIte, Nat.reduceEqDiff, Nat.reduceAdd, Nat.reduceMul, Int.reduceToNat, Int.reduceAdd, Int.reduceMul, Int.reduceSub, tys, w4]; exact rfl)); (case hy => (simp (disch := first | assumption | omega | rfl | decide) only [go_sem, Nat.reduceBEq, ↓reduceIte, Nat.reduceEqDiff, Nat.reduceAdd, Nat.reduceMul, Int.reduceToNat, Int.reduceAdd, Int.reduceMul, Int.reduceSub, tys, w4]; exact rfl)); (case hsrc => exact src_row (rowOf_same _ _ _ _ _) (by rw [pv_length, hgl])); (case hr => (simp (disch := first | assumption | omega | rfl | decide) only [go_sem, Nat.reduceBEq, ↓reduceIte, Nat.reduceEqDiff, Nat.reduceAdd, Nat.reduceMul, Int.reduceToNat, Int.reduceAdd, Int.reduceMul, Int.reduceSub, tys, w4]; exact rfl)); (case hc => exact pv_cok _); (case hm => omega); (case hli => omega); (case hln => omega); (case hcs => rw [pv_length]; omega)) | ((first | ((with_reducible apply o_pure w_none); (case hp => exact rfl); (case' he => intro h n)) | (with_reducible first | apply o_eff w_none | apply o_guard rfl | apply x_cond | apply k_e1 rfl | apply k_e2 rfl | apply k_e0 rfl | apply k_e3 rfl | apply k_e4 rfl)); (case he => (simp (disch := first | assumption | omega | rfl | decide) only [go_sem, Nat.reduceBEq, ↓reduceIte, Nat.reduceEqDiff, Nat.reduceAdd, Nat.reduceMul, Int.reduceToNat, Int.reduceAdd, Int.reduceMul, Int.reduceSub, tys, c2, w4] <;> rfl)); (try (case hok => first | exact rfl | exact ok_w (by omega) rfl)); all_goals (try (intro hb; (try (simp only [hbs, reduceCtorEq] at hb)); try (exfalso; omega)))) | ((with_reducible apply o_undef rfl); (case hb => (simp (disch := first | assumption | omega | rfl | decide) only [go_sem, Nat.reduceBEq, ↓reduceIte, Nat.reduceEqDiff, Nat.reduceAdd, Nat.reduceMul, Int.reduceToNat, Int.reduceAdd, Int.reduceMul, Int.reduceSub, tys]))))
        refine k_round (l - (q + 1)) (by omega) ⟨q + 1, .slice (some ⟨n4 + 1, 0, none⟩) (acc.length + qs.length) (acc.length + qs.length), rfl, by omega, (by first | (simp (disch := first | assumption | omega | rfl | decide) only [go_sem, Nat.reduceBEq, ↓reduceIte, Nat.reduceEqDiff, Nat.reduceAdd, Nat.reduceMul, Int.reduceToNat, Int.reduceAdd, Int.reduceMul, Int.reduceSub, tys]; done) | (simp (disch := first | assumption | omega | rfl | decide) only [go_sem, Nat.reduceBEq, ↓reduceIte, Nat.reduceEqDiff, Nat.reduceAdd, Nat.reduceMul, Int.reduceToNat, Int.reduceAdd, Int.reduceMul, Int.reduceSub, tys]; exact rfl)), by omega, ((hT4.set (by omega) _).set (by omega) _).set (by omega) _, by rw [rowOf_ne _ _ (by omega), rowOf_ne _ _ (by omega), rowOf_ne _ _ (by omega)]; exact qc, by rw [rowOf_ne _ _ (by omega), rowOf_ne _ _ (by omega), rowOf_ne _ _ (by omega)]; exact qp, .inr ⟨by rw [hfl]; simp [hp0], n4 + 1, by omega, by omega, by rw [hfl, List.length_append, hgl], by rw [hfl, pv_app, htk]; exact rowOf_same _ _ _ _ _⟩⟩
    · obtain rfl : q = l := by omega
      rw [← hca] at hO
      rcases hO with ⟨hp0, rfl⟩ | ⟨hp0, id5, j1, j2, rfl, j3⟩
      · exact absurd hp0 hnp
      · have q3 := sameparts_ev k (d + 49) n h4 n4 hk (some ⟨n, 0, none⟩) (some ⟨id5, 0, none⟩) ps ps.length ps.length ps.length ps.length rfl rfl (RdH.ofRow qc (by omega)) (RdH.ofRow j3 j2) (by omega)
        have q3 := q3.mono (Φ' := fun v2 h5 n5 => v2 = .bool true ∧ h4 = h5 ∧ n4 = n5) fun _ _ _ hp => ⟨hp.1, hp.2.1.symm, hp.2.2.symm⟩
        (repeat' first | (with_reducible first | apply x_seq | apply k_then | apply x_block | apply x_skip | apply x_ret | apply x_exit | apply x_label | apply k_pass | apply k_hit | apply k_miss rfl | apply k_out | apply k_turned | refine x_text fun K' hK => ?_) | ((with_reducible apply o_nil); refine hK _ _ _ ?_; clear hK) | ((with_reducible apply o_callF (g := 31) w_none); (case ha => (simp (disch := first | assumption | omega | rfl | decide) only [go_sem, Nat.reduceBEq, ↓reduceIte, Nat.reduceEqDiff, Nat.reduceAdd, Nat.reduceMul, Int.reduceToNat, Int.reduceAdd, Int.reduceMul, Int.reduceSub, tys]; exact rfl)); (case hs => (exact Sp.shut q3)); (case' hk => rintro _ h' n' ⟨rfl, rfl, rfl⟩)) | ((with_reducible apply o_callF (g := 33) w_none); (case ha => (simp (disch := first | assumption | omega | rfl | decide) only [go_sem, Nat.reduceBEq, ↓reduceIte, Nat.reduceEqDiff, Nat.reduceAdd, Nat.reduceMul, Int.reduceToNat, Int.reduceAdd, Int.reduceMul, Int.reduceSub, tys]; exact rfl)); (case hs => exact hal _ _ _); (case' hk => rintro _ h' n' ⟨rfl, rfl, rfl⟩)) | ((first | ((with_reducible apply o_pure w_none); (case hp => exact rfl); (case' he => intro h n)) | (with_reducible first | apply o_eff w_none | apply o_guard rfl | apply x_cond | apply k_e1 rfl | apply k_e2 rfl | apply k_e0 rfl | apply k_e3 rfl | apply k_e4 rfl)); (case he => (simp (disch := first | assumption | omega | rfl | decide) only [go_sem, Nat.reduceBEq, ↓reduceIte, Nat.reduceEqDiff, Nat.reduceAdd, Nat.reduceMul, Int.reduceToNat, Int.reduceAdd, Int.reduceMul, Int.reduceSub, tys, c2] <;> rfl)); (try (case hok => first | exact rfl | exact ok_w (by omega) rfl)); all_goals (try (intro hb; (try (simp only [hbs, reduceCtorEq] at hb)); try (exfalso; omega)))) | ((with_reducible apply o_undef rfl); (case hb => (simp (disch := first | assumption | omega | rfl | decide) only [go_sem, Nat.reduceBEq, ↓reduceIte, Nat.reduceEqDiff, Nat.reduceAdd, Nat.reduceMul, Int.reduceToNat, Int.reduceAdd, Int.reduceMul, Int.reduceSub, tys]))))
        all_goals exact sw_flat rfl rfl rfl
theorem lmd_str (hk : 30000 ≤ k) (A : Option Addr) (T : List Tp) (c : Nat) (hT : TabH h n A T) (hm : T.length ≤ 9223372036854775807) (j : Nat) (hj : j < T.length) (hS : ∀ t ∈ T, t.fs.length ≤ 20000) (he : (szR 1048576 T j).2.2 = 0) (h5 : (T[j]).kd = 5)
    (hal : ∀ cl h n, Sp Try.prog (shut (acall Try.prog WW k (d + 50))) cl 33 [] h n fun v h' n' => v = .bool true ∧ h' = h ∧ n' = n)
    (hS1 : Sp Try.prog (acall Try.prog WW k (d + 50)) n 32 [.slice A T.length c, .int .i64 j] h n fun v2 h2 n2 => v2 = .bool true ∧ h = h2 ∧ n = n2) :
    Sp Try.prog (afunc Try.prog (shut (acall Try.prog WW k (d + 50))) WW k) cl 7 [.slice A T.length c, .int .i64 j] h n fun v h' n' => v = .bool true := by
  have p2 := lcells_ok k (d + 10) n h n hk A T c hT hS hm j he
  obtain ⟨hC, h0, h1, hsz5, hze⟩ := szR_0 he
  have hl := hC.1
  have hF := hC.2.1
  have hfi := hF j hj
  have hfl8 := fine_len hfi
  have hEok : ∀ p ∈ eRow 1048576 T, EOk 1048576 p := by have := eRow_ok (C := 1048576) (by omega) (by decide) hF T.length (Nat.le_refl _); rwa [List.take_length] at this
  have hat : ∀ j : Int, 0 ≤ j → j < T.length → ((eRow 1048576 T).at_ j).1 ≤ 256 → (eRow 1048576 T).at_ j = (eRow 1000000 T).at_ j := fun j h0 h1 => ((ext_rel hF).2 j h0 (by rw [eRow_length]; exact h1)).big.2
  have e := eRow_at 1048576 hF hj
  rw [eOne_5 h5] at e
  have hall : ∀ x ∈ (T[j]).fs, 0 ≤ x.2 ∧ x.2 < T.length := fun x hx => by
    obtain ⟨q, hq, rfl⟩ := List.getElem_of_mem hx
    have := fine_fld hfi hq
    omega
  have hfo : FOk 1048576 (eRow 1048576 T) (T[j]).fs := fun x hx => Ext.at_mem hEok (hall x hx).1 (by rw [eRow_length]; exact (hall x hx).2)
  have hok := layR_ok (by omega) hfo (T[j]).fs.length (Nat.le_refl _)
  rw [List.take_length] at hok
  have hbb := upI_bnd hok.2.2 hok.1
  rw [e] at hsz5 hze
  dsimp only at hsz5
  have hli := lay_in (C := 1048576) (by omega) hfo (T[j]).fs.length (Nat.le_refl _) (by rw [List.take_length]; omega)
  rw [List.take_length] at hli
  have hsz : ∀ x ∈ (T[j]).fs, ((eRow 1048576 T).at_ x.2).1 ≤ 256 := fun x hx => by
    obtain ⟨q, hq, rfl⟩ := List.getElem_of_mem hx
    have := hli q hq
    omega
  have hom := fun {q : Nat} (hq : q + 1 < (T[j]).fs.length) => offs_mono (C := 1048576) (by decide) hfo (by omega) hq
  have hls := (lay_same (E := eRow 1048576 T) (G := eRow 1000000 T) (fs := (T[j]).fs) (fun x hx => hat _ (hall x hx).1 (hall x hx).2 (hsz x hx)) (fun x hx => ⟨(hfo x hx).1, hsz x hx, (hfo x hx).2.2⟩) (by omega) (T[j]).fs.length (Nat.le_refl _)).1
  rw [List.take_length] at hls
  have hcs := cells_str hC hj h5
  rw [← hls] at hcs
  have hlenj := (cellsT_bnd hC (j := j) hj (by rw [e]; exact hsz5)).2.2
  have hnj := cells_ne (C := 1000000) hF 32 j 0 hj (by omega)
  have hfd := hT.fd _ (List.getElem_mem hj)
  obtain ⟨fs, hfs⟩ : ∃ fs, (T[j]).fs = fs := ⟨_, rfl⟩
  have hfld := fun {q : Nat} (hq : q < fs.length) => fine_fld hfi (q := q) (by rw [hfs]; exact hq)
  rw [hfs] at hfl8 hall hsz hom hcs hli hfd hze
  obtain ⟨r1, hr1⟩ : ∃ r, AObj.row 57 false (pv (cellsT T j)) = r := ⟨_, rfl⟩
  have hT2 : TabH (h.set n r1) (n + 1) A T := (hT.set (Nat.le_refl _) _).more (by omega)
  have p1 := lsize_ev k (d + 42) n (h.set n r1) (n + 1) hk A T c hT2 hS hm j
  have p3 := lofs_ok k (d + 43) n (h.set n r1) (n + 1) hk A T c hT2 hS hm (T[j]).A fs (T[j]).c ((hfd.set (Nat.le_refl _) _).more (by omega)) (by omega) hC (by omega) hall hsz
  obtain ⟨offs, hoff⟩ : ∃ offs, (layR 1048576 (eRow 1048576 T) fs).1 = offs := ⟨_, rfl⟩
  obtain ⟨sz, hszz⟩ : ∃ sz, upI (layR 1048576 (eRow 1048576 T) fs).2.1 (layR 1048576 (eRow 1048576 T) fs).2.2 = sz := ⟨_, rfl⟩
  obtain ⟨al, hal2⟩ : ∃ al, (layR 1048576 (eRow 1048576 T) fs).2.2 = al := ⟨_, rfl⟩
  rw [hr1] at p2
  rw [hze] at p1
  have hol : offs.length = fs.length := by have := layR_len 1048576 (eRow 1048576 T) fs fs.length (Nat.le_refl _); rwa [List.take_length, hoff] at this
  rw [hszz, hal2] at p1
  rw [hoff, hszz, hal2] at p3
  dsimp only at p1
  rw [hoff] at hom hcs hli
  have htot : (layR 1048576 (eRow 1048576 T) fs).2.1 ≤ 256 := by rw [hfs] at hbb hsz5; omega
  obtain ⟨r2, hr2⟩ : ∃ r, AObj.row 3 false (iv offs) = r := ⟨_, rfl⟩
  rw [hr2] at p3
  obtain ⟨ps, hps⟩ : ∃ ps, cellsT T j = ps := ⟨_, rfl⟩
  have hnp : ps ≠ [] := by rw [← hps]; exact hnj
  rw [hps] at p2 hcs hlenj hr1
  obtain ⟨g, hg⟩ : ∃ g : Nat → List (Int × Int), g = fun (q : Nat) => shift (offs.getD q 0) (cellsT T (fs.getD q ([], 0)).2.toNat) := ⟨_, rfl⟩
  rw [← hg] at hcs
  obtain ⟨tid, toff, hAA, htid, -, ht0, -, -, ht3⟩ := hT.at_ hj
  subst hAA
  rw [h5] at ht0
  rw [hfs] at ht3
  refine enterS Try.func7 (by kernel_rfl) rfl (by kernel_rfl) rfl rfl rfl ?_
  (repeat' first | (with_reducible first | apply x_seq | apply k_then | apply x_block | apply x_skip | apply x_ret | apply x_exit | apply x_label | apply k_pass | apply k_hit | apply k_miss rfl | apply k_out | apply k_turned | refine x_text fun K' hK => ?_) | ((with_reducible apply o_nil); refine hK _ _ _ ?_; clear hK) | ((with_reducible apply o_callF (g := 32) w_none); (case ha => (simp (disch := first | assumption | omega | rfl | decide) only [go_sem, Nat.reduceBEq, ↓reduceIte, Nat.reduceEqDiff, Nat.reduceAdd, Nat.reduceMul, Int.reduceToNat, Int.reduceAdd, Int.reduceMul, Int.reduceSub, tys]; exact rfl)); (case hs => (exact Sp.shut hS1)); (case' hk => rintro _ h' n' ⟨rfl, rfl, rfl⟩)) | ((with_reducible apply o_callF (g := 18) w_none); (case ha => (simp (disch := first | assumption | omega | rfl | decide) only [go_sem, Nat.reduceBEq, ↓reduceIte, Nat.reduceEqDiff, Nat.reduceAdd, Nat.reduceMul, Int.reduceToNat, Int.reduceAdd, Int.reduceMul, Int.reduceSub, tys]; exact rfl)); (case hs => (exact Sp.shut p1)); (case' hk => rintro _ h' n' ⟨rfl, rfl, rfl⟩)) | ((with_reducible apply o_callF (g := 27) w_none); (case ha => (simp (disch := first | assumption | omega | rfl | decide) only [go_sem, Nat.reduceBEq, ↓reduceIte, Nat.reduceEqDiff, Nat.reduceAdd, Nat.reduceMul, Int.reduceToNat, Int.reduceAdd, Int.reduceMul, Int.reduceSub, tys]; exact rfl)); (case hs => (exact Sp.shut p2)); (case' hk => rintro _ h' n' ⟨rfl, rfl, rfl⟩)) | ((with_reducible apply o_callF (g := 20) w_none); (case ha => (simp (disch := first | assumption | omega | rfl | decide) only [go_sem, Nat.reduceBEq, ↓reduceIte, Nat.reduceEqDiff, Nat.reduceAdd, Nat.reduceMul, Int.reduceToNat, Int.reduceAdd, Int.reduceMul, Int.reduceSub, tys]; exact rfl)); (case hs => (exact Sp.shut p3)); (case' hk => rintro _ h' n' ⟨rfl, rfl, rfl⟩)) | ((first | ((with_reducible apply o_pure w_none); (case hp => exact rfl); (case' he => intro h n)) | (with_reducible first | apply o_eff w_none | apply o_guard rfl | apply x_cond | apply k_e1 rfl | apply k_e2 rfl | apply k_e0 rfl | apply k_e3 rfl | apply k_e4 rfl)); (case he => (simp (disch := first | assumption | omega | rfl | decide) only [go_sem, Nat.reduceBEq, ↓reduceIte, Nat.reduceEqDiff, Nat.reduceAdd, Nat.reduceMul, Int.reduceToNat, Int.reduceAdd, Int.reduceMul, Int.reduceSub, tys, ht0, ht3] <;> rfl)); (try (case hok => first | exact rfl | exact ok_w (by omega) rfl)); all_goals (try (intro hb; (try (simp only [hbs, reduceCtorEq] at hb)); try (exfalso; omega)))) | ((with_reducible apply o_undef rfl); (case hb => (simp (disch := first | assumption | omega | rfl | decide) only [go_sem, Nat.reduceBEq, ↓reduceIte, Nat.reduceEqDiff, Nat.reduceAdd, Nat.reduceMul, Int.reduceToNat, Int.reduceAdd, Int.reduceMul, Int.reduceSub, tys]))))
  refine x_loopV [4, 10, 21, 22, 23, 154, 155, 156, 157, 158, 159, 160, 161, 162, 163, 164, 165, 166, 167, 168, 169, 170, 171, 172, 173, 174, 175, 176, 177, 178, 179, 180, 181, 182, 183, 184, 185, 186, 187, 188, 189, 190, 191, 192, 193, 194, 195, 196, 197, 198, 199] [10, 21] (fun m vs h4 n4 => ∃ (q : Nat) (O : Value), m = fs.length - q ∧ q ≤ fs.length ∧ vs = [O, .int .i64 q] ∧ n + 1 + 1 ≤ n4 ∧ TabH h4 n (some ⟨tid, toff, none⟩) T ∧ rowOf h4 n = some (57, false, pv ps) ∧ rowOf h4 (n + 1) = some (3, false, iv offs) ∧ OwnC ((List.range q).flatMap g) O h4 (n + 1 + 1) n4) fs.length rfl (by omega) ?_ ?_
  · exact ⟨0, .slice none 0 0, rfl, by omega, (by first | (simp (disch := first | assumption | omega | rfl | decide) only [go_sem, Nat.reduceBEq, ↓reduceIte, Nat.reduceEqDiff, Nat.reduceAdd, Nat.reduceMul, Int.reduceToNat, Int.reduceAdd, Int.reduceMul, Int.reduceSub, tys]; done) | (simp (disch := first | assumption | omega | rfl | decide) only [go_sem, Nat.reduceBEq, ↓reduceIte, Nat.reduceEqDiff, Nat.reduceAdd, Nat.reduceMul, Int.reduceToNat, Int.reduceAdd, Int.reduceMul, Int.reduceSub, tys]; exact rfl)), Nat.le_refl _, (hT.set (by omega) _).set (by omega) _, by rw [rowOf_ne _ _ (by omega), ← hr1]; exact rowOf_same _ _ _ _ _, by rw [← hr2]; exact rowOf_same _ _ _ _ _, .inl ⟨rfl, rfl⟩⟩
  · rintro m fr _ h4 n4 ⟨q, O, rfl, hq, rfl, hn4, hT4, qc, qo, hO⟩
    obtain ⟨_, _, hA2, -, -, -, -, -, c3⟩ := hT4.at_ hj
    injection hA2 with hA2
    injection hA2 with z1 z2
    subst z1
    subst z2
    rw [hfs] at c3
    by_cases hql : q < fs.length
    · have hfd4 := hT4.fd _ (List.getElem_mem hj)
      rw [hfs] at hfd4
      obtain ⟨id2, off2, hFA, hid2, -, -, cty⟩ := fld_at hfd4 hql
      have hin := hfld hql
      have hgd : fs.getD q ([], 0) = fs[q] := by rw [List.getD_eq_getElem?_getD, List.getElem?_eq_getElem hql]; rfl
      have hlq2 := hli q hql
      have hin2 := hall _ (List.getElem_mem hql)
      have hszq := hsz _ (List.getElem_mem hql)
      obtain ⟨ty, hty2⟩ := Int.eq_ofNat_of_zero_le hin2.1
      rw [hty2] at cty hlq2 hin2 hszq
      rw [hFA] at c3
      have hS0 : 0 ≤ ((eRow 1048576 T).at_ (ty : Int)).1 := (Ext.at_mem hEok (by omega) (by rw [eRow_length]; omega)).1
      have hgq : g q = shift (offs.getD q 0) (cellsT T ty) := by
        rw [hg]
        show shift (offs.getD q 0) (cellsT T (fs.getD q ([], 0)).2.toNat) = _
        rw [hgd, hty2, Int.toNat_natCast]
      have hex : (szR 1048576 T (ty : Int)).2.2 = 0 := by unfold szR; rw [if_pos hC, if_pos ⟨by omega, by omega⟩, if_neg (by omega)]
      obtain ⟨hascx, -, hlenx⟩ := cellsT_bnd hC (j := ty) (by omega) hszq
      have hne := cells_ne (C := 1000000) hF 32 ty 0 (by omega) (by omega)
      have hbx : ∀ p ∈ cellsT T ty, 0 ≤ p.1 ∧ p.1 ≤ 1000 := fun p hp => by
        have := hascx.mem p hp
        have h3 : szT 1048576 T ty ≤ 256 := hszq
        omega
      have q1 := lcells_ok k (d + 10) n h4 n4 hk (some ⟨tid, toff, none⟩) T c (hT4.more (by omega)) hS hm ty hex
      obtain ⟨qs, hqs⟩ : ∃ qs, cellsT T ty = qs := ⟨_, rfl⟩
      have hnx : qs ≠ [] := by rw [← hqs]; exact hne
      rw [hqs] at q1 hgq hlenx hbx
      have hgl : (g q).length = qs.length := by rw [hgq]; unfold shift; rw [List.length_map]
      have hgn : g q ≠ [] := fun e0 => hnx (List.length_eq_zero_iff.1 (by rw [← hgl, e0]; rfl))
      have q2 := moved_ev k (d + 49) n (h4.set n4 (.row 57 false (pv qs))) (n4 + 1) hk (some ⟨n4, 0, none⟩) qs qs.length qs.length rfl (offs.getD q 0) (RdH.row (by omega)) hnx (by omega) hbx hlq2.1 (by omega)
      rw [← hgq] at q2
      have co := cellAt_row (off := q) qo
      rw [iv_lget (by omega)] at co
      have hfl : (List.range (q + 1)).flatMap g = (List.range q).flatMap g ++ g q := by rw [List.range_succ, List.flatMap_append, List.flatMap_cons, List.flatMap_nil, List.append_nil]
      have co2 := cellAt_row (off := q - 1) qo
      rw [iv_lget (by omega)] at co2
      have hnat : ((q : Int) - 1).toNat = q - 1 := by omega
      have hom2 : q = 0 ∨ offs.getD (q - 1) 0 ≤ offs.getD q 0 := by
        rcases Nat.eq_zero_or_pos q with e0 | e0
        · exact .inl e0
        · have := hom (q := q - 1) (by omega)
          rw [show q - 1 + 1 = q from by omega] at this
          exact .inr this
      have hlq : ((List.range q).flatMap g).length ≤ 8 * 256 := by
        have h1 := flat_le (g := g) (B := 256) q fun j hj => by
          rw [hg]
          show (shift (offs.getD j 0) (cellsT T (fs.getD j ([], 0)).2.toNat)).length ≤ 256
          unfold shift
          rw [List.length_map]
          have hjf : j < fs.length := by omega
          have h3 := hall _ (List.getElem_mem hjf)
          have h4 := hsz _ (List.getElem_mem hjf)
          obtain ⟨t, ht⟩ := Int.eq_ofNat_of_zero_le h3.1
          rw [List.getD_eq_getElem?_getD, List.getElem?_eq_getElem hjf, Option.getD_some, ht, Int.toNat_natCast]
          rw [ht] at h3 h4
          exact (cellsT_bnd hC (by omega) h4).2.2
        have h2 : q * 256 ≤ 8 * 256 := Nat.mul_le_mul (by omega) (Nat.le_refl _)
        omega
      obtain ⟨acc, hacc⟩ : ∃ acc, (List.range q).flatMap g = acc := ⟨_, rfl⟩
      rw [hacc] at hO hfl hlq
      have hof := hlq2.1
      have hof2 : offs.getD q 0 ≤ 256 := by omega
      rcases hO with ⟨hp0, rfl⟩ | ⟨hp0, id5, j1, j2, rfl, j3⟩
      · (repeat' first | (with_reducible first | apply x_seq | apply k_then | apply x_block | apply x_skip | apply x_ret | apply x_exit | apply x_label | apply k_pass | apply k_hit | apply k_miss rfl | apply k_out | apply k_turned | refine x_text fun K' hK => ?_) | ((with_reducible apply o_nil); refine hK _ _ _ ?_; clear hK) | (with_reducible refine x_drawnD (id := 27) [(9, 14)] (by kernel_rfl) fun K' hK => ?_) | ((with_reducible apply d_nil); (case hp => (simp (disch := omega) only [pairsOk, List.all_cons, List.all_nil, List.reverse_cons, List.reverse_nil, List.nil_append, List.cons_append, lget_zero, lget_succ, apartB, touches, made_mm, made_lt, made_ge, all_true, ble_t, ble_f, blt_t, blt_f, beq_f, List.contains_cons, List.contains_nil, Bool.and_true, Bool.true_and, Bool.and_false, Bool.false_and, Bool.or_false, Bool.false_or, Bool.not_false, Bool.not_true, beq_self_eq_true])); (case' hx => (refine hK _ _ _ ?_; clear hK))) | ((with_reducible apply d_pure w_none); (case hp => exact rfl); (case hc => exact rfl); (case he => (intro h n; simp (disch := first | assumption | omega | rfl | decide) only [go_sem, Nat.reduceBEq, ↓reduceIte, Nat.reduceEqDiff, Nat.reduceAdd, Nat.reduceMul, Int.reduceToNat, Int.reduceAdd, Int.reduceMul, Int.reduceSub, tys, co, co2, hnat]; exact rfl))) | ((with_reducible apply d_eff w_none); (case hc => exact rfl); (case he => (simp (disch := first | assumption | omega | rfl | decide) only [go_sem, Nat.reduceBEq, ↓reduceIte, Nat.reduceEqDiff, Nat.reduceAdd, Nat.reduceMul, Int.reduceToNat, Int.reduceAdd, Int.reduceMul, Int.reduceSub, tys, co, co2, hnat]; exact rfl)); (case hok => first | exact rfl | exact ok_w (by omega) rfl)) | ((with_reducible apply d_guard rfl); (case hb => (simp (disch := first | assumption | omega | rfl | decide) only [go_sem, Nat.reduceBEq, ↓reduceIte, Nat.reduceEqDiff, Nat.reduceAdd, Nat.reduceMul, Int.reduceToNat, Int.reduceAdd, Int.reduceMul, Int.reduceSub, tys, co, co2, hnat]; exact rfl)); (case' h1 => intro hb; (try (simp only [hbs, reduceCtorEq] at hb)); try (exfalso; omega)); (case' h2 => intro hb; (try (simp only [hbs, reduceCtorEq] at hb)); try (exfalso; omega))) | ((with_reducible apply o_callF (g := 27) w_none); (case ha => (simp (disch := first | assumption | omega | rfl | decide) only [go_sem, Nat.reduceBEq, ↓reduceIte, Nat.reduceEqDiff, Nat.reduceAdd, Nat.reduceMul, Int.reduceToNat, Int.reduceAdd, Int.reduceMul, Int.reduceSub, tys]; exact rfl)); (case hs => (exact Sp.shut q1)); (case' hk => rintro _ h' n' ⟨rfl, rfl, rfl⟩)) | ((with_reducible apply o_callF (g := 35) w_none); (case ha => (simp (disch := first | assumption | omega | rfl | decide) only [go_sem, Nat.reduceBEq, ↓reduceIte, Nat.reduceEqDiff, Nat.reduceAdd, Nat.reduceMul, Int.reduceToNat, Int.reduceAdd, Int.reduceMul, Int.reduceSub, tys]; exact rfl)); (case hs => (exact Sp.shut q2)); (case' hk => rintro _ h' n' ⟨rfl, rfl, rfl⟩)) | ((with_reducible apply o_ap0 (t := 44) apT44 w_none); (case hs => (first | (simp (disch := first | assumption | omega | rfl | decide) only [go_sem, Nat.reduceBEq, ↓reduceIte, Nat.reduceEqDiff, Nat.reduceAdd, Nat.reduceMul, Int.reduceToNat, Int.reduceAdd, Int.reduceMul, Int.reduceSub, tys]; done) | (simp (disch := first | assumption | omega | rfl | decide) only [go_sem, Nat.reduceBEq, ↓reduceIte, Nat.reduceEqDiff, Nat.reduceAdd, Nat.reduceMul, Int.reduceToNat, Int.reduceAdd, Int.reduceMul, Int.reduceSub, tys]; exact rfl))); (case hy => (first | (simp (disch := first | assumption | omega | rfl | decide) only [go_sem, Nat.reduceBEq, ↓reduceIte, Nat.reduceEqDiff, Nat.reduceAdd, Nat.reduceMul, Int.reduceToNat, Int.reduceAdd, Int.reduceMul, Int.reduceSub, tys]; done) | (simp (disch := first | assumption | omega | rfl | decide) only [go_sem, Nat.reduceBEq, ↓reduceIte, Nat.reduceEqDiff, Nat.reduceAdd, Nat.reduceMul, Int.reduceToNat, Int.reduceAdd, Int.reduceMul, Int.reduceSub, tys]; exact rfl))); (case hsrc => exact src_row (rowOf_same _ _ _ _ _) (by rw [pv_length, hgl])); (case hc => exact pv_cok _); (case hm => omega); (case h0 => exact fun hh => hnx (List.length_eq_zero_iff.1 hh))) | ((first | ((with_reducible apply o_pure w_none); (case hp => exact rfl); (case' he => intro h n)) | (with_reducible first | apply o_eff w_none | apply o_guard rfl | apply x_cond | apply k_e1 rfl | apply k_e2 rfl | apply k_e0 rfl | apply k_e3 rfl | apply k_e4 rfl)); (case he => (simp (disch := first | assumption | omega | rfl | decide) only [go_sem, Nat.reduceBEq, ↓reduceIte, Nat.reduceEqDiff, Nat.reduceAdd, Nat.reduceMul, Int.reduceToNat, Int.reduceAdd, Int.reduceMul, Int.reduceSub, tys, c3, cty, co, co2, hnat] <;> rfl)); (try (case hok => first | exact rfl | exact ok_w (by omega) rfl)); all_goals (try (intro hb; (try (simp only [hbs, reduceCtorEq] at hb)); try (exfalso; omega)))) | ((with_reducible apply o_undef rfl); (case hb => (simp (disch := first | assumption | omega | rfl | decide) only [go_sem, Nat.reduceBEq, ↓reduceIte, Nat.reduceEqDiff, Nat.reduceAdd, Nat.reduceMul, Int.reduceToNat, Int.reduceAdd, Int.reduceMul, Int.reduceSub, tys]))))
        all_goals
          refine k_round (fs.length - (q + 1)) (by omega) ⟨q + 1, .slice (some ⟨n4 + 1 + 1, 0, none⟩) qs.length qs.length, rfl, by omega, (by first | (simp (disch := first | assumption | omega | rfl | decide) only [go_sem, Nat.reduceBEq, ↓reduceIte, Nat.reduceEqDiff, Nat.reduceAdd, Nat.reduceMul, Int.reduceToNat, Int.reduceAdd, Int.reduceMul, Int.reduceSub, tys]; done) | (simp (disch := first | assumption | omega | rfl | decide) only [go_sem, Nat.reduceBEq, ↓reduceIte, Nat.reduceEqDiff, Nat.reduceAdd, Nat.reduceMul, Int.reduceToNat, Int.reduceAdd, Int.reduceMul, Int.reduceSub, tys]; exact rfl)), by omega, ((hT4.set (by omega) _).set (by omega) _).set (by omega) _, by rw [rowOf_ne _ _ (by omega), rowOf_ne _ _ (by omega), rowOf_ne _ _ (by omega)]; exact qc, by rw [rowOf_ne _ _ (by omega), rowOf_ne _ _ (by omega), rowOf_ne _ _ (by omega)]; exact qo, .inr ⟨by rw [hfl, hp0]; exact hgn, n4 + 1 + 1, by omega, by omega, by rw [hfl, hp0, List.nil_append, hgl], by rw [hfl, hp0]; exact rowOf_same _ _ _ _ _⟩⟩
      · have w4 := rwOf_row j3
        have htk : (pv acc).take (acc.length * 2) = pv acc := List.take_of_length_le (by rw [pv_length]; omega)
        (repeat' first | (with_reducible first | apply x_seq | apply k_then | apply x_block | apply x_skip | apply x_ret | apply x_exit | apply x_label | apply k_pass | apply k_hit | apply k_miss rfl | apply k_out | apply k_turned | refine x_text fun K' hK => ?_) | ((with_reducible apply o_nil); refine hK _ _ _ ?_; clear hK) | (with_reducible refine x_drawnD (id := 27) [(9, 14)] (by kernel_rfl) fun K' hK => ?_) | ((with_reducible apply d_nil); (case hp => (simp (disch := omega) only [pairsOk, List.all_cons, List.all_nil, List.reverse_cons, List.reverse_nil, List.nil_append, List.cons_append, lget_zero, lget_succ, apartB, touches, made_mm, made_lt, made_ge, all_true, ble_t, ble_f, blt_t, blt_f, beq_f, List.contains_cons, List.contains_nil, Bool.and_true, Bool.true_and, Bool.and_false, Bool.false_and, Bool.or_false, Bool.false_or, Bool.not_false, Bool.not_true, beq_self_eq_true])); (case' hx => (refine hK _ _ _ ?_; clear hK))) | ((with_reducible apply d_pure w_none); (case hp => exact rfl); (case hc => exact rfl); (case he => (intro h n; simp (disch := first | assumption | omega | rfl | decide) only [go_sem, Nat.reduceBEq, ↓reduceIte, Nat.reduceEqDiff, Nat.reduceAdd, Nat.reduceMul, Int.reduceToNat, Int.reduceAdd, Int.reduceMul, Int.reduceSub, tys, co, co2, hnat]; exact rfl))) | ((with_reducible apply d_eff w_none); (case hc => exact rfl); (case he => (simp (disch := first | assumption | omega | rfl | decide) only [go_sem, Nat.reduceBEq, ↓reduceIte, Nat.reduceEqDiff, Nat.reduceAdd, Nat.reduceMul, Int.reduceToNat, Int.reduceAdd, Int.reduceMul, Int.reduceSub, tys, co, co2, hnat]; exact rfl)); (case hok => first | exact rfl | exact ok_w (by omega) rfl)) | ((with_reducible apply d_guard rfl); (case hb => (simp (disch := first | assumption | omega | rfl | decide) only [go_sem, Nat.reduceBEq, ↓reduceIte, Nat.reduceEqDiff, Nat.reduceAdd, Nat.reduceMul, Int.reduceToNat, Int.reduceAdd, Int.reduceMul, Int.reduceSub, tys, co, co2, hnat]; exact rfl)); (case' h1 => intro hb; (try (simp only [hbs, reduceCtorEq] at hb)); try (exfalso; omega)); (case' h2 => intro hb; (try (simp only [hbs, reduceCtorEq] at hb)); try (exfalso; omega))) | ((with_reducible apply o_callF (g := 27) w_none); (case ha => (simp (disch := first | assumption | omega | rfl | decide) only [go_sem, Nat.reduceBEq, ↓reduceIte, Nat.reduceEqDiff, Nat.reduceAdd, Nat.reduceMul, Int.reduceToNat, Int.reduceAdd, Int.reduceMul, Int.reduceSub, tys]; exact rfl)); (case hs => (exact Sp.shut q1)); (case' hk => rintro _ h' n' ⟨rfl, rfl, rfl⟩)) | ((with_reducible apply o_callF (g := 35) w_none); (case ha => (simp (disch := first | assumption | omega | rfl | decide) only [go_sem, Nat.reduceBEq, ↓reduceIte, Nat.reduceEqDiff, Nat.reduceAdd, Nat.reduceMul, Int.reduceToNat, Int.reduceAdd, Int.reduceMul, Int.reduceSub, tys]; exact rfl)); (case hs => (exact Sp.shut q2)); (case' hk => rintro _ h' n' ⟨rfl, rfl, rfl⟩)) | ((with_reducible apply o_apR (t := 44) apT44 w_none); (case hs => (simp (disch := first | assumption | omega | rfl | decide) only [go_sem, Nat.reduceBEq, ↓reduceIte, Nat.reduceEqDiff, Nat.reduceAdd, Nat.reduceMul, Int.reduceToNat, Int.reduceAdd, Int.reduceMul, Int.reduceSub, tys, w4]; exact rfl)); (case hy => (simp (disch := first | assumption | omega | rfl | decide) only [go_sem, Nat.reduceBEq, ↓reduceIte, Nat.reduceEqDiff, Nat.reduceAdd, Nat.reduceMul, Int.reduceToNat, Int.reduceAdd, Int.reduceMul, Int.reduceSub, tys, w4]; exact rfl)); (case hsrc => exact src_row (rowOf_same _ _ _ _ _) (by rw [pv_length, hgl])); (case hr => (simp (disch := first | assumption | omega | rfl | decide) only [go_sem, Nat.reduceBEq, ↓reduceIte, Nat.reduceEqDiff, Nat.reduceAdd, Nat.reduceMul, Int.reduceToNat, Int.reduceAdd, Int.reduceMul, Int.reduceSub, tys, w4]; exact rfl)); (case hc => exact pv_cok _); (case hm => omega); (case hli => omega); (case hln => omega); (case hcs => rw [pv_length]; omega)) | ((first | ((with_reducible apply o_pure w_none); (case hp => exact rfl); (case' he => intro h n)) | (with_reducible first | apply o_eff w_none | apply o_guard rfl | apply x_cond | apply k_e1 rfl | apply k_e2 rfl | apply k_e0 rfl | apply k_e3 rfl | apply k_e4 rfl)); (case he => (simp (disch := first | assumption | omega | rfl | decide) only [go_sem, Nat.reduceBEq, ↓reduceIte, Nat.reduceEqDiff, Nat.reduceAdd, Nat.reduceMul, Int.reduceToNat, Int.reduceAdd, Int.reduceMul, Int.reduceSub, tys, c3, cty, co, co2, hnat, w4] <;> rfl)); (try (case hok => first | exact rfl | exact ok_w (by omega) rfl)); all_goals (try (intro hb; (try (simp only [hbs, reduceCtorEq] at hb)); try (exfalso; omega)))) | ((with_reducible apply o_undef rfl); (case hb => (simp (disch := first | assumption | omega | rfl | decide) only [go_sem, Nat.reduceBEq, ↓reduceIte, Nat.reduceEqDiff, Nat.reduceAdd, Nat.reduceMul, Int.reduceToNat, Int.reduceAdd, Int.reduceMul, Int.reduceSub, tys]))))
        all_goals
          refine k_round (fs.length - (q + 1)) (by omega) ⟨q + 1, .slice (some ⟨n4 + 1 + 1, 0, none⟩) (acc.length + qs.length) (acc.length + qs.length), rfl, by omega, (by first | (simp (disch := first | assumption | omega | rfl | decide) only [go_sem, Nat.reduceBEq, ↓reduceIte, Nat.reduceEqDiff, Nat.reduceAdd, Nat.reduceMul, Int.reduceToNat, Int.reduceAdd, Int.reduceMul, Int.reduceSub, tys]; done) | (simp (disch := first | assumption | omega | rfl | decide) only [go_sem, Nat.reduceBEq, ↓reduceIte, Nat.reduceEqDiff, Nat.reduceAdd, Nat.reduceMul, Int.reduceToNat, Int.reduceAdd, Int.reduceMul, Int.reduceSub, tys]; exact rfl)), by omega, (((hT4.set (by omega) _).set (by omega) _).set (by omega) _).set (by omega) _, by rw [rowOf_ne _ _ (by omega), rowOf_ne _ _ (by omega), rowOf_ne _ _ (by omega), rowOf_ne _ _ (by omega)]; exact qc, by rw [rowOf_ne _ _ (by omega), rowOf_ne _ _ (by omega), rowOf_ne _ _ (by omega), rowOf_ne _ _ (by omega)]; exact qo, .inr ⟨by rw [hfl]; simp [hp0], n4 + 1 + 1, by omega, by omega, by rw [hfl, List.length_append, hgl], by rw [hfl, pv_app, htk]; exact rowOf_same _ _ _ _ _⟩⟩
    · obtain rfl : q = fs.length := by omega
      rw [← hcs] at hO
      rcases hO with ⟨hp0, rfl⟩ | ⟨hp0, id5, j1, j2, rfl, j3⟩
      · exact absurd hp0 hnp
      · have q3 := sameparts_ev k (d + 49) n h4 n4 hk (some ⟨n, 0, none⟩) (some ⟨id5, 0, none⟩) ps ps.length ps.length ps.length ps.length rfl rfl (RdH.ofRow qc (by omega)) (RdH.ofRow j3 j2) (by omega)
        have q3 := q3.mono (Φ' := fun v2 h5 n5 => v2 = .bool true ∧ h4 = h5 ∧ n4 = n5) fun _ _ _ hp => ⟨hp.1, hp.2.1.symm, hp.2.2.symm⟩
        (repeat' first | (with_reducible first | apply x_seq | apply k_then | apply x_block | apply x_skip | apply x_ret | apply x_exit | apply x_label | apply k_pass | apply k_hit | apply k_miss rfl | apply k_out | apply k_turned | refine x_text fun K' hK => ?_) | ((with_reducible apply o_nil); refine hK _ _ _ ?_; clear hK) | ((with_reducible apply o_callF (g := 31) w_none); (case ha => (simp (disch := first | assumption | omega | rfl | decide) only [go_sem, Nat.reduceBEq, ↓reduceIte, Nat.reduceEqDiff, Nat.reduceAdd, Nat.reduceMul, Int.reduceToNat, Int.reduceAdd, Int.reduceMul, Int.reduceSub, tys]; exact rfl)); (case hs => (exact Sp.shut q3)); (case' hk => rintro _ h' n' ⟨rfl, rfl, rfl⟩)) | ((with_reducible apply o_callF (g := 33) w_none); (case ha => (simp (disch := first | assumption | omega | rfl | decide) only [go_sem, Nat.reduceBEq, ↓reduceIte, Nat.reduceEqDiff, Nat.reduceAdd, Nat.reduceMul, Int.reduceToNat, Int.reduceAdd, Int.reduceMul, Int.reduceSub, tys]; exact rfl)); (case hs => exact hal _ _ _); (case' hk => rintro _ h' n' ⟨rfl, rfl, rfl⟩)) | ((first | ((with_reducible apply o_pure w_none); (case hp => exact rfl); (case' he => intro h n)) | (with_reducible first | apply o_eff w_none | apply o_guard rfl | apply x_cond | apply k_e1 rfl | apply k_e2 rfl | apply k_e0 rfl | apply k_e3 rfl | apply k_e4 rfl)); (case he => (simp (disch := first | assumption | omega | rfl | decide) only [go_sem, Nat.reduceBEq, ↓reduceIte, Nat.reduceEqDiff, Nat.reduceAdd, Nat.reduceMul, Int.reduceToNat, Int.reduceAdd, Int.reduceMul, Int.reduceSub, tys] <;> rfl)); (try (case hok => first | exact rfl | exact ok_w (by omega) rfl)); all_goals (try (intro hb; (try (simp only [hbs, reduceCtorEq] at hb)); try (exfalso; omega)))) | ((with_reducible apply o_undef rfl); (case hb => (simp (disch := first | assumption | omega | rfl | decide) only [go_sem, Nat.reduceBEq, ↓reduceIte, Nat.reduceEqDiff, Nat.reduceAdd, Nat.reduceMul, Int.reduceToNat, Int.reduceAdd, Int.reduceMul, Int.reduceSub, tys]))))
        all_goals exact sw_flat rfl rfl rfl
theorem layoutMade_ev (hk : 30000 ≤ k) (A : Option Addr) (T : List Tp) (c : Nat) (hT : TabH h n A T) (i : Int) (hm : T.length ≤ 9223372036854775807) (hS0 : ∀ t ∈ T, t.fs.length ≤ 9223372036854775807)
    (hal : ∀ cl h n, Sp Try.prog (shut (acall Try.prog WW k (d + 50))) cl 33 [] h n fun v h' n' => v = .bool true ∧ h' = h ∧ n' = n) :
    Sp Try.prog (afunc Try.prog (shut (acall Try.prog WW k (d + 50))) WW k) cl 7 [.slice A T.length c, .int .i64 i] h n fun v h' n' => v = .bool true := by
  obtain ⟨v, h2, n2, ⟨B, rfl, hg, rfl, rfl⟩, hB⟩ := sp_fix (fit_ev k (d + 41) n h n hk A T c hT i hm hS0)
  have hB2 : Sp Try.prog (acall Try.prog WW k (d + 50)) n2 32 [.slice A T.length c, .int .i64 i] h2 n2 fun v3 h3 n3 => v3 = .bool B ∧ h2 = h3 ∧ n2 = n3 := hB.mono fun _ _ _ hp => ⟨hp.1, hp.2.1.symm, hp.2.2.symm⟩
  rcases B with _ | _
  · exact lmd_no k d cl h2 n2 A T c i hal hB2
  · obtain ⟨hS, he⟩ := hg rfl
    obtain ⟨-, h0, h1, -⟩ := szR_0 he
    obtain ⟨j, rfl⟩ := Int.eq_ofNat_of_zero_le h0
    have hS' : ∀ t ∈ T, t.fs.length ≤ 20000 := fun t ht => by have := hS t ht; omega
    have he' : (szR 1048576 T j).2.2 = 0 := by rw [szR_eq]; exact he
    have hj : j < T.length := by omega
    by_cases h6 : (T[j]).kd = 6
    · exact lmd_arr k d cl h2 n2 hk A T c hT hm j hj hS' he' h6 hal hB2
    · by_cases h5 : (T[j]).kd = 5
      · exact lmd_str k d cl h2 n2 hk A T c hT hm j hj hS' he' h5 hal hB2
      · exact lmd_one k d cl h2 n2 hk A T c hT hm j hj hS' he' h5 h6 hal hB2
end Go.Proofs.Ytgdokjfjmcleeaa.Ce
