/- The law KindsMore: a symbolic run. -/
import Derived.Test.YtgdokjfjmcleeaaJz
import Derived.Test.YtgdokjfjmcleeaaJma
import Derived.Test.YtgdokjfjmcleeaaAk
namespace Go.Proofs.Ytgdokjfjmcleeaa.Ce
open Go.RowKit
set_option linter.unusedVariables false
set_option linter.unusedSimpArgs false
attribute [local go_sem ↓] lv_tmp fput_some fput_none fputs_cons fputs_nil mix_in mix_out finit_zero finit_succ cellAt_same cellAt_ne cellsAt_same cellsAt_ne rwOf_same rwOf_ne' rowOf_same rowOf_ne
attribute [local go_sem] a_move a_assign a_pick a_alloc a_box a_build a_buildSlice bif_cok a_load a_store a_bin a_un a_convert a_func a_makeMap a_makeSlice a_slice a_fieldAddr a_indexAddr a_index a_extract a_len a_append a_copy a_max a_min lv_int lv_bool lv_str lv_func lv_nil b_add b_sub b_mul b_eql b_neq b_lss b_leq b_gtr b_geq b_quo b_rem b_shl8 b_or8 b_shr u_not p_pick m_max m_min x_tuple mVO_some lget_zero lget_succ ltake_zero ltake_cons ldrop_zero ldrop_cons overAt_zero overAt_cons over_nil over_cons Hp.set_set fill_nil fill_cons c_int1 c_bool1 c_str1 c_ptr1 c_sli1 c_map1 c_agg c_agg' cok_int cok_bool cok_str cok_ptr cok_sli cok_map List.length_cons List.length_nil List.all_cons List.all_nil Bool.and_true Bool.true_and Bool.and_self beq_self_eq_true wrap_i64 wrap_u64 wrap_u8 tdiv_pos tmod_pos Nat.zero_add Nat.add_zero Nat.mul_one Nat.zero_mul List.take_zero List.take_nil Option.bind_some Option.map_some Option.map_none cond_true cond_false List.map_cons List.map_nil List.cons_append List.nil_append Int.toNat_natCast Int.zero_add Int.add_zero Int.mul_zero Int.mul_one Bool.not_true Bool.not_false r_tmp r_cell
set_option maxRecDepth 100000
set_option maxHeartbeats 2000000

theorem askE_ok {T : List Tp} {i j : Int} (h : askE T i j = 0) : ChkT T ∧ (0 ≤ i ∧ i < T.length) ∧ 0 ≤ j ∧ j < T.length := by
  unfold askE at h
  by_cases hC : ChkT T
  · rw [if_pos hC] at h
    by_cases hi : (0 ≤ i ∧ i < T.length) ∧ 0 ≤ j ∧ j < T.length
    · exact ⟨hC, hi⟩
    · rw [if_neg hi] at h; cases h
  · rw [if_neg hC] at h; cases h
variable (k d cl : Nat) (h : Hp) (n : Nat)
theorem lkm_no (A : Option Addr) (T : List Tp) (c : Nat) (i j : Int)
    (hal : ∀ cl h n, Sp Try.prog (shut (acall Try.prog WW k (d + 30))) cl 45 [] h n fun v h' n' => v = .bool true ∧ h' = h ∧ n' = n)
    (hS1 : Sp Try.prog (acall Try.prog WW k (d + 30)) n 53 [.slice A T.length c, .int .i64 i, .int .i64 j] h n fun v2 h2 n2 => v2 = .bool false ∧ h = h2 ∧ n = n2) :
    Sp Try.prog (afunc Try.prog (shut (acall Try.prog WW k (d + 30))) WW k) cl 14 [.slice A T.length c, .int .i64 i, .int .i64 j] h n fun v h' n' => v = .bool true := by
  refine enterS Try.func14 (by kernel_rfl) rfl (by kernel_rfl) rfl rfl rfl ?_
  (repeat' first | (with_reducible first | apply x_seq | apply k_then | apply x_block | apply x_skip | apply x_ret | apply x_exit | apply x_label | apply k_pass | apply k_hit | apply k_miss rfl | apply k_out | apply k_turned | refine x_text fun K' hK => ?_) | ((with_reducible apply o_nil); refine hK _ _ _ ?_; clear hK) | ((with_reducible apply o_callF (g := 45) w_none); (case ha => (simp (disch := first | assumption | omega | rfl | decide) only [go_sem, Nat.reduceBEq, ↓reduceIte, Nat.reduceEqDiff, Nat.reduceAdd, Nat.reduceMul, Int.reduceToNat, Int.reduceAdd, Int.reduceMul, Int.reduceSub, tys]; exact rfl)); (case hs => exact hal _ _ _); (case' hk => rintro _ h' n' ⟨rfl, rfl, rfl⟩)) | ((with_reducible apply o_callF (g := 53) w_none); (case ha => (simp (disch := first | assumption | omega | rfl | decide) only [go_sem, Nat.reduceBEq, ↓reduceIte, Nat.reduceEqDiff, Nat.reduceAdd, Nat.reduceMul, Int.reduceToNat, Int.reduceAdd, Int.reduceMul, Int.reduceSub, tys]; exact rfl)); (case hs => (exact Sp.shut hS1)); (case' hk => rintro _ h' n' ⟨rfl, rfl, rfl⟩)) | ((first | ((with_reducible apply o_pure w_none); (case hp => exact rfl); (case' he => intro h n)) | (with_reducible first | apply o_eff w_none | apply o_guard rfl | apply x_cond | apply k_e1 rfl | apply k_e2 rfl | apply k_e0 rfl | apply k_e3 rfl | apply k_e4 rfl)); (case he => (simp (disch := first | assumption | omega | rfl | decide) only [go_sem, Nat.reduceBEq, ↓reduceIte, Nat.reduceEqDiff, Nat.reduceAdd, Nat.reduceMul, Int.reduceToNat, Int.reduceAdd, Int.reduceMul, Int.reduceSub, tys] <;> rfl)); (try (case hok => first | exact rfl | exact ok_w (by omega) rfl)); all_goals (try (intro hb; (try (simp only [hbs, reduceCtorEq] at hb)); try (exfalso; omega)))) | ((with_reducible apply o_undef rfl); (case hb => (simp (disch := first | assumption | omega | rfl | decide) only [go_sem, Nat.reduceBEq, ↓reduceIte, Nat.reduceEqDiff, Nat.reduceAdd, Nat.reduceMul, Int.reduceToNat, Int.reduceAdd, Int.reduceMul, Int.reduceSub, tys]))))
  all_goals exact sw_flat rfl rfl rfl
theorem lkm_big (A : Option Addr) (T : List Tp) (c : Nat) (i j : Int) (hb : 32 ≤ T.length)
    (hal : ∀ cl h n, Sp Try.prog (shut (acall Try.prog WW k (d + 30))) cl 45 [] h n fun v h' n' => v = .bool true ∧ h' = h ∧ n' = n)
    (hS1 : Sp Try.prog (acall Try.prog WW k (d + 30)) n 53 [.slice A T.length c, .int .i64 i, .int .i64 j] h n fun v2 h2 n2 => v2 = .bool true ∧ h = h2 ∧ n = n2) :
    Sp Try.prog (afunc Try.prog (shut (acall Try.prog WW k (d + 30))) WW k) cl 14 [.slice A T.length c, .int .i64 i, .int .i64 j] h n fun v h' n' => v = .bool true := by
  have hbig := hb
  refine enterS Try.func14 (by kernel_rfl) rfl (by kernel_rfl) rfl rfl rfl ?_
  (repeat' first | (with_reducible first | apply x_seq | apply k_then | apply x_block | apply x_skip | apply x_ret | apply x_exit | apply x_label | apply k_pass | apply k_hit | apply k_miss rfl | apply k_out | apply k_turned | refine x_text fun K' hK => ?_) | ((with_reducible apply o_nil); refine hK _ _ _ ?_; clear hK) | ((with_reducible apply o_callF (g := 45) w_none); (case ha => (simp (disch := first | assumption | omega | rfl | decide) only [go_sem, Nat.reduceBEq, ↓reduceIte, Nat.reduceEqDiff, Nat.reduceAdd, Nat.reduceMul, Int.reduceToNat, Int.reduceAdd, Int.reduceMul, Int.reduceSub, tys]; exact rfl)); (case hs => exact hal _ _ _); (case' hk => rintro _ h' n' ⟨rfl, rfl, rfl⟩)) | ((with_reducible apply o_callF (g := 53) w_none); (case ha => (simp (disch := first | assumption | omega | rfl | decide) only [go_sem, Nat.reduceBEq, ↓reduceIte, Nat.reduceEqDiff, Nat.reduceAdd, Nat.reduceMul, Int.reduceToNat, Int.reduceAdd, Int.reduceMul, Int.reduceSub, tys]; exact rfl)); (case hs => (exact Sp.shut hS1)); (case' hk => rintro _ h' n' ⟨rfl, rfl, rfl⟩)) | ((first | ((with_reducible apply o_pure w_none); (case hp => exact rfl); (case' he => intro h n)) | (with_reducible first | apply o_eff w_none | apply o_guard rfl | apply x_cond | apply k_e1 rfl | apply k_e2 rfl | apply k_e0 rfl | apply k_e3 rfl | apply k_e4 rfl)); (case he => (simp (disch := first | assumption | omega | rfl | decide) only [go_sem, Nat.reduceBEq, ↓reduceIte, Nat.reduceEqDiff, Nat.reduceAdd, Nat.reduceMul, Int.reduceToNat, Int.reduceAdd, Int.reduceMul, Int.reduceSub, tys] <;> rfl)); (try (case hok => first | exact rfl | exact ok_w (by omega) rfl)); all_goals (try (intro hb; (try (simp only [hbs, reduceCtorEq] at hb)); try (exfalso; omega)))) | ((with_reducible apply o_undef rfl); (case hb => (simp (disch := first | assumption | omega | rfl | decide) only [go_sem, Nat.reduceBEq, ↓reduceIte, Nat.reduceEqDiff, Nat.reduceAdd, Nat.reduceMul, Int.reduceToNat, Int.reduceAdd, Int.reduceMul, Int.reduceSub, tys]))))
  all_goals exact sw_flat rfl rfl rfl
theorem rd_row {h : Hp} {B id e : Nat} {ro : Bool} {vs : List Value} (hB : id < B) (hr : rowOf h id = some (e, ro, vs)) : RdH h B (some ⟨id, 0, none⟩) vs :=
  ⟨fun i j e => by injection e with e; injection e with e1; omega, .inr ⟨id, 0, rfl, fun k v hk => by rw [cellAt_row hr, lget_eq, Nat.zero_add]; exact hk⟩⟩
theorem dat_fs {T U : List Tp} (h : U.map Tp.dat = T.map Tp.dat) {u : Tp} (hu : u ∈ U) : ∃ t ∈ T, u.fs = t.fs := by
  have h1 : u.dat ∈ T.map Tp.dat := by rw [← h]; exact List.mem_map_of_mem hu
  obtain ⟨t, ht, e⟩ := List.mem_map.1 h1
  unfold Tp.dat at e
  injection e with e1 e
  injection e with e2 e
  injection e with e3 e4
  exact ⟨t, ht, e4.symm⟩
theorem dat_at {T U : List Tp} (hd : U.map Tp.dat = T.map Tp.dat) {x : Nat} (hx : x < T.length) (hu : x < U.length) : Dat U[x] T[x] := by
  have h5 := congrArg (fun l => l[x]?) hd
  simp only [List.getElem?_map] at h5
  rw [List.getElem?_eq_getElem hx, List.getElem?_eq_getElem hu] at h5
  simp only [Option.map_some, Option.some.injEq] at h5
  unfold Tp.dat at h5
  injection h5 with e1 h5
  injection h5 with e2 h5
  injection h5 with e3 e4
  exact ⟨e1, e2, e3, e4⟩
theorem lkm_yes (hk : 30000 ≤ k) (A : Option Addr) (T : List Tp) (c : Nat) (hT : TabH h n A T) (hm : T.length ≤ 9223372036854775807) (i j : Nat) (hS : ∀ t ∈ T, t.fs.length ≤ 20) (hC : ChkT T) (hi : i < T.length) (hj : j < T.length) (hL : T.length < 32)
    (hal : ∀ cl h n, Sp Try.prog (shut (acall Try.prog WW k (d + 30))) cl 45 [] h n fun v h' n' => v = .bool true ∧ h' = h ∧ n' = n)
    (hS1 : Sp Try.prog (acall Try.prog WW k (d + 30)) n 53 [.slice A T.length c, .int .i64 i, .int .i64 j] h n fun v2 h2 n2 => v2 = .bool true ∧ h = h2 ∧ n = n2) :
    Sp Try.prog (afunc Try.prog (shut (acall Try.prog WW k (d + 30))) WW k) cl 14 [.slice A T.length c, .int .i64 i, .int .i64 j] h n fun v h' n' => v = .bool true := by
  have hF := hC.2.1
  obtain ⟨tid, toff, hAA, htid, -⟩ := hT.at_ hi
  subst hAA
  have t1 := twin5_ev k (d + 29) n h n hk (some ⟨tid, toff, none⟩) T c hT (by omega) (by omega) hS
  refine enterS Try.func14 (by kernel_rfl) rfl (by kernel_rfl) rfl rfl rfl ?_
  (repeat' first | (with_reducible first | apply x_seq | apply k_then | apply x_block | apply x_skip | apply x_ret | apply x_exit | apply x_label | apply k_pass | apply k_hit | apply k_miss rfl | apply k_out | apply k_turned | refine x_text fun K' hK => ?_) | ((with_reducible apply o_nil); refine hK _ _ _ ?_; clear hK) | ((with_reducible apply o_callF (g := 53) w_none); (case ha => (simp (disch := first | assumption | omega | rfl | decide) only [go_sem, Nat.reduceBEq, ↓reduceIte, Nat.reduceEqDiff, Nat.reduceAdd, Nat.reduceMul, Int.reduceToNat, Int.reduceAdd, Int.reduceMul, Int.reduceSub, tys]; exact rfl)); (case hs => (exact Sp.shut hS1)); (case' hk => rintro _ h' n' ⟨rfl, rfl, rfl⟩)) | (with_reducible refine x_drawnD (id := 3) [(1, 5)] (by kernel_rfl) fun K' hK => ?_) | ((with_reducible apply d_nil); (case hp => (simp (disch := omega) only [pairsOk, List.all_cons, List.all_nil, List.reverse_cons, List.reverse_nil, List.nil_append, List.cons_append, lget_zero, lget_succ, apartB, touches, made_mm, made_lt, made_ge, all_true, ble_t, ble_f, blt_t, blt_f, beq_f, List.contains_cons, List.contains_nil, Bool.and_true, Bool.true_and, Bool.and_false, Bool.false_and, Bool.or_false, Bool.false_or, Bool.not_false, Bool.not_true, beq_self_eq_true])); (case' hx => (refine hK _ _ _ ?_; clear hK))) | ((with_reducible apply d_pure w_none); (case hp => exact rfl); (case hc => exact rfl); (case he => (intro h n; simp (disch := first | assumption | omega | rfl | decide) only [go_sem, Nat.reduceBEq, ↓reduceIte, Nat.reduceEqDiff, Nat.reduceAdd, Nat.reduceMul, Int.reduceToNat, Int.reduceAdd, Int.reduceMul, Int.reduceSub, tys]; exact rfl))) | ((with_reducible apply d_eff w_none); (case hc => exact rfl); (case he => (simp (disch := first | assumption | omega | rfl | decide) only [go_sem, Nat.reduceBEq, ↓reduceIte, Nat.reduceEqDiff, Nat.reduceAdd, Nat.reduceMul, Int.reduceToNat, Int.reduceAdd, Int.reduceMul, Int.reduceSub, tys]; exact rfl)); (case hok => first | exact rfl | exact ok_w (by omega) rfl)) | ((with_reducible apply d_guard rfl); (case hb => (simp (disch := first | assumption | omega | rfl | decide) only [go_sem, Nat.reduceBEq, ↓reduceIte, Nat.reduceEqDiff, Nat.reduceAdd, Nat.reduceMul, Int.reduceToNat, Int.reduceAdd, Int.reduceMul, Int.reduceSub, tys]; exact rfl)); (case' h1 => intro hb; (try (simp only [hbs, reduceCtorEq] at hb)); try (exfalso; omega)); (case' h2 => intro hb; (try (simp only [hbs, reduceCtorEq] at hb)); try (exfalso; omega))) | ((with_reducible apply d_callN (g := 17) w_none); (case hs0 => exact rfl); (case ha => (simp (disch := first | assumption | omega | rfl | decide) only [go_sem, Nat.reduceBEq, ↓reduceIte, Nat.reduceEqDiff, Nat.reduceAdd, Nat.reduceMul, Int.reduceToNat, Int.reduceAdd, Int.reduceMul, Int.reduceSub, tys]; exact rfl)); (case hs => (exact Sp.shut t1)); (case' hk => rintro _ h' n' ⟨id, U, rfl, hdat, k1, k2, q4, hrows, hfr, hn, hok⟩)) | ((first | ((with_reducible apply o_pure w_none); (case hp => exact rfl); (case' he => intro h n)) | (with_reducible first | apply o_eff w_none | apply o_guard rfl | apply x_cond | apply k_e1 rfl | apply k_e2 rfl | apply k_e0 rfl | apply k_e3 rfl | apply k_e4 rfl)); (case he => (simp (disch := first | assumption | omega | rfl | decide) only [go_sem, Nat.reduceBEq, ↓reduceIte, Nat.reduceEqDiff, Nat.reduceAdd, Nat.reduceMul, Int.reduceToNat, Int.reduceAdd, Int.reduceMul, Int.reduceSub, tys] <;> rfl)); (try (case hok => first | exact rfl | exact ok_w (by omega) rfl)); all_goals (try (intro hb; (try (simp only [hbs, reduceCtorEq] at hb)); try (exfalso; omega)))) | ((with_reducible apply o_undef rfl); (case hb => (simp (disch := first | assumption | omega | rfl | decide) only [go_sem, Nat.reduceBEq, ↓reduceIte, Nat.reduceEqDiff, Nat.reduceAdd, Nat.reduceMul, Int.reduceToNat, Int.reduceAdd, Int.reduceMul, Int.reduceSub, tys]))))
  obtain ⟨h1, hh1⟩ : ∃ x, x = h' := ⟨_, rfl⟩
  obtain ⟨n1, hn1⟩ : ∃ x, x = n' := ⟨_, rfl⟩
  subst hh1
  subst hn1
  have hT1 : TabH h1 n (some ⟨tid, toff, none⟩) T := ⟨hfr _ _ hT.rd, fun t ht => hfr _ _ (hT.fd t ht), hT.nl, hT.bd⟩
  obtain ⟨_, _, hA2, -, ht4, -⟩ := hT1.at_ hi
  injection hA2 with hA2
  injection hA2 with z1 z2
  subst z1
  subst z2
  have hUl : U.length = T.length := by have := congrArg List.length hdat; rwa [List.length_map, List.length_map] at this
  have w4 := rwOf_row q4
  have htw : (tv U).take (T.length * 4) = tv U := List.take_of_length_le (by rw [tv_length, hUl]; omega)
  (repeat' first | (with_reducible first | apply x_seq | apply k_then | apply x_block | apply x_skip | apply x_ret | apply x_exit | apply x_label | apply k_pass | apply k_hit | apply k_miss rfl | apply k_out | apply k_turned | refine x_text fun K' hK => ?_) | ((with_reducible apply o_nil); refine hK _ _ _ ?_; clear hK) | ((with_reducible apply d_nil); (case hp => (simp (disch := omega) only [pairsOk, List.all_cons, List.all_nil, List.reverse_cons, List.reverse_nil, List.nil_append, List.cons_append, lget_zero, lget_succ, apartB, touches, made_mm, made_lt, made_ge, all_true, ble_t, ble_f, blt_t, blt_f, beq_f, List.contains_cons, List.contains_nil, Bool.and_true, Bool.true_and, Bool.and_false, Bool.false_and, Bool.or_false, Bool.false_or, Bool.not_false, Bool.not_true, beq_self_eq_true])); (case' hx => (refine hK _ _ _ ?_; clear hK))) | ((with_reducible apply d_pure w_none); (case hp => exact rfl); (case hc => exact rfl); (case he => (intro h n; simp (disch := first | assumption | omega | rfl | decide) only [go_sem, Nat.reduceBEq, ↓reduceIte, Nat.reduceEqDiff, Nat.reduceAdd, Nat.reduceMul, Int.reduceToNat, Int.reduceAdd, Int.reduceMul, Int.reduceSub, tys, ht4, w4]; exact rfl))) | ((with_reducible apply d_eff w_none); (case hc => exact rfl); (case he => (simp (disch := first | assumption | omega | rfl | decide) only [go_sem, Nat.reduceBEq, ↓reduceIte, Nat.reduceEqDiff, Nat.reduceAdd, Nat.reduceMul, Int.reduceToNat, Int.reduceAdd, Int.reduceMul, Int.reduceSub, tys, ht4, w4]; exact rfl)); (case hok => first | exact rfl | exact ok_w (by omega) rfl)) | ((with_reducible apply d_guard rfl); (case hb => (simp (disch := first | assumption | omega | rfl | decide) only [go_sem, Nat.reduceBEq, ↓reduceIte, Nat.reduceEqDiff, Nat.reduceAdd, Nat.reduceMul, Int.reduceToNat, Int.reduceAdd, Int.reduceMul, Int.reduceSub, tys, ht4, w4]; exact rfl)); (case' h1 => intro hb; (try (simp only [hbs, reduceCtorEq] at hb)); try (exfalso; omega)); (case' h2 => intro hb; (try (simp only [hbs, reduceCtorEq] at hb)); try (exfalso; omega))) | ((with_reducible apply d_apR (t := 22) apT22 w_none); (case hs => (first | (simp (disch := first | assumption | omega | rfl | decide) only [go_sem, Nat.reduceBEq, ↓reduceIte, Nat.reduceEqDiff, Nat.reduceAdd, Nat.reduceMul, Int.reduceToNat, Int.reduceAdd, Int.reduceMul, Int.reduceSub, tys, w4]; done) | (simp (disch := first | assumption | omega | rfl | decide) only [go_sem, Nat.reduceBEq, ↓reduceIte, Nat.reduceEqDiff, Nat.reduceAdd, Nat.reduceMul, Int.reduceToNat, Int.reduceAdd, Int.reduceMul, Int.reduceSub, tys, w4]; exact rfl))); (case hy => (simp (disch := first | assumption | omega | rfl | decide) only [go_sem, Nat.reduceBEq, ↓reduceIte, Nat.reduceEqDiff, Nat.reduceAdd, Nat.reduceMul, Int.reduceToNat, Int.reduceAdd, Int.reduceMul, Int.reduceSub, tys, w4]; exact rfl)); (case hsrc => exact src_row (rowOf_same _ _ _ _ _) rfl); (case hr => (simp (disch := first | assumption | omega | rfl | decide) only [go_sem, Nat.reduceBEq, ↓reduceIte, Nat.reduceEqDiff, Nat.reduceAdd, Nat.reduceMul, Int.reduceToNat, Int.reduceAdd, Int.reduceMul, Int.reduceSub, tys, w4]; exact rfl)); (case hc => exact rfl); (case hm => omega); (case hli => omega); (case hln => omega); (case hcs => rw [tv_length, hUl]; omega); (case' hx => intro rd)) | ((first | ((with_reducible apply o_pure w_none); (case hp => exact rfl); (case' he => intro h n)) | (with_reducible first | apply o_eff w_none | apply o_guard rfl | apply x_cond | apply k_e1 rfl | apply k_e2 rfl | apply k_e0 rfl | apply k_e3 rfl | apply k_e4 rfl)); (case he => (simp (disch := first | assumption | omega | rfl | decide) only [go_sem, Nat.reduceBEq, ↓reduceIte, Nat.reduceEqDiff, Nat.reduceAdd, Nat.reduceMul, Int.reduceToNat, Int.reduceAdd, Int.reduceMul, Int.reduceSub, tys, ht4, w4] <;> rfl)); (try (case hok => first | exact rfl | exact ok_w (by omega) rfl)); all_goals (try (intro hb; (try (simp only [hbs, reduceCtorEq] at hb)); try (exfalso; omega)))) | ((with_reducible apply o_undef rfl); (case hb => (simp (disch := first | assumption | omega | rfl | decide) only [go_sem, Nat.reduceBEq, ↓reduceIte, Nat.reduceEqDiff, Nat.reduceAdd, Nat.reduceMul, Int.reduceToNat, Int.reduceAdd, Int.reduceMul, Int.reduceSub, tys]))))
  have hok2 : ∀ t ∈ T, TpOk t := hT.bd
  obtain ⟨V, hV⟩ : ∃ V, V = U ++ [T[i]] := ⟨_, rfl⟩
  have hVl : V.length = T.length + 1 := by rw [hV, List.length_append, hUl]; rfl
  have hVe : tv V = (tv U).take (T.length * 4) ++ [.int .u8 T[i].kd, .int .i64 T[i].el, .int .i64 T[i].ln, .slice T[i].A T[i].fs.length T[i].c] := by rw [htw, hV, tv, List.flatMap_append]; rfl
  have hMo : More T V i := by
    refine ⟨hVl, hi, fun x hx hv => ?_, fun hx hv => ?_⟩
    · subst hV
      rw [List.getElem_append_left (by omega)]
      exact dat_at hdat hx (by omega)
    · subst hV
      rw [List.getElem_append_right (by omega)]
      simp only [hUl, Nat.sub_self, List.getElem_cons_zero]
      exact ⟨rfl, rfl, rfl, rfl⟩
  have hti1 := hT1.fd _ (List.getElem_mem hi)
  have hni1 := hT1.nl _ (List.getElem_mem hi)
  have hbi1 := hT1.bd _ (List.getElem_mem hi)
  have hSi := hS _ (List.getElem_mem hi)
  rw [← hVe]
  obtain ⟨H, hH⟩ : ∃ x, x = ((h1.set n1 (.row 60 false [.int .u8 T[i].kd, .int .i64 T[i].el, .int .i64 T[i].ln, .slice T[i].A T[i].fs.length T[i].c])).set id none).set (n1 + 1) (.row 60 false (tv V)) := ⟨_, rfl⟩
  rw [← hH]
  have hTH : TabH H n (some ⟨tid, toff, none⟩) T := by rw [hH]; exact ((hT1.set hn _).set k1 _).set (by omega) _
  have hVH : TabH H (n1 + 1 + 1) (some ⟨n1 + 1, 0, none⟩) V := by
    refine ⟨by rw [hH]; exact RdH.row (by omega), fun v hv => ?_, fun v hv he => ?_, fun v hv => ?_⟩
    · rw [hV] at hv
      rcases List.mem_append.1 hv with hv | hv
      · obtain ⟨idu, j1, j2, j3, j4, j5⟩ := hrows v hv
        rw [j1, hH]
        exact RdH.ne (RdH.ne (RdH.ne (rd_row (by omega) j5) (by omega) _) j4 _) (by omega) _
      · obtain rfl := List.mem_singleton.1 hv
        rw [hH]
        exact (((hti1.set hn _).set k1 _).set (by omega) _).more (by omega)
    · rw [hV] at hv
      rcases List.mem_append.1 hv with hv | hv
      · obtain ⟨idu, j1, -⟩ := hrows v hv
        rw [j1] at he; cases he
      · obtain rfl := List.mem_singleton.1 hv
        exact hni1 he
    · rw [hV] at hv
      rcases List.mem_append.1 hv with hv | hv
      · exact hok v hv
      · obtain rfl := List.mem_singleton.1 hv
        exact hbi1
  have hSV : ∀ v ∈ V, v.fs.length ≤ 20000 := fun v hv => by
    rw [hV] at hv
    rcases List.mem_append.1 hv with hv | hv
    · obtain ⟨t, ht, e⟩ := dat_fs hdat hv
      have := hS t ht
      rw [e]; omega
    · obtain rfl := List.mem_singleton.1 hv
      omega
  have hST : ∀ t ∈ T, t.fs.length ≤ 20000 := fun t ht => by have := hS t ht; omega
  have hCV := hMo.chk hC hL
  have eh := hMo.holds hF hi hj
  have er := hMo.reach hF hi
  have ea := hMo.alikeB hF hi hj
  have el := hMo.alikeL hF hj
  have hmV : V.length ≤ 9223372036854775807 := by omega
  have hiV : i < V.length := by omega
  have hjV : j < V.length := by omega
  have hlV : T.length < V.length := by omega
  have hrl := reach_len T i
  obtain ⟨rl, hrle⟩ : ∃ rl, reachL T i = rl := ⟨_, rfl⟩
  obtain ⟨a, hae⟩ : ∃ a, holdsB T i j = a := ⟨_, rfl⟩
  obtain ⟨b, hbe⟩ : ∃ b, alikeB T i j = b := ⟨_, rfl⟩
  rw [hrle] at hrl er
  rw [hae] at eh
  rw [hbe] at ea el
  have p1 := (pholds_ok k (d + 22) n H (n1 + 1 + 1) hk (some ⟨tid, toff, none⟩) T c (hTH.more (by omega)) hST hm hC i j hi hj).mono (Φ' := fun v2 h2 n2 => v2 = .tuple ⟨[.bool a, .int .i64 0]⟩ ∧ H = h2 ∧ n1 + 1 + 1 = n2) fun _ _ _ hp => ⟨by rw [← hae]; exact hp.1, hp.2.1.symm, hp.2.2.symm⟩
  have p2 := (pholds_ok k (d + 22) n H (n1 + 1 + 1) hk (some ⟨n1 + 1, 0, none⟩) V (T.length + 1) hVH hSV hmV hCV i j hiV hjV).mono (Φ' := fun v2 h2 n2 => v2 = .tuple ⟨[.bool a, .int .i64 0]⟩ ∧ H = h2 ∧ n1 + 1 + 1 = n2) fun _ _ _ hp => ⟨by rw [← eh]; exact hp.1, hp.2.1.symm, hp.2.2.symm⟩
  rw [hVl] at p2
  have r1 := (preach_ok k (d + 22) n H (n1 + 1 + 1) hk (some ⟨tid, toff, none⟩) T c (hTH.more (by omega)) hST hm hC i hi).mono (Φ' := fun v h' n' => ∃ RL rc, v = .tuple ⟨[.slice RL rl.length rc, .int .i64 0]⟩ ∧ RdH h' n' RL (iv rl) ∧ n1 + 1 + 1 ≤ n' ∧ ∀ b, b < n1 + 1 + 1 → h'.get b = H.get b) fun v h' n' hh => by
    obtain ⟨X, rfl, hX⟩ := hh
    rw [hrle] at hX
    obtain ⟨LA, lc, rfl, h1, -, h3, h4⟩ := hX.rd
    exact ⟨LA, lc, rfl, h1, h3, h4⟩
  clear hMo hV hVe hH hdat hrows q4 hok hok2 htw hti1 hni1 hbi1 w4 t1 ht4 hfr hT hT1
  (repeat' first | (with_reducible first | apply x_seq | apply k_then | apply x_block | apply x_skip | apply x_ret | apply x_exit | apply x_label | apply k_pass | apply k_hit | apply k_miss rfl | apply k_out | apply k_turned | refine x_text fun K' hK => ?_) | ((with_reducible apply o_nil); refine hK _ _ _ ?_; clear hK) | ((with_reducible apply o_callF (g := 40) w_none); (case ha => (simp (disch := first | assumption | omega | rfl | decide) only [go_sem, Nat.reduceBEq, ↓reduceIte, Nat.reduceEqDiff, Nat.reduceAdd, Nat.reduceMul, Int.reduceToNat, Int.reduceAdd, Int.reduceMul, Int.reduceSub, tys]; exact rfl)); (case hs => (with_reducible first | exact Sp.shut p1 | exact Sp.shut p2)); (case' hk => rintro _ h' n' ⟨rfl, rfl, rfl⟩)) | ((with_reducible apply o_callF (g := 42) w_none); (case ha => (simp (disch := first | assumption | omega | rfl | decide) only [go_sem, Nat.reduceBEq, ↓reduceIte, Nat.reduceEqDiff, Nat.reduceAdd, Nat.reduceMul, Int.reduceToNat, Int.reduceAdd, Int.reduceMul, Int.reduceSub, tys]; exact rfl)); (case hs => (with_reducible exact Sp.shut r1)); (case' hk => rintro _ h' n' ⟨RL, rc, rfl, hrR, hnR, hkR⟩)) | ((first | ((with_reducible apply o_pure w_none); (case hp => exact rfl); (case' he => intro h n)) | (with_reducible first | apply o_eff w_none | apply o_guard rfl | apply x_cond | apply k_e1 rfl | apply k_e2 rfl | apply k_e0 rfl | apply k_e3 rfl | apply k_e4 rfl)); (case he => (simp (disch := first | assumption | omega | rfl | decide) only [go_sem, Nat.reduceBEq, ↓reduceIte, Nat.reduceEqDiff, Nat.reduceAdd, Nat.reduceMul, Int.reduceToNat, Int.reduceAdd, Int.reduceMul, Int.reduceSub, tys] <;> rfl)); (try (case hok => first | exact rfl | exact ok_w (by omega) rfl)); all_goals (try (intro hb; (try (simp only [hbs, reduceCtorEq] at hb)); try (exfalso; omega)))) | ((with_reducible apply o_undef rfl); (case hb => (simp (disch := first | assumption | omega | rfl | decide) only [go_sem, Nat.reduceBEq, ↓reduceIte, Nat.reduceEqDiff, Nat.reduceAdd, Nat.reduceMul, Int.reduceToNat, Int.reduceAdd, Int.reduceMul, Int.reduceSub, tys]))))
  obtain ⟨h3, hh3⟩ : ∃ x, x = h' := ⟨_, rfl⟩
  obtain ⟨n3, hn3⟩ : ∃ x, x = n' := ⟨_, rfl⟩
  subst hh3
  subst hn3
  have hT3 := hTH.keep (by omega) hkR
  have hV3 := hVH.keep (Nat.le_refl _) hkR
  clear p1 p2 r1
  have r2 := (preach_ok k (d + 22) n h3 n3 hk (some ⟨n1 + 1, 0, none⟩) V (T.length + 1) (hV3.more (by omega)) hSV hmV hCV i hiV).mono (Φ' := fun v h' n' => ∃ RL rc, v = .tuple ⟨[.slice RL rl.length rc, .int .i64 0]⟩ ∧ RdH h' n' RL (iv rl) ∧ n3 ≤ n' ∧ ∀ b, b < n3 → h'.get b = h3.get b) fun v h' n' hh => by
    obtain ⟨X, rfl, hX⟩ := hh
    rw [er] at hX
    obtain ⟨LA, lc, rfl, h1, -, h3, h4⟩ := hX.rd
    exact ⟨LA, lc, rfl, h1, h3, h4⟩
  rw [hVl] at r2
  (repeat' first | (with_reducible first | apply x_seq | apply k_then | apply x_block | apply x_skip | apply x_ret | apply x_exit | apply x_label | apply k_pass | apply k_hit | apply k_miss rfl | apply k_out | apply k_turned | refine x_text fun K' hK => ?_) | ((with_reducible apply o_nil); refine hK _ _ _ ?_; clear hK) | ((with_reducible apply o_callF (g := 42) w_none); (case ha => (simp (disch := first | assumption | omega | rfl | decide) only [go_sem, Nat.reduceBEq, ↓reduceIte, Nat.reduceEqDiff, Nat.reduceAdd, Nat.reduceMul, Int.reduceToNat, Int.reduceAdd, Int.reduceMul, Int.reduceSub, tys]; exact rfl)); (case hs => (with_reducible exact Sp.shut r2)); (case' hk => rintro _ h' n' ⟨RL2, rc2, rfl, hrR2, hnR2, hkR2⟩)) | ((first | ((with_reducible apply o_pure w_none); (case hp => exact rfl); (case' he => intro h n)) | (with_reducible first | apply o_eff w_none | apply o_guard rfl | apply x_cond | apply k_e1 rfl | apply k_e2 rfl | apply k_e0 rfl | apply k_e3 rfl | apply k_e4 rfl)); (case he => (simp (disch := first | assumption | omega | rfl | decide) only [go_sem, Nat.reduceBEq, ↓reduceIte, Nat.reduceEqDiff, Nat.reduceAdd, Nat.reduceMul, Int.reduceToNat, Int.reduceAdd, Int.reduceMul, Int.reduceSub, tys] <;> rfl)); (try (case hok => first | exact rfl | exact ok_w (by omega) rfl)); all_goals (try (intro hb; (try (simp only [hbs, reduceCtorEq] at hb)); try (exfalso; omega)))) | ((with_reducible apply o_undef rfl); (case hb => (simp (disch := first | assumption | omega | rfl | decide) only [go_sem, Nat.reduceBEq, ↓reduceIte, Nat.reduceEqDiff, Nat.reduceAdd, Nat.reduceMul, Int.reduceToNat, Int.reduceAdd, Int.reduceMul, Int.reduceSub, tys]))))
  obtain ⟨h4, hh4⟩ : ∃ x, x = h' := ⟨_, rfl⟩
  obtain ⟨n4, hn4⟩ : ∃ x, x = n' := ⟨_, rfl⟩
  subst hh4
  subst hn4
  have hT4 := hT3.keep (by omega) hkR2
  have hV4 := hV3.keep (by omega) hkR2
  have hrR4 := (hrR.keep (Nat.le_refl _) hkR2).more hnR2
  have s1 := (psame_ok k (d + 22) n h4 n4 hk (some ⟨tid, toff, none⟩) T c (hT4.more (by omega)) hST hm hC i j hi hj).mono (Φ' := fun v2 h2 n2 => v2 = .tuple ⟨[.bool b, .int .i64 0]⟩ ∧ h4 = h2 ∧ n4 = n2) fun _ _ _ hp => ⟨by rw [← hbe]; exact hp.1, hp.2.1.symm, hp.2.2.symm⟩
  have s2 := (psame_ok k (d + 22) n h4 n4 hk (some ⟨n1 + 1, 0, none⟩) V (T.length + 1) (hV4.more (by omega)) hSV hmV hCV i j hiV hjV).mono (Φ' := fun v2 h2 n2 => v2 = .tuple ⟨[.bool b, .int .i64 0]⟩ ∧ h4 = h2 ∧ n4 = n2) fun _ _ _ hp => ⟨by rw [← ea]; exact hp.1, hp.2.1.symm, hp.2.2.symm⟩
  have s3 := (psame_ok k (d + 22) n h4 n4 hk (some ⟨n1 + 1, 0, none⟩) V (T.length + 1) (hV4.more (by omega)) hSV hmV hCV j T.length hjV hlV).mono (Φ' := fun v2 h2 n2 => v2 = .tuple ⟨[.bool b, .int .i64 0]⟩ ∧ h4 = h2 ∧ n4 = n2) fun _ _ _ hp => ⟨by rw [← el]; exact hp.1, hp.2.1.symm, hp.2.2.symm⟩
  have s4 := (pcheck_ev k (d + 24) n h4 n4 hk (some ⟨n1 + 1, 0, none⟩) V (T.length + 1) (hV4.more (by omega)) hSV hmV).mono (Φ' := fun v2 h2 n2 => v2 = .int .i64 0 ∧ h4 = h2 ∧ n4 = n2) fun _ _ _ hp => ⟨by rw [← errT_ok hCV]; exact hp.1, hp.2.1.symm, hp.2.2.symm⟩
  have s5 := (sameints_ev k (d + 29) n h4 n4 hk RL RL2 rl rl.length rc rc2 rfl hrR4 hrR2 (by omega)).mono (Φ' := fun v2 h2 n2 => v2 = .bool true ∧ h4 = h2 ∧ n4 = n2) fun _ _ _ hp => ⟨hp.1, hp.2.1.symm, hp.2.2.symm⟩
  rw [hVl] at s2 s3 s4
  clear eh er ea el hae hbe hrle
  (repeat' first | (with_reducible first | apply x_seq | apply k_then | apply x_block | apply x_skip | apply x_ret | apply x_exit | apply x_label | apply k_pass | apply k_hit | apply k_miss rfl | apply k_out | apply k_turned | refine x_text fun K' hK => ?_) | ((with_reducible apply o_nil); refine hK _ _ _ ?_; clear hK) | ((with_reducible apply o_callF (g := 43) w_none); (case ha => (simp (disch := first | assumption | omega | rfl | decide) only [go_sem, Nat.reduceBEq, ↓reduceIte, Nat.reduceEqDiff, Nat.reduceAdd, Nat.reduceMul, Int.reduceToNat, Int.reduceAdd, Int.reduceMul, Int.reduceSub, tys]; exact rfl)); (case hs => (with_reducible first | exact Sp.shut s1 | exact Sp.shut s2 | exact Sp.shut s3)); (case' hk => rintro _ h' n' ⟨rfl, rfl, rfl⟩)) | ((first | ((with_reducible apply o_pure w_none); (case hp => exact rfl); (case' he => intro h n)) | (with_reducible first | apply o_eff w_none | apply o_guard rfl | apply x_cond | apply k_e1 rfl | apply k_e2 rfl | apply k_e0 rfl | apply k_e3 rfl | apply k_e4 rfl)); (case he => (simp (disch := first | assumption | omega | rfl | decide) only [go_sem, Nat.reduceBEq, ↓reduceIte, Nat.reduceEqDiff, Nat.reduceAdd, Nat.reduceMul, Int.reduceToNat, Int.reduceAdd, Int.reduceMul, Int.reduceSub, tys] <;> rfl)); (try (case hok => first | exact rfl | exact ok_w (by omega) rfl)); all_goals (try (intro hb; (try (simp only [hbs, reduceCtorEq] at hb)); try (exfalso; omega)))) | ((with_reducible apply o_undef rfl); (case hb => (simp (disch := first | assumption | omega | rfl | decide) only [go_sem, Nat.reduceBEq, ↓reduceIte, Nat.reduceEqDiff, Nat.reduceAdd, Nat.reduceMul, Int.reduceToNat, Int.reduceAdd, Int.reduceMul, Int.reduceSub, tys]))))
  cases a <;> cases b
  all_goals
    (repeat' first | (with_reducible first | apply x_seq | apply k_then | apply x_block | apply x_skip | apply x_ret | apply x_exit | apply x_label | apply k_pass | apply k_hit | apply k_miss rfl | apply k_out | apply k_turned | refine x_text fun K' hK => ?_) | ((with_reducible apply o_nil); refine hK _ _ _ ?_; clear hK) | ((with_reducible apply o_callF (g := 44) w_none); (case ha => (simp (disch := first | assumption | omega | rfl | decide) only [go_sem, Nat.reduceBEq, ↓reduceIte, Nat.reduceEqDiff, Nat.reduceAdd, Nat.reduceMul, Int.reduceToNat, Int.reduceAdd, Int.reduceMul, Int.reduceSub, tys]; exact rfl)); (case hs => (with_reducible exact Sp.shut s4)); (case' hk => rintro _ h' n' ⟨rfl, rfl, rfl⟩)) | ((with_reducible apply o_callF (g := 24) w_none); (case ha => (simp (disch := first | assumption | omega | rfl | decide) only [go_sem, Nat.reduceBEq, ↓reduceIte, Nat.reduceEqDiff, Nat.reduceAdd, Nat.reduceMul, Int.reduceToNat, Int.reduceAdd, Int.reduceMul, Int.reduceSub, tys]; exact rfl)); (case hs => (with_reducible exact Sp.shut s5)); (case' hk => rintro _ h' n' ⟨rfl, rfl, rfl⟩)) | ((with_reducible apply o_callF (g := 45) w_none); (case ha => (simp (disch := first | assumption | omega | rfl | decide) only [go_sem, Nat.reduceBEq, ↓reduceIte, Nat.reduceEqDiff, Nat.reduceAdd, Nat.reduceMul, Int.reduceToNat, Int.reduceAdd, Int.reduceMul, Int.reduceSub, tys]; exact rfl)); (case hs => exact hal _ _ _); (case' hk => rintro _ h' n' ⟨rfl, rfl, rfl⟩)) | ((first | ((with_reducible apply o_pure w_none); (case hp => exact rfl); (case' he => intro h n)) | (with_reducible first | apply o_eff w_none | apply o_guard rfl | apply x_cond | apply k_e1 rfl | apply k_e2 rfl | apply k_e0 rfl | apply k_e3 rfl | apply k_e4 rfl)); (case he => (simp (disch := first | assumption | omega | rfl | decide) only [go_sem, Nat.reduceBEq, ↓reduceIte, Nat.reduceEqDiff, Nat.reduceAdd, Nat.reduceMul, Int.reduceToNat, Int.reduceAdd, Int.reduceMul, Int.reduceSub, tys] <;> rfl)); (try (case hok => first | exact rfl | exact ok_w (by omega) rfl)); all_goals (try (intro hb; (try (simp only [hbs, reduceCtorEq] at hb)); try (exfalso; omega)))) | ((with_reducible apply o_undef rfl); (case hb => (simp (disch := first | assumption | omega | rfl | decide) only [go_sem, Nat.reduceBEq, ↓reduceIte, Nat.reduceEqDiff, Nat.reduceAdd, Nat.reduceMul, Int.reduceToNat, Int.reduceAdd, Int.reduceMul, Int.reduceSub, tys]))))
    all_goals exact sw_flat rfl rfl rfl
theorem kindsMore_ev (hk : 30000 ≤ k) (A : Option Addr) (T : List Tp) (c : Nat) (hT : TabH h n A T) (i j : Int) (hm : T.length ≤ 9223372036854775807) (hS0 : ∀ t ∈ T, t.fs.length ≤ 9223372036854775807)
    (hal : ∀ cl h n, Sp Try.prog (shut (acall Try.prog WW k (d + 30))) cl 45 [] h n fun v h' n' => v = .bool true ∧ h' = h ∧ n' = n) :
    Sp Try.prog (afunc Try.prog (shut (acall Try.prog WW k (d + 30))) WW k) cl 14 [.slice A T.length c, .int .i64 i, .int .i64 j] h n fun v h' n' => v = .bool true := by
  obtain ⟨v, h2, n2, ⟨B, rfl, hg, rfl, rfl⟩, hB⟩ := sp_fix (fit4_ev k (d + 21) n h n hk A T c hT i j hm hS0)
  have hB2 : Sp Try.prog (acall Try.prog WW k (d + 30)) n2 53 [.slice A T.length c, .int .i64 i, .int .i64 j] h2 n2 fun v3 h3 n3 => v3 = .bool B ∧ h2 = h3 ∧ n2 = n3 := hB.mono fun _ _ _ hp => ⟨hp.1, hp.2.1.symm, hp.2.2.symm⟩
  rcases B with _ | _
  · exact lkm_no k d cl h2 n2 A T c i j hal hB2
  · by_cases hb : 32 ≤ T.length
    · exact lkm_big k d cl h2 n2 A T c i j hb hal hB2
    · obtain ⟨hS, he⟩ := hg rfl
      obtain ⟨hC, hi, hj⟩ := askE_ok he
      obtain ⟨i, rfl⟩ := Int.eq_ofNat_of_zero_le hi.1
      obtain ⟨j, rfl⟩ := Int.eq_ofNat_of_zero_le hj.1
      exact lkm_yes k d cl h2 n2 hk A T c hT hm i j hS hC (by omega) (by omega) (by omega) hal hB2
end Go.Proofs.Ytgdokjfjmcleeaa.Ce
