/- Lists of parts: symbolic runs. -/
import Derived.Test.YtgdokjfjmcleeaaMg
import Derived.Test.YtgdokjfjmcleeaaMb
namespace Go.Proofs.Ytgdokjfjmcleeaa.Ce
open Go.RowKit
set_option linter.unusedVariables false
set_option linter.unusedSimpArgs false
attribute [local go_sem ↓] lv_tmp fput_some fput_none fputs_cons fputs_nil mix_in mix_out finit_zero finit_succ cellAt_same cellAt_ne cellsAt_same cellsAt_ne rwOf_same rwOf_ne' rowOf_same rowOf_ne
attribute [local go_sem] a_move a_assign a_pick a_alloc a_box a_build a_buildSlice bif_cok a_load a_store a_bin a_un a_convert a_func a_makeMap a_makeSlice a_slice a_fieldAddr a_indexAddr a_index a_extract a_len a_append a_copy a_max a_min lv_int lv_bool lv_str lv_func lv_nil b_add b_sub b_mul b_eql b_neq b_lss b_leq b_gtr b_geq b_quo b_rem b_shl8 b_or8 b_shr u_not p_pick m_max m_min x_tuple mVO_some lget_zero lget_succ ltake_zero ltake_cons ldrop_zero ldrop_cons overAt_zero overAt_cons over_nil over_cons Hp.set_set fill_nil fill_cons c_int1 c_bool1 c_str1 c_ptr1 c_sli1 c_map1 c_agg c_agg' cok_int cok_bool cok_str cok_ptr cok_sli cok_map List.length_cons List.length_nil List.all_cons List.all_nil Bool.and_true Bool.true_and Bool.and_self beq_self_eq_true wrap_i64 wrap_u64 wrap_u8 tdiv_pos tmod_pos Nat.zero_add Nat.add_zero Nat.mul_one Nat.zero_mul List.take_zero List.take_nil Option.bind_some Option.map_some Option.map_none cond_true cond_false List.map_cons List.map_nil List.cons_append List.nil_append Int.toNat_natCast Int.zero_add Int.add_zero Int.mul_zero Int.mul_one Bool.not_true Bool.not_false r_tmp r_cell
set_option maxRecDepth 100000
set_option maxHeartbeats 2000000

/-- a part: where it lies, its type -/
def pcell (p : Int × Int) : List Value := [.int .i64 p.1, .int .i64 p.2]
def pv (ps : List (Int × Int)) : List Value := ps.flatMap pcell
theorem pcell_length (p : Int × Int) : (pcell p).length = 2 := rfl
theorem pv_length (ps : List (Int × Int)) : (pv ps).length = ps.length * 2 := rows_length pcell pcell_length ps
theorem pv_app (ps qs : List (Int × Int)) : pv (ps ++ qs) = pv ps ++ pv qs := by simp [pv]
theorem pv_idA (n : Nat) (ps : List (Int × Int)) : ∀ v ∈ pv ps, idA n v = [] := by
  intro v hv
  obtain ⟨a, -, h⟩ := List.mem_flatMap.1 hv
  unfold pcell at h
  simp only [List.mem_cons, List.not_mem_nil, or_false] at h
  rcases h with rfl | rfl <;> rfl
theorem pv_cok (ps : List (Int × Int)) : (pv ps).all cok = true := by
  rw [List.all_eq_true]
  intro v hv
  obtain ⟨a, -, h⟩ := List.mem_flatMap.1 hv
  unfold pcell at h
  simp only [List.mem_cons, List.not_mem_nil, or_false] at h
  rcases h with rfl | rfl <;> rfl
theorem prt_at {h : Hp} {B : Nat} {A : Option Addr} {ps : List (Int × Int)} (hr : RdH h B A (pv ps)) {i : Nat} (hi : i < ps.length) : ∃ id off, A = some ⟨id, off, none⟩ ∧ id < B ∧ cellsAt h id (off + i * 2) 2 = some [.int .i64 ps[i].1, .int .i64 ps[i].2] ∧
    cellAt h id (off + i * 2) = some (.int .i64 ps[i].1) ∧ cellAt h id (off + i * 2 + 1) = some (.int .i64 ps[i].2) := by
  obtain ⟨id, off, e, hid, h1, h2⟩ := RdH.rows pcell_length (by omega) hr (by omega)
  exact ⟨id, off, e, hid, h1 i hi, h2 i 0 hi (by omega), h2 i 1 hi (by omega)⟩
theorem ne_pself {h : Hp} {n : Nat} {b a : Int} : mBin Try.prog .neq 57 (.agg ⟨[.int .i64 b, .int .i64 a]⟩) (.agg ⟨[.int .i64 b, .int .i64 a]⟩) h n = some ⟨.bool false, h, n, [], []⟩ := by
  have hs : prun Try.prog (Op.equal 57 (.agg ⟨[.int .i64 b, .int .i64 a]⟩) (.agg ⟨[.int .i64 b, .int .i64 a]⟩)) = some true := by
    show prun Try.prog (Op.equalIn (9999 + 1) _ _ _) = _
    rw [prun_struct 9999 _ _ _ _ Try.underlying57 (by kernel_rfl)]
    refine Eq.trans (b := some (b == b && (a == a && true))) (eqF_cons (by decide) (by kernel_rfl) (by kernel_rfl) (prun_int (d := 9998) (k := .i64) Try.underlying3) (eqF_cons (by decide) (by kernel_rfl) (by kernel_rfl) (prun_int (d := 9998) (k := .i64) Try.underlying3) eqF_nil)) ?_
    simp only [beq_self_eq_true, Bool.and_self, Bool.and_true]
  unfold mBin
  have ha : abin Try.prog .neq 57 (.agg ⟨[.int .i64 b, .int .i64 a]⟩) (.agg ⟨[.int .i64 b, .int .i64 a]⟩) = some (.bool false) := by
    rw [abin_aggn, if_neg (by rw [show (Program.eqGuardType Try.prog (Program.depth Try.prog) 57) = false from by kernel_rfl]; exact Bool.false_ne_true), hs]
    rfl
  rw [ha]
  rfl
variable (k d cl : Nat) (h : Hp) (n : Nat)
theorem sameparts_ev (hk : 30000 ≤ k) (A1 A2 : Option Addr) (ps : List (Int × Int)) (m m2 c1 c2 : Nat) (hm : m = ps.length) (hm2 : m2 = ps.length) (h1 : RdH h n A1 (pv ps)) (h2 : RdH h n A2 (pv ps)) (hl : ps.length ≤ 20000) :
    Sp Try.prog (acall Try.prog WW k (d + 1)) cl 31 [.slice A1 m c1, .slice A2 m2 c2] h n fun v h' n' => v = .bool true ∧ h' = h ∧ n' = n := by
  subst hm; subst hm2
  refine enter Try.func31 (by kernel_rfl) rfl (by kernel_rfl) rfl rfl rfl ?_
  (repeat' first | (with_reducible first | apply x_seq | apply k_then | apply x_block | apply x_skip | apply x_ret | apply x_exit | apply x_label | apply k_pass | apply k_hit | apply k_miss rfl | apply k_out | apply k_turned | refine x_text fun K' hK => ?_) | ((with_reducible apply o_nil); refine hK _ _ _ ?_; clear hK) | fail | ((first | ((with_reducible apply o_pure w_none); (case hp => exact rfl); (case' he => intro h n)) | (with_reducible first | apply o_eff w_none | apply o_guard rfl | apply x_cond | apply k_e1 rfl | apply k_e2 rfl | apply k_e0 rfl | apply k_e3 rfl | apply k_e4 rfl)); (case he => (simp (disch := first | assumption | omega | rfl | decide) only [go_sem, Nat.reduceBEq, ↓reduceIte, Nat.reduceEqDiff, Nat.reduceAdd, Nat.reduceMul, Int.reduceToNat, Int.reduceAdd, Int.reduceMul, Int.reduceSub, tys] <;> rfl)); (try (case hok => first | exact rfl | exact ok_w (by omega) rfl)); all_goals (try (intro hb; (try (simp only [hbs, reduceCtorEq] at hb)); try (exfalso; omega)))) | ((with_reducible apply o_undef rfl); (case hb => (simp (disch := first | assumption | omega | rfl | decide) only [go_sem, Nat.reduceBEq, ↓reduceIte, Nat.reduceEqDiff, Nat.reduceAdd, Nat.reduceMul, Int.reduceToNat, Int.reduceAdd, Int.reduceMul, Int.reduceSub, tys]))))
  all_goals try omega
  refine x_loopF [4, 5, 11, 12, 13, 14, 15, 16, 17, 18, 19, 20, 21, 22, 23, 24, 25] [5] (fun m vs => ∃ q : Nat, m = ps.length - q ∧ q ≤ ps.length ∧ vs = [.int .i64 q]) ps.length rfl (by omega) ⟨0, rfl, by omega, by simp (disch := first | assumption | omega | rfl | decide) only [go_sem, Nat.reduceBEq, ↓reduceIte, Nat.reduceEqDiff, Nat.reduceAdd, Nat.reduceMul, Int.reduceToNat, Int.reduceAdd, Int.reduceMul, Int.reduceSub, tys]; exact rfl⟩ ?_
  rintro m g _ ⟨q, rfl, hq, rfl⟩
  by_cases hql : q < ps.length
  · obtain ⟨i1, o1, hA1, hi1, e1, -, -⟩ := prt_at h1 hql
    obtain ⟨i2, o2, hA2, hi2, e2, -, -⟩ := prt_at h2 hql
    subst hA1; subst hA2
    (repeat' first | (with_reducible first | apply x_seq | apply k_then | apply x_block | apply x_skip | apply x_ret | apply x_exit | apply x_label | apply k_pass | apply k_hit | apply k_miss rfl | apply k_out | apply k_turned | refine x_text fun K' hK => ?_) | ((with_reducible apply o_nil); refine hK _ _ _ ?_; clear hK) | (with_reducible refine x_drawnD (id := 6) [(3, 7)] (by kernel_rfl) fun K' hK => ?_) | ((with_reducible apply d_nil); (case hp => (simp (disch := omega) only [pairsOk, List.all_cons, List.all_nil, List.reverse_cons, List.reverse_nil, List.nil_append, List.cons_append, lget_zero, lget_succ, apartB, touches, made_mm, made_lt, made_ge, all_true, ble_t, ble_f, blt_t, blt_f, beq_f, List.contains_cons, List.contains_nil, Bool.and_true, Bool.true_and, Bool.and_false, Bool.false_and, Bool.or_false, Bool.false_or, Bool.not_false, Bool.not_true, beq_self_eq_true])); (case' hx => (refine hK _ _ _ ?_; clear hK))) | ((with_reducible apply d_pure w_none); (case hp => exact rfl); (case hc => exact rfl); (case he => (intro h n; simp (disch := first | assumption | omega | rfl | decide) only [go_sem, Nat.reduceBEq, ↓reduceIte, Nat.reduceEqDiff, Nat.reduceAdd, Nat.reduceMul, Int.reduceToNat, Int.reduceAdd, Int.reduceMul, Int.reduceSub, tys, e1, e2, ne_pself]; exact rfl))) | ((with_reducible apply d_eff w_none); (case hc => exact rfl); (case he => (simp (disch := first | assumption | omega | rfl | decide) only [go_sem, Nat.reduceBEq, ↓reduceIte, Nat.reduceEqDiff, Nat.reduceAdd, Nat.reduceMul, Int.reduceToNat, Int.reduceAdd, Int.reduceMul, Int.reduceSub, tys, e1, e2, ne_pself]; exact rfl)); (case hok => first | exact rfl | exact ok_w (by omega) rfl)) | ((with_reducible apply d_guard rfl); (case hb => (simp (disch := first | assumption | omega | rfl | decide) only [go_sem, Nat.reduceBEq, ↓reduceIte, Nat.reduceEqDiff, Nat.reduceAdd, Nat.reduceMul, Int.reduceToNat, Int.reduceAdd, Int.reduceMul, Int.reduceSub, tys, e1, e2, ne_pself]; exact rfl)); (case' h1 => intro hb; (try (simp only [hbs, reduceCtorEq] at hb)); try (exfalso; omega)); (case' h2 => intro hb; (try (simp only [hbs, reduceCtorEq] at hb)); try (exfalso; omega))) | ((first | ((with_reducible apply o_pure w_none); (case hp => exact rfl); (case' he => intro h n)) | (with_reducible first | apply o_eff w_none | apply o_guard rfl | apply x_cond | apply k_e1 rfl | apply k_e2 rfl | apply k_e0 rfl | apply k_e3 rfl | apply k_e4 rfl)); (case he => (simp (disch := first | assumption | omega | rfl | decide) only [go_sem, Nat.reduceBEq, ↓reduceIte, Nat.reduceEqDiff, Nat.reduceAdd, Nat.reduceMul, Int.reduceToNat, Int.reduceAdd, Int.reduceMul, Int.reduceSub, tys, e1, e2, ne_pself] <;> rfl)); (try (case hok => first | exact rfl | exact ok_w (by omega) rfl)); all_goals (try (intro hb; (try (simp only [hbs, reduceCtorEq] at hb)); try (exfalso; omega)))) | ((with_reducible apply o_undef rfl); (case hb => (simp (disch := first | assumption | omega | rfl | decide) only [go_sem, Nat.reduceBEq, ↓reduceIte, Nat.reduceEqDiff, Nat.reduceAdd, Nat.reduceMul, Int.reduceToNat, Int.reduceAdd, Int.reduceMul, Int.reduceSub, tys]))))
    refine k_round (ps.length - (q + 1)) (by omega) ⟨⟨rfl, rfl⟩, q + 1, rfl, by omega, by simp (disch := first | assumption | omega | rfl | decide) only [go_sem, Nat.reduceBEq, ↓reduceIte, Nat.reduceEqDiff, Nat.reduceAdd, Nat.reduceMul, Int.reduceToNat, Int.reduceAdd, Int.reduceMul, Int.reduceSub, tys]; exact rfl⟩
  · obtain rfl : q = ps.length := by omega
    (repeat' first | (with_reducible first | apply x_seq | apply k_then | apply x_block | apply x_skip | apply x_ret | apply x_exit | apply x_label | apply k_pass | apply k_hit | apply k_miss rfl | apply k_out | apply k_turned | refine x_text fun K' hK => ?_) | ((with_reducible apply o_nil); refine hK _ _ _ ?_; clear hK) | fail | ((first | ((with_reducible apply o_pure w_none); (case hp => exact rfl); (case' he => intro h n)) | (with_reducible first | apply o_eff w_none | apply o_guard rfl | apply x_cond | apply k_e1 rfl | apply k_e2 rfl | apply k_e0 rfl | apply k_e3 rfl | apply k_e4 rfl)); (case he => (simp (disch := first | assumption | omega | rfl | decide) only [go_sem, Nat.reduceBEq, ↓reduceIte, Nat.reduceEqDiff, Nat.reduceAdd, Nat.reduceMul, Int.reduceToNat, Int.reduceAdd, Int.reduceMul, Int.reduceSub, tys] <;> rfl)); (try (case hok => first | exact rfl | exact ok_w (by omega) rfl)); all_goals (try (intro hb; (try (simp only [hbs, reduceCtorEq] at hb)); try (exfalso; omega)))) | ((with_reducible apply o_undef rfl); (case hb => (simp (disch := first | assumption | omega | rfl | decide) only [go_sem, Nat.reduceBEq, ↓reduceIte, Nat.reduceEqDiff, Nat.reduceAdd, Nat.reduceMul, Int.reduceToNat, Int.reduceAdd, Int.reduceMul, Int.reduceSub, tys]))))
    all_goals exact sw_flat rfl rfl ⟨rfl, rfl, rfl⟩
theorem sized_ev (hk : 30000 ≤ k) (A : Option Addr) (T : List Tp) (c : Nat) (hT : TabH h n A T) (hl : T.length ≤ 32) (hF : Fine T) (i : Int) (h0 : 0 ≤ i) (hi : i < T.length) :
    Sp Try.prog (acall Try.prog WW k (d + 4)) cl 84 [.slice A T.length c, .int .i64 i] h n fun v h' n' => v = .int .i64 ((eRow 1000000 T).at_ i).1 ∧ h' = h ∧ n' = n := by
  obtain ⟨j, rfl⟩ := Int.eq_ofNat_of_zero_le h0
  have hg := (sz_get (E := eRow 1000000 T) (j := j) (by rw [eRow_length]; omega)).1
  refine enter Try.func84 (by kernel_rfl) rfl (by kernel_rfl) rfl rfl rfl ?_
  (repeat' first | (with_reducible first | apply x_seq | apply k_then | apply x_block | apply x_skip | apply x_ret | apply x_exit | apply x_label | apply k_pass | apply k_hit | apply k_miss rfl | apply k_out | apply k_turned | refine x_text fun K' hK => ?_) | ((with_reducible apply o_nil); refine hK _ _ _ ?_; clear hK) | ((with_reducible apply o_callF (g := 58) w_none); (case ha => (simp (disch := first | assumption | omega | rfl | decide) only [go_sem, Nat.reduceBEq, ↓reduceIte, Nat.reduceEqDiff, Nat.reduceAdd, Nat.reduceMul, Int.reduceToNat, Int.reduceAdd, Int.reduceMul, Int.reduceSub, tys]; exact rfl)); (case hs => ((with_reducible apply rsizes_ev (T := T)); (case hT => exact hT); (case hF => exact hF); (all_goals first | exact hk | omega))); (case' hk => rintro _ h' n' ⟨rfl, rfl, rfl⟩)) | ((first | ((with_reducible apply o_pure w_none); (case hp => exact rfl); (case' he => intro h n)) | (with_reducible first | apply o_eff w_none | apply o_guard rfl | apply x_cond | apply k_e1 rfl | apply k_e2 rfl | apply k_e0 rfl | apply k_e3 rfl | apply k_e4 rfl)); (case he => (simp (disch := first | assumption | omega | rfl | decide) only [go_sem, Nat.reduceBEq, ↓reduceIte, Nat.reduceEqDiff, Nat.reduceAdd, Nat.reduceMul, Int.reduceToNat, Int.reduceAdd, Int.reduceMul, Int.reduceSub, tys, hg] <;> rfl)); (try (case hok => first | exact rfl | exact ok_w (by omega) rfl)); all_goals (try (intro hb; (try (simp only [hbs, reduceCtorEq] at hb)); try (exfalso; omega)))) | ((with_reducible apply o_undef rfl); (case hb => (simp (disch := first | assumption | omega | rfl | decide) only [go_sem, Nat.reduceBEq, ↓reduceIte, Nat.reduceEqDiff, Nat.reduceAdd, Nat.reduceMul, Int.reduceToNat, Int.reduceAdd, Int.reduceMul, Int.reduceSub, tys]))))
  all_goals exact sw_flat rfl rfl ⟨rfl, rfl, rfl⟩
end Go.Proofs.Ytgdokjfjmcleeaa.Ce
