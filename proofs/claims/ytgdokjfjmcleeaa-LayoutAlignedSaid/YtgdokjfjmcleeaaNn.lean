/- The law LayoutAligned: a symbolic run. -/
import Derived.Test.YtgdokjfjmcleeaaNk
import Derived.Test.YtgdokjfjmcleeaaNm
import Derived.Test.YtgdokjfjmcleeaaAl
namespace Go.Proofs.Ytgdokjfjmcleeaa.Ce
open Go.RowKit
set_option linter.unusedVariables false
set_option linter.unusedSimpArgs false
attribute [local go_sem ↓] lv_tmp fput_some fput_none fputs_cons fputs_nil mix_in mix_out finit_zero finit_succ cellAt_same cellAt_ne cellsAt_same cellsAt_ne rwOf_same rwOf_ne' rowOf_same rowOf_ne
attribute [local go_sem] a_move a_assign a_pick a_alloc a_box a_build a_buildSlice bif_cok a_load a_store a_bin a_un a_convert a_func a_makeMap a_makeSlice a_slice a_fieldAddr a_indexAddr a_index a_extract a_len a_append a_copy a_max a_min lv_int lv_bool lv_str lv_func lv_nil b_add b_sub b_mul b_eql b_neq b_lss b_leq b_gtr b_geq b_quo b_rem b_shl8 b_or8 b_shr u_not p_pick m_max m_min x_tuple mVO_some lget_zero lget_succ ltake_zero ltake_cons ldrop_zero ldrop_cons overAt_zero overAt_cons over_nil over_cons Hp.set_set fill_nil fill_cons c_int1 c_bool1 c_str1 c_ptr1 c_sli1 c_map1 c_agg c_agg' cok_int cok_bool cok_str cok_ptr cok_sli cok_map List.length_cons List.length_nil List.all_cons List.all_nil Bool.and_true Bool.true_and Bool.and_self beq_self_eq_true wrap_i64 wrap_u64 wrap_u8 tdiv_pos tmod_pos Nat.zero_add Nat.add_zero Nat.mul_one Nat.zero_mul List.take_zero List.take_nil Option.bind_some Option.map_some Option.map_none cond_true cond_false List.map_cons List.map_nil List.cons_append List.nil_append Int.toNat_natCast Int.zero_add Int.add_zero Int.mul_zero Int.mul_one Bool.not_true Bool.not_false r_tmp r_cell
set_option maxRecDepth 100000
set_option maxHeartbeats 2000000

variable (k d cl : Nat) (h : Hp) (n : Nat)
theorem lal_no (A : Option Addr) (T : List Tp) (c : Nat) (i : Int)
    (hal : ∀ cl h n, Sp Try.prog (shut (acall Try.prog WW k (d + 50))) cl 33 [] h n fun v h' n' => v = .bool true ∧ h' = h ∧ n' = n)
    (hS1 : Sp Try.prog (acall Try.prog WW k (d + 50)) n 32 [.slice A T.length c, .int .i64 i] h n fun v2 h2 n2 => v2 = .bool false ∧ h = h2 ∧ n = n2) :
    Sp Try.prog (afunc Try.prog (shut (acall Try.prog WW k (d + 50))) WW k) cl 6 [.slice A T.length c, .int .i64 i] h n fun v h' n' => v = .bool true := by
  refine enterS Try.func6 (by kernel_rfl) rfl (by kernel_rfl) rfl rfl rfl ?_
  (repeat' first | (with_reducible first | apply x_seq | apply k_then | apply x_block | apply x_skip | apply x_ret | apply x_exit | apply x_label | apply k_pass | apply k_hit | apply k_miss rfl | apply k_out | apply k_turned | refine x_text fun K' hK => ?_) | ((with_reducible apply o_nil); refine hK _ _ _ ?_; clear hK) | ((with_reducible apply o_callF (g := 33) w_none); (case ha => (simp (disch := first | assumption | omega | rfl | decide) only [go_sem, Nat.reduceBEq, ↓reduceIte, Nat.reduceEqDiff, Nat.reduceAdd, Nat.reduceMul, Int.reduceToNat, Int.reduceAdd, Int.reduceMul, Int.reduceSub, tys]; exact rfl)); (case hs => exact hal _ _ _); (case' hk => rintro _ h' n' ⟨rfl, rfl, rfl⟩)) | ((with_reducible apply o_callF (g := 32) w_none); (case ha => (simp (disch := first | assumption | omega | rfl | decide) only [go_sem, Nat.reduceBEq, ↓reduceIte, Nat.reduceEqDiff, Nat.reduceAdd, Nat.reduceMul, Int.reduceToNat, Int.reduceAdd, Int.reduceMul, Int.reduceSub, tys]; exact rfl)); (case hs => (exact Sp.shut hS1)); (case' hk => rintro _ h' n' ⟨rfl, rfl, rfl⟩)) | ((first | ((with_reducible apply o_pure w_none); (case hp => exact rfl); (case' he => intro h n)) | (with_reducible first | apply o_eff w_none | apply o_guard rfl | apply x_cond | apply k_e1 rfl | apply k_e2 rfl | apply k_e0 rfl | apply k_e3 rfl | apply k_e4 rfl)); (case he => (simp (disch := first | assumption | omega | rfl | decide) only [go_sem, Nat.reduceBEq, ↓reduceIte, Nat.reduceEqDiff, Nat.reduceAdd, Nat.reduceMul, Int.reduceToNat, Int.reduceAdd, Int.reduceMul, Int.reduceSub, tys] <;> rfl)); (try (case hok => first | exact rfl | exact ok_w (by omega) rfl)); all_goals (try (intro hb; (try (simp only [hbs, reduceCtorEq] at hb)); try (exfalso; omega)))) | ((with_reducible apply o_undef rfl); (case hb => (simp (disch := first | assumption | omega | rfl | decide) only [go_sem, Nat.reduceBEq, ↓reduceIte, Nat.reduceEqDiff, Nat.reduceAdd, Nat.reduceMul, Int.reduceToNat, Int.reduceAdd, Int.reduceMul, Int.reduceSub, tys]))))
  all_goals exact sw_flat rfl rfl rfl
theorem tmod_0 {x a : Int} (h0 : 0 ≤ x) (h : x % a = 0) : x.tmod a = 0 := by rw [Int.tmod_eq_emod_of_nonneg h0]; exact h
theorem lal_yes (hk : 30000 ≤ k) (A : Option Addr) (T : List Tp) (c : Nat) (hT : TabH h n A T) (hm : T.length ≤ 9223372036854775807) (j : Nat) (hS : ∀ t ∈ T, t.fs.length ≤ 20000) (he : (szR 1048576 T j).2.2 = 0)
    (hal : ∀ cl h n, Sp Try.prog (shut (acall Try.prog WW k (d + 50))) cl 33 [] h n fun v h' n' => v = .bool true ∧ h' = h ∧ n' = n)
    (hS1 : Sp Try.prog (acall Try.prog WW k (d + 50)) n 32 [.slice A T.length c, .int .i64 j] h n fun v2 h2 n2 => v2 = .bool true ∧ h = h2 ∧ n = n2) :
    Sp Try.prog (afunc Try.prog (shut (acall Try.prog WW k (d + 50))) WW k) cl 6 [.slice A T.length c, .int .i64 j] h n fun v h' n' => v = .bool true := by
  have p1 := lsize_ev k (d + 42) n h n hk A T c hT hS hm j
  have p2 := lcells_ok k (d + 10) n h n hk A T c hT hS hm j he
  obtain ⟨hC, h0, h1, hsz5, hze⟩ := szR_0 he
  have hl := hC.1
  have hF := hC.2.1
  rw [hze] at p1
  obtain ⟨hasc, hty, hlen⟩ := cellsT_bnd hC (by omega) hsz5
  have hce : cellsT T j = cellsR 1048576 T 32 j 0 := (cells_eq hF 32 j 0 (by omega) (by omega) hsz5).symm
  have hsa := size_al (C := 1048576) (by decide) (by decide) hF 32 j (by omega) (by omega) hsz5
  have hEok : ∀ p ∈ eRow 1048576 T, EOk 1048576 p := by have := eRow_ok (C := 1048576) (by omega) (by decide) hF T.length (Nat.le_refl _); rwa [List.take_length] at this
  have hai := (Ext.at_mem hEok (i := (j : Int)) (by omega) (by rw [eRow_length]; omega)).2.2
  obtain ⟨hca, hc8⟩ := cells_al (C := 1048576) (by decide) (by decide) hF 32 j 0 (by omega) (by omega) hsz5 (Int.zero_emod _)
  rw [← hce] at hca hc8
  have hmal := mal_eq hai (fun p hp => (hca p hp).2.1) hc8
  obtain ⟨ps, hps⟩ : ∃ ps, cellsT T j = ps := ⟨_, rfl⟩
  rw [hps] at p2 hasc hty hlen hca hmal
  have hszt : ∀ t : Nat, t < T.length → szT 1048576 T t ≤ 256 → szR 1048576 T (t : Int) = (szT 1048576 T t, alT 1048576 T t, 0) := fun t ht hb => by
    unfold szR
    rw [if_pos hC, if_pos ⟨by omega, by omega⟩, if_neg (by show ¬ 256 < szT 1048576 T t; omega)]
    rfl
  obtain ⟨al, hal2⟩ : ∃ al, alT 1048576 T = al := ⟨_, rfl⟩
  rw [hal2] at hca hmal hszt
  have hsj : szT 1048576 T j ≤ 256 := hsz5
  obtain ⟨S, hS2⟩ : ∃ S, szT 1048576 T = S := ⟨_, rfl⟩
  rw [hS2] at hasc hszt hsj
  have hsj0 := hasc.le
  have e1 : ((eRow 1048576 T).at_ (j : Int)).1 = S j := by rw [← hS2]; rfl
  obtain ⟨aj, haj⟩ : ∃ aj, ((eRow 1048576 T).at_ (j : Int)).2 = aj := ⟨_, rfl⟩
  rw [e1, haj] at p1 hsa
  rw [haj] at hmal hai
  have hajb := hai.bnd
  have haj0 : aj ≠ 0 := by omega
  have hm1 : Int.tmod (S j) aj = 0 := tmod_0 hsj0 hsa
  have p1 := p1.mono (Φ' := fun v2 h2 n2 => v2 = .tuple ⟨[.int .i64 (S j), .int .i64 aj, .int .i64 0]⟩ ∧ h = h2 ∧ n = n2) fun _ _ _ hp => ⟨hp.1, hp.2.1.symm, hp.2.2.symm⟩
  have hai2 : aj = 1 ∨ aj = 8 := hai
  refine enterS Try.func6 (by kernel_rfl) rfl (by kernel_rfl) rfl rfl rfl ?_
  (repeat' first | (with_reducible first | apply x_seq | apply k_then | apply x_block | apply x_skip | apply x_ret | apply x_exit | apply x_label | apply k_pass | apply k_hit | apply k_miss rfl | apply k_out | apply k_turned | refine x_text fun K' hK => ?_) | ((with_reducible apply o_nil); refine hK _ _ _ ?_; clear hK) | ((with_reducible apply o_callF (g := 32) w_none); (case ha => (simp (disch := first | assumption | omega | rfl | decide) only [go_sem, Nat.reduceBEq, ↓reduceIte, Nat.reduceEqDiff, Nat.reduceAdd, Nat.reduceMul, Int.reduceToNat, Int.reduceAdd, Int.reduceMul, Int.reduceSub, tys]; exact rfl)); (case hs => (exact Sp.shut hS1)); (case' hk => rintro _ h' n' ⟨rfl, rfl, rfl⟩)) | ((with_reducible apply o_callF (g := 18) w_none); (case ha => (simp (disch := first | assumption | omega | rfl | decide) only [go_sem, Nat.reduceBEq, ↓reduceIte, Nat.reduceEqDiff, Nat.reduceAdd, Nat.reduceMul, Int.reduceToNat, Int.reduceAdd, Int.reduceMul, Int.reduceSub, tys]; exact rfl)); (case hs => (exact Sp.shut p1)); (case' hk => rintro _ h' n' ⟨rfl, rfl, rfl⟩)) | ((with_reducible apply o_callF (g := 27) w_none); (case ha => (simp (disch := first | assumption | omega | rfl | decide) only [go_sem, Nat.reduceBEq, ↓reduceIte, Nat.reduceEqDiff, Nat.reduceAdd, Nat.reduceMul, Int.reduceToNat, Int.reduceAdd, Int.reduceMul, Int.reduceSub, tys]; exact rfl)); (case hs => (exact Sp.shut p2)); (case' hk => rintro _ h' n' ⟨rfl, rfl, rfl⟩)) | ((first | ((with_reducible apply o_pure w_none); (case hp => exact rfl); (case' he => intro h n)) | (with_reducible first | apply o_eff w_none | apply o_guard rfl | apply x_cond | apply k_e1 rfl | apply k_e2 rfl | apply k_e0 rfl | apply k_e3 rfl | apply k_e4 rfl)); (case he => (simp (disch := first | assumption | omega | rfl | decide) only [go_sem, Nat.reduceBEq, ↓reduceIte, Nat.reduceEqDiff, Nat.reduceAdd, Nat.reduceMul, Int.reduceToNat, Int.reduceAdd, Int.reduceMul, Int.reduceSub, tys, hm1] <;> rfl)); (try (case hok => first | exact rfl | exact ok_w (by omega) rfl)); all_goals (try (intro hb; (try (simp only [hbs, reduceCtorEq] at hb)); try (exfalso; omega)))) | ((with_reducible apply o_undef rfl); (case hb => (simp (disch := first | assumption | omega | rfl | decide) only [go_sem, Nat.reduceBEq, ↓reduceIte, Nat.reduceEqDiff, Nat.reduceAdd, Nat.reduceMul, Int.reduceToNat, Int.reduceAdd, Int.reduceMul, Int.reduceSub, tys]))))
  all_goals
    refine x_loopF [4, 10, 11, 12, 13, 14, 53, 54, 55, 56, 57, 58, 59, 60, 61, 62, 63, 64, 65, 66, 67, 68, 69, 70, 71, 72, 73, 74, 75, 76, 77, 78, 79, 80, 81, 82, 83, 84, 85, 86, 87, 88, 89, 90, 91, 92, 93, 94, 95, 96, 97, 98, 99, 100, 101, 102, 103, 104] [10, 11] (fun m vs => ∃ q : Nat, m = ps.length - q ∧ q ≤ ps.length ∧ vs = [.int .i64 (mal al (ps.take q)), .int .i64 q]) ps.length rfl (by omega) ⟨0, rfl, by omega, (by first | (simp (disch := first | assumption | omega | rfl | decide) only [go_sem, Nat.reduceBEq, ↓reduceIte, Nat.reduceEqDiff, Nat.reduceAdd, Nat.reduceMul, Int.reduceToNat, Int.reduceAdd, Int.reduceMul, Int.reduceSub, tys]; done) | (simp (disch := first | assumption | omega | rfl | decide) only [go_sem, Nat.reduceBEq, ↓reduceIte, Nat.reduceEqDiff, Nat.reduceAdd, Nat.reduceMul, Int.reduceToNat, Int.reduceAdd, Int.reduceMul, Int.reduceSub, tys]; exact rfl))⟩ ?_
    rintro m g _ ⟨q, rfl, hq, rfl⟩
    by_cases hql : q < ps.length
    · obtain ⟨p, hp'⟩ : ∃ p, ps[q] = p := ⟨_, rfl⟩
      have hmp : p ∈ ps := by rw [← hp']; exact List.getElem_mem _
      have hA2 := hasc.mem p hmp
      have hcp := hca p hmp
      have htp := hty p hmp
      obtain ⟨t, hpt⟩ := Int.eq_ofNat_of_zero_le htp.1
      have hmt := mal_take (al := al) hql
      rw [hp', hpt] at hmt
      rw [hpt] at hA2 hcp htp
      have hpb := hcp.1.bnd
      have hpa0 : al t ≠ 0 := by omega
      have hm2 : Int.tmod p.1 (al t) = 0 := tmod_0 hA2.1 hcp.2.2
      have q1 := lsize_ev k (d + 42) n (h.set n (.row 57 false (pv ps))) (n + 1) hk A T c ((hT.set (Nat.le_refl _) _).more (by omega)) hS hm (t : Int)
      rw [hszt t (by omega) (by omega)] at q1
      have c0 : cellAt (h.set n (.row 57 false (pv ps))) n (q * 2) = some (.int .i64 p.1) ∧ cellAt (h.set n (.row 57 false (pv ps))) n (q * 2 + 1) = some (.int .i64 t) := by
        obtain ⟨i1, o1, hA1, -, -, e1, e2⟩ := prt_at (RdH.row (h := h) (id := n) (e := 57) (ro := false) (vs := pv ps) (B := n + 1) (by omega)) hql
        injection hA1 with hA1
        injection hA1 with e3 e4
        subst e3; subst e4
        rw [hp', Nat.zero_add] at e1 e2
        rw [hpt] at e2
        exact ⟨e1, e2⟩
      rw [cellAt_same] at c0
      rw [cellAt_same] at c0
      (repeat' first | (with_reducible first | apply x_seq | apply k_then | apply x_block | apply x_skip | apply x_ret | apply x_exit | apply x_label | apply k_pass | apply k_hit | apply k_miss rfl | apply k_out | apply k_turned | refine x_text fun K' hK => ?_) | ((with_reducible apply o_nil); refine hK _ _ _ ?_; clear hK) | ((with_reducible apply o_callF (g := 18) w_none); (case ha => (simp (disch := first | assumption | omega | rfl | decide) only [go_sem, Nat.reduceBEq, ↓reduceIte, Nat.reduceEqDiff, Nat.reduceAdd, Nat.reduceMul, Int.reduceToNat, Int.reduceAdd, Int.reduceMul, Int.reduceSub, tys]; exact rfl)); (case hs => (exact Sp.shut q1)); (case' hk => rintro _ h' n' ⟨rfl, rfl, rfl⟩)) | ((first | ((with_reducible apply o_pure w_none); (case hp => exact rfl); (case' he => intro h n)) | (with_reducible first | apply o_eff w_none | apply o_guard rfl | apply x_cond | apply k_e1 rfl | apply k_e2 rfl | apply k_e0 rfl | apply k_e3 rfl | apply k_e4 rfl)); (case he => (simp (disch := first | assumption | omega | rfl | decide) only [go_sem, Nat.reduceBEq, ↓reduceIte, Nat.reduceEqDiff, Nat.reduceAdd, Nat.reduceMul, Int.reduceToNat, Int.reduceAdd, Int.reduceMul, Int.reduceSub, tys, c0.1, c0.2, hm2] <;> rfl)); (try (case hok => first | exact rfl | exact ok_w (by omega) rfl)); all_goals (try (intro hb; (try (simp only [hbs, reduceCtorEq] at hb)); try (exfalso; omega)))) | ((with_reducible apply o_undef rfl); (case hb => (simp (disch := first | assumption | omega | rfl | decide) only [go_sem, Nat.reduceBEq, ↓reduceIte, Nat.reduceEqDiff, Nat.reduceAdd, Nat.reduceMul, Int.reduceToNat, Int.reduceAdd, Int.reduceMul, Int.reduceSub, tys]))))
      refine k_round (ps.length - (q + 1)) (by omega) ⟨⟨rfl, rfl⟩, q + 1, rfl, by omega, by rw [hmt]; first | (simp (disch := first | assumption | omega | rfl | decide) only [go_sem, Nat.reduceBEq, ↓reduceIte, Nat.reduceEqDiff, Nat.reduceAdd, Nat.reduceMul, Int.reduceToNat, Int.reduceAdd, Int.reduceMul, Int.reduceSub, tys]; done) | (simp (disch := first | assumption | omega | rfl | decide) only [go_sem, Nat.reduceBEq, ↓reduceIte, Nat.reduceEqDiff, Nat.reduceAdd, Nat.reduceMul, Int.reduceToNat, Int.reduceAdd, Int.reduceMul, Int.reduceSub, tys]; exact rfl)⟩
    · obtain rfl : q = ps.length := by omega
      rw [List.take_length, hmal]
      (repeat' first | (with_reducible first | apply x_seq | apply k_then | apply x_block | apply x_skip | apply x_ret | apply x_exit | apply x_label | apply k_pass | apply k_hit | apply k_miss rfl | apply k_out | apply k_turned | refine x_text fun K' hK => ?_) | ((with_reducible apply o_nil); refine hK _ _ _ ?_; clear hK) | ((with_reducible apply o_callF (g := 33) w_none); (case ha => (simp (disch := first | assumption | omega | rfl | decide) only [go_sem, Nat.reduceBEq, ↓reduceIte, Nat.reduceEqDiff, Nat.reduceAdd, Nat.reduceMul, Int.reduceToNat, Int.reduceAdd, Int.reduceMul, Int.reduceSub, tys]; exact rfl)); (case hs => exact hal _ _ _); (case' hk => rintro _ h' n' ⟨rfl, rfl, rfl⟩)) | ((first | ((with_reducible apply o_pure w_none); (case hp => exact rfl); (case' he => intro h n)) | (with_reducible first | apply o_eff w_none | apply o_guard rfl | apply x_cond | apply k_e1 rfl | apply k_e2 rfl | apply k_e0 rfl | apply k_e3 rfl | apply k_e4 rfl)); (case he => (simp (disch := first | assumption | omega | rfl | decide) only [go_sem, Nat.reduceBEq, ↓reduceIte, Nat.reduceEqDiff, Nat.reduceAdd, Nat.reduceMul, Int.reduceToNat, Int.reduceAdd, Int.reduceMul, Int.reduceSub, tys] <;> rfl)); (try (case hok => first | exact rfl | exact ok_w (by omega) rfl)); all_goals (try (intro hb; (try (simp only [hbs, reduceCtorEq] at hb)); try (exfalso; omega)))) | ((with_reducible apply o_undef rfl); (case hb => (simp (disch := first | assumption | omega | rfl | decide) only [go_sem, Nat.reduceBEq, ↓reduceIte, Nat.reduceEqDiff, Nat.reduceAdd, Nat.reduceMul, Int.reduceToNat, Int.reduceAdd, Int.reduceMul, Int.reduceSub, tys]))))
      all_goals exact sw_flat rfl rfl rfl
theorem layoutAligned_ev (hk : 30000 ≤ k) (A : Option Addr) (T : List Tp) (c : Nat) (hT : TabH h n A T) (i : Int) (hm : T.length ≤ 9223372036854775807) (hS0 : ∀ t ∈ T, t.fs.length ≤ 9223372036854775807)
    (hal : ∀ cl h n, Sp Try.prog (shut (acall Try.prog WW k (d + 50))) cl 33 [] h n fun v h' n' => v = .bool true ∧ h' = h ∧ n' = n) :
    Sp Try.prog (afunc Try.prog (shut (acall Try.prog WW k (d + 50))) WW k) cl 6 [.slice A T.length c, .int .i64 i] h n fun v h' n' => v = .bool true := by
  obtain ⟨v, h2, n2, ⟨B, rfl, hg, rfl, rfl⟩, hB⟩ := sp_fix (fit_ev k (d + 41) n h n hk A T c hT i hm hS0)
  have hB2 : Sp Try.prog (acall Try.prog WW k (d + 50)) n2 32 [.slice A T.length c, .int .i64 i] h2 n2 fun v3 h3 n3 => v3 = .bool B ∧ h2 = h3 ∧ n2 = n3 := hB.mono fun _ _ _ hp => ⟨hp.1, hp.2.1.symm, hp.2.2.symm⟩
  rcases B with _ | _
  · exact lal_no k d cl h2 n2 A T c i hal hB2
  · obtain ⟨hS, he⟩ := hg rfl
    obtain ⟨-, h0, -⟩ := szR_0 he
    obtain ⟨j, rfl⟩ := Int.eq_ofNat_of_zero_le h0
    exact lal_yes k d cl h2 n2 hk A T c hT hm j (fun t ht => by have := hS t ht; omega) (by rw [szR_eq]; exact he) hal hB2
end Go.Proofs.Ytgdokjfjmcleeaa.Ce
