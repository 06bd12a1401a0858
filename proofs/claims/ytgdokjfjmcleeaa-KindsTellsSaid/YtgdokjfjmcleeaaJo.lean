/- Depths, widths, what is reached, by the answer: symbolic runs. -/
import Derived.Test.YtgdokjfjmcleeaaJn
import Derived.Test.YtgdokjfjmcleeaaJi
import Derived.Test.YtgdokjfjmcleeaaJx
namespace Go.Proofs.Ytgdokjfjmcleeaa.Ce
open Go.RowKit
set_option linter.unusedVariables false
set_option linter.unusedSimpArgs false
set_option maxRecDepth 100000
set_option maxHeartbeats 2000000

theorem max_ifJ (a b : Int) : max a b = if b > a then b else a := by split <;> omega
variable (k d cl : Nat) (h : Hp) (n : Nat)
theorem rdeep_ev (hk : 30000 ≤ k) (A : Option Addr) (T : List Tp) (c : Nat) (hT : TabH h n A T) (hl : T.length ≤ 32) (hF : Fine T) (h0T : 0 < T.length) :
    Sp Try.prog (acall Try.prog WW k (d + 2)) cl 76 [.slice A T.length c] h n fun v h' n' => v = .slice (some ⟨n, 0, none⟩) T.length T.length ∧ h' = h.set n (.row 3 false (iv (depR T))) ∧ n' = n + 1 := by
  obtain ⟨tid, toff, hAA, htid, -⟩ := hT.at_ h0T
  subst hAA
  refine enter Try.func76 (by kernel_rfl) rfl (by kernel_rfl) rfl rfl rfl ?_
  (repeat' first | (with_reducible first | apply x_seq | apply k_then | apply x_block | apply x_skip | apply x_ret | apply x_exit | apply x_label | apply k_pass | apply k_hit | apply k_miss rfl | apply k_out | apply k_turned | refine x_text fun K' hK => ?_) | ((with_reducible apply o_nil); refine hK _ _ _ ?_; clear hK) | fail | ((first | ((with_reducible apply o_pure w_none); (case hp => exact rfl); (case' he => intro h n)) | (with_reducible first | apply o_eff w_none | apply o_guard rfl | apply x_cond | apply k_e1 rfl | apply k_e2 rfl | apply k_e0 rfl | apply k_e3 rfl | apply k_e4 rfl)); (case he => (simp (disch := first | assumption | omega | rfl | decide) only [go_sem, seval, tys] <;> rfl)); (try (case hok => first | exact rfl | exact ok_w (by omega) rfl)); all_goals (try (intro hb; (try (simp only [hbs, reduceCtorEq] at hb)); try (exfalso; omega)))) | ((with_reducible apply o_undef rfl); (case hb => (simp (disch := first | assumption | omega | rfl | decide) only [go_sem, seval, tys]))))
  refine x_loopV [3, 4, 5, 6, 7, 8, 9, 10, 11, 12, 13, 14, 15, 16, 17, 18, 19, 20, 21, 22, 23, 24, 25, 26, 27, 28, 29, 30, 31, 32, 33, 34, 35, 36, 37, 38] [3, 4] (fun m vs h4 n4 => ∃ (i : Nat) (O : Value), m = T.length - i ∧ i ≤ T.length ∧ vs = [O, .int .i64 i] ∧ n ≤ n4 ∧ TabH h4 n (some ⟨tid, toff, none⟩) T ∧ OwnI (depR (T.take i)) O h4 n n4) T.length rfl (by omega) ?_ ?_
  · exact ⟨0, .slice none 0 0, rfl, by omega, (by simp (disch := first | assumption | omega | rfl | decide) only [go_sem, seval, tys] <;> rfl), Nat.le_refl _, hT, .inl ⟨rfl, rfl⟩⟩
  · rintro m fr _ h4 n4 ⟨i, O, rfl, hi, rfl, hn4, hT4, hO⟩
    have hDl := depR_len (T := T) i hi
    by_cases hiT : i < T.length
    · obtain ⟨_, _, hA2, -, ht4, -⟩ := hT4.at_ hiT
      injection hA2 with hA2
      injection hA2 with z1 z2
      subst z1
      subst z2
      have hfi := hF i hiT
      have pL := (rparts_ev k d n h4 n4 hk hfi ((hT4.fd _ (List.getElem_mem hiT)).more (by omega))).mono fun _ _ _ hh => IntsV.rd hh
      have hns := leadsT_near hfi
      have hnl := leadsT_len (far := false) hfi
      have hde := depT_eq hF hiT
      have hdb := depT_bnd hF hiT
      have hone := depOne_eq hiT
      have hnx := depR_take hiT
      rw [hone] at hnx
      obtain ⟨ns, hnse⟩ : ∃ ns, leadsT false T[i] = ns := ⟨_, rfl⟩
      rw [hnse] at pL hns hnl hde
      obtain ⟨M, hM⟩ : ∃ M : Nat → Int, M = fun r => (ns.take r).foldl (fun m x => max m (depT T x.toNat)) 0 := ⟨_, rfl⟩
      have hM0 : M 0 = 0 := by rw [hM]; rfl
      have hMb : ∀ r, 0 ≤ M r ∧ M r ≤ 32 := fun r => by
        have := max_fold (fun x => depT T x.toNat) 32 (ns.take r) 0 (fun x hx => by
          have h1 := hns x (List.mem_of_mem_take hx)
          have := depT_bnd hF (i := x.toNat) (by omega)
          show depT T x.toNat ≤ 32
          omega) (by omega)
        rw [hM]
        exact this
      have hMe : M ns.length + 1 = depT T i := by rw [hde, hM]; show (ns.take ns.length).foldl _ 0 + 1 = _; rw [List.take_length]
      have hMl := hMb ns.length
      rcases hO with ⟨hp0, rfl⟩ | ⟨hp0, id5, j1, j2, rfl, j3⟩
      · have hi0 : i = 0 := by rw [hp0] at hDl; exact hDl.symm
        have hn0 : ns.length = 0 := by
          rcases ns with _ | ⟨x, ns⟩
          · rfl
          · have := hns x (List.mem_cons_self ..)
            omega
        subst hi0
        simp only [Nat.zero_mul, Nat.add_zero] at ht4
        (repeat' first | (with_reducible first | apply x_seq | apply k_then | apply x_block | apply x_skip | apply x_ret | apply x_exit | apply x_label | apply k_pass | apply k_hit | apply k_miss rfl | apply k_out | apply k_turned | refine x_text fun K' hK => ?_) | ((with_reducible apply o_nil); refine hK _ _ _ ?_; clear hK) | ((with_reducible apply o_callF (g := 34) w_none); (case ha => (simp (disch := first | assumption | omega | rfl | decide) only [go_sem, seval, tys] <;> rfl)); (case hs => (exact pL)); (case' hk => rintro _ h' n' ⟨LA, lc, rfl, hrL, hLn, hn2, hkp⟩)) | ((first | ((with_reducible apply o_pure w_none); (case hp => exact rfl); (case' he => intro h n)) | (with_reducible first | apply o_eff w_none | apply o_guard rfl | apply x_cond | apply k_e1 rfl | apply k_e2 rfl | apply k_e0 rfl | apply k_e3 rfl | apply k_e4 rfl)); (case he => (simp (disch := first | assumption | omega | rfl | decide) only [go_sem, seval, tys, ht4] <;> rfl)); (try (case hok => first | exact rfl | exact ok_w (by omega) rfl)); all_goals (try (intro hb; (try (simp only [hbs, reduceCtorEq] at hb)); try (exfalso; omega)))) | ((with_reducible apply o_undef rfl); (case hb => (simp (disch := first | assumption | omega | rfl | decide) only [go_sem, seval, tys]))))
        refine x_loopF [5, 7, 19, 20, 21, 22, 23, 24, 25, 26, 27, 28, 29, 30, 31, 32, 33] [5, 7] (fun m vs => ∃ r : Nat, m = ns.length - r ∧ r ≤ ns.length ∧ vs = [.int .i64 (M r), .int .i64 r]) ns.length rfl (by omega) ⟨0, rfl, by omega, by rw [hM0]; simp (disch := first | assumption | omega | rfl | decide) only [go_sem, seval, tys] <;> rfl⟩ ?_
        rintro m g _ ⟨r, rfl, hr, rfl⟩
        by_cases hrl : r < ns.length
        · exact absurd hrl (by omega)
        · obtain rfl : r = ns.length := by omega
          (repeat' first | (with_reducible first | apply x_seq | apply k_then | apply x_block | apply x_skip | apply x_ret | apply x_exit | apply x_label | apply k_pass | apply k_hit | apply k_miss rfl | apply k_out | apply k_turned | refine x_text fun K' hK => ?_) | ((with_reducible apply o_nil); refine hK _ _ _ ?_; clear hK) | ((with_reducible apply o_ap0 (t := 31) apT31 w_none); (case hs => (simp (disch := first | assumption | omega | rfl | decide) only [go_sem, seval, tys] <;> rfl)); (case hy => (simp (disch := first | assumption | omega | rfl | decide) only [go_sem, seval, tys] <;> rfl)); (case hsrc => exact src_row (rowOf_same _ _ _ _ _) rfl); (case hc => exact rfl); (case hm => omega); (case h0 => omega)) | ((first | ((with_reducible apply o_pure w_none); (case hp => exact rfl); (case' he => intro h n)) | (with_reducible first | apply o_eff w_none | apply o_guard rfl | apply x_cond | apply k_e1 rfl | apply k_e2 rfl | apply k_e0 rfl | apply k_e3 rfl | apply k_e4 rfl)); (case he => (simp (disch := first | assumption | omega | rfl | decide) only [go_sem, seval, tys] <;> rfl)); (try (case hok => first | exact rfl | exact ok_w (by omega) rfl)); all_goals (try (intro hb; (try (simp only [hbs, reduceCtorEq] at hb)); try (exfalso; omega)))) | ((with_reducible apply o_undef rfl); (case hb => (simp (disch := first | assumption | omega | rfl | decide) only [go_sem, seval, tys]))))
          refine k_round (T.length - 1) (by omega) ⟨1, .slice (some ⟨n' + 1, 0, none⟩) 1 1, rfl, by omega, (by simp (disch := first | assumption | omega | rfl | decide) only [go_sem, seval, tys] <;> rfl), by omega, ((hT4.keep (by omega) hkp).set (by omega) _).set (by omega) _, .inr ⟨?_, n' + 1, by omega, by omega, ?_, ?_⟩⟩
          · rw [hnx]; simp
          · rw [hnx, List.length_append, hDl]; rfl
          · rw [hnx, iv_app1, ← hMe, hp0]
            simp (disch := first | assumption | omega | rfl | decide) only [go_sem, seval, tys] <;> rfl
      · rw [hDl]
        (repeat' first | (with_reducible first | apply x_seq | apply k_then | apply x_block | apply x_skip | apply x_ret | apply x_exit | apply x_label | apply k_pass | apply k_hit | apply k_miss rfl | apply k_out | apply k_turned | refine x_text fun K' hK => ?_) | ((with_reducible apply o_nil); refine hK _ _ _ ?_; clear hK) | ((with_reducible apply o_callF (g := 34) w_none); (case ha => (simp (disch := first | assumption | omega | rfl | decide) only [go_sem, seval, tys] <;> rfl)); (case hs => (exact pL)); (case' hk => rintro _ h' n' ⟨LA, lc, rfl, hrL, hLn, hn2, hkp⟩)) | ((first | ((with_reducible apply o_pure w_none); (case hp => exact rfl); (case' he => intro h n)) | (with_reducible first | apply o_eff w_none | apply o_guard rfl | apply x_cond | apply k_e1 rfl | apply k_e2 rfl | apply k_e0 rfl | apply k_e3 rfl | apply k_e4 rfl)); (case he => (simp (disch := first | assumption | omega | rfl | decide) only [go_sem, seval, tys, ht4] <;> rfl)); (try (case hok => first | exact rfl | exact ok_w (by omega) rfl)); all_goals (try (intro hb; (try (simp only [hbs, reduceCtorEq] at hb)); try (exfalso; omega)))) | ((with_reducible apply o_undef rfl); (case hb => (simp (disch := first | assumption | omega | rfl | decide) only [go_sem, seval, tys]))))
        have q5 : rowOf h' id5 = some (3, false, iv (depR (T.take i))) := by rw [rowOf_keep (hkp _ j2)]; exact j3
        refine x_loopF [5, 7, 19, 20, 21, 22, 23, 24, 25, 26, 27, 28, 29, 30, 31, 32, 33] [5, 7] (fun m vs => ∃ r : Nat, m = ns.length - r ∧ r ≤ ns.length ∧ vs = [.int .i64 (M r), .int .i64 r]) ns.length rfl (by omega) ⟨0, rfl, by omega, by rw [hM0]; simp (disch := first | assumption | omega | rfl | decide) only [go_sem, seval, tys] <;> rfl⟩ ?_
        rintro m g _ ⟨r, rfl, hr, rfl⟩
        by_cases hrl : r < ns.length
        · obtain ⟨lid, lof, hLA, -, cz⟩ := int_at hrL hrl
          subst hLA
          have hzb := hns ns[r] (List.getElem_mem _)
          obtain ⟨z, hzz⟩ := Int.eq_ofNat_of_zero_le hzb.1
          rw [hzz] at cz hzb
          have cx := cellAt_row (off := z) q5
          rw [iv_lget (by rw [hDl]; omega), depT_take (by omega) (by omega)] at cx
          have hM1 : M (r + 1) = max (M r) (depT T z) := by
            rw [hM]
            show (ns.take (r + 1)).foldl _ 0 = _
            rw [List.take_succ_eq_append_getElem hrl, List.foldl_append, hzz]
            rfl
          (repeat' first | (with_reducible first | apply x_seq | apply k_then | apply x_block | apply x_skip | apply x_ret | apply x_exit | apply x_label | apply k_pass | apply k_hit | apply k_miss rfl | apply k_out | apply k_turned | refine x_text fun K' hK => ?_) | ((with_reducible apply o_nil); refine hK _ _ _ ?_; clear hK) | fail | ((first | ((with_reducible apply o_pure w_none); (case hp => exact rfl); (case' he => intro h n)) | (with_reducible first | apply o_eff w_none | apply o_guard rfl | apply x_cond | apply k_e1 rfl | apply k_e2 rfl | apply k_e0 rfl | apply k_e3 rfl | apply k_e4 rfl)); (case he => (simp (disch := first | assumption | omega | rfl | decide) only [go_sem, seval, tys, cz, cx] <;> rfl)); (try (case hok => first | exact rfl | exact ok_w (by omega) rfl)); all_goals (try (intro hb; (try (simp only [hbs, reduceCtorEq] at hb)); try (exfalso; omega)))) | ((with_reducible apply o_undef rfl); (case hb => (simp (disch := first | assumption | omega | rfl | decide) only [go_sem, seval, tys]))))
          refine k_round (ns.length - (r + 1)) (by omega) ⟨⟨rfl, rfl⟩, r + 1, rfl, by omega, by rw [hM1, max_ifJ]; simp (disch := first | assumption | omega | rfl | decide) only [go_sem, seval, tys] <;> rfl⟩
        · obtain rfl : r = ns.length := by omega
          have w4 := rwOf_row q5
          have htk5 : (iv (depR (T.take i))).take i = iv (depR (T.take i)) := List.take_of_length_le (by rw [iv_length]; omega)
          (repeat' first | (with_reducible first | apply x_seq | apply k_then | apply x_block | apply x_skip | apply x_ret | apply x_exit | apply x_label | apply k_pass | apply k_hit | apply k_miss rfl | apply k_out | apply k_turned | refine x_text fun K' hK => ?_) | ((with_reducible apply o_nil); refine hK _ _ _ ?_; clear hK) | ((with_reducible apply o_apR (t := 31) apT31 w_none); (case hs => (simp (disch := first | assumption | omega | rfl | decide) only [go_sem, seval, tys, w4] <;> rfl)); (case hy => (simp (disch := first | assumption | omega | rfl | decide) only [go_sem, seval, tys, w4] <;> rfl)); (case hsrc => exact src_row (rowOf_same _ _ _ _ _) rfl); (case hr => (simp (disch := first | assumption | omega | rfl | decide) only [go_sem, seval, tys, w4] <;> rfl)); (case hc => exact rfl); (case hm => omega); (case hli => omega); (case hln => omega); (case hcs => rw [iv_length]; omega)) | ((first | ((with_reducible apply o_pure w_none); (case hp => exact rfl); (case' he => intro h n)) | (with_reducible first | apply o_eff w_none | apply o_guard rfl | apply x_cond | apply k_e1 rfl | apply k_e2 rfl | apply k_e0 rfl | apply k_e3 rfl | apply k_e4 rfl)); (case he => (simp (disch := first | assumption | omega | rfl | decide) only [go_sem, seval, tys, w4] <;> rfl)); (try (case hok => first | exact rfl | exact ok_w (by omega) rfl)); all_goals (try (intro hb; (try (simp only [hbs, reduceCtorEq] at hb)); try (exfalso; omega)))) | ((with_reducible apply o_undef rfl); (case hb => (simp (disch := first | assumption | omega | rfl | decide) only [go_sem, seval, tys]))))
          refine k_round (T.length - (i + 1)) (by omega) ⟨i + 1, .slice (some ⟨n' + 1, 0, none⟩) (i + 1) (i + 1), rfl, by omega, (by simp (disch := first | assumption | omega | rfl | decide) only [go_sem, seval, tys] <;> rfl), by omega, (((hT4.keep (by omega) hkp).set (by omega) _).set (by omega) _).set (by omega) _, .inr ⟨?_, n' + 1, by omega, by omega, ?_, ?_⟩⟩
          · rw [hnx]; simp
          · rw [hnx, List.length_append, hDl]; rfl
          · rw [hnx, iv_app1, ← hMe]
            first | (simp (disch := first | assumption | omega | rfl | decide) only [go_sem, seval, tys, htk5]; done) | (simp (disch := first | assumption | omega | rfl | decide) only [go_sem, seval, tys, htk5]; exact rfl)
    · obtain rfl : i = T.length := by omega
      rw [List.take_length] at hO hDl
      rcases hO with ⟨hp0, rfl⟩ | ⟨hp0, id5, j1, j2, rfl, j3⟩
      · rw [hp0] at hDl; exact absurd hDl (by simp; omega)
      · rw [hDl]
        (repeat' first | (with_reducible first | apply x_seq | apply k_then | apply x_block | apply x_skip | apply x_ret | apply x_exit | apply x_label | apply k_pass | apply k_hit | apply k_miss rfl | apply k_out | apply k_turned | refine x_text fun K' hK => ?_) | ((with_reducible apply o_nil); refine hK _ _ _ ?_; clear hK) | fail | ((first | ((with_reducible apply o_pure w_none); (case hp => exact rfl); (case' he => intro h n)) | (with_reducible first | apply o_eff w_none | apply o_guard rfl | apply x_cond | apply k_e1 rfl | apply k_e2 rfl | apply k_e0 rfl | apply k_e3 rfl | apply k_e4 rfl)); (case he => (simp (disch := first | assumption | omega | rfl | decide) only [go_sem, seval, tys] <;> rfl)); (try (case hok => first | exact rfl | exact ok_w (by omega) rfl)); all_goals (try (intro hb; (try (simp only [hbs, reduceCtorEq] at hb)); try (exfalso; omega)))) | ((with_reducible apply o_undef rfl); (case hb => (simp (disch := first | assumption | omega | rfl | decide) only [go_sem, seval, tys]))))
        refine sw_row (m := id5) (by simp (disch := first | assumption | omega) only [idV_tuple, idV_agg, idV_int, idV_bool, idV_str, idV_slice, idV_nil, idV1_agg, idV1_int, idV1_bool, idV1_str, idV1_slice, idV1_nil, idA_int, idA_bool, idA_str, idA_slice, idA_nil, idA_old, idV_old, idV1_old, ble_t, ble_f, cond_true, cond_false, List.flatMap_cons, List.flatMap_nil, List.append_nil, List.nil_append, List.cons_append] <;> rfl) rfl (by omega) j3 (iv_idA _ _) (by simp only [reV_tuple, reV_agg, reV_slice, reV1_agg, reV1_int, reV1_bool, reV1_str, reV1_slice, reV1_snil, reA_int, reA_bool, reA_str, reA_slice, reA_snil, reN_hit, List.map_cons, List.map_nil] <;> rfl) ?_
        exact ⟨rfl, rfl, rfl⟩
theorem rdepth_ok (hk : 30000 ≤ k) (A : Option Addr) (T : List Tp) (c : Nat) (hT : TabH h n A T) (hS : ∀ t ∈ T, t.fs.length ≤ 20000) (hm : T.length ≤ 9223372036854775807) (hC : ChkT T) (i : Nat) (hi : i < T.length) :
    Sp Try.prog (acall Try.prog WW k (d + 8)) cl 47 [.slice A T.length c, .int .i64 i] h n fun v h' n' => v = .tuple ⟨[.int .i64 (depT T i), .int .i64 0]⟩ ∧ h' = h ∧ n' = n := by
  have hl := hC.1
  have hF := hC.2.1
  have ha : askE T i i = 0 := by unfold askE; rw [if_pos hC, if_pos ⟨⟨by omega, by omega⟩, by omega, by omega⟩]
  have qa := rasked_ev k d n h n hk A T c hT hS hm i i
  rw [ha] at qa
  have qa := qa.mono (Φ' := fun v2 h2 n2 => v2 = .int .i64 0 ∧ h = h2 ∧ n = n2) fun _ _ _ hp => ⟨hp.1, hp.2.1.symm, hp.2.2.symm⟩
  have q2 := rdeep_ev k (d + 5) n h n hk A T c hT hl hF (by omega)
  have hg := iv_lget (l := depR T) (i := i) (by have := depR_len (T := T) T.length (Nat.le_refl _); rw [List.take_length] at this; omega)
  refine enter Try.func47 (by kernel_rfl) rfl (by kernel_rfl) rfl rfl rfl ?_
  (repeat' first | (with_reducible first | apply x_seq | apply k_then | apply x_block | apply x_skip | apply x_ret | apply x_exit | apply x_label | apply k_pass | apply k_hit | apply k_miss rfl | apply k_out | apply k_turned | refine x_text fun K' hK => ?_) | ((with_reducible apply o_nil); refine hK _ _ _ ?_; clear hK) | ((with_reducible apply o_callF (g := 75) w_none); (case ha => (simp (disch := first | assumption | omega | rfl | decide) only [go_sem, seval, tys] <;> rfl)); (case hs => (exact qa)); (case' hk => rintro _ h' n' ⟨rfl, rfl, rfl⟩)) | ((with_reducible apply o_callF (g := 76) w_none); (case ha => (simp (disch := first | assumption | omega | rfl | decide) only [go_sem, seval, tys] <;> rfl)); (case hs => (exact q2)); (case' hk => rintro _ h' n' ⟨rfl, rfl, rfl⟩)) | ((first | ((with_reducible apply o_pure w_none); (case hp => exact rfl); (case' he => intro h n)) | (with_reducible first | apply o_eff w_none | apply o_guard rfl | apply x_cond | apply k_e1 rfl | apply k_e2 rfl | apply k_e0 rfl | apply k_e3 rfl | apply k_e4 rfl)); (case he => (simp (disch := first | assumption | omega | rfl | decide) only [go_sem, seval, tys, hg] <;> rfl)); (try (case hok => first | exact rfl | exact ok_w (by omega) rfl)); all_goals (try (intro hb; (try (simp only [hbs, reduceCtorEq] at hb)); try (exfalso; omega)))) | ((with_reducible apply o_undef rfl); (case hb => (simp (disch := first | assumption | omega | rfl | decide) only [go_sem, seval, tys]))))
  all_goals exact sw_flat rfl rfl ⟨rfl, rfl, rfl⟩
theorem rwidth_ok (hk : 30000 ≤ k) (A : Option Addr) (T : List Tp) (c : Nat) (hT : TabH h n A T) (hS : ∀ t ∈ T, t.fs.length ≤ 20000) (hm : T.length ≤ 9223372036854775807) (hC : ChkT T) (i : Nat) (hi : i < T.length) :
    Sp Try.prog (acall Try.prog WW k (d + 8)) cl 52 [.slice A T.length c, .int .i64 i] h n fun v h' n' => v = .tuple ⟨[.int .i64 (widT T i), .int .i64 0]⟩ ∧ h' = h ∧ n' = n := by
  have hl := hC.1
  have hF := hC.2.1
  have ha : askE T i i = 0 := by unfold askE; rw [if_pos hC, if_pos ⟨⟨by omega, by omega⟩, by omega, by omega⟩]
  have qa := rasked_ev k d n h n hk A T c hT hS hm i i
  rw [ha] at qa
  have qa := qa.mono (Φ' := fun v2 h2 n2 => v2 = .int .i64 0 ∧ h = h2 ∧ n = n2) fun _ _ _ hp => ⟨hp.1, hp.2.1.symm, hp.2.2.symm⟩
  have q2 := rwidths_3 k (d + 2) n h n hk A T c hT hl (by omega) hF
  have hg := iv_lget (l := wD T 3) (i := i) (by rw [wD_length]; exact hi)
  refine enter Try.func52 (by kernel_rfl) rfl (by kernel_rfl) rfl rfl rfl ?_
  (repeat' first | (with_reducible first | apply x_seq | apply k_then | apply x_block | apply x_skip | apply x_ret | apply x_exit | apply x_label | apply k_pass | apply k_hit | apply k_miss rfl | apply k_out | apply k_turned | refine x_text fun K' hK => ?_) | ((with_reducible apply o_nil); refine hK _ _ _ ?_; clear hK) | ((with_reducible apply o_callF (g := 75) w_none); (case ha => (simp (disch := first | assumption | omega | rfl | decide) only [go_sem, seval, tys] <;> rfl)); (case hs => (exact qa)); (case' hk => rintro _ h' n' ⟨rfl, rfl, rfl⟩)) | ((with_reducible apply o_callF (g := 79) w_none); (case ha => (simp (disch := first | assumption | omega | rfl | decide) only [go_sem, seval, tys] <;> rfl)); (case hs => (exact q2)); (case' hk => rintro _ h' n' ⟨rfl, rfl, rfl⟩)) | ((first | ((with_reducible apply o_pure w_none); (case hp => exact rfl); (case' he => intro h n)) | (with_reducible first | apply o_eff w_none | apply o_guard rfl | apply x_cond | apply k_e1 rfl | apply k_e2 rfl | apply k_e0 rfl | apply k_e3 rfl | apply k_e4 rfl)); (case he => (simp (disch := first | assumption | omega | rfl | decide) only [go_sem, seval, tys, hg] <;> rfl)); (try (case hok => first | exact rfl | exact ok_w (by omega) rfl)); all_goals (try (intro hb; (try (simp only [hbs, reduceCtorEq] at hb)); try (exfalso; omega)))) | ((with_reducible apply o_undef rfl); (case hb => (simp (disch := first | assumption | omega | rfl | decide) only [go_sem, seval, tys]))))
  all_goals exact sw_flat rfl rfl ⟨rfl, rfl, rfl⟩
theorem rreached_ev (hk : 30000 ≤ k) (A : Option Addr) (T : List Tp) (c : Nat) (hT : TabH h n A T) (hl : T.length ≤ 32) (hF : Fine T) (i : Nat) (hi : i < T.length) :
    Sp Try.prog (acall Try.prog WW k (d + 3)) cl 80 [.slice A T.length c, .int .i64 i] h n (IntsV (reachL T i) h n) := by
  obtain ⟨tid, toff, hAA, htid, -⟩ := hT.at_ hi
  subst hAA
  obtain ⟨F0, hF0⟩ : ∃ F0, (List.replicate T.length false).set i true = F0 := ⟨_, rfl⟩
  have hov0 := bw_set (l := List.replicate T.length false) (i := i) (by rw [List.length_replicate]; exact hi)
  have hout := Out.init (T := T) hi
  rw [hF0] at hov0 hout
  refine enter Try.func80 (by kernel_rfl) rfl (by kernel_rfl) rfl rfl rfl ?_
  (repeat' first | (with_reducible first | apply x_seq | apply k_then | apply x_block | apply x_skip | apply x_ret | apply x_exit | apply x_label | apply k_pass | apply k_hit | apply k_miss rfl | apply k_out | apply k_turned | refine x_text fun K' hK => ?_) | ((with_reducible apply o_nil); refine hK _ _ _ ?_; clear hK) | fail | ((first | ((with_reducible apply o_pure w_none); (case hp => exact rfl); (case' he => intro h n)) | (with_reducible first | apply o_eff w_none | apply o_guard rfl | apply x_cond | apply k_e1 rfl | apply k_e2 rfl | apply k_e0 rfl | apply k_e3 rfl | apply k_e4 rfl)); (case he => (simp (disch := first | assumption | omega | rfl | decide) only [go_sem, seval, tys, mk_falses, hov0] <;> rfl)); (try (case hok => first | exact rfl | exact ok_w (by omega) rfl)); all_goals (try (intro hb; (try (simp only [hbs, reduceCtorEq] at hb)); try (exfalso; omega)))) | ((with_reducible apply o_undef rfl); (case hb => (simp (disch := first | assumption | omega | rfl | decide) only [go_sem, seval, tys]))))
  refine x_loopV [6, 7, 8, 9, 18, 19, 20, 21, 22, 23, 24, 25, 26, 27, 28, 29, 30, 31, 32, 33, 34, 35, 36, 37, 38, 39, 40, 41, 42, 43, 44, 45, 46, 47, 48, 49, 50, 51, 52] [6] (fun m vs h7 n7 => ∃ (r : Nat) (F : List Bool), m = T.length - r ∧ r ≤ T.length ∧ vs = [.int .i64 r] ∧ n + 1 ≤ n7 ∧ TabH h7 n (some ⟨tid, toff, none⟩) T ∧ rowOf h7 n = some (4, false, bw F) ∧ Out T i F r) T.length rfl (by omega) ?_ ?_
  · exact ⟨0, F0, rfl, by omega, (by simp (disch := first | assumption | omega | rfl | decide) only [go_sem, seval, tys] <;> rfl), Nat.le_refl _, hT.set (Nat.le_refl _) _, rowOf_same _ _ _ _ _, hout⟩
  · rintro m fr3 _ h7 n7 ⟨r, F, rfl, hr, rfl, hn7, hT7, qL7, hO⟩
    by_cases hrT : r < T.length
    · (repeat' first | (with_reducible first | apply x_seq | apply k_then | apply x_block | apply x_skip | apply x_ret | apply x_exit | apply x_label | apply k_pass | apply k_hit | apply k_miss rfl | apply k_out | apply k_turned | refine x_text fun K' hK => ?_) | ((with_reducible apply o_nil); refine hK _ _ _ ?_; clear hK) | fail | ((first | ((with_reducible apply o_pure w_none); (case hp => exact rfl); (case' he => intro h n)) | (with_reducible first | apply o_eff w_none | apply o_guard rfl | apply x_cond | apply k_e1 rfl | apply k_e2 rfl | apply k_e0 rfl | apply k_e3 rfl | apply k_e4 rfl)); (case he => (simp (disch := first | assumption | omega | rfl | decide) only [go_sem, seval, tys] <;> rfl)); (try (case hok => first | exact rfl | exact ok_w (by omega) rfl)); all_goals (try (intro hb; (try (simp only [hbs, reduceCtorEq] at hb)); try (exfalso; omega)))) | ((with_reducible apply o_undef rfl); (case hb => (simp (disch := first | assumption | omega | rfl | decide) only [go_sem, seval, tys]))))
      refine x_loopV [7, 8, 9, 24, 25, 26, 27, 28, 29, 30, 31, 32, 33, 34, 35, 36, 37, 38, 39, 40, 41, 42, 43, 44, 45, 46, 47, 48, 49, 50, 51, 52] [7] (fun m vs h8 n8 => ∃ (x : Nat) (G : List Bool), m = T.length - x ∧ x ≤ T.length ∧ vs = [.int .i64 x] ∧ n + 1 ≤ n8 ∧ TabH h8 n (some ⟨tid, toff, none⟩) T ∧ rowOf h8 n = some (4, false, bw G) ∧ Mid T i F G r x) T.length rfl (by omega) ?_ ?_
      · exact ⟨0, F, rfl, by omega, (by simp (disch := first | assumption | omega | rfl | decide) only [go_sem, seval, tys] <;> rfl), hn7, hT7, qL7, hO.mid⟩
      · rintro m fr4 _ h8 n8 ⟨x, G, rfl, hx, rfl, hn8, hT8, qL8, hMd⟩
        by_cases hxT : x < T.length
        · obtain ⟨_, _, hA2, -, ht4, -⟩ := hT8.at_ hxT
          injection hA2 with hA2
          injection hA2 with z1 z2
          subst z1
          subst z2
          have hfx := hF x hxT
          have pL := (rleads_ev k d n h8 n8 hk hfx ((hT8.fd _ (List.getElem_mem hxT)).more (by omega))).mono fun _ _ _ hh => IntsV.rd hh
          have hns := leadsT_in (far := true) hfx (by omega)
          have hnl := leadsT_len (far := true) hfx
          obtain ⟨ns, hnse⟩ : ∃ ns, leadsT true T[x] = ns := ⟨_, rfl⟩
          rw [hnse] at pL hns hnl
          (repeat' first | (with_reducible first | apply x_seq | apply k_then | apply x_block | apply x_skip | apply x_ret | apply x_exit | apply x_label | apply k_pass | apply k_hit | apply k_miss rfl | apply k_out | apply k_turned | refine x_text fun K' hK => ?_) | ((with_reducible apply o_nil); refine hK _ _ _ ?_; clear hK) | ((with_reducible apply o_callF (g := 54) w_none); (case ha => (simp (disch := first | assumption | omega | rfl | decide) only [go_sem, seval, tys] <;> rfl)); (case hs => (exact pL)); (case' hk => rintro _ h' n' ⟨LA, lc, rfl, hrL, hLn, hn2, hkp⟩)) | ((first | ((with_reducible apply o_pure w_none); (case hp => exact rfl); (case' he => intro h n)) | (with_reducible first | apply o_eff w_none | apply o_guard rfl | apply x_cond | apply k_e1 rfl | apply k_e2 rfl | apply k_e0 rfl | apply k_e3 rfl | apply k_e4 rfl)); (case he => (simp (disch := first | assumption | omega | rfl | decide) only [go_sem, seval, tys, ht4] <;> rfl)); (try (case hok => first | exact rfl | exact ok_w (by omega) rfl)); all_goals (try (intro hb; (try (simp only [hbs, reduceCtorEq] at hb)); try (exfalso; omega)))) | ((with_reducible apply o_undef rfl); (case hb => (simp (disch := first | assumption | omega | rfl | decide) only [go_sem, seval, tys]))))
          refine x_loopV [9, 35, 36, 37, 38, 39, 40, 41, 42, 43, 44, 45, 46, 47, 48, 49, 50, 51, 52] [9] (fun m vs h9 n9 => ∃ (s : Nat) (H : List Bool), m = ns.length - s ∧ s ≤ ns.length ∧ vs = [.int .i64 s] ∧ n9 = n' ∧ TabH h9 n (some ⟨tid, toff, none⟩) T ∧ RdH h9 n' LA (iv ns) ∧ rowOf h9 n = some (4, false, bw H) ∧ Inn T i F G H r x s ns) ns.length rfl (by omega) ?_ ?_
          · exact ⟨0, G, rfl, by omega, (by simp (disch := first | assumption | omega | rfl | decide) only [go_sem, seval, tys] <;> rfl), rfl, hT8.keep (by omega) hkp, hrL, by rw [rowOf_keep (hkp _ (by omega))]; exact qL8, hMd.inn⟩
          · rintro m fr5 _ h9 n9 ⟨s, H, rfl, hs, rfl, rfl, hT9, hrL9, qL9, hIn⟩
            have hHl := hIn.len
            have hHx : H[x]? = some (H[x]'(by omega)) := List.getElem?_eq_getElem (by omega)
            have cH := cellAt_row (off := x) qL9
            rw [bw_lget hHx] at cH
            obtain ⟨b, hb5⟩ : ∃ b, H[x]'(by omega) = b := ⟨_, rfl⟩
            rw [hb5] at cH hHx
            by_cases hsl : s < ns.length
            · cases b
              · have hnxt := hIn.next hxT hnse (.inr (by rw [hHx]; decide))
                (repeat' first | (with_reducible first | apply x_seq | apply k_then | apply x_block | apply x_skip | apply x_ret | apply x_exit | apply x_label | apply k_pass | apply k_hit | apply k_miss rfl | apply k_out | apply k_turned | refine x_text fun K' hK => ?_) | ((with_reducible apply o_nil); refine hK _ _ _ ?_; clear hK) | fail | ((first | ((with_reducible apply o_pure w_none); (case hp => exact rfl); (case' he => intro h n)) | (with_reducible first | apply o_eff w_none | apply o_guard rfl | apply x_cond | apply k_e1 rfl | apply k_e2 rfl | apply k_e0 rfl | apply k_e3 rfl | apply k_e4 rfl)); (case he => (simp (disch := first | assumption | omega | rfl | decide) only [go_sem, seval, tys, cH] <;> rfl)); (try (case hok => first | exact rfl | exact ok_w (by omega) rfl)); all_goals (try (intro hb; (try (simp only [hbs, reduceCtorEq] at hb)); try (exfalso; omega)))) | ((with_reducible apply o_undef rfl); (case hb => (simp (disch := first | assumption | omega | rfl | decide) only [go_sem, seval, tys]))))
                refine k_round (T.length - (x + 1)) (by omega) ⟨x + 1, H, rfl, by omega, (by simp (disch := first | assumption | omega | rfl | decide) only [go_sem, seval, tys] <;> rfl), by omega, hT9, qL9, hnxt⟩
              · obtain ⟨lid, lof, hLA, -, cz⟩ := int_at hrL9 hsl
                subst hLA
                have hyb := hns ns[s] (List.getElem_mem _)
                obtain ⟨y, hy⟩ := Int.eq_ofNat_of_zero_le hyb.1
                rw [hy] at cz hyb
                have hstp := hIn.step hxT hnse hsl hy (by omega) hHx
                have w0 := rwOf_row qL9
                have hov := bw_set (l := H) (i := y) (by omega)
                have hLz := hLn lid lof rfl
                (repeat' first | (with_reducible first | apply x_seq | apply k_then | apply x_block | apply x_skip | apply x_ret | apply x_exit | apply x_label | apply k_pass | apply k_hit | apply k_miss rfl | apply k_out | apply k_turned | refine x_text fun K' hK => ?_) | ((with_reducible apply o_nil); refine hK _ _ _ ?_; clear hK) | fail | ((first | ((with_reducible apply o_pure w_none); (case hp => exact rfl); (case' he => intro h n)) | (with_reducible first | apply o_eff w_none | apply o_guard rfl | apply x_cond | apply k_e1 rfl | apply k_e2 rfl | apply k_e0 rfl | apply k_e3 rfl | apply k_e4 rfl)); (case he => (simp (disch := first | assumption | omega | rfl | decide) only [go_sem, seval, tys, cH, cz, w0, hov] <;> rfl)); (try (case hok => first | exact rfl | exact ok_w (by omega) rfl)); all_goals (try (intro hb; (try (simp only [hbs, reduceCtorEq] at hb)); try (exfalso; omega)))) | ((with_reducible apply o_undef rfl); (case hb => (simp (disch := first | assumption | omega | rfl | decide) only [go_sem, seval, tys]))))
                refine k_round (ns.length - (s + 1)) (by omega) ⟨s + 1, _, rfl, by omega, (by simp (disch := first | assumption | omega | rfl | decide) only [go_sem, seval, tys] <;> rfl), rfl, hT9.set (by omega) _, hrL9.kill (fun b o e => by injection e with e; injection e with e1; omega) _, rowOf_same _ _ _ _ _, hstp⟩
            · obtain rfl : s = ns.length := by omega
              have hnxt := hIn.next hxT hnse (.inl rfl)
              (repeat' first | (with_reducible first | apply x_seq | apply k_then | apply x_block | apply x_skip | apply x_ret | apply x_exit | apply x_label | apply k_pass | apply k_hit | apply k_miss rfl | apply k_out | apply k_turned | refine x_text fun K' hK => ?_) | ((with_reducible apply o_nil); refine hK _ _ _ ?_; clear hK) | fail | ((first | ((with_reducible apply o_pure w_none); (case hp => exact rfl); (case' he => intro h n)) | (with_reducible first | apply o_eff w_none | apply o_guard rfl | apply x_cond | apply k_e1 rfl | apply k_e2 rfl | apply k_e0 rfl | apply k_e3 rfl | apply k_e4 rfl)); (case he => (simp (disch := first | assumption | omega | rfl | decide) only [go_sem, seval, tys, cH] <;> rfl)); (try (case hok => first | exact rfl | exact ok_w (by omega) rfl)); all_goals (try (intro hb; (try (simp only [hbs, reduceCtorEq] at hb)); try (exfalso; omega)))) | ((with_reducible apply o_undef rfl); (case hb => (simp (disch := first | assumption | omega | rfl | decide) only [go_sem, seval, tys]))))
              refine k_round (T.length - (x + 1)) (by omega) ⟨x + 1, H, rfl, by omega, (by simp (disch := first | assumption | omega | rfl | decide) only [go_sem, seval, tys] <;> rfl), by omega, hT9, qL9, hnxt⟩
        · obtain rfl : x = T.length := by omega
          have hnxt := hMd.next
          (repeat' first | (with_reducible first | apply x_seq | apply k_then | apply x_block | apply x_skip | apply x_ret | apply x_exit | apply x_label | apply k_pass | apply k_hit | apply k_miss rfl | apply k_out | apply k_turned | refine x_text fun K' hK => ?_) | ((with_reducible apply o_nil); refine hK _ _ _ ?_; clear hK) | fail | ((first | ((with_reducible apply o_pure w_none); (case hp => exact rfl); (case' he => intro h n)) | (with_reducible first | apply o_eff w_none | apply o_guard rfl | apply x_cond | apply k_e1 rfl | apply k_e2 rfl | apply k_e0 rfl | apply k_e3 rfl | apply k_e4 rfl)); (case he => (simp (disch := first | assumption | omega | rfl | decide) only [go_sem, seval, tys] <;> rfl)); (try (case hok => first | exact rfl | exact ok_w (by omega) rfl)); all_goals (try (intro hb; (try (simp only [hbs, reduceCtorEq] at hb)); try (exfalso; omega)))) | ((with_reducible apply o_undef rfl); (case hb => (simp (disch := first | assumption | omega | rfl | decide) only [go_sem, seval, tys]))))
          refine k_round (T.length - (r + 1)) (by omega) ⟨r + 1, G, rfl, by omega, (by simp (disch := first | assumption | omega | rfl | decide) only [go_sem, seval, tys] <;> rfl), hn8, hT8, qL8, hnxt⟩
    · obtain rfl : r = T.length := by omega
      have hFd := hO.done hF hi
      have hFl : F.length = T.length := hO.len
      unfold reachL
      rw [← hFd]
      clear hFd hO hout
      obtain ⟨g, hg⟩ : ∃ g : Nat → List Int, g = fun r => ((List.range r).filter fun x => F.getD x false).map fun (x : Nat) => (x : Int) := ⟨_, rfl⟩
      have hg1 : ∀ r, g (r + 1) = g r ++ if F.getD r false = true then [(r : Int)] else [] := fun r => by
        rw [hg]
        show ((List.range (r + 1)).filter _).map _ = _
        rw [List.range_succ, List.filter_append, List.map_append]
        congr 1
        by_cases hr : F.getD r false = true
        · rw [if_pos hr, List.filter_cons_of_pos (p := fun x => F.getD x false) hr]; rfl
        · rw [if_neg hr, List.filter_cons_of_neg (p := fun x => F.getD x false) hr]; rfl
      have hgl : ∀ r, (g r).length ≤ r := fun r => by
        rw [hg]
        show (((List.range r).filter _).map _).length ≤ r
        rw [List.length_map]
        have := List.length_filter_le (fun x => F.getD x false) (List.range r)
        rw [List.length_range] at this
        exact this
      have hge : ((List.range T.length).filter fun x => F.getD x false).map (fun (x : Nat) => (x : Int)) = g T.length := by rw [hg]
      rw [hge]
      (repeat' first | (with_reducible first | apply x_seq | apply k_then | apply x_block | apply x_skip | apply x_ret | apply x_exit | apply x_label | apply k_pass | apply k_hit | apply k_miss rfl | apply k_out | apply k_turned | refine x_text fun K' hK => ?_) | ((with_reducible apply o_nil); refine hK _ _ _ ?_; clear hK) | fail | ((first | ((with_reducible apply o_pure w_none); (case hp => exact rfl); (case' he => intro h n)) | (with_reducible first | apply o_eff w_none | apply o_guard rfl | apply x_cond | apply k_e1 rfl | apply k_e2 rfl | apply k_e0 rfl | apply k_e3 rfl | apply k_e4 rfl)); (case he => (simp (disch := first | assumption | omega | rfl | decide) only [go_sem, seval, tys] <;> rfl)); (try (case hok => first | exact rfl | exact ok_w (by omega) rfl)); all_goals (try (intro hb; (try (simp only [hbs, reduceCtorEq] at hb)); try (exfalso; omega)))) | ((with_reducible apply o_undef rfl); (case hb => (simp (disch := first | assumption | omega | rfl | decide) only [go_sem, seval, tys]))))
      refine x_loopV [10, 11, 53, 54, 55, 56, 57, 58, 59, 60, 61, 62, 63, 64, 65, 66] [10, 11] (fun m vs h4 n4 => ∃ (r : Nat) (O : Value), m = T.length - r ∧ r ≤ T.length ∧ vs = [O, .int .i64 r] ∧ n + 1 ≤ n4 ∧ rowOf h4 n = some (4, false, bw F) ∧ OwnI (g r) O h4 (n + 1) n4) T.length rfl (by omega) ?_ ?_
      · exact ⟨0, .slice none 0 0, rfl, by omega, (by simp (disch := first | assumption | omega | rfl | decide) only [go_sem, seval, tys] <;> rfl), hn7, qL7, .inl ⟨by rw [hg]; rfl, rfl⟩⟩
      · rintro m fr _ h4 n4 ⟨r, O, rfl, hr, rfl, hn4, p3, hO⟩
        by_cases hrs : r < T.length
        · have hgr := hgl r
          have hnx := hg1 r
          have c3 := cellAt_row (off := r) p3
          rw [bw_lget (b := F.getD r false) (by rw [List.getD_eq_getElem?_getD, List.getElem?_eq_getElem (by omega)]; rfl)] at c3
          obtain ⟨acc, hacc⟩ : ∃ acc, g r = acc := ⟨_, rfl⟩
          rw [hacc] at hO hgr hnx
          cases hin : F.getD r false
          · rw [hin] at c3 hnx
            rw [if_neg (by decide), List.append_nil] at hnx
            (repeat' first | (with_reducible first | apply x_seq | apply k_then | apply x_block | apply x_skip | apply x_ret | apply x_exit | apply x_label | apply k_pass | apply k_hit | apply k_miss rfl | apply k_out | apply k_turned | refine x_text fun K' hK => ?_) | ((with_reducible apply o_nil); refine hK _ _ _ ?_; clear hK) | fail | ((first | ((with_reducible apply o_pure w_none); (case hp => exact rfl); (case' he => intro h n)) | (with_reducible first | apply o_eff w_none | apply o_guard rfl | apply x_cond | apply k_e1 rfl | apply k_e2 rfl | apply k_e0 rfl | apply k_e3 rfl | apply k_e4 rfl)); (case he => (simp (disch := first | assumption | omega | rfl | decide) only [go_sem, seval, tys, c3] <;> rfl)); (try (case hok => first | exact rfl | exact ok_w (by omega) rfl)); all_goals (try (intro hb; (try (simp only [hbs, reduceCtorEq] at hb)); try (exfalso; omega)))) | ((with_reducible apply o_undef rfl); (case hb => (simp (disch := first | assumption | omega | rfl | decide) only [go_sem, seval, tys]))))
            refine k_round (T.length - (r + 1)) (by omega) ⟨r + 1, O, rfl, by omega, (by simp (disch := first | assumption | omega | rfl | decide) only [go_sem, seval, tys] <;> rfl), by omega, p3, by rw [hnx]; exact hO⟩
          · rw [hin] at c3 hnx
            rw [if_pos rfl] at hnx
            rcases hO with ⟨hp0, rfl⟩ | ⟨hp0, id5, j1, j2, rfl, j3⟩
            · (repeat' first | (with_reducible first | apply x_seq | apply k_then | apply x_block | apply x_skip | apply x_ret | apply x_exit | apply x_label | apply k_pass | apply k_hit | apply k_miss rfl | apply k_out | apply k_turned | refine x_text fun K' hK => ?_) | ((with_reducible apply o_nil); refine hK _ _ _ ?_; clear hK) | ((with_reducible apply o_ap0 (t := 31) apT31 w_none); (case hs => (simp (disch := first | assumption | omega | rfl | decide) only [go_sem, seval, tys] <;> rfl)); (case hy => (simp (disch := first | assumption | omega | rfl | decide) only [go_sem, seval, tys] <;> rfl)); (case hsrc => exact src_row (rowOf_same _ _ _ _ _) rfl); (case hc => exact rfl); (case hm => omega); (case h0 => omega)) | ((first | ((with_reducible apply o_pure w_none); (case hp => exact rfl); (case' he => intro h n)) | (with_reducible first | apply o_eff w_none | apply o_guard rfl | apply x_cond | apply k_e1 rfl | apply k_e2 rfl | apply k_e0 rfl | apply k_e3 rfl | apply k_e4 rfl)); (case he => (simp (disch := first | assumption | omega | rfl | decide) only [go_sem, seval, tys, c3] <;> rfl)); (try (case hok => first | exact rfl | exact ok_w (by omega) rfl)); all_goals (try (intro hb; (try (simp only [hbs, reduceCtorEq] at hb)); try (exfalso; omega)))) | ((with_reducible apply o_undef rfl); (case hb => (simp (disch := first | assumption | omega | rfl | decide) only [go_sem, seval, tys]))))
              refine k_round (T.length - (r + 1)) (by omega) ⟨r + 1, .slice (some ⟨n4 + 1, 0, none⟩) 1 1, rfl, by omega, (by simp (disch := first | assumption | omega | rfl | decide) only [go_sem, seval, tys] <;> rfl), by omega, by rw [rowOf_ne _ _ (by omega), rowOf_ne _ _ (by omega)]; exact p3, .inr ⟨?_, n4 + 1, by omega, by omega, ?_, ?_⟩⟩
              · rw [hnx]; simp
              · rw [hnx, hp0]; rfl
              · rw [hnx, hp0]; exact rowOf_same _ _ _ _ _
            · have w4 := rwOf_row j3
              have htk5 : (iv acc).take acc.length = iv acc := List.take_of_length_le (by rw [iv_length]; omega)
              (repeat' first | (with_reducible first | apply x_seq | apply k_then | apply x_block | apply x_skip | apply x_ret | apply x_exit | apply x_label | apply k_pass | apply k_hit | apply k_miss rfl | apply k_out | apply k_turned | refine x_text fun K' hK => ?_) | ((with_reducible apply o_nil); refine hK _ _ _ ?_; clear hK) | ((with_reducible apply o_apR (t := 31) apT31 w_none); (case hs => (simp (disch := first | assumption | omega | rfl | decide) only [go_sem, seval, tys, w4] <;> rfl)); (case hy => (simp (disch := first | assumption | omega | rfl | decide) only [go_sem, seval, tys, w4] <;> rfl)); (case hsrc => exact src_row (rowOf_same _ _ _ _ _) rfl); (case hr => (simp (disch := first | assumption | omega | rfl | decide) only [go_sem, seval, tys, w4] <;> rfl)); (case hc => exact rfl); (case hm => omega); (case hli => omega); (case hln => omega); (case hcs => rw [iv_length]; omega)) | ((first | ((with_reducible apply o_pure w_none); (case hp => exact rfl); (case' he => intro h n)) | (with_reducible first | apply o_eff w_none | apply o_guard rfl | apply x_cond | apply k_e1 rfl | apply k_e2 rfl | apply k_e0 rfl | apply k_e3 rfl | apply k_e4 rfl)); (case he => (simp (disch := first | assumption | omega | rfl | decide) only [go_sem, seval, tys, c3, w4] <;> rfl)); (try (case hok => first | exact rfl | exact ok_w (by omega) rfl)); all_goals (try (intro hb; (try (simp only [hbs, reduceCtorEq] at hb)); try (exfalso; omega)))) | ((with_reducible apply o_undef rfl); (case hb => (simp (disch := first | assumption | omega | rfl | decide) only [go_sem, seval, tys]))))
              refine k_round (T.length - (r + 1)) (by omega) ⟨r + 1, .slice (some ⟨n4 + 1, 0, none⟩) (acc.length + 1) (acc.length + 1), rfl, by omega, (by simp (disch := first | assumption | omega | rfl | decide) only [go_sem, seval, tys] <;> rfl), by omega, by rw [rowOf_ne _ _ (by omega), rowOf_ne _ _ (by omega), rowOf_ne _ _ (by omega)]; exact p3, .inr ⟨?_, n4 + 1, by omega, by omega, ?_, ?_⟩⟩
              · rw [hnx]; simp
              · rw [hnx, List.length_append]; rfl
              · rw [hnx, iv_app1]
                first | (simp (disch := first | assumption | omega | rfl | decide) only [go_sem, seval, tys, htk5]; done) | (simp (disch := first | assumption | omega | rfl | decide) only [go_sem, seval, tys, htk5]; exact rfl)
        · obtain rfl : r = T.length := by omega
          rcases hO with ⟨hp0, rfl⟩ | ⟨hp0, id5, j1, j2, rfl, j3⟩
          · (repeat' first | (with_reducible first | apply x_seq | apply k_then | apply x_block | apply x_skip | apply x_ret | apply x_exit | apply x_label | apply k_pass | apply k_hit | apply k_miss rfl | apply k_out | apply k_turned | refine x_text fun K' hK => ?_) | ((with_reducible apply o_nil); refine hK _ _ _ ?_; clear hK) | fail | ((first | ((with_reducible apply o_pure w_none); (case hp => exact rfl); (case' he => intro h n)) | (with_reducible first | apply o_eff w_none | apply o_guard rfl | apply x_cond | apply k_e1 rfl | apply k_e2 rfl | apply k_e0 rfl | apply k_e3 rfl | apply k_e4 rfl)); (case he => (simp (disch := first | assumption | omega | rfl | decide) only [go_sem, seval, tys] <;> rfl)); (try (case hok => first | exact rfl | exact ok_w (by omega) rfl)); all_goals (try (intro hb; (try (simp only [hbs, reduceCtorEq] at hb)); try (exfalso; omega)))) | ((with_reducible apply o_undef rfl); (case hb => (simp (disch := first | assumption | omega | rfl | decide) only [go_sem, seval, tys]))))
            exact sw_flat rfl rfl (.inl ⟨hp0, rfl, rfl, rfl⟩)
          · (repeat' first | (with_reducible first | apply x_seq | apply k_then | apply x_block | apply x_skip | apply x_ret | apply x_exit | apply x_label | apply k_pass | apply k_hit | apply k_miss rfl | apply k_out | apply k_turned | refine x_text fun K' hK => ?_) | ((with_reducible apply o_nil); refine hK _ _ _ ?_; clear hK) | fail | ((first | ((with_reducible apply o_pure w_none); (case hp => exact rfl); (case' he => intro h n)) | (with_reducible first | apply o_eff w_none | apply o_guard rfl | apply x_cond | apply k_e1 rfl | apply k_e2 rfl | apply k_e0 rfl | apply k_e3 rfl | apply k_e4 rfl)); (case he => (simp (disch := first | assumption | omega | rfl | decide) only [go_sem, seval, tys] <;> rfl)); (try (case hok => first | exact rfl | exact ok_w (by omega) rfl)); all_goals (try (intro hb; (try (simp only [hbs, reduceCtorEq] at hb)); try (exfalso; omega)))) | ((with_reducible apply o_undef rfl); (case hb => (simp (disch := first | assumption | omega | rfl | decide) only [go_sem, seval, tys]))))
            refine sw_row (m := id5) (by simp (disch := first | assumption | omega) only [idV_tuple, idV_agg, idV_int, idV_bool, idV_str, idV_slice, idV_nil, idV1_agg, idV1_int, idV1_bool, idV1_str, idV1_slice, idV1_nil, idA_int, idA_bool, idA_str, idA_slice, idA_nil, idA_old, idV_old, idV1_old, ble_t, ble_f, cond_true, cond_false, List.flatMap_cons, List.flatMap_nil, List.append_nil, List.nil_append, List.cons_append] <;> rfl) rfl (by omega) j3 (iv_idA _ _) (by simp only [reV_tuple, reV_agg, reV_slice, reV1_agg, reV1_int, reV1_bool, reV1_str, reV1_slice, reV1_snil, reA_int, reA_bool, reA_str, reA_slice, reA_snil, reN_hit, List.map_cons, List.map_nil] <;> rfl) ?_
            exact .inr ⟨hp0, rfl, rfl, rfl⟩
theorem rreach_ok (hk : 30000 ≤ k) (A : Option Addr) (T : List Tp) (c : Nat) (hT : TabH h n A T) (hS : ∀ t ∈ T, t.fs.length ≤ 20000) (hm : T.length ≤ 9223372036854775807) (hC : ChkT T) (i : Nat) (hi : i < T.length) :
    Sp Try.prog (acall Try.prog WW k (d + 8)) cl 50 [.slice A T.length c, .int .i64 i] h n fun v h' n' => ∃ V, v = .tuple ⟨[V, .int .i64 0]⟩ ∧ IntsV (reachL T i) h n V h' n' := by
  have hl := hC.1
  have hF := hC.2.1
  have ha : askE T i i = 0 := by unfold askE; rw [if_pos hC, if_pos ⟨⟨by omega, by omega⟩, by omega, by omega⟩]
  have qa := rasked_ev k d n h n hk A T c hT hS hm i i
  rw [ha] at qa
  have qa := qa.mono (Φ' := fun v2 h2 n2 => v2 = .int .i64 0 ∧ h = h2 ∧ n = n2) fun _ _ _ hp => ⟨hp.1, hp.2.1.symm, hp.2.2.symm⟩
  obtain ⟨v, h2, n2, hv, q2⟩ := sp_fix (rreached_ev k (d + 4) n h n hk A T c hT hl hF i hi)
  refine enter Try.func50 (by kernel_rfl) rfl (by kernel_rfl) rfl rfl rfl ?_
  rcases hv with ⟨e1, rfl, rfl, rfl⟩ | ⟨e1, rfl, rfl, rfl⟩
  · have q2 := q2.mono (Φ' := fun v h3 n3 => v = .slice none 0 0 ∧ h2 = h3 ∧ n2 = n3) fun _ _ _ hp => ⟨hp.1, hp.2.1.symm, hp.2.2.symm⟩
    (repeat' first | (with_reducible first | apply x_seq | apply k_then | apply x_block | apply x_skip | apply x_ret | apply x_exit | apply x_label | apply k_pass | apply k_hit | apply k_miss rfl | apply k_out | apply k_turned | refine x_text fun K' hK => ?_) | ((with_reducible apply o_nil); refine hK _ _ _ ?_; clear hK) | ((with_reducible apply o_callF (g := 75) w_none); (case ha => (simp (disch := first | assumption | omega | rfl | decide) only [go_sem, seval, tys] <;> rfl)); (case hs => (exact qa)); (case' hk => rintro _ h' n' ⟨rfl, rfl, rfl⟩)) | ((with_reducible apply o_callF (g := 80) w_none); (case ha => (simp (disch := first | assumption | omega | rfl | decide) only [go_sem, seval, tys] <;> rfl)); (case hs => (exact q2)); (case' hk => rintro _ h' n' ⟨rfl, rfl, rfl⟩)) | ((first | ((with_reducible apply o_pure w_none); (case hp => exact rfl); (case' he => intro h n)) | (with_reducible first | apply o_eff w_none | apply o_guard rfl | apply x_cond | apply k_e1 rfl | apply k_e2 rfl | apply k_e0 rfl | apply k_e3 rfl | apply k_e4 rfl)); (case he => (simp (disch := first | assumption | omega | rfl | decide) only [go_sem, seval, tys] <;> rfl)); (try (case hok => first | exact rfl | exact ok_w (by omega) rfl)); all_goals (try (intro hb; (try (simp only [hbs, reduceCtorEq] at hb)); try (exfalso; omega)))) | ((with_reducible apply o_undef rfl); (case hb => (simp (disch := first | assumption | omega | rfl | decide) only [go_sem, seval, tys]))))
    all_goals exact sw_flat rfl rfl ⟨_, rfl, .inl ⟨e1, rfl, rfl, rfl⟩⟩
  · (repeat' first | (with_reducible first | apply x_seq | apply k_then | apply x_block | apply x_skip | apply x_ret | apply x_exit | apply x_label | apply k_pass | apply k_hit | apply k_miss rfl | apply k_out | apply k_turned | refine x_text fun K' hK => ?_) | ((with_reducible apply o_nil); refine hK _ _ _ ?_; clear hK) | ((with_reducible apply o_callF (g := 75) w_none); (case ha => (simp (disch := first | assumption | omega | rfl | decide) only [go_sem, seval, tys] <;> rfl)); (case hs => (exact qa)); (case' hk => rintro _ h' n' ⟨rfl, rfl, rfl⟩)) | ((with_reducible apply o_callF (g := 80) w_none); (case ha => (simp (disch := first | assumption | omega | rfl | decide) only [go_sem, seval, tys] <;> rfl)); (case hs => (exact q2)); (case' hk => rintro _ h' n' ⟨rfl, rfl, rfl⟩)) | ((first | ((with_reducible apply o_pure w_none); (case hp => exact rfl); (case' he => intro h n)) | (with_reducible first | apply o_eff w_none | apply o_guard rfl | apply x_cond | apply k_e1 rfl | apply k_e2 rfl | apply k_e0 rfl | apply k_e3 rfl | apply k_e4 rfl)); (case he => (simp (disch := first | assumption | omega | rfl | decide) only [go_sem, seval, tys] <;> rfl)); (try (case hok => first | exact rfl | exact ok_w (by omega) rfl)); all_goals (try (intro hb; (try (simp only [hbs, reduceCtorEq] at hb)); try (exfalso; omega)))) | ((with_reducible apply o_undef rfl); (case hb => (simp (disch := first | assumption | omega | rfl | decide) only [go_sem, seval, tys]))))
    all_goals
      refine sw_row (m := n) (by simp (disch := first | assumption | omega) only [idV_tuple, idV_agg, idV_int, idV_bool, idV_str, idV_slice, idV_nil, idV1_agg, idV1_int, idV1_bool, idV1_str, idV1_slice, idV1_nil, idA_int, idA_bool, idA_str, idA_slice, idA_nil, idA_old, idV_old, idV1_old, ble_t, ble_f, cond_true, cond_false, List.flatMap_cons, List.flatMap_nil, List.append_nil, List.nil_append, List.cons_append] <;> rfl) rfl (by omega) (rowOf_same _ _ _ _ _) (iv_idA _ _) (by simp only [reV_tuple, reV_agg, reV_slice, reV1_agg, reV1_int, reV1_bool, reV1_str, reV1_slice, reV1_snil, reA_int, reA_bool, reA_str, reA_slice, reA_snil, reN_hit, List.map_cons, List.map_nil] <;> rfl) ?_
      exact ⟨_, rfl, .inr ⟨e1, rfl, rfl, rfl⟩⟩
end Go.Proofs.Ytgdokjfjmcleeaa.Ce
