/- What a type reaches: package kinds and the reference's leads by symbolic runs. -/
import Derived.Test.YtgdokjfjmcleeaaJf
namespace Go.Proofs.Ytgdokjfjmcleeaa.Ce
open Go.RowKit
set_option linter.unusedVariables false
set_option linter.unusedSimpArgs false


set_option maxRecDepth 100000
set_option maxHeartbeats 2000000

/-- the types that one reaches, in order -/
noncomputable def reachL (T : List Tp) (i : Nat) : List Int := ((List.range T.length).filter fun x => (rchF T true i).getD x false).map fun (x : Nat) => (x : Int)
theorem reach_mem {T : List Tp} {i : Nat} {x : Int} : x ∈ reachL T i ↔ ∃ y : Nat, x = y ∧ y < T.length ∧ Rch T true i y := by
  unfold reachL
  rw [List.mem_map]
  constructor
  · rintro ⟨y, hy, rfl⟩
    rw [List.mem_filter, List.mem_range] at hy
    refine ⟨y, rfl, hy.1, ?_⟩
    rw [← rchF_get hy.1, List.getElem?_eq_getElem (by rw [rchF_length]; exact hy.1)]
    have := hy.2
    rw [List.getD_eq_getElem?_getD, List.getElem?_eq_getElem (by rw [rchF_length]; exact hy.1), Option.getD_some] at this
    rw [this]
  · rintro ⟨y, rfl, hy, hr⟩
    refine ⟨y, ?_, rfl⟩
    rw [List.mem_filter, List.mem_range]
    refine ⟨hy, ?_⟩
    rw [← rchF_get hy] at hr
    rw [List.getD_eq_getElem?_getD, hr]
    rfl
theorem reach_sorted (T : List Tp) (i : Nat) : (reachL T i).Pairwise (· < ·) := by
  unfold reachL
  rw [List.pairwise_map]
  exact (List.pairwise_lt_range.filter _).imp fun h => by omega
theorem reach_len (T : List Tp) (i : Nat) : (reachL T i).length ≤ T.length := by
  unfold reachL
  rw [List.length_map]
  have := List.length_filter_le (fun x => (rchF T true i).getD x false) (List.range T.length)
  rw [List.length_range] at this
  exact this
variable (k d cl : Nat) (h : Hp) (n : Nat)
theorem preach_ok (hk : 30000 ≤ k) (A : Option Addr) (T : List Tp) (c : Nat) (hT : TabH h n A T) (hS : ∀ t ∈ T, t.fs.length ≤ 20000) (hm : T.length ≤ 9223372036854775807) (hC : ChkT T) (i : Nat) (hi : i < T.length) :
    Sp Try.prog (acall Try.prog WW k (d + 8)) cl 42 [.slice A T.length c, .int .i64 i] h n fun v h' n' => ∃ V, v = .tuple ⟨[V, .int .i64 0]⟩ ∧ IntsV (reachL T i) h n V h' n' := by
  have hl := hC.1
  have ha : askE T i i = 0 := by unfold askE; rw [if_pos hC, if_pos ⟨⟨by omega, by omega⟩, by omega, by omega⟩]
  have q1 := pasked_1 k d n (h.set n (.row 3 false (iv [(i : Int)]))) (n + 1) hk A T c ((hT.set (Nat.le_refl _) _).more (by omega)) hS hm i (some ⟨n, 0, none⟩) 1 (RdH.row (by omega))
  rw [ha] at q1
  have q2 := closure_ev k (d + 5) n (h.set n (.row 3 false (iv [(i : Int)]))) (n + 1) hk true A T c ((hT.set (Nat.le_refl _) _).more (by omega)) hl hC.2.1 i hi
  obtain ⟨F, hF⟩ : ∃ F, rchF T true i = F := ⟨_, rfl⟩
  have hFl : F.length = T.length := by rw [← hF, rchF_length]
  unfold reachL
  rw [hF] at q2 ⊢
  obtain ⟨g, hg⟩ : ∃ g : Nat → List Int, g = fun r => ((List.range r).filter fun x => F.getD x false).map fun (x : Nat) => (x : Int) := ⟨_, rfl⟩
  have hg1 : ∀ r, g (r + 1) = g r ++ if F.getD r false = true then [(r : Int)] else [] := fun r => by
    rw [hg]
    show ((List.range (r + 1)).filter _).map _ = _
    rw [List.range_succ, List.filter_append, List.map_append]
    congr 1
    by_cases hr : F.getD r false = true
    · rw [if_pos hr, List.filter_cons_of_pos (p := fun x => F.getD x false) hr]; rfl
    · rw [if_neg hr, List.filter_cons_of_neg (p := fun x => F.getD x false) hr]; rfl
  have hgl : ∀ r, (g r).length ≤ r := fun r => by
    rw [hg]
    show (((List.range r).filter _).map _).length ≤ r
    rw [List.length_map]
    have := List.length_filter_le (fun x => F.getD x false) (List.range r)
    rw [List.length_range] at this
    exact this
  refine enter Try.func42 (by kernel_rfl) rfl (by kernel_rfl) rfl rfl rfl ?_
  (repeat' first | (with_reducible first | apply x_seq | apply k_then | apply x_block | apply x_skip | apply x_ret | apply x_exit | apply x_label | apply k_pass | apply k_hit | apply k_miss rfl | apply k_out | apply k_turned | refine x_text fun K' hK => ?_) | ((with_reducible apply o_nil); refine hK _ _ _ ?_; clear hK) | ((with_reducible apply o_callF (g := 67) w_none); (case ha => (simp (disch := first | assumption | omega | rfl | decide) only [go_sem, seval, tys] <;> rfl)); (case hs => (exact q1)); (case' hk => rintro _ h' n' ⟨rfl, rfl, rfl⟩)) | ((with_reducible apply o_callF (g := 69) w_none); (case ha => (simp (disch := first | assumption | omega | rfl | decide) only [go_sem, seval, tys] <;> rfl)); (case hs => (exact q2)); (case' hk => rintro _ h' n' ⟨rfl, rfl, rfl⟩)) | ((first | ((with_reducible apply o_pure w_none); (case hp => exact rfl); (case' he => intro h n)) | (with_reducible first | apply o_eff w_none | apply o_guard rfl | apply x_cond | apply k_e1 rfl | apply k_e2 rfl | apply k_e0 rfl | apply k_e3 rfl | apply k_e4 rfl)); (case he => (simp (disch := first | assumption | omega | rfl | decide) only [go_sem, seval, tys] <;> rfl)); (try (case hok => first | exact rfl | exact ok_w (by omega) rfl)); all_goals (try (intro hb; (try (simp only [hbs, reduceCtorEq] at hb)); try (exfalso; omega)))) | ((with_reducible apply o_undef rfl); (case hb => (simp (disch := first | assumption | omega | rfl | decide) only [go_sem, seval, tys]))))
  refine x_loopV [7, 8, 9, 21, 22, 23, 24, 25, 26, 27, 28, 29, 30, 31] [7, 21] (fun m vs h4 n4 => ∃ (r : Nat) (O : Value), m = T.length - r ∧ r ≤ T.length ∧ vs = [O, .int .i64 r] ∧ n + 1 + 1 ≤ n4 ∧ rowOf h4 (n + 1) = some (4, false, bw F) ∧ OwnI (g r) O h4 (n + 1 + 1) n4) T.length rfl (by omega) ?_ ?_
  · exact ⟨0, .slice none 0 0, rfl, by omega, (by simp (disch := first | assumption | omega | rfl | decide) only [go_sem, seval, tys] <;> rfl), Nat.le_refl _, rowOf_same _ _ _ _ _, .inl ⟨by rw [hg]; rfl, rfl⟩⟩
  · rintro m fr _ h4 n4 ⟨r, O, rfl, hr, rfl, hn4, p3, hO⟩
    by_cases hrs : r < T.length
    · have hgr := hgl r
      have hnx := hg1 r
      have c3 := cellAt_row (off := r) p3
      rw [bw_lget (b := F.getD r false) (by rw [List.getD_eq_getElem?_getD, List.getElem?_eq_getElem (by omega)]; rfl)] at c3
      obtain ⟨acc, hacc⟩ : ∃ acc, g r = acc := ⟨_, rfl⟩
      rw [hacc] at hO hgr hnx
      cases hin : F.getD r false
      · rw [hin] at c3 hnx
        rw [if_neg (by decide), List.append_nil] at hnx
        (repeat' first | (with_reducible first | apply x_seq | apply k_then | apply x_block | apply x_skip | apply x_ret | apply x_exit | apply x_label | apply k_pass | apply k_hit | apply k_miss rfl | apply k_out | apply k_turned | refine x_text fun K' hK => ?_) | ((with_reducible apply o_nil); refine hK _ _ _ ?_; clear hK) | fail | ((first | ((with_reducible apply o_pure w_none); (case hp => exact rfl); (case' he => intro h n)) | (with_reducible first | apply o_eff w_none | apply o_guard rfl | apply x_cond | apply k_e1 rfl | apply k_e2 rfl | apply k_e0 rfl | apply k_e3 rfl | apply k_e4 rfl)); (case he => (simp (disch := first | assumption | omega | rfl | decide) only [go_sem, seval, tys, c3] <;> rfl)); (try (case hok => first | exact rfl | exact ok_w (by omega) rfl)); all_goals (try (intro hb; (try (simp only [hbs, reduceCtorEq] at hb)); try (exfalso; omega)))) | ((with_reducible apply o_undef rfl); (case hb => (simp (disch := first | assumption | omega | rfl | decide) only [go_sem, seval, tys]))))
        refine k_round (T.length - (r + 1)) (by omega) ⟨r + 1, O, rfl, by omega, (by simp (disch := first | assumption | omega | rfl | decide) only [go_sem, seval, tys] <;> rfl), by omega, p3, by rw [hnx]; exact hO⟩
      · rw [hin] at c3 hnx
        rw [if_pos rfl] at hnx
        rcases hO with ⟨hp0, rfl⟩ | ⟨hp0, id5, j1, j2, rfl, j3⟩
        · (repeat' first | (with_reducible first | apply x_seq | apply k_then | apply x_block | apply x_skip | apply x_ret | apply x_exit | apply x_label | apply k_pass | apply k_hit | apply k_miss rfl | apply k_out | apply k_turned | refine x_text fun K' hK => ?_) | ((with_reducible apply o_nil); refine hK _ _ _ ?_; clear hK) | ((with_reducible apply o_ap0 (t := 31) apT31 w_none); (case hs => (simp (disch := first | assumption | omega | rfl | decide) only [go_sem, seval, tys] <;> rfl)); (case hy => (simp (disch := first | assumption | omega | rfl | decide) only [go_sem, seval, tys] <;> rfl)); (case hsrc => exact src_row (rowOf_same _ _ _ _ _) rfl); (case hc => exact rfl); (case hm => omega); (case h0 => omega)) | ((first | ((with_reducible apply o_pure w_none); (case hp => exact rfl); (case' he => intro h n)) | (with_reducible first | apply o_eff w_none | apply o_guard rfl | apply x_cond | apply k_e1 rfl | apply k_e2 rfl | apply k_e0 rfl | apply k_e3 rfl | apply k_e4 rfl)); (case he => (simp (disch := first | assumption | omega | rfl | decide) only [go_sem, seval, tys, c3] <;> rfl)); (try (case hok => first | exact rfl | exact ok_w (by omega) rfl)); all_goals (try (intro hb; (try (simp only [hbs, reduceCtorEq] at hb)); try (exfalso; omega)))) | ((with_reducible apply o_undef rfl); (case hb => (simp (disch := first | assumption | omega | rfl | decide) only [go_sem, seval, tys]))))
          refine k_round (T.length - (r + 1)) (by omega) ⟨r + 1, .slice (some ⟨n4 + 1, 0, none⟩) 1 1, rfl, by omega, (by simp (disch := first | assumption | omega | rfl | decide) only [go_sem, seval, tys] <;> rfl), by omega, by rw [rowOf_ne _ _ (by omega), rowOf_ne _ _ (by omega)]; exact p3, .inr ⟨?_, n4 + 1, by omega, by omega, ?_, ?_⟩⟩
          · rw [hnx]; simp
          · rw [hnx, hp0]; rfl
          · rw [hnx, hp0]; exact rowOf_same _ _ _ _ _
        · have w4 := rwOf_row j3
          have htk5 : (iv acc).take acc.length = iv acc := List.take_of_length_le (by rw [iv_length]; omega)
          (repeat' first | (with_reducible first | apply x_seq | apply k_then | apply x_block | apply x_skip | apply x_ret | apply x_exit | apply x_label | apply k_pass | apply k_hit | apply k_miss rfl | apply k_out | apply k_turned | refine x_text fun K' hK => ?_) | ((with_reducible apply o_nil); refine hK _ _ _ ?_; clear hK) | ((with_reducible apply o_apR (t := 31) apT31 w_none); (case hs => (simp (disch := first | assumption | omega | rfl | decide) only [go_sem, seval, tys, w4] <;> rfl)); (case hy => (simp (disch := first | assumption | omega | rfl | decide) only [go_sem, seval, tys, w4] <;> rfl)); (case hsrc => exact src_row (rowOf_same _ _ _ _ _) rfl); (case hr => (simp (disch := first | assumption | omega | rfl | decide) only [go_sem, seval, tys, w4] <;> rfl)); (case hc => exact rfl); (case hm => omega); (case hli => omega); (case hln => omega); (case hcs => rw [iv_length]; omega)) | ((first | ((with_reducible apply o_pure w_none); (case hp => exact rfl); (case' he => intro h n)) | (with_reducible first | apply o_eff w_none | apply o_guard rfl | apply x_cond | apply k_e1 rfl | apply k_e2 rfl | apply k_e0 rfl | apply k_e3 rfl | apply k_e4 rfl)); (case he => (simp (disch := first | assumption | omega | rfl | decide) only [go_sem, seval, tys, c3, w4] <;> rfl)); (try (case hok => first | exact rfl | exact ok_w (by omega) rfl)); all_goals (try (intro hb; (try (simp only [hbs, reduceCtorEq] at hb)); try (exfalso; omega)))) | ((with_reducible apply o_undef rfl); (case hb => (simp (disch := first | assumption | omega | rfl | decide) only [go_sem, seval, tys]))))
          refine k_round (T.length - (r + 1)) (by omega) ⟨r + 1, .slice (some ⟨n4 + 1, 0, none⟩) (acc.length + 1) (acc.length + 1), rfl, by omega, (by simp (disch := first | assumption | omega | rfl | decide) only [go_sem, seval, tys] <;> rfl), by omega, by rw [rowOf_ne _ _ (by omega), rowOf_ne _ _ (by omega), rowOf_ne _ _ (by omega)]; exact p3, .inr ⟨?_, n4 + 1, by omega, by omega, ?_, ?_⟩⟩
          · rw [hnx]; simp
          · rw [hnx, List.length_append]; rfl
          · rw [hnx, iv_app1]
            first | (simp (disch := first | assumption | omega | rfl | decide) only [go_sem, seval, tys, htk5]; done) | (simp (disch := first | assumption | omega | rfl | decide) only [go_sem, seval, tys, htk5]; exact rfl)
    · obtain rfl : r = T.length := by omega
      have hge : g T.length = ((List.range T.length).filter fun x => F.getD x false).map fun (x : Nat) => (x : Int) := by rw [hg]
      rw [← hge]
      rcases hO with ⟨hp0, rfl⟩ | ⟨hp0, id5, j1, j2, rfl, j3⟩
      · (repeat' first | (with_reducible first | apply x_seq | apply k_then | apply x_block | apply x_skip | apply x_ret | apply x_exit | apply x_label | apply k_pass | apply k_hit | apply k_miss rfl | apply k_out | apply k_turned | refine x_text fun K' hK => ?_) | ((with_reducible apply o_nil); refine hK _ _ _ ?_; clear hK) | fail | ((first | ((with_reducible apply o_pure w_none); (case hp => exact rfl); (case' he => intro h n)) | (with_reducible first | apply o_eff w_none | apply o_guard rfl | apply x_cond | apply k_e1 rfl | apply k_e2 rfl | apply k_e0 rfl | apply k_e3 rfl | apply k_e4 rfl)); (case he => (simp (disch := first | assumption | omega | rfl | decide) only [go_sem, seval, tys] <;> rfl)); (try (case hok => first | exact rfl | exact ok_w (by omega) rfl)); all_goals (try (intro hb; (try (simp only [hbs, reduceCtorEq] at hb)); try (exfalso; omega)))) | ((with_reducible apply o_undef rfl); (case hb => (simp (disch := first | assumption | omega | rfl | decide) only [go_sem, seval, tys]))))
        exact sw_flat rfl rfl ⟨_, rfl, .inl ⟨hp0, rfl, rfl, rfl⟩⟩
      · (repeat' first | (with_reducible first | apply x_seq | apply k_then | apply x_block | apply x_skip | apply x_ret | apply x_exit | apply x_label | apply k_pass | apply k_hit | apply k_miss rfl | apply k_out | apply k_turned | refine x_text fun K' hK => ?_) | ((with_reducible apply o_nil); refine hK _ _ _ ?_; clear hK) | fail | ((first | ((with_reducible apply o_pure w_none); (case hp => exact rfl); (case' he => intro h n)) | (with_reducible first | apply o_eff w_none | apply o_guard rfl | apply x_cond | apply k_e1 rfl | apply k_e2 rfl | apply k_e0 rfl | apply k_e3 rfl | apply k_e4 rfl)); (case he => (simp (disch := first | assumption | omega | rfl | decide) only [go_sem, seval, tys] <;> rfl)); (try (case hok => first | exact rfl | exact ok_w (by omega) rfl)); all_goals (try (intro hb; (try (simp only [hbs, reduceCtorEq] at hb)); try (exfalso; omega)))) | ((with_reducible apply o_undef rfl); (case hb => (simp (disch := first | assumption | omega | rfl | decide) only [go_sem, seval, tys]))))
        refine sw_row (m := id5) (by simp (disch := first | assumption | omega) only [idV_tuple, idV_agg, idV_int, idV_bool, idV_str, idV_slice, idV_nil, idV1_agg, idV1_int, idV1_bool, idV1_str, idV1_slice, idV1_nil, idA_int, idA_bool, idA_str, idA_slice, idA_nil, idA_old, idV_old, idV1_old, ble_t, ble_f, cond_true, cond_false, List.flatMap_cons, List.flatMap_nil, List.append_nil, List.nil_append, List.cons_append] <;> rfl) rfl (by omega) j3 (iv_idA _ _) (by simp only [reV_tuple, reV_agg, reV_slice, reV1_agg, reV1_int, reV1_bool, reV1_str, reV1_slice, reV1_snil, reA_int, reA_bool, reA_str, reA_slice, reA_snil, reN_hit, List.map_cons, List.map_nil] <;> rfl) ?_
        exact ⟨_, rfl, .inr ⟨hp0, rfl, rfl, rfl⟩⟩
/-- what the reference says that a valid type's parts are -/
theorem rparts_ev (hk : 30000 ≤ k) {m i : Nat} {t : Tp} (hf : fineB m i t = true) (hr : RdH h n t.A (fv t.fs)) :
    Sp Try.prog (acall Try.prog WW k (d + 1)) cl 34 [.agg ⟨[.int .u8 t.kd, .int .i64 t.el, .int .i64 t.ln, .slice t.A t.fs.length t.c]⟩] h n (IntsV (leadsT false t) h n) := by
  by_cases hc : t.kd = 6
  · have hn := fine_nofs hf (by omega)
    have hl : leadsT false t = [t.el] := by unfold leadsT; rw [if_pos (.inl hc)]
    rw [hl, hn, hc]
    exact (rparts_arr0 k d cl h n hk t.el t.ln t.A t.c).mono fun _ _ _ hh => .inr ⟨by simp, hh⟩
  · have hl : leadsT false t = t.fs.map (·.2) := by unfold leadsT; rw [if_neg (by simp [hc])]
    rw [hl]
    have hs := fine_len hf
    by_cases hn : t.fs = []
    · rw [hn]
      exact (rparts_nil k d cl h n hk t.kd t.el t.ln t.A t.c hc).mono fun _ _ _ hh => .inl ⟨rfl, hh⟩
    · refine (rparts_fld k d cl h n hk t.kd t.el t.ln t.A t.fs t.c hc hn hr (by omega)).mono fun _ _ _ hh => .inr ⟨by simpa using hn, ?_⟩
      rw [List.length_map]
      exact hh
/-- what the reference says that a valid type leads to -/
theorem rleads_ev (hk : 30000 ≤ k) {m i : Nat} {t : Tp} (hf : fineB m i t = true) (hr : RdH h n t.A (fv t.fs)) :
    Sp Try.prog (acall Try.prog WW k (d + 2)) cl 54 [.agg ⟨[.int .u8 t.kd, .int .i64 t.el, .int .i64 t.ln, .slice t.A t.fs.length t.c]⟩] h n (IntsV (leadsT true t) h n) := by
  have p1 := rparts_ev k d n (h.set n (.row 60 false [.int .u8 t.kd, .int .i64 t.el, .int .i64 t.ln, .slice t.A t.fs.length t.c])) (n + 1) hk hf ((hr.set (Nat.le_refl _) _).more (by omega))
  by_cases h47 : t.kd = 4 ∨ t.kd = 7
  · have hn := fine_nofs hf (by omega)
    have hl : leadsT true t = [t.el] := by unfold leadsT; rw [if_pos (.inr ⟨rfl, h47⟩)]
    have hl2 : leadsT false t = [] := by unfold leadsT; rw [if_neg (by simp; omega), hn]; rfl
    have p2 := p1.mono (Φ' := fun v h' n' => v = .slice none 0 0 ∧ h' = h.set n (.row 60 false [.int .u8 t.kd, .int .i64 t.el, .int .i64 t.ln, .slice t.A t.fs.length t.c]) ∧ n' = n + 1) fun _ _ _ hh => by
      rw [hl2] at hh
      rcases hh with ⟨-, hh⟩ | ⟨hh, -⟩
      · exact hh
      · exact absurd rfl hh
    rw [hl]
    refine enter Try.func54 (by kernel_rfl) rfl (by kernel_rfl) rfl rfl rfl ?_
    (repeat' first | (with_reducible first | apply x_seq | apply k_then | apply x_block | apply x_skip | apply x_ret | apply x_exit | apply x_label | apply k_pass | apply k_hit | apply k_miss rfl | apply k_out | apply k_turned | refine x_text fun K' hK => ?_) | ((with_reducible apply o_nil); refine hK _ _ _ ?_; clear hK) | ((with_reducible apply o_callF (g := 34) w_none); (case ha => (simp (disch := first | assumption | omega | rfl | decide) only [go_sem, seval, tys] <;> rfl)); (case hs => (exact p2)); (case' hk => rintro _ h' n' ⟨rfl, rfl, rfl⟩)) | ((with_reducible apply o_ap0 (t := 31) apT31 w_none); (case hs => (simp (disch := first | assumption | omega | rfl | decide) only [go_sem, seval, tys] <;> rfl)); (case hy => (simp (disch := first | assumption | omega | rfl | decide) only [go_sem, seval, tys] <;> rfl)); (case hsrc => exact src_row (rowOf_same _ _ _ _ _) rfl); (case hc => exact rfl); (case hm => omega); (case h0 => omega)) | ((first | ((with_reducible apply o_pure w_none); (case hp => exact rfl); (case' he => intro h n)) | (with_reducible first | apply o_eff w_none | apply o_guard rfl | apply x_cond | apply k_e1 rfl | apply k_e2 rfl | apply k_e0 rfl | apply k_e3 rfl | apply k_e4 rfl)); (case he => (simp (disch := first | assumption | omega | rfl | decide) only [go_sem, seval, tys] <;> rfl)); (try (case hok => first | exact rfl | exact ok_w (by omega) rfl)); all_goals (try (intro hb; (try (simp only [hbs, reduceCtorEq] at hb)); try (exfalso; omega)))) | ((with_reducible apply o_undef rfl); (case hb => (simp (disch := first | assumption | omega | rfl | decide) only [go_sem, seval, tys]))))
    all_goals (refine sw_row (by simp (disch := first | assumption | omega) only [idV_tuple, idV_agg, idV_int, idV_bool, idV_str, idV_slice, idV_nil, idV1_agg, idV1_int, idV1_bool, idV1_str, idV1_slice, idV1_nil, idA_int, idA_bool, idA_str, idA_slice, idA_nil, idA_old, idV_old, idV1_old, ble_t, ble_f, cond_true, cond_false, List.flatMap_cons, List.flatMap_nil, List.append_nil, List.nil_append, List.cons_append] <;> rfl) rfl (by omega) (by first | assumption | (simp (disch := first | assumption | omega | rfl | decide) only [go_sem, seval, tys] <;> rfl)) (iv_idA _ [t.el]) (by simp only [reV_tuple, reV_agg, reV_slice, reV1_agg, reV1_int, reV1_bool, reV1_str, reV1_slice, reV1_snil, reA_int, reA_bool, reA_str, reA_slice, reA_snil, reN_hit, List.map_cons, List.map_nil] <;> rfl) ?_; exact .inr ⟨by simp, rfl, rfl, rfl⟩)
  · have hl : leadsT true t = leadsT false t := by
      unfold leadsT
      by_cases h6 : t.kd = 6
      · rw [if_pos (.inl h6), if_pos (.inl h6)]
      · rw [if_neg (by simp; omega), if_neg (by simp; omega)]
    rw [hl]
    obtain ⟨l, hle⟩ : ∃ l, leadsT false t = l := ⟨_, rfl⟩
    rw [hle] at p1 ⊢
    refine enter Try.func54 (by kernel_rfl) rfl (by kernel_rfl) rfl rfl rfl ?_
    by_cases hz : l = []
    · have p2 := p1.mono (Φ' := fun v h' n' => v = .slice none 0 0 ∧ h' = h.set n (.row 60 false [.int .u8 t.kd, .int .i64 t.el, .int .i64 t.ln, .slice t.A t.fs.length t.c]) ∧ n' = n + 1) fun _ _ _ hh => by
        rcases hh with ⟨-, hh⟩ | ⟨hh, -⟩
        · exact hh
        · exact absurd hz hh
      (repeat' first | (with_reducible first | apply x_seq | apply k_then | apply x_block | apply x_skip | apply x_ret | apply x_exit | apply x_label | apply k_pass | apply k_hit | apply k_miss rfl | apply k_out | apply k_turned | refine x_text fun K' hK => ?_) | ((with_reducible apply o_nil); refine hK _ _ _ ?_; clear hK) | ((with_reducible apply o_callF (g := 34) w_none); (case ha => (simp (disch := first | assumption | omega | rfl | decide) only [go_sem, seval, tys] <;> rfl)); (case hs => (exact p2)); (case' hk => rintro _ h' n' ⟨rfl, rfl, rfl⟩)) | ((first | ((with_reducible apply o_pure w_none); (case hp => exact rfl); (case' he => intro h n)) | (with_reducible first | apply o_eff w_none | apply o_guard rfl | apply x_cond | apply k_e1 rfl | apply k_e2 rfl | apply k_e0 rfl | apply k_e3 rfl | apply k_e4 rfl)); (case he => (simp (disch := first | assumption | omega | rfl | decide) only [go_sem, seval, tys] <;> rfl)); (try (case hok => first | exact rfl | exact ok_w (by omega) rfl)); all_goals (try (intro hb; (try (simp only [hbs, reduceCtorEq] at hb)); try (exfalso; omega)))) | ((with_reducible apply o_undef rfl); (case hb => (simp (disch := first | assumption | omega | rfl | decide) only [go_sem, seval, tys]))))
      all_goals exact sw_flat rfl rfl (.inl ⟨hz, rfl, rfl, rfl⟩)
    · have p2 := p1.mono (Φ' := fun v h' n' => v = .slice (some ⟨n + 1, 0, none⟩) l.length l.length ∧ h' = (h.set n (.row 60 false [.int .u8 t.kd, .int .i64 t.el, .int .i64 t.ln, .slice t.A t.fs.length t.c])).set (n + 1) (.row 3 false (iv l)) ∧ n' = n + 1 + 1) fun _ _ _ hh => by
        rcases hh with ⟨hh, -⟩ | ⟨-, hh⟩
        · exact absurd hh hz
        · exact hh
      (repeat' first | (with_reducible first | apply x_seq | apply k_then | apply x_block | apply x_skip | apply x_ret | apply x_exit | apply x_label | apply k_pass | apply k_hit | apply k_miss rfl | apply k_out | apply k_turned | refine x_text fun K' hK => ?_) | ((with_reducible apply o_nil); refine hK _ _ _ ?_; clear hK) | ((with_reducible apply o_callF (g := 34) w_none); (case ha => (simp (disch := first | assumption | omega | rfl | decide) only [go_sem, seval, tys] <;> rfl)); (case hs => (exact p2)); (case' hk => rintro _ h' n' ⟨rfl, rfl, rfl⟩)) | ((first | ((with_reducible apply o_pure w_none); (case hp => exact rfl); (case' he => intro h n)) | (with_reducible first | apply o_eff w_none | apply o_guard rfl | apply x_cond | apply k_e1 rfl | apply k_e2 rfl | apply k_e0 rfl | apply k_e3 rfl | apply k_e4 rfl)); (case he => (simp (disch := first | assumption | omega | rfl | decide) only [go_sem, seval, tys] <;> rfl)); (try (case hok => first | exact rfl | exact ok_w (by omega) rfl)); all_goals (try (intro hb; (try (simp only [hbs, reduceCtorEq] at hb)); try (exfalso; omega)))) | ((with_reducible apply o_undef rfl); (case hb => (simp (disch := first | assumption | omega | rfl | decide) only [go_sem, seval, tys]))))
      all_goals (refine sw_row (by simp (disch := first | assumption | omega) only [idV_tuple, idV_agg, idV_int, idV_bool, idV_str, idV_slice, idV_nil, idV1_agg, idV1_int, idV1_bool, idV1_str, idV1_slice, idV1_nil, idA_int, idA_bool, idA_str, idA_slice, idA_nil, idA_old, idV_old, idV1_old, ble_t, ble_f, cond_true, cond_false, List.flatMap_cons, List.flatMap_nil, List.append_nil, List.nil_append, List.cons_append] <;> rfl) rfl (by omega) (by first | assumption | (simp (disch := first | assumption | omega | rfl | decide) only [go_sem, seval, tys] <;> rfl)) (iv_idA _ l) (by simp only [reV_tuple, reV_agg, reV_slice, reV1_agg, reV1_int, reV1_bool, reV1_str, reV1_slice, reV1_snil, reA_int, reA_bool, reA_str, reA_slice, reA_snil, reN_hit, List.map_cons, List.map_nil] <;> rfl) ?_; exact .inr ⟨hz, rfl, rfl, rfl⟩)
end Go.Proofs.Ytgdokjfjmcleeaa.Ce
