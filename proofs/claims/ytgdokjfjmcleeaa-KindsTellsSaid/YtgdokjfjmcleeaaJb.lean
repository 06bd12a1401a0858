/- What a type leads to: symbolic runs of both sides. What a type reaches, in plain Lean. -/
import Derived.Test.YtgdokjfjmcleeaaJa
import Derived.Test.YtgdokjfjmcleeaaKj
namespace Go.Proofs.Ytgdokjfjmcleeaa.Ce
open Go.RowKit
set_option linter.unusedVariables false
set_option linter.unusedSimpArgs false


set_option maxRecDepth 100000
set_option maxHeartbeats 2000000

/-- the types to which a valid type leads -/
def leadsT (far : Bool) (t : Tp) : List Int := if t.kd = 6 ∨ (far = true ∧ (t.kd = 4 ∨ t.kd = 7)) then [t.el] else t.fs.map (·.2)
theorem leadsT_in {far : Bool} {m i : Nat} {t : Tp} (h : fineB m i t = true) (hi : i ≤ m) : ∀ x ∈ leadsT far t, 0 ≤ x ∧ x < m := by
  intro x hx
  unfold leadsT at hx
  split at hx
  · obtain rfl := List.mem_singleton.1 hx
    rename_i hc
    rcases hc with h6 | ⟨-, h47⟩
    · have := fine_arr h h6; omega
    · exact fine_el h h47
  · obtain ⟨f, hf, rfl⟩ := List.mem_map.1 hx
    obtain ⟨q, hq, rfl⟩ := List.getElem_of_mem hf
    have := fine_fld h hq
    omega
theorem leadsT_near {m i : Nat} {t : Tp} (h : fineB m i t = true) : ∀ x ∈ leadsT false t, 0 ≤ x ∧ x < i := by
  intro x hx
  unfold leadsT at hx
  split at hx
  · obtain rfl := List.mem_singleton.1 hx
    rename_i hc
    rcases hc with h6 | ⟨h0, -⟩
    · have := fine_arr h h6; omega
    · cases h0
  · obtain ⟨f, hf, rfl⟩ := List.mem_map.1 hx
    obtain ⟨q, hq, rfl⟩ := List.getElem_of_mem hf
    have := fine_fld h hq
    omega
theorem leadsT_len {far : Bool} {m i : Nat} {t : Tp} (h : fineB m i t = true) : (leadsT far t).length ≤ 8 := by
  unfold leadsT
  split
  · show 1 ≤ 8; decide
  · rw [List.length_map]; exact fine_len h
variable (k d cl : Nat) (h : Hp) (n : Nat)
theorem pleads_one (hk : 30000 ≤ k) (kd el ln : Int) (far : Bool) (FA : Option Addr) (fc : Nat) (hc : kd = 6 ∨ (far = true ∧ (kd = 4 ∨ kd = 7))) :
    Sp Try.prog (acall Try.prog WW k (d + 1)) cl 70 [.agg ⟨[.int .u8 kd, .int .i64 el, .int .i64 ln, .slice FA 0 fc]⟩, .bool far] h n fun v h' n' => v = .slice (some ⟨n, 0, none⟩) 1 1 ∧ h' = h.set n (.row 3 false (iv [el])) ∧ n' = n + 1 := by
  refine enter Try.func70 (by kernel_rfl) rfl (by kernel_rfl) rfl rfl rfl ?_
  rcases hc with rfl | ⟨rfl, rfl | rfl⟩
  all_goals
    (repeat' first | (with_reducible first | apply x_seq | apply k_then | apply x_block | apply x_skip | apply x_ret | apply x_exit | apply x_label | apply k_pass | apply k_hit | apply k_miss rfl | apply k_out | apply k_turned | refine x_text fun K' hK => ?_) | ((with_reducible apply o_nil); refine hK _ _ _ ?_; clear hK) | (with_reducible refine x_turns ?_) | (with_reducible refine x_turn (by omega) ?_) | (with_reducible refine k_turn ?_) | ((with_reducible apply o_ap0 (t := 31) apT31 w_none); (case hs => (simp (disch := first | assumption | omega | rfl | decide) only [go_sem, seval, tys] <;> rfl)); (case hy => (simp (disch := first | assumption | omega | rfl | decide) only [go_sem, seval, tys] <;> rfl)); (case hsrc => exact src_row (rowOf_same _ _ _ _ _) rfl); (case hc => exact rfl); (case hm => omega); (case h0 => omega)) | ((first | ((with_reducible apply o_pure w_none); (case hp => exact rfl); (case' he => intro h n)) | (with_reducible first | apply o_eff w_none | apply o_guard rfl | apply x_cond | apply k_e1 rfl | apply k_e2 rfl | apply k_e0 rfl | apply k_e3 rfl | apply k_e4 rfl)); (case he => (simp (disch := first | assumption | omega | rfl | decide) only [go_sem, seval, tys] <;> rfl)); (try (case hok => first | exact rfl | exact ok_w (by omega) rfl)); all_goals (try (intro hb; (try (simp only [hbs, reduceCtorEq] at hb)); try (exfalso; omega)))) | ((with_reducible apply o_undef rfl); (case hb => (simp (disch := first | assumption | omega | rfl | decide) only [go_sem, seval, tys]))))
    (refine sw_row (by simp (disch := first | assumption | omega) only [idV_tuple, idV_agg, idV_int, idV_bool, idV_str, idV_slice, idV_nil, idV1_agg, idV1_int, idV1_bool, idV1_str, idV1_slice, idV1_nil, idA_int, idA_bool, idA_str, idA_slice, idA_nil, idA_old, idV_old, idV1_old, ble_t, ble_f, cond_true, cond_false, List.flatMap_cons, List.flatMap_nil, List.append_nil, List.nil_append, List.cons_append] <;> rfl) rfl (by omega) (by first | assumption | (simp (disch := first | assumption | omega | rfl | decide) only [go_sem, seval, tys] <;> rfl)) (by exact iv_idA _ [el]) (by simp only [reV_tuple, reV_agg, reV_slice, reV1_agg, reV1_int, reV1_bool, reV1_str, reV1_slice, reV1_snil, reA_int, reA_bool, reA_str, reA_slice, reA_snil, reN_hit, List.map_cons, List.map_nil] <;> rfl) ?_; exact ⟨rfl, rfl, rfl⟩)
theorem pleads_nil (hk : 30000 ≤ k) (kd el ln : Int) (far : Bool) (FA : Option Addr) (fc : Nat) (hc : ¬ (kd = 6 ∨ (far = true ∧ (kd = 4 ∨ kd = 7)))) :
    Sp Try.prog (acall Try.prog WW k (d + 1)) cl 70 [.agg ⟨[.int .u8 kd, .int .i64 el, .int .i64 ln, .slice FA 0 fc]⟩, .bool far] h n fun v h' n' => v = .slice none 0 0 ∧ h' = h ∧ n' = n := by
  have h6 : kd ≠ 6 := fun e => hc (.inl e)
  refine enter Try.func70 (by kernel_rfl) rfl (by kernel_rfl) rfl rfl rfl ?_
  cases far
  · (repeat' first | (with_reducible first | apply x_seq | apply k_then | apply x_block | apply x_skip | apply x_ret | apply x_exit | apply x_label | apply k_pass | apply k_hit | apply k_miss rfl | apply k_out | apply k_turned | refine x_text fun K' hK => ?_) | ((with_reducible apply o_nil); refine hK _ _ _ ?_; clear hK) | (with_reducible refine x_turns ?_) | (with_reducible refine x_turn (by omega) ?_) | (with_reducible refine k_turn ?_) | ((first | ((with_reducible apply o_pure w_none); (case hp => exact rfl); (case' he => intro h n)) | (with_reducible first | apply o_eff w_none | apply o_guard rfl | apply x_cond | apply k_e1 rfl | apply k_e2 rfl | apply k_e0 rfl | apply k_e3 rfl | apply k_e4 rfl)); (case he => (simp (disch := first | assumption | omega | rfl | decide) only [go_sem, seval, tys] <;> rfl)); (try (case hok => first | exact rfl | exact ok_w (by omega) rfl)); all_goals (try (intro hb; (try (simp only [hbs, reduceCtorEq] at hb)); try (exfalso; omega)))) | ((with_reducible apply o_undef rfl); (case hb => (simp (disch := first | assumption | omega | rfl | decide) only [go_sem, seval, tys]))))
    all_goals exact sw_flat rfl rfl ⟨rfl, rfl, rfl⟩
  · have h4 : kd ≠ 4 := fun e => hc (.inr ⟨rfl, .inl e⟩)
    have h7 : kd ≠ 7 := fun e => hc (.inr ⟨rfl, .inr e⟩)
    (repeat' first | (with_reducible first | apply x_seq | apply k_then | apply x_block | apply x_skip | apply x_ret | apply x_exit | apply x_label | apply k_pass | apply k_hit | apply k_miss rfl | apply k_out | apply k_turned | refine x_text fun K' hK => ?_) | ((with_reducible apply o_nil); refine hK _ _ _ ?_; clear hK) | (with_reducible refine x_turns ?_) | (with_reducible refine x_turn (by omega) ?_) | (with_reducible refine k_turn ?_) | ((first | ((with_reducible apply o_pure w_none); (case hp => exact rfl); (case' he => intro h n)) | (with_reducible first | apply o_eff w_none | apply o_guard rfl | apply x_cond | apply k_e1 rfl | apply k_e2 rfl | apply k_e0 rfl | apply k_e3 rfl | apply k_e4 rfl)); (case he => (simp (disch := first | assumption | omega | rfl | decide) only [go_sem, seval, tys] <;> rfl)); (try (case hok => first | exact rfl | exact ok_w (by omega) rfl)); all_goals (try (intro hb; (try (simp only [hbs, reduceCtorEq] at hb)); try (exfalso; omega)))) | ((with_reducible apply o_undef rfl); (case hb => (simp (disch := first | assumption | omega | rfl | decide) only [go_sem, seval, tys]))))
    all_goals exact sw_flat rfl rfl ⟨rfl, rfl, rfl⟩
theorem pleads_fld (hk : 30000 ≤ k) (el ln : Int) (far : Bool) (FA : Option Addr) (fs : List (List UInt8 × Int)) (fc : Nat) (h0 : fs ≠ []) (hr : RdH h n FA (fv fs)) (hl2 : fs.length ≤ 20000) :
    Sp Try.prog (acall Try.prog WW k (d + 1)) cl 70 [.agg ⟨[.int .u8 5, .int .i64 el, .int .i64 ln, .slice FA fs.length fc]⟩, .bool far] h n fun v h' n' => v = .slice (some ⟨n, 0, none⟩) fs.length fs.length ∧ h' = h.set n (.row 3 false (iv (fs.map (·.2)))) ∧ n' = n + 1 := by
  have h0l : 0 < fs.length := List.length_pos_iff.2 h0
  refine enter Try.func70 (by kernel_rfl) rfl (by kernel_rfl) rfl rfl rfl ?_
  cases far
  all_goals
    (repeat' first | (with_reducible first | apply x_seq | apply k_then | apply x_block | apply x_skip | apply x_ret | apply x_exit | apply x_label | apply k_pass | apply k_hit | apply k_miss rfl | apply k_out | apply k_turned | refine x_text fun K' hK => ?_) | ((with_reducible apply o_nil); refine hK _ _ _ ?_; clear hK) | fail | ((first | ((with_reducible apply o_pure w_none); (case hp => exact rfl); (case' he => intro h n)) | (with_reducible first | apply o_eff w_none | apply o_guard rfl | apply x_cond | apply k_e1 rfl | apply k_e2 rfl | apply k_e0 rfl | apply k_e3 rfl | apply k_e4 rfl)); (case he => (simp (disch := first | assumption | omega | rfl | decide) only [go_sem, seval, tys] <;> rfl)); (try (case hok => first | exact rfl | exact ok_w (by omega) rfl)); all_goals (try (intro hb; (try (simp only [hbs, reduceCtorEq] at hb)); try (exfalso; omega)))) | ((with_reducible apply o_undef rfl); (case hb => (simp (disch := first | assumption | omega | rfl | decide) only [go_sem, seval, tys]))))
    refine x_loopV [5, 7, 32, 33, 34, 35, 36, 37, 38, 39, 40, 41] [5, 32] (fun m vs h' n' => ∃ (q : Nat) (O : Value), m = fs.length - q ∧ q ≤ fs.length ∧ vs = [O, .int .i64 q] ∧ RdH h' n FA (fv fs) ∧ n + 1 ≤ n' ∧ OwnI ((fs.take q).map (·.2)) O h' (n + 1) n') fs.length rfl (by omega) ?_ ?_
    · exact ⟨0, .slice none 0 0, rfl, by omega, (by simp (disch := first | assumption | omega | rfl | decide) only [go_sem, seval, tys] <;> rfl), by (refine RdH.more (B := n) ?_ (by omega); (repeat' (first | with_reducible exact hr | with_reducible refine RdH.set ?_ (by omega) _))), by omega, .inl ⟨rfl, rfl⟩⟩
    · rintro m g _ h' n' ⟨q, O, rfl, hq, rfl, r2, hn, hO⟩
      by_cases hqf : q < fs.length
      · obtain ⟨id2, off2, rfl, hid2, hfa, -, -⟩ := fld_at r2 hqf
        obtain ⟨ty, hty⟩ : ∃ ty, (fs[q]).2 = ty := ⟨_, rfl⟩
        rw [hty] at hfa
        have htk : (fs.take (q + 1)).map (·.2) = (fs.take q).map (·.2) ++ [ty] := by rw [List.take_succ_eq_append_getElem hqf, List.map_append, ← hty]; rfl
        have htl : ((fs.take q).map (·.2)).length = q := by rw [List.length_map, List.length_take]; omega
        obtain ⟨acc, hacc⟩ : ∃ acc, (fs.take q).map (·.2) = acc := ⟨_, rfl⟩
        rw [hacc] at hO htk htl
        rcases hO with ⟨hp0, rfl⟩ | ⟨hp0, id, k1, k2, rfl, q4⟩
        · (repeat' first | (with_reducible first | apply x_seq | apply k_then | apply x_block | apply x_skip | apply x_ret | apply x_exit | apply x_label | apply k_pass | apply k_hit | apply k_miss rfl | apply k_out | apply k_turned | refine x_text fun K' hK => ?_) | ((with_reducible apply o_nil); refine hK _ _ _ ?_; clear hK) | ((with_reducible apply o_ap0 (t := 31) apT31 w_none); (case hs => (simp (disch := first | assumption | omega | rfl | decide) only [go_sem, seval, tys] <;> rfl)); (case hy => (simp (disch := first | assumption | omega | rfl | decide) only [go_sem, seval, tys] <;> rfl)); (case hsrc => exact src_row (rowOf_same _ _ _ _ _) rfl); (case hc => exact rfl); (case hm => omega); (case h0 => omega)) | ((first | ((with_reducible apply o_pure w_none); (case hp => exact rfl); (case' he => intro h n)) | (with_reducible first | apply o_eff w_none | apply o_guard rfl | apply x_cond | apply k_e1 rfl | apply k_e2 rfl | apply k_e0 rfl | apply k_e3 rfl | apply k_e4 rfl)); (case he => (simp (disch := first | assumption | omega | rfl | decide) only [go_sem, seval, tys, hfa] <;> rfl)); (try (case hok => first | exact rfl | exact ok_w (by omega) rfl)); all_goals (try (intro hb; (try (simp only [hbs, reduceCtorEq] at hb)); try (exfalso; omega)))) | ((with_reducible apply o_undef rfl); (case hb => (simp (disch := first | assumption | omega | rfl | decide) only [go_sem, seval, tys]))))
          refine k_round (fs.length - (q + 1)) (by omega) ⟨q + 1, .slice (some ⟨n' + 1 + 1, 0, none⟩) 1 1, rfl, by omega, (by simp (disch := first | assumption | omega | rfl | decide) only [go_sem, seval, tys] <;> rfl), by (refine RdH.more (B := n) ?_ (by omega); (repeat' (first | with_reducible exact r2 | with_reducible refine RdH.set ?_ (by omega) _))), by omega, .inr ⟨by rw [htk]; simp, n' + 1 + 1, by omega, by omega, by rw [htk, hp0]; rfl, by rw [htk, hp0]; exact rowOf_same _ _ _ _ _⟩⟩
        · have w4 := rwOf_row q4
          have htw : (iv acc).take acc.length = iv acc := List.take_of_length_le (by rw [iv_length]; omega)
          (repeat' first | (with_reducible first | apply x_seq | apply k_then | apply x_block | apply x_skip | apply x_ret | apply x_exit | apply x_label | apply k_pass | apply k_hit | apply k_miss rfl | apply k_out | apply k_turned | refine x_text fun K' hK => ?_) | ((with_reducible apply o_nil); refine hK _ _ _ ?_; clear hK) | ((with_reducible apply o_apR (t := 31) apT31 w_none); (case hs => (simp (disch := first | assumption | omega | rfl | decide) only [go_sem, seval, tys, w4] <;> rfl)); (case hy => (simp (disch := first | assumption | omega | rfl | decide) only [go_sem, seval, tys, w4] <;> rfl)); (case hsrc => exact src_row (rowOf_same _ _ _ _ _) rfl); (case hr => (simp (disch := first | assumption | omega | rfl | decide) only [go_sem, seval, tys, w4] <;> rfl)); (case hc => exact rfl); (case hm => omega); (case hli => omega); (case hln => omega); (case hcs => rw [iv_length]; omega)) | ((first | ((with_reducible apply o_pure w_none); (case hp => exact rfl); (case' he => intro h n)) | (with_reducible first | apply o_eff w_none | apply o_guard rfl | apply x_cond | apply k_e1 rfl | apply k_e2 rfl | apply k_e0 rfl | apply k_e3 rfl | apply k_e4 rfl)); (case he => (simp (disch := first | assumption | omega | rfl | decide) only [go_sem, seval, tys, hfa, w4] <;> rfl)); (try (case hok => first | exact rfl | exact ok_w (by omega) rfl)); all_goals (try (intro hb; (try (simp only [hbs, reduceCtorEq] at hb)); try (exfalso; omega)))) | ((with_reducible apply o_undef rfl); (case hb => (simp (disch := first | assumption | omega | rfl | decide) only [go_sem, seval, tys]))))
          refine k_round (fs.length - (q + 1)) (by omega) ⟨q + 1, .slice (some ⟨n' + 1 + 1, 0, none⟩) (acc.length + 1) (acc.length + 1), rfl, by omega, (by simp (disch := first | assumption | omega | rfl | decide) only [go_sem, seval, tys] <;> rfl), by (refine RdH.more (B := n) ?_ (by omega); (repeat' (first | with_reducible exact r2 | with_reducible refine RdH.set ?_ (by omega) _))), by omega, .inr ⟨by rw [htk]; simp, n' + 1 + 1, by omega, by omega, by rw [htk, List.length_append]; rfl, by rw [htk, iv_app1]; first | (simp (disch := first | assumption | omega | rfl | decide) only [go_sem, seval, tys, htw]; done) | (simp (disch := first | assumption | omega | rfl | decide) only [go_sem, seval, tys, htw]; exact rfl)⟩⟩
      · obtain rfl : q = fs.length := by omega
        rw [List.take_length] at hO
        rcases hO with ⟨hp0, -⟩ | ⟨hp0, id, k1, k2, rfl, q4⟩
        · exact absurd (List.map_eq_nil_iff.1 hp0) h0
        · rw [List.length_map]
          (repeat' first | (with_reducible first | apply x_seq | apply k_then | apply x_block | apply x_skip | apply x_ret | apply x_exit | apply x_label | apply k_pass | apply k_hit | apply k_miss rfl | apply k_out | apply k_turned | refine x_text fun K' hK => ?_) | ((with_reducible apply o_nil); refine hK _ _ _ ?_; clear hK) | fail | ((first | ((with_reducible apply o_pure w_none); (case hp => exact rfl); (case' he => intro h n)) | (with_reducible first | apply o_eff w_none | apply o_guard rfl | apply x_cond | apply k_e1 rfl | apply k_e2 rfl | apply k_e0 rfl | apply k_e3 rfl | apply k_e4 rfl)); (case he => (simp (disch := first | assumption | omega | rfl | decide) only [go_sem, seval, tys] <;> rfl)); (try (case hok => first | exact rfl | exact ok_w (by omega) rfl)); all_goals (try (intro hb; (try (simp only [hbs, reduceCtorEq] at hb)); try (exfalso; omega)))) | ((with_reducible apply o_undef rfl); (case hb => (simp (disch := first | assumption | omega | rfl | decide) only [go_sem, seval, tys]))))
          refine sw_row (m := id) (by simp (disch := first | assumption | omega) only [idV_tuple, idV_agg, idV_int, idV_bool, idV_str, idV_slice, idV_nil, idV1_agg, idV1_int, idV1_bool, idV1_str, idV1_slice, idV1_nil, idA_int, idA_bool, idA_str, idA_slice, idA_nil, idA_old, idV_old, idV1_old, ble_t, ble_f, cond_true, cond_false, List.flatMap_cons, List.flatMap_nil, List.append_nil, List.nil_append, List.cons_append] <;> rfl) rfl (by omega) q4 (iv_idA _ _) (by simp only [reV_tuple, reV_agg, reV_slice, reV1_agg, reV1_int, reV1_bool, reV1_str, reV1_slice, reV1_snil, reA_int, reA_bool, reA_str, reA_slice, reA_snil, reN_hit, List.map_cons, List.map_nil] <;> rfl) ?_
          exact ⟨rfl, rfl, rfl⟩
/-- what package kinds says that a valid type leads to -/
theorem pleads_ev (hk : 30000 ≤ k) (far : Bool) {m i : Nat} {t : Tp} (hf : fineB m i t = true) (hr : RdH h n t.A (fv t.fs)) :
    Sp Try.prog (acall Try.prog WW k (d + 1)) cl 70 [.agg ⟨[.int .u8 t.kd, .int .i64 t.el, .int .i64 t.ln, .slice t.A t.fs.length t.c]⟩, .bool far] h n (IntsV (leadsT far t) h n) := by
  by_cases hc : t.kd = 6 ∨ (far = true ∧ (t.kd = 4 ∨ t.kd = 7))
  · have h5 : t.kd ≠ 5 := by omega
    have hn := fine_nofs hf h5
    have hl : leadsT far t = [t.el] := by unfold leadsT; rw [if_pos hc]
    rw [hl, hn]
    exact (pleads_one k d cl h n hk t.kd t.el t.ln far t.A t.c hc).mono fun _ _ _ hh => .inr ⟨by simp, hh⟩
  · have hl : leadsT far t = t.fs.map (·.2) := by unfold leadsT; rw [if_neg hc]
    rw [hl]
    by_cases h5 : t.kd = 5
    · have hs := fine_len hf
      by_cases hn : t.fs = []
      · rw [hn]
        exact (pleads_nil k d cl h n hk t.kd t.el t.ln far t.A t.c hc).mono fun _ _ _ hh => .inl ⟨rfl, hh⟩
      · rw [h5]
        refine (pleads_fld k d cl h n hk t.el t.ln far t.A t.fs t.c hn hr (by omega)).mono fun _ _ _ hh => .inr ⟨by simpa using hn, ?_⟩
        rw [List.length_map]
        exact hh
    · have hn := fine_nofs hf h5
      rw [hn]
      exact (pleads_nil k d cl h n hk t.kd t.el t.ln far t.A t.c hc).mono fun _ _ _ hh => .inl ⟨rfl, hh⟩
end Go.Proofs.Ytgdokjfjmcleeaa.Ce
namespace Go.Proofs.Ytgdokjfjmcleeaa.Ce
open Go.RowKit
set_option linter.unusedVariables false
set_option linter.unusedSimpArgs false
set_option maxHeartbeats 1000000

/-- type i of a table reaches a type -/
inductive Rch (T : List Tp) (far : Bool) (i : Nat) : Nat → Prop
  | refl : Rch T far i i
  | step {x y : Nat} (hr : Rch T far i x) (hx : x < T.length) (hy : (y : Int) ∈ leadsT far T[x]) : Rch T far i y
open Classical in
/-- the row of what a type reaches -/
noncomputable def rchF (T : List Tp) (far : Bool) (i : Nat) : List Bool := (List.range T.length).map fun x => decide (Rch T far i x)
theorem rchF_length (T : List Tp) (far : Bool) (i : Nat) : (rchF T far i).length = T.length := by unfold rchF; rw [List.length_map, List.length_range]
theorem rchF_get {T : List Tp} {far : Bool} {i x : Nat} (hx : x < T.length) : (rchF T far i)[x]? = some true ↔ Rch T far i x := by
  unfold rchF
  rw [List.getElem?_map, List.getElem?_range hx, Option.map_some]
  simp
theorem Rch.lt {T : List Tp} {far : Bool} {i x : Nat} (hF : Fine T) (hi : i < T.length) (h : Rch T far i x) : x < T.length := by
  induction h with
  | refl => exact hi
  | step hr hx hy ih =>
    have := leadsT_in (hF _ hx) (by omega) _ hy
    omega
theorem Rch.trans {T : List Tp} {far : Bool} {i x y : Nat} (h : Rch T far i x) (h2 : Rch T far x y) : Rch T far i y := by
  induction h2 with
  | refl => exact h
  | step hr hx hy ih => exact .step ih hx hy
/-- a closed set that is reached is all that is reached -/
theorem rchF_eq {T : List Tp} {far : Bool} {i : Nat} {F : List Bool} (hF : Fine T) (hi : i < T.length) (hl : F.length = T.length) (h0 : F[i]? = some true) (h1 : ∀ x, x < T.length → F[x]? = some true → Rch T far i x)
    (h2 : ∀ x (hx : x < T.length), F[x]? = some true → ∀ y : Nat, (y : Int) ∈ leadsT far T[x] → F[y]? = some true) : F = rchF T far i := by
  refine List.ext_getElem? fun x => ?_
  by_cases hx : x < T.length
  · have key : F[x]? = some true ↔ (rchF T far i)[x]? = some true := by
      rw [rchF_get hx]
      refine ⟨h1 x hx, fun hr => ?_⟩
      clear hx
      induction hr with
      | refl => exact h0
      | step hr hx hy ih => exact h2 _ hx ih _ hy
    rw [List.getElem?_eq_getElem (by omega), List.getElem?_eq_getElem (by rw [rchF_length]; exact hx)] at key ⊢
    cases hb : F[x]'(by omega) <;> cases hc : (rchF T far i)[x]'(by rw [rchF_length]; exact hx) <;> simp_all
  · rw [List.getElem?_eq_none (by omega), List.getElem?_eq_none (by rw [rchF_length]; omega)]
/-- the types on a list under way -/
def cn (l : List Nat) : List Int := l.map fun (x : Nat) => (x : Int)
theorem cn_length (l : List Nat) : (cn l).length = l.length := by simp [cn]
theorem cn_app (l l' : List Nat) : cn (l ++ l') = cn l ++ cn l' := by simp [cn]
/-- a list under way whose row may be longer -/
def OwnS (ops : List Nat) (O : Value) (h : Hp) (lo n : Nat) : Prop :=
  ∃ id cs, lo ≤ id ∧ id < n ∧ O = .slice (some ⟨id, 0, none⟩) ops.length ops.length ∧ rowOf h id = some (3, false, cs) ∧ ops.length ≤ cs.length ∧ cs.take ops.length = iv (cn ops)
theorem RdH.kill {h : Hp} {B id : Nat} {A : Option Addr} {vs : List Value} (hr : RdH h B A vs) (hb : ∀ b o, A = some ⟨b, o, none⟩ → b ≠ id) (x : AObj) : RdH (h.set id x) B A vs := by
  refine ⟨hr.1, ?_⟩
  rcases hr.2 with e | ⟨i, off, e, hc⟩
  · exact .inl e
  · exact .inr ⟨i, off, e, fun k v hk => by rw [cellAt_ne _ _ _ (hb i off e)]; exact hc k v hk⟩
/-- numbers that can be read -/
def IntsR (l : List Int) (h : Hp) (n : Nat) (v : Value) (h' : Hp) (n' : Nat) : Prop :=
  ∃ LA c, v = .slice LA l.length c ∧ RdH h' n' LA (iv l) ∧ (∀ b o, LA = some ⟨b, o, none⟩ → b = n) ∧ n ≤ n' ∧ ∀ b, b < n → h'.get b = h.get b
theorem IntsV.rd {l : List Int} {h h' : Hp} {n n' : Nat} {v : Value} (hh : IntsV l h n v h' n') : IntsR l h n v h' n' := by
  rcases hh with ⟨rfl, rfl, rfl, rfl⟩ | ⟨-, rfl, rfl, rfl⟩
  · exact ⟨none, 0, rfl, RdH.nil, fun b o e => (by cases e), Nat.le_refl _, fun _ _ => rfl⟩
  · exact ⟨some ⟨n, 0, none⟩, _, rfl, RdH.row (by omega), fun b o e => (by injection e with e; injection e with e1; omega), by omega, fun b hb => Hp.get_ne _ _ (by omega)⟩
theorem rowOf_keep {h h' : Hp} {b : Nat} (e : h'.get b = h.get b) : rowOf h' b = rowOf h b := by unfold rowOf; rw [e]
theorem RdH.keep {h h' : Hp} {B n : Nat} {A : Option Addr} {vs : List Value} (hr : RdH h B A vs) (hB : B ≤ n) (hk : ∀ b, b < n → h'.get b = h.get b) : RdH h' B A vs := by
  refine ⟨hr.1, ?_⟩
  rcases hr.2 with e | ⟨i, off, e, hc⟩
  · exact .inl e
  · have hi := hr.1 i off e
    exact .inr ⟨i, off, e, fun k v hkv => by rw [show cellAt h' i (off + k) = cellAt h i (off + k) from by unfold cellAt; rw [rowOf_keep (hk i (by omega))]]; exact hc k v hkv⟩
theorem TabH.keep {h h' : Hp} {B n : Nat} {A : Option Addr} {T : List Tp} (hT : TabH h B A T) (hB : B ≤ n) (hk : ∀ b, b < n → h'.get b = h.get b) : TabH h' B A T := ⟨hT.rd.keep hB hk, fun t ht => (hT.fd t ht).keep hB hk, hT.nl, hT.bd⟩
end Go.Proofs.Ytgdokjfjmcleeaa.Ce
