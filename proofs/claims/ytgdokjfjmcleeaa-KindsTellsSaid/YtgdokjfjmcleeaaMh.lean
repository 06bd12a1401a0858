/- Great tables, copies of tables: symbolic runs. -/
import Derived.Test.YtgdokjfjmcleeaaMg
import Derived.Test.YtgdokjfjmcleeaaMz
namespace Go.Proofs.Ytgdokjfjmcleeaa.Ce
open Go.RowKit
set_option linter.unusedVariables false
set_option linter.unusedSimpArgs false


set_option maxRecDepth 100000
set_option maxHeartbeats 2000000

theorem dat_mem {T U : List Tp} (h : U.map Tp.dat = T.map Tp.dat) {u : Tp} (hu : u ∈ U) : ∃ t ∈ T, t.dat = u.dat := by
  have : u.dat ∈ T.map Tp.dat := by rw [← h]; exact List.mem_map_of_mem hu
  obtain ⟨t, h1, h2⟩ := List.mem_map.1 this
  exact ⟨t, h1, h2⟩
theorem dat_ok {T U : List Tp} (h : U.map Tp.dat = T.map Tp.dat) (hT : ∀ t ∈ T, TpOk t) : ∀ u ∈ U, TpOk u := by
  intro u hu
  obtain ⟨t, h1, h2⟩ := dat_mem h hu
  have := hT t h1
  unfold Tp.dat at h2
  injection h2 with d1 h2
  injection h2 with d2 h2
  injection h2 with d3 d4
  unfold TpOk at *
  rw [← d1, ← d2, ← d3, ← d4]
  exact this
theorem sw_keep {h h' : Hp} {n n' m e : Nat} {ro : Bool} {cs : List Value} {v u : Value} {Φ : Value → Hp → Nat → Prop} (hv : idV n v = [m]) (hg : rowOf h' m = some (e, ro, cs)) (hu : u ∈ cs) (hi : idA n u ≠ []) (hk : Φ v h' n') : kSweep h n Φ v h' n' := by
  have hp : plainO n (h'.get m) = false := by
    rw [rowOf_some hg]
    show cs.all (fun v => (idA n v).isEmpty) = false
    rw [List.all_eq_false]
    exact ⟨u, hu, by simpa using hi⟩
  have e : sweep h n (v, h', n') = (v, h', n') := by
    unfold sweep
    dsimp only
    rw [hv]
    simp [once, hp]
  unfold kSweep
  rw [e]
  exact hk
variable (k d cl : Nat) (h : Hp) (n : Nat)
theorem twin4_ev (hk : 30000 ≤ k) (A : Option Addr) (T : List Tp) (c : Nat) (hT : TabH h n A T) (hl : T.length ≤ 40) (hS : ∀ t ∈ T, t.fs.length ≤ 20) :
    Sp Try.prog (acall Try.prog WW k (d + 1)) cl 17 [.slice A T.length c] h n fun v h' n' => ∃ (A2 : Option Addr) (c2 : Nat) (U : List Tp), v = .slice A2 U.length c2 ∧ U.map Tp.dat = T.map Tp.dat ∧ TabH h' n' A2 U ∧ (∀ A' vs', RdH h n A' vs' → RdH h' n A' vs') ∧ n ≤ n' := by
  refine enter Try.func17 (by kernel_rfl) rfl (by kernel_rfl) rfl rfl rfl ?_
  (repeat' first | (with_reducible first | apply x_seq | apply k_then | apply x_block | apply x_skip | apply x_ret | apply x_exit | apply x_label | apply k_pass | apply k_hit | apply k_miss rfl | apply k_out | apply k_turned | refine x_text fun K' hK => ?_) | ((with_reducible apply o_nil); refine hK _ _ _ ?_; clear hK) | fail | ((first | ((with_reducible apply o_pure w_none); (case hp => exact rfl); (case' he => intro h n)) | (with_reducible first | apply o_eff w_none | apply o_guard rfl | apply x_cond | apply k_e1 rfl | apply k_e2 rfl | apply k_e0 rfl | apply k_e3 rfl | apply k_e4 rfl)); (case he => (simp (disch := first | assumption | omega | rfl | decide) only [go_sem, seval, tys] <;> rfl)); (try (case hok => first | exact rfl | exact ok_w (by omega) rfl)); all_goals (try (intro hb; (try (simp only [hbs, reduceCtorEq] at hb)); try (exfalso; omega)))) | ((with_reducible apply o_undef rfl); (case hb => (simp (disch := first | assumption | omega | rfl | decide) only [go_sem, seval, tys]))))
  refine x_loopV [3, 4, 5, 6, 7, 8, 9, 10, 11, 12, 13, 14, 15, 16, 17, 18, 19, 20, 21, 22, 23, 24, 25, 26, 27] [3, 4] (fun m vs h' n' => ∃ (i : Nat) (O : Value) (U : List Tp), m = T.length - i ∧ i ≤ T.length ∧ vs = [O, .int .i64 i] ∧ n ≤ n' ∧ TabH h' n A T ∧ U.map Tp.dat = (T.take i).map Tp.dat ∧ (∀ A' vs', RdH h n A' vs' → RdH h' n A' vs') ∧
      ((i = 0 ∧ O = .slice none 0 0) ∨ (0 < i ∧ ∃ id, n ≤ id ∧ id < n' ∧ O = .slice (some ⟨id, 0, none⟩) i i ∧ rowOf h' id = some (60, false, tv U) ∧ ∀ u ∈ U, ∃ idu, u.A = some ⟨idu, 0, none⟩ ∧ n ≤ idu ∧ idu < n' ∧ idu ≠ id ∧ rowOf h' idu = some (63, false, fv u.fs)))) T.length rfl (by omega) ?_ ?_
  · exact ⟨0, .slice none 0 0, [], rfl, by omega, by simp (disch := first | assumption | omega | rfl | decide) only [go_sem, seval, tys] <;> rfl, by omega, hT, rfl, fun _ _ h => h, .inl ⟨rfl, rfl⟩⟩
  · rintro m g _ h' n' ⟨i, O, U, rfl, hi, rfl, hn, hT2, hdat, hfr, hO⟩
    have hUl : U.length = i := by have := congrArg List.length hdat; simp at this; omega
    by_cases hiT : i < T.length
    · obtain ⟨tid, toff, hA, htid, ht4, -, -, -, ht3⟩ := hT2.at_ hiT
      have hmem := List.getElem_mem hiT
      have hfd2 := hT2.fd _ hmem
      have hnl := hT2.nl _ hmem
      have hs := hS _ hmem
      have htk : (T.take (i + 1)).map Tp.dat = (T.take i).map Tp.dat ++ [(T[i]).dat] := by rw [List.take_succ_eq_append_getElem hiT, List.map_append]; rfl
      obtain ⟨t, htt⟩ : ∃ t, T[i] = t := ⟨_, rfl⟩
      rw [htt] at ht4 ht3 hfd2 hnl hs htk
      obtain ⟨kd, el, ln, fs, FA, fc⟩ := t
      dsimp only at ht4 ht3 hfd2 hnl hs
      subst hA
      have hfl := fv_length fs
      have htw : (tv U).take (i * 4) = tv U := List.take_of_length_le (by rw [tv_length, hUl]; omega)
      obtain ⟨u, hu⟩ : ∃ u : Nat → Tp, u = fun b => ⟨kd, el, ln, fs, some ⟨b, 0, none⟩, fs.length⟩ := ⟨_, rfl⟩
      have hdu : ∀ b, (U ++ [u b]).map Tp.dat = (T.take (i + 1)).map Tp.dat := fun b => by rw [List.map_append, hdat, htk, hu]; rfl
      have htv : ∀ b, tv (U ++ [u b]) = tv U ++ [.int .u8 kd, .int .i64 el, .int .i64 ln, .slice (some ⟨b, 0, none⟩) fs.length fs.length] := fun b => by unfold tv; rw [List.flatMap_append, hu]; simp [Tp.v]
      rcases hO with ⟨rfl, rfl⟩ | ⟨h0, id, k1, k2, rfl, q4, hrows⟩
      · simp only [Nat.zero_mul, Nat.add_zero] at ht4 ht3
        have hU0 : U = [] := List.length_eq_zero_iff.1 hUl
        (repeat' first | (with_reducible first | apply x_seq | apply k_then | apply x_block | apply x_skip | apply x_ret | apply x_exit | apply x_label | apply k_pass | apply k_hit | apply k_miss rfl | apply k_out | apply k_turned | refine x_text fun K' hK => ?_) | ((with_reducible apply o_nil); refine hK _ _ _ ?_; clear hK) | ((with_reducible apply o_apR (t := 23) apT23 w_none); (case hs => (simp (disch := first | assumption | omega | rfl | decide) only [go_sem, seval, tys] <;> rfl)); (case hy => (simp (disch := first | assumption | omega | rfl | decide) only [go_sem, seval, tys] <;> rfl)); (case hsrc => exact src_rd (B := n) (vs := fv fs) (by (refine RdH.more (B := n) ?_ (by omega); (repeat' (first | with_reducible exact hfd2 | with_reducible refine RdH.set ?_ (by omega) _)))) hnl (by rw [fv_length]) (by decide)); (case hr => (simp (disch := first | assumption | omega | rfl | decide) only [go_sem, seval, tys] <;> rfl)); (case hc => exact fv_cok fs); (case hm => omega); (case hli => omega); (case hln => omega); (case hcs => simp)) | ((with_reducible apply o_ap0 (t := 22) apT22 w_none); (case hs => (simp (disch := first | assumption | omega | rfl | decide) only [go_sem, seval, tys] <;> rfl)); (case hy => (simp (disch := first | assumption | omega | rfl | decide) only [go_sem, seval, tys] <;> rfl)); (case hsrc => exact src_row (rowOf_same _ _ _ _ _) rfl); (case hc => exact rfl); (case hm => omega); (case h0 => omega)) | ((first | ((with_reducible apply o_pure w_none); (case hp => exact rfl); (case' he => intro h n)) | (with_reducible first | apply o_eff w_none | apply o_guard rfl | apply x_cond | apply k_e1 rfl | apply k_e2 rfl | apply k_e0 rfl | apply k_e3 rfl | apply k_e4 rfl)); (case he => (simp (disch := first | assumption | omega | rfl | decide) only [go_sem, seval, tys, ht4, ht3] <;> rfl)); (try (case hok => first | exact rfl | exact ok_w (by omega) rfl)); all_goals (try (intro hb; (try (simp only [hbs, reduceCtorEq] at hb)); try (exfalso; omega)))) | ((with_reducible apply o_undef rfl); (case hb => (simp (disch := first | assumption | omega | rfl | decide) only [go_sem, seval, tys]))))
        refine k_round (T.length - 1) (by omega) ⟨1, .slice (some ⟨n' + 1 + 1 + 1 + 1, 0, none⟩) 1 1, U ++ [u (n' + 1 + 1)], rfl, by omega, (by simp (disch := first | assumption | omega | rfl | decide) only [go_sem, seval, tys] <;> rfl), by omega, (by repeat' (first | exact hT2 | refine TabH.set ?_ (by omega) _)), hdu _, fun A' vs' hh => by have hh2 := hfr A' vs' hh; (refine RdH.more (B := n) ?_ (by omega); (repeat' (first | with_reducible exact hh2 | with_reducible refine RdH.set ?_ (by omega) _))), .inr ⟨by omega, n' + 1 + 1 + 1 + 1, by omega, by omega, rfl, ?_, ?_⟩⟩
        · rw [htv, hU0]
          simp (disch := first | assumption | omega | rfl | decide) only [go_sem, seval, tys]
          exact rfl
        · rw [hU0]
          intro x hx
          have hxe := List.mem_singleton.1 hx
          subst hxe
          rw [hu]
          exact ⟨n' + 1 + 1, rfl, by omega, by omega, by omega, by simp (disch := first | assumption | omega | rfl | decide) only [go_sem, seval, tys] <;> rfl⟩
      · have w4 := rwOf_row q4
        (repeat' first | (with_reducible first | apply x_seq | apply k_then | apply x_block | apply x_skip | apply x_ret | apply x_exit | apply x_label | apply k_pass | apply k_hit | apply k_miss rfl | apply k_out | apply k_turned | refine x_text fun K' hK => ?_) | ((with_reducible apply o_nil); refine hK _ _ _ ?_; clear hK) | ((with_reducible apply o_apR (t := 23) apT23 w_none); (case hs => (simp (disch := first | assumption | omega | rfl | decide) only [go_sem, seval, tys] <;> rfl)); (case hy => (simp (disch := first | assumption | omega | rfl | decide) only [go_sem, seval, tys] <;> rfl)); (case hsrc => exact src_rd (B := n) (vs := fv fs) (by (refine RdH.more (B := n) ?_ (by omega); (repeat' (first | with_reducible exact hfd2 | with_reducible refine RdH.set ?_ (by omega) _)))) hnl (by rw [fv_length]) (by decide)); (case hr => (simp (disch := first | assumption | omega | rfl | decide) only [go_sem, seval, tys] <;> rfl)); (case hc => exact fv_cok fs); (case hm => omega); (case hli => omega); (case hln => omega); (case hcs => simp)) | ((with_reducible apply o_apR (t := 22) apT22 w_none); (case hs => (simp (disch := first | assumption | omega | rfl | decide) only [go_sem, seval, tys, w4] <;> rfl)); (case hy => (simp (disch := first | assumption | omega | rfl | decide) only [go_sem, seval, tys, w4] <;> rfl)); (case hsrc => exact src_row (rowOf_same _ _ _ _ _) rfl); (case hr => (simp (disch := first | assumption | omega | rfl | decide) only [go_sem, seval, tys, w4] <;> rfl)); (case hc => exact rfl); (case hm => omega); (case hli => omega); (case hln => omega); (case hcs => rw [tv_length, hUl]; omega)) | ((first | ((with_reducible apply o_pure w_none); (case hp => exact rfl); (case' he => intro h n)) | (with_reducible first | apply o_eff w_none | apply o_guard rfl | apply x_cond | apply k_e1 rfl | apply k_e2 rfl | apply k_e0 rfl | apply k_e3 rfl | apply k_e4 rfl)); (case he => (simp (disch := first | assumption | omega | rfl | decide) only [go_sem, seval, tys, ht4, ht3] <;> rfl)); (try (case hok => first | exact rfl | exact ok_w (by omega) rfl)); all_goals (try (intro hb; (try (simp only [hbs, reduceCtorEq] at hb)); try (exfalso; omega)))) | ((with_reducible apply o_undef rfl); (case hb => (simp (disch := first | assumption | omega | rfl | decide) only [go_sem, seval, tys]))))
        refine k_round (T.length - (i + 1)) (by omega) ⟨i + 1, .slice (some ⟨n' + 1 + 1 + 1 + 1, 0, none⟩) (i + 1) (i + 1), U ++ [u (n' + 1 + 1)], rfl, by omega, (by simp (disch := first | assumption | omega | rfl | decide) only [go_sem, seval, tys] <;> rfl), by omega, (by repeat' (first | exact hT2 | refine TabH.set ?_ (by omega) _)), hdu _, fun A' vs' hh => by have hh2 := hfr A' vs' hh; (refine RdH.more (B := n) ?_ (by omega); (repeat' (first | with_reducible exact hh2 | with_reducible refine RdH.set ?_ (by omega) _))), .inr ⟨by omega, n' + 1 + 1 + 1 + 1, by omega, by omega, rfl, ?_, ?_⟩⟩
        · rw [htv]
          simp (disch := first | assumption | omega | rfl | decide) only [go_sem, seval, tys, htw]
        · intro x hx
          rcases List.mem_append.1 hx with hx | hx
          · obtain ⟨idu, j1, j2, j3, j4, j5⟩ := hrows x hx
            exact ⟨idu, j1, j2, by omega, by omega, by simp (disch := first | assumption | omega | rfl | decide) only [go_sem, seval, tys, j5]⟩
          · have hxe := List.mem_singleton.1 hx
            subst hxe
            rw [hu]
            exact ⟨n' + 1 + 1, rfl, by omega, by omega, by omega, by simp (disch := first | assumption | omega | rfl | decide) only [go_sem, seval, tys] <;> rfl⟩
    · obtain rfl : i = T.length := by omega
      rw [List.take_length] at hdat
      rcases hO with ⟨h0, rfl⟩ | ⟨h0, id, k1, k2, rfl, q4, hrows⟩
      · have hU0 : U = [] := List.length_eq_zero_iff.1 (by omega)
        subst hU0
        (repeat' first | (with_reducible first | apply x_seq | apply k_then | apply x_block | apply x_skip | apply x_ret | apply x_exit | apply x_label | apply k_pass | apply k_hit | apply k_miss rfl | apply k_out | apply k_turned | refine x_text fun K' hK => ?_) | ((with_reducible apply o_nil); refine hK _ _ _ ?_; clear hK) | fail | ((first | ((with_reducible apply o_pure w_none); (case hp => exact rfl); (case' he => intro h n)) | (with_reducible first | apply o_eff w_none | apply o_guard rfl | apply x_cond | apply k_e1 rfl | apply k_e2 rfl | apply k_e0 rfl | apply k_e3 rfl | apply k_e4 rfl)); (case he => (simp (disch := first | assumption | omega | rfl | decide) only [go_sem, seval, tys] <;> rfl)); (try (case hok => first | exact rfl | exact ok_w (by omega) rfl)); all_goals (try (intro hb; (try (simp only [hbs, reduceCtorEq] at hb)); try (exfalso; omega)))) | ((with_reducible apply o_undef rfl); (case hb => (simp (disch := first | assumption | omega | rfl | decide) only [go_sem, seval, tys]))))
        all_goals exact sw_flat rfl rfl ⟨none, 0, [], rfl, hdat, ⟨RdH.nil, by simp, by simp, by simp⟩, fun _ _ h => h, Nat.le_refl _⟩
      · obtain ⟨u0, hu0⟩ : ∃ u0, u0 ∈ U := by
          rcases U with _ | ⟨u0, U⟩
          · simp at hUl; omega
          · exact ⟨u0, List.mem_cons_self⟩
        obtain ⟨idu, j1, j2, j3, j4, j5⟩ := hrows u0 hu0
        have hcell : Value.slice (some ⟨idu, 0, none⟩) u0.fs.length u0.c ∈ tv U := by
          unfold tv
          refine List.mem_flatMap.2 ⟨u0, hu0, ?_⟩
          unfold Tp.v
          rw [j1]
          simp
        (repeat' first | (with_reducible first | apply x_seq | apply k_then | apply x_block | apply x_skip | apply x_ret | apply x_exit | apply x_label | apply k_pass | apply k_hit | apply k_miss rfl | apply k_out | apply k_turned | refine x_text fun K' hK => ?_) | ((with_reducible apply o_nil); refine hK _ _ _ ?_; clear hK) | fail | ((first | ((with_reducible apply o_pure w_none); (case hp => exact rfl); (case' he => intro h n)) | (with_reducible first | apply o_eff w_none | apply o_guard rfl | apply x_cond | apply k_e1 rfl | apply k_e2 rfl | apply k_e0 rfl | apply k_e3 rfl | apply k_e4 rfl)); (case he => (simp (disch := first | assumption | omega | rfl | decide) only [go_sem, seval, tys] <;> rfl)); (try (case hok => first | exact rfl | exact ok_w (by omega) rfl)); all_goals (try (intro hb; (try (simp only [hbs, reduceCtorEq] at hb)); try (exfalso; omega)))) | ((with_reducible apply o_undef rfl); (case hb => (simp (disch := first | assumption | omega | rfl | decide) only [go_sem, seval, tys]))))
        refine sw_keep (m := id) (by simp (disch := first | assumption | omega) only [idV_tuple, idV_agg, idV_int, idV_bool, idV_str, idV_slice, idV_nil, idV1_agg, idV1_int, idV1_bool, idV1_str, idV1_slice, idV1_nil, idA_int, idA_bool, idA_str, idA_slice, idA_nil, idA_old, idV_old, idV1_old, ble_t, ble_f, cond_true, cond_false, List.flatMap_cons, List.flatMap_nil, List.append_nil, List.nil_append, List.cons_append] <;> rfl) q4 hcell (by rw [idA_slice, ble_t (by omega)]; simp) ?_
        exact ⟨some ⟨id, 0, none⟩, T.length, U, by rw [hUl], hdat, ⟨RdH.ofRow q4 k2, fun x hx => by
          obtain ⟨idx, x1, x2, x3, x4, x5⟩ := hrows x hx
          rw [x1]
          exact RdH.ofRow x5 x3, fun x hx hx0 => (by
          obtain ⟨idx, x1, x2, x3, x4, x5⟩ := hrows x hx
          rw [x1] at hx0; cases hx0), dat_ok hdat hT.bd⟩, hfr, hn⟩
end Go.Proofs.Ytgdokjfjmcleeaa.Ce
