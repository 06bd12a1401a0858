/- Parts of the proof of TopCode: Ko, Ln, Mf. No condition of its own. -/
import Derived.Test.YtkngdfbibffdcaaTam
import Derived.Test.YtkngdfbibffdcaaTan
import Derived.Test.YtkngdfbibffdcaaTar
set_option linter.unusedVariables false
set_option linter.unusedSimpArgs false
set_option maxRecDepth 100000
set_option maxHeartbeats 4000000
namespace Go.Proofs.Ytkngdfbibffdcaa.Ce
open Go.RowKit
variable (k d cl : Nat) (h : Hp) (n : Nat)
theorem fldsB_all {i : Nat} {fs : List (List UInt8 × Int)} (h1 : fs.all (fldB i) = true) (h2 : (fs.map (·.1)).Nodup) : fldsB i fs = true := by unfold fldsB; rw [h1, decide_eq_true h2]; rfl
theorem pfine_b (hk : 30000 ≤ k) (A : Option Addr) (T : List Tp) (c : Nat) (hT : TabH h n A T) (i : Nat) (hi : i < T.length) (hl : T.length ≤ 100) (hl2 : T[i].fs.length ≤ 20000) (h5 : T[i].kd = 5) :
    SQ k (d + 5) cl 70 [.slice A T.length c, .int .i64 i] h n fun v h' n' => v = .bool (fineB T.length i T[i]) ∧ h' = h ∧ n' = n := by
  obtain ⟨id, off, rfl, hid, ht4, ht0, ht1, ht2, ht3⟩ := hT.at_ hi
  have hfd := hT.fd _ (List.getElem_mem hi)
  have hbd := hT.bd _ (List.getElem_mem hi)
  obtain ⟨t, htt⟩ : ∃ t, T[i] = t := ⟨_, rfl⟩
  rw [htt] at h5 hl2 ht4 ht0 ht1 ht2 ht3 hfd hbd ⊢
  obtain ⟨kd, el, ln, fs, FA, fc⟩ := t
  dsimp only at h5 hl2 ht4 ht0 ht1 ht2 ht3 hfd
  subst h5
  have hf5 := @fineB_5 T.length i ⟨5, el, ln, fs, FA, fc⟩ rfl
  dsimp only at hf5
  refine enter Try.func70 (by kernel_rfl) rfl (by kernel_rfl) rfl rfl rfl ?_
  (repeat' first | refine zcd ?_ | intro K' hK | (with_reducible refine zn hK ?_; clear hK) | fail | ((with_reducible first | apply zo1 | apply zo2 | apply o_guard rfl | apply x_cond | apply k_e1 rfl | apply k_e2 rfl | apply k_e0 rfl | apply k_e3 rfl | apply k_e4 rfl); (case he => exact ez1 ht4); (try case hok => exact ezO); all_goals try (intro hb; (try simp only [hbs, reduceCtorEq] at hb); try exact ezX)) | ((with_reducible apply o_undef rfl); (case hb => exact ez0)))
  refine x_loopV [4, 9, 74, 75, 76, 77, 78, 79, 80, 81, 82, 83, 84, 85, 86, 87, 88, 89, 90, 91, 92, 93, 94, 95, 96, 97, 98, 99] [74] (fun m vs h' n' => ∃ q : Nat, m = fs.length - q ∧ q ≤ fs.length ∧ vs = [.int .i64 q] ∧ RdH h' n FA (fv fs) ∧ rowOf h' n = some (32, false, [.int .u8 5, .int .i64 el, .int .i64 ln, .slice FA fs.length fc]) ∧ n + 1 + 1 ≤ n' ∧
      (∃ es c, mapOf h' (n + 1) = some (es, c) ∧ Es es ((fs.take q).map (·.1))) ∧ (fs.take q).all (fldB i) = true ∧ ((fs.take q).map (·.1)).Nodup) fs.length rfl (by omega) ?_ ?_
  · exact ⟨0, rfl, by omega, by simp (disch := first | assumption | omega | rfl | decide) only [go_sem, seval, tys] <;> rfl, by exact ezD hfd, by simp (disch := first | assumption | omega | rfl | decide) only [go_sem, seval, tys], by omega, ⟨#[], 0, by simp (disch := omega) only [mapOf_ne2, mapOf_same], rfl⟩, rfl, by simp⟩
  · rintro m g _ h' n' ⟨q, rfl, hq, rfl, r2, q0, hn, ⟨es, c9, hmp, hes⟩, hall, hnd⟩
    have c0 := fun o q => cellsAt_row (off := o) (k := q) q0
    have d0 := fun o => cellAt_row (off := o) q0
    by_cases hqf : q < fs.length
    · obtain ⟨id2, off2, rfl, hid2, hf2, hfa, hfb⟩ := fld_at r2 hqf
      obtain ⟨f, hff⟩ : ∃ f, fs[q] = f := ⟨_, rfl⟩
      obtain ⟨s, ty⟩ := f
      rw [hff] at hf2 hfa hfb
      dsimp only at hf2 hfa hfb
      have htk : (fs.take (q + 1)) = fs.take q ++ [(s, ty)] := by rw [List.take_succ_eq_append_getElem hqf, hff]
      cases hnm : namedB s
      · have hno : fldsB i fs = false := fldsB_no hqf (by rw [hff]; unfold fldB; dsimp only; rw [hnm]; rfl)
        (repeat' first | refine zcd ?_ | intro K' hK | (with_reducible refine zn hK ?_; clear hK) | ((with_reducible apply o_callF (g := 76) w_none); (case ha => exact ez0); (case hs => exact pnamed_ev (hk := hk) ..); (case' hk => rintro _ h' n' ⟨rfl, rfl, rfl⟩)) | ((with_reducible apply o_look w_none); (case hx => (simp (disch := first | assumption | omega | rfl | decide) only [go_sem, seval, tys] <;> rfl)); (case hy => (simp (disch := first | assumption | omega | rfl | decide) only [go_sem, seval, tys] <;> rfl)); (case hm => (simp (disch := omega) only [mapOf_ne2]; exact hmp)); (case he => exact hes)) | ((with_reducible apply o_mput w_none); (case hx => (simp (disch := first | assumption | omega | rfl | decide) only [go_sem, seval, tys] <;> rfl)); (case hy => (simp (disch := first | assumption | omega | rfl | decide) only [go_sem, seval, tys] <;> rfl)); (case hz => rfl); (case hm => (simp (disch := omega) only [mapOf_ne2]; exact hmp)); (case he => exact hes); (case hs => assumption); (case hl => omega)) | ((with_reducible first | apply zo1 | apply zo2 | apply o_guard rfl | apply x_cond | apply k_e1 rfl | apply k_e2 rfl | apply k_e0 rfl | apply k_e3 rfl | apply k_e4 rfl); (case he => exact ez4 c0 d0 hf2 hnm); (try case hok => exact ezO); all_goals try (intro hb; (try simp only [hbs, reduceCtorEq] at hb); try exact ezX)) | ((with_reducible apply o_undef rfl); (case hb => exact ez0)))
        all_goals exact sw_flat rfl rfl ⟨by rw [hf5, hno]; rfl, rfl, rfl⟩
      · cases hin : decide (s ∈ (fs.take q).map (·.1))
        · have hin' := of_decide_eq_false hin
          cases hw : decide (0 ≤ ty ∧ ty < (i : Int))
          · have hno : fldsB i fs = false := fldsB_no hqf (by rw [hff]; unfold fldB; dsimp only; rw [hnm, hw]; rfl)
            (repeat' first | refine zcd ?_ | intro K' hK | (with_reducible refine zn hK ?_; clear hK) | ((with_reducible apply o_callF (g := 76) w_none); (case ha => exact ez0); (case hs => exact pnamed_ev (hk := hk) ..); (case' hk => rintro _ h' n' ⟨rfl, rfl, rfl⟩)) | ((with_reducible apply o_look w_none); (case hx => (simp (disch := first | assumption | omega | rfl | decide) only [go_sem, seval, tys] <;> rfl)); (case hy => (simp (disch := first | assumption | omega | rfl | decide) only [go_sem, seval, tys] <;> rfl)); (case hm => (simp (disch := omega) only [mapOf_ne2]; exact hmp)); (case he => exact hes)) | ((with_reducible apply o_mput w_none); (case hx => (simp (disch := first | assumption | omega | rfl | decide) only [go_sem, seval, tys] <;> rfl)); (case hy => (simp (disch := first | assumption | omega | rfl | decide) only [go_sem, seval, tys] <;> rfl)); (case hz => rfl); (case hm => (simp (disch := omega) only [mapOf_ne2]; exact hmp)); (case he => exact hes); (case hs => assumption); (case hl => omega)) | ((with_reducible apply o_callV (g := 74) w_none); (case hx => exact ez0); (case ha => exact ez0); (case hs => exact within_ev ..); (case' hk => rintro _ h' n' ⟨rfl, rfl, rfl⟩)) | ((with_reducible first | apply zo1 | apply zo2 | apply o_guard rfl | apply x_cond | apply k_e1 rfl | apply k_e2 rfl | apply k_e0 rfl | apply k_e3 rfl | apply k_e4 rfl); (case he => exact ez6 c0 d0 hf2 hnm hin hw); (try case hok => exact ezO); all_goals try (intro hb; (try simp only [hbs, reduceCtorEq] at hb); try exact ezX)) | ((with_reducible apply o_undef rfl); (case hb => exact ez0)))
            all_goals exact sw_flat rfl rfl ⟨by rw [hf5, hno]; rfl, rfl, rfl⟩
          · (repeat' first | refine zcd ?_ | intro K' hK | (with_reducible refine zn hK ?_; clear hK) | ((with_reducible apply o_callF (g := 76) w_none); (case ha => exact ez0); (case hs => exact pnamed_ev (hk := hk) ..); (case' hk => rintro _ h' n' ⟨rfl, rfl, rfl⟩)) | ((with_reducible apply o_look w_none); (case hx => (simp (disch := first | assumption | omega | rfl | decide) only [go_sem, seval, tys] <;> rfl)); (case hy => (simp (disch := first | assumption | omega | rfl | decide) only [go_sem, seval, tys] <;> rfl)); (case hm => (simp (disch := omega) only [mapOf_ne2]; exact hmp)); (case he => exact hes)) | ((with_reducible apply o_mput w_none); (case hx => (simp (disch := first | assumption | omega | rfl | decide) only [go_sem, seval, tys] <;> rfl)); (case hy => (simp (disch := first | assumption | omega | rfl | decide) only [go_sem, seval, tys] <;> rfl)); (case hz => rfl); (case hm => (simp (disch := omega) only [mapOf_ne2]; exact hmp)); (case he => exact hes); (case hs => assumption); (case hl => omega)) | ((with_reducible apply o_callV (g := 74) w_none); (case hx => exact ez0); (case ha => exact ez0); (case hs => exact within_ev ..); (case' hk => rintro _ h' n' ⟨rfl, rfl, rfl⟩)) | ((with_reducible first | apply zo1 | apply zo2 | apply o_guard rfl | apply x_cond | apply k_e1 rfl | apply k_e2 rfl | apply k_e0 rfl | apply k_e3 rfl | apply k_e4 rfl); (case he => exact ez6 c0 d0 hf2 hnm hin hw); (try case hok => exact ezO); all_goals try (intro hb; (try simp only [hbs, reduceCtorEq] at hb); try exact ezX)) | ((with_reducible apply o_undef rfl); (case hb => exact ez0)))
            refine k_round (fs.length - (q + 1)) (by omega) ⟨q + 1, rfl, by omega, by simp (disch := first | assumption | omega | rfl | decide) only [go_sem, seval, tys] <;> rfl, by exact ezD r2, by simp (disch := first | assumption | omega | rfl | decide) only [go_sem, seval, tys, q0], by omega, ⟨es.push ⟨.string ⟨⟨s⟩⟩, .bool true, c9⟩, c9 + 1, by simp (disch := omega) only [mapOf_ne2, mapOf_same], by rw [htk, List.map_append]; exact hes.push⟩, ?_, ?_⟩
            · rw [htk, List.all_append, hall]
              simp [fldB, hnm, hw]
            · rw [htk, List.map_append, List.nodup_append]
              refine ⟨hnd, by simp, ?_⟩
              intro a ha b hb
              simp at hb
              subst hb
              intro e
              exact hin' (e ▸ ha)
        · have hno : fldsB i fs = false := fldsB_dup hqf (by rw [hff]; exact of_decide_eq_true hin)
          (repeat' first | refine zcd ?_ | intro K' hK | (with_reducible refine zn hK ?_; clear hK) | ((with_reducible apply o_callF (g := 76) w_none); (case ha => exact ez0); (case hs => exact pnamed_ev (hk := hk) ..); (case' hk => rintro _ h' n' ⟨rfl, rfl, rfl⟩)) | ((with_reducible apply o_look w_none); (case hx => (simp (disch := first | assumption | omega | rfl | decide) only [go_sem, seval, tys] <;> rfl)); (case hy => (simp (disch := first | assumption | omega | rfl | decide) only [go_sem, seval, tys] <;> rfl)); (case hm => (simp (disch := omega) only [mapOf_ne2]; exact hmp)); (case he => exact hes)) | ((with_reducible apply o_mput w_none); (case hx => (simp (disch := first | assumption | omega | rfl | decide) only [go_sem, seval, tys] <;> rfl)); (case hy => (simp (disch := first | assumption | omega | rfl | decide) only [go_sem, seval, tys] <;> rfl)); (case hz => rfl); (case hm => (simp (disch := omega) only [mapOf_ne2]; exact hmp)); (case he => exact hes); (case hs => assumption); (case hl => omega)) | ((with_reducible apply o_callV (g := 74) w_none); (case hx => exact ez0); (case ha => exact ez0); (case hs => exact within_ev ..); (case' hk => rintro _ h' n' ⟨rfl, rfl, rfl⟩)) | ((with_reducible first | apply zo1 | apply zo2 | apply o_guard rfl | apply x_cond | apply k_e1 rfl | apply k_e2 rfl | apply k_e0 rfl | apply k_e3 rfl | apply k_e4 rfl); (case he => exact ez5 c0 d0 hf2 hnm hin); (try case hok => exact ezO); all_goals try (intro hb; (try simp only [hbs, reduceCtorEq] at hb); try exact ezX)) | ((with_reducible apply o_undef rfl); (case hb => exact ez0)))
          all_goals exact sw_flat rfl rfl ⟨by rw [hf5, hno]; rfl, rfl, rfl⟩
    · obtain rfl : q = fs.length := by omega
      rw [List.take_length] at hall hnd
      have hyes := fldsB_all hall hnd
      have hz : decide (el = 0 ∧ ln = 0 ∧ 0 < fs.length ∧ fs.length ≤ 8) = ([el, ln].all (· == 0) && (decide ((0 : Int) < fs.length) && decide ((fs.length : Int) ≤ 8))) := by
        rw [Bool.eq_iff_iff]; simp only [decide_eq_true_eq, Bool.and_eq_true, List.all_cons, List.all_nil, Bool.and_true, beq_iff_eq]; omega
      (repeat' first | refine zcd ?_ | intro K' hK | (with_reducible refine zn hK ?_; clear hK) | ((with_reducible apply o_callF (g := 75) w_none); (case ha => exact ez0); (case hs => ((with_reducible apply zero_ev (l := [el, ln])); (case hk => exact hk); (case hm => rfl); (case hr => exact RdH.row (by omega)); (case hl => simp))); (case' hk => rintro _ h' n' ⟨rfl, rfl, rfl⟩)) | ((with_reducible first | apply zo1 | apply zo2 | apply o_guard rfl | apply x_cond | apply k_e1 rfl | apply k_e2 rfl | apply k_e0 rfl | apply k_e3 rfl | apply k_e4 rfl); (case he => exact ez2 c0 d0); (try case hok => exact ezO); all_goals try (intro hb; (try simp only [hbs, reduceCtorEq] at hb); try exact ezX)) | ((with_reducible apply o_undef rfl); (case hb => exact ez0)))
      all_goals exact sw_flat rfl rfl ⟨by rw [hf5, hyes, hz]; simp only [List.all_cons, List.all_nil, Bool.and_true, Bool.true_and]; try simp_all, rfl, rfl⟩
theorem pfine_ev (hk : 30000 ≤ k) (A : Option Addr) (T : List Tp) (c : Nat) (hT : TabH h n A T) (i : Nat) (hi : i < T.length) (hl : T.length ≤ 100) (hl2 : T[i].fs.length ≤ 20000) :
    SQ k (d + 5) cl 70 [.slice A T.length c, .int .i64 i] h n fun v h' n' => v = .bool (fineB T.length i T[i]) ∧ h' = h ∧ n' = n := by
  by_cases h5 : T[i].kd = 5
  · exact pfine_b k d cl h n hk A T c hT i hi hl hl2 h5
  · exact pfine_a k d cl h n hk A T c hT i hi hl h5
end Go.Proofs.Ytkngdfbibffdcaa.Ce
namespace Go.Proofs.Ytkngdfbibffdcaa.Ce
open Go.RowKit
def ChkT (T : List Tp) : Prop := T.length ≤ 32 ∧ Fine T ∧ ∀ w ∈ wD T 3, w ≤ 5000
open Classical in
noncomputable def errT (T : List Tp) : Int := if ChkT T then 0 else 8
theorem errT_ok {T : List Tp} (h : ChkT T) : errT T = 0 := if_pos h
theorem errT_no {T : List Tp} (h : ¬ ChkT T) : errT T = 8 := if_neg h
end Go.Proofs.Ytkngdfbibffdcaa.Ce
namespace Go.Proofs.Ytkngdfbibffdcaa.Ce
open Go.RowKit
variable (k d cl : Nat) (h : Hp) (n : Nat)
theorem pcheck_ev (hk : 30000 ≤ k) (A : Option Addr) (T : List Tp) (c : Nat) (hT : TabH h n A T) (hS : ∀ t ∈ T, t.fs.length ≤ 20000) (hm : T.length ≤ 9223372036854775807) :
    SQ k (d + 6) cl 61 [.slice A T.length c] h n fun v h' n' => v = .int .i64 (errT T) ∧ h' = h ∧ n' = n := by
  by_cases hl : T.length ≤ 32
  · have hSi : ∀ i (hi : i < T.length), T[i].fs.length ≤ 20000 := fun i hi => hS _ (List.getElem_mem hi)
    by_cases hF : Fine T
    · have hwl := wD_length T 3
      have hwb := wD_bnd hF 3
      refine enter Try.func61 (by kernel_rfl) rfl (by kernel_rfl) rfl rfl rfl ?_
      (repeat' first | refine zcd ?_ | intro K' hK | (with_reducible refine zn hK ?_; clear hK) | fail | ((with_reducible first | apply zo1 | apply zo2 | apply o_guard rfl | apply x_cond | apply k_e1 rfl | apply k_e2 rfl | apply k_e0 rfl | apply k_e3 rfl | apply k_e4 rfl); (case he => exact ez0); (try case hok => exact ezO); all_goals try (intro hb; (try simp only [hbs, reduceCtorEq] at hb); try exact ezX)) | ((with_reducible apply o_undef rfl); (case hb => exact ez0)))
      refine x_loopF [2, 3, 11, 12, 13, 14, 15, 16, 17, 18] [11] (fun m vs => ∃ i : Nat, m = T.length - i ∧ i ≤ T.length ∧ vs = [.int .i64 i]) T.length rfl (by omega) ⟨0, rfl, by omega, by simp (disch := first | assumption | omega | rfl | decide) only [go_sem, seval, tys] <;> rfl⟩ ?_
      rintro m g _ ⟨i, rfl, hi, rfl⟩
      by_cases hiT : i < T.length
      · have hfi := hF i hiT
        have hsi := hSi i hiT
        (repeat' first | refine zcd ?_ | intro K' hK | (with_reducible refine zn hK ?_; clear hK) | ((with_reducible apply o_callF (g := 70) w_none); (case ha => exact ez0); (case hs => ((with_reducible apply pfine_ev (T := T) (i := i)); (case hT => exact hT); (case hi => exact hiT); (all_goals first | exact hk | omega))); (case' hk => rintro _ h' n' ⟨rfl, rfl, rfl⟩)) | ((with_reducible first | apply zo1 | apply zo2 | apply o_guard rfl | apply x_cond | apply k_e1 rfl | apply k_e2 rfl | apply k_e0 rfl | apply k_e3 rfl | apply k_e4 rfl); (case he => exact ez1 hfi); (try case hok => exact ezO); all_goals try (intro hb; (try simp only [hbs, reduceCtorEq] at hb); try exact ezX)) | ((with_reducible apply o_undef rfl); (case hb => exact ez0)))
        refine k_round (T.length - (i + 1)) (by omega) ⟨⟨rfl, rfl⟩, i + 1, rfl, by omega, by simp (disch := first | assumption | omega | rfl | decide) only [go_sem, seval, tys] <;> rfl⟩
      · obtain rfl : i = T.length := by omega
        (repeat' first | refine zcd ?_ | intro K' hK | (with_reducible refine zn hK ?_; clear hK) | ((with_reducible apply o_callF (g := 71) w_none); (case ha => exact ez0); (case hs => ((with_reducible apply pwidths_ev (T := T)); (case hT => exact hT); (case hF => exact hF); (all_goals first | exact hk | omega))); (case' hk => rintro _ h' n' ⟨rfl, rfl, rfl⟩)) | ((with_reducible first | apply zo1 | apply zo2 | apply o_guard rfl | apply x_cond | apply k_e1 rfl | apply k_e2 rfl | apply k_e0 rfl | apply k_e3 rfl | apply k_e4 rfl); (case he => exact ez0); (try case hok => exact ezO); all_goals try (intro hb; (try simp only [hbs, reduceCtorEq] at hb); try exact ezX)) | ((with_reducible apply o_undef rfl); (case hb => exact ez0)))
        by_cases hw : ∀ w ∈ wD T 3, w ≤ 5000
        · have he : errT T = 0 := errT_ok ⟨hl, hF, hw⟩
          refine x_loopF [2, 5, 22, 23, 24, 25, 26, 27, 28] [22] (fun m vs => ∃ i : Nat, m = T.length - i ∧ i ≤ T.length ∧ vs = [.int .i64 i]) T.length rfl (by omega) ⟨0, rfl, by omega, by simp (disch := first | assumption | omega | rfl | decide) only [go_sem, seval, tys] <;> rfl⟩ ?_
          rintro m g2 _ ⟨i, rfl, hi, rfl⟩
          by_cases hiT : i < T.length
          · have hge : lget (iv (wD T 3)) i = some (.int .i64 ((wD T 3).getD i 0)) := iv_lget (by omega)
            have hle : (wD T 3).getD i 0 ≤ 5000 := by
              rw [List.getD_eq_getElem?_getD, List.getElem?_eq_getElem (by omega)]; exact hw _ (List.getElem_mem _)
            (repeat' first | refine zcd ?_ | intro K' hK | (with_reducible refine zn hK ?_; clear hK) | fail | ((with_reducible first | apply zo1 | apply zo2 | apply o_guard rfl | apply x_cond | apply k_e1 rfl | apply k_e2 rfl | apply k_e0 rfl | apply k_e3 rfl | apply k_e4 rfl); (case he => exact ez1 hge); (try case hok => exact ezO); all_goals try (intro hb; (try simp only [hbs, reduceCtorEq] at hb); try exact ezX)) | ((with_reducible apply o_undef rfl); (case hb => exact ez0)))
            refine k_round (T.length - (i + 1)) (by omega) ⟨⟨rfl, rfl⟩, i + 1, rfl, by omega, by simp (disch := first | assumption | omega | rfl | decide) only [go_sem, seval, tys] <;> rfl⟩
          · obtain rfl : i = T.length := by omega
            (repeat' first | refine zcd ?_ | intro K' hK | (with_reducible refine zn hK ?_; clear hK) | fail | ((with_reducible first | apply zo1 | apply zo2 | apply o_guard rfl | apply x_cond | apply k_e1 rfl | apply k_e2 rfl | apply k_e0 rfl | apply k_e3 rfl | apply k_e4 rfl); (case he => exact ez0); (try case hok => exact ezO); all_goals try (intro hb; (try simp only [hbs, reduceCtorEq] at hb); try exact ezX)) | ((with_reducible apply o_undef rfl); (case hb => exact ez0)))
            all_goals exact sw_flat rfl rfl ⟨by rw [he], rfl, rfl⟩
        · have he : errT T = 8 := errT_no fun hh => hw hh.2.2
          refine x_loopF [2, 5, 22, 23, 24, 25, 26, 27, 28] [22] (fun m vs => ∃ i : Nat, m = T.length - i ∧ i ≤ T.length ∧ vs = [.int .i64 i] ∧ ∀ j, j < i → (wD T 3).getD j 0 ≤ 5000) T.length rfl (by omega) ⟨0, rfl, by omega, by simp (disch := first | assumption | omega | rfl | decide) only [go_sem, seval, tys] <;> rfl, fun j hj => by omega⟩ ?_
          rintro m g2 _ ⟨i, rfl, hi, rfl, hall⟩
          by_cases hiT : i < T.length
          · have hge : lget (iv (wD T 3)) i = some (.int .i64 ((wD T 3).getD i 0)) := iv_lget (by omega)
            by_cases hle : (wD T 3).getD i 0 ≤ 5000
            · (repeat' first | refine zcd ?_ | intro K' hK | (with_reducible refine zn hK ?_; clear hK) | fail | ((with_reducible first | apply zo1 | apply zo2 | apply o_guard rfl | apply x_cond | apply k_e1 rfl | apply k_e2 rfl | apply k_e0 rfl | apply k_e3 rfl | apply k_e4 rfl); (case he => exact ez1 hge); (try case hok => exact ezO); all_goals try (intro hb; (try simp only [hbs, reduceCtorEq] at hb); try exact ezX)) | ((with_reducible apply o_undef rfl); (case hb => exact ez0)))
              refine k_round (T.length - (i + 1)) (by omega) ⟨⟨rfl, rfl⟩, i + 1, rfl, by omega, by simp (disch := first | assumption | omega | rfl | decide) only [go_sem, seval, tys] <;> rfl, fun j hj => by
                rcases Nat.lt_or_ge j i with h1 | h1
                · exact hall j h1
                · obtain rfl : j = i := by omega
                  exact hle⟩
            · (repeat' first | refine zcd ?_ | intro K' hK | (with_reducible refine zn hK ?_; clear hK) | fail | ((with_reducible first | apply zo1 | apply zo2 | apply o_guard rfl | apply x_cond | apply k_e1 rfl | apply k_e2 rfl | apply k_e0 rfl | apply k_e3 rfl | apply k_e4 rfl); (case he => exact ez1 hge); (try case hok => exact ezO); all_goals try (intro hb; (try simp only [hbs, reduceCtorEq] at hb); try exact ezX)) | ((with_reducible apply o_undef rfl); (case hb => exact ez0)))
              all_goals exact sw_flat rfl rfl ⟨by rw [he], rfl, rfl⟩
          · obtain rfl : i = T.length := by omega
            exfalso
            apply hw
            intro w hwm
            obtain ⟨j, hj, rfl⟩ := List.getElem_of_mem hwm
            have := hall j (by omega)
            rwa [List.getD_eq_getElem?_getD, List.getElem?_eq_getElem hj] at this
    · have he : errT T = 8 := errT_no fun hh => hF hh.2.1
      refine enter Try.func61 (by kernel_rfl) rfl (by kernel_rfl) rfl rfl rfl ?_
      (repeat' first | refine zcd ?_ | intro K' hK | (with_reducible refine zn hK ?_; clear hK) | fail | ((with_reducible first | apply zo1 | apply zo2 | apply o_guard rfl | apply x_cond | apply k_e1 rfl | apply k_e2 rfl | apply k_e0 rfl | apply k_e3 rfl | apply k_e4 rfl); (case he => exact ez0); (try case hok => exact ezO); all_goals try (intro hb; (try simp only [hbs, reduceCtorEq] at hb); try exact ezX)) | ((with_reducible apply o_undef rfl); (case hb => exact ez0)))
      refine x_loopF [2, 3, 11, 12, 13, 14, 15, 16, 17, 18] [11] (fun m vs => ∃ i : Nat, m = T.length - i ∧ i ≤ T.length ∧ vs = [.int .i64 i] ∧ ∀ j (hj : j < T.length), j < i → fineB T.length j T[j] = true) T.length rfl (by omega) ⟨0, rfl, by omega, by simp (disch := first | assumption | omega | rfl | decide) only [go_sem, seval, tys] <;> rfl, fun j hj hji => by omega⟩ ?_
      rintro m g _ ⟨i, rfl, hi, rfl, hall⟩
      by_cases hiT : i < T.length
      · have hsi := hSi i hiT
        cases hfi : fineB T.length i T[i]
        · (repeat' first | refine zcd ?_ | intro K' hK | (with_reducible refine zn hK ?_; clear hK) | ((with_reducible apply o_callF (g := 70) w_none); (case ha => exact ez0); (case hs => ((with_reducible apply pfine_ev (T := T) (i := i)); (case hT => exact hT); (case hi => exact hiT); (all_goals first | exact hk | omega))); (case' hk => rintro _ h' n' ⟨rfl, rfl, rfl⟩)) | ((with_reducible first | apply zo1 | apply zo2 | apply o_guard rfl | apply x_cond | apply k_e1 rfl | apply k_e2 rfl | apply k_e0 rfl | apply k_e3 rfl | apply k_e4 rfl); (case he => exact ez1 hfi); (try case hok => exact ezO); all_goals try (intro hb; (try simp only [hbs, reduceCtorEq] at hb); try exact ezX)) | ((with_reducible apply o_undef rfl); (case hb => exact ez0)))
          all_goals exact sw_flat rfl rfl ⟨by rw [he], rfl, rfl⟩
        · (repeat' first | refine zcd ?_ | intro K' hK | (with_reducible refine zn hK ?_; clear hK) | ((with_reducible apply o_callF (g := 70) w_none); (case ha => exact ez0); (case hs => ((with_reducible apply pfine_ev (T := T) (i := i)); (case hT => exact hT); (case hi => exact hiT); (all_goals first | exact hk | omega))); (case' hk => rintro _ h' n' ⟨rfl, rfl, rfl⟩)) | ((with_reducible first | apply zo1 | apply zo2 | apply o_guard rfl | apply x_cond | apply k_e1 rfl | apply k_e2 rfl | apply k_e0 rfl | apply k_e3 rfl | apply k_e4 rfl); (case he => exact ez1 hfi); (try case hok => exact ezO); all_goals try (intro hb; (try simp only [hbs, reduceCtorEq] at hb); try exact ezX)) | ((with_reducible apply o_undef rfl); (case hb => exact ez0)))
          refine k_round (T.length - (i + 1)) (by omega) ⟨⟨rfl, rfl⟩, i + 1, rfl, by omega, by simp (disch := first | assumption | omega | rfl | decide) only [go_sem, seval, tys] <;> rfl, fun j hj hji => by
            rcases Nat.lt_or_ge j i with h1 | h1
            · exact hall j hj h1
            · obtain rfl : j = i := by omega
              exact hfi⟩
      · obtain rfl : i = T.length := by omega
        exact absurd (fun i hi => hall i hi hi) hF
  · have he : errT T = 8 := errT_no fun hh => hl hh.1
    refine enter Try.func61 (by kernel_rfl) rfl (by kernel_rfl) rfl rfl rfl ?_
    (repeat' first | refine zcd ?_ | intro K' hK | (with_reducible refine zn hK ?_; clear hK) | fail | ((with_reducible first | apply zo1 | apply zo2 | apply o_guard rfl | apply x_cond | apply k_e1 rfl | apply k_e2 rfl | apply k_e0 rfl | apply k_e3 rfl | apply k_e4 rfl); (case he => exact ez0); (try case hok => exact ezO); all_goals try (intro hb; (try simp only [hbs, reduceCtorEq] at hb); try exact ezX)) | ((with_reducible apply o_undef rfl); (case hb => exact ez0)))
    all_goals exact sw_flat rfl rfl ⟨by rw [he], rfl, rfl⟩
end Go.Proofs.Ytkngdfbibffdcaa.Ce
namespace Go.Proofs.Ytkngdfbibffdcaa.Ce
open Go.RowKit
variable (k d cl : Nat) (h : Hp) (n : Nat)
theorem lasked_bad (hk : 30000 ≤ k) (A : Option Addr) (T : List Tp) (c : Nat) (hT : TabH h n A T) (hS : ∀ t ∈ T, t.fs.length ≤ 20000) (hm : T.length ≤ 9223372036854775807) (i : Int) (hC : ¬ ChkT T) :
    SQ k (d + 7) cl 46 [.slice A T.length c, .int .i64 i] h n fun v h' n' => v = .tuple ⟨[.slice none 0 0, .int .i64 8]⟩ ∧ h' = h ∧ n' = n := by
  have he := errT_no hC
  refine enter Try.func46 (by kernel_rfl) rfl (by kernel_rfl) rfl rfl rfl ?_
  (repeat' first | refine zcd ?_ | intro K' hK | (with_reducible refine zn hK ?_; clear hK) | ((with_reducible apply o_callF (g := 61) w_none); (case ha => exact ez0); (case hs => ((with_reducible apply pcheck_ev (T := T)); (case hT => first | exact hT | exact hT.set (by omega) _); (case hS => exact hS); (all_goals first | exact hk | omega))); (case' hk => rintro _ h' n' ⟨rfl, rfl, rfl⟩)) | ((with_reducible first | apply zo1 | apply zo2 | apply o_guard rfl | apply x_cond | apply k_e1 rfl | apply k_e2 rfl | apply k_e0 rfl | apply k_e3 rfl | apply k_e4 rfl); (case he => exact ez1 he); (try case hok => exact ezO); all_goals try (intro hb; (try simp only [hbs, reduceCtorEq] at hb); try exact ezX)) | ((with_reducible apply o_undef rfl); (case hb => exact ez0)))
  all_goals exact sw_flat rfl rfl ⟨rfl, rfl, rfl⟩
theorem lasked_arg (hk : 30000 ≤ k) (A : Option Addr) (T : List Tp) (c : Nat) (hT : TabH h n A T) (hS : ∀ t ∈ T, t.fs.length ≤ 20000) (hm : T.length ≤ 9223372036854775807) (i : Int) (hC : ChkT T) (hi : ¬ (0 ≤ i ∧ i < T.length)) :
    SQ k (d + 7) cl 46 [.slice A T.length c, .int .i64 i] h n fun v h' n' => v = .tuple ⟨[.slice none 0 0, .int .i64 2]⟩ ∧ h' = h ∧ n' = n := by
  have he := errT_ok hC
  refine enter Try.func46 (by kernel_rfl) rfl (by kernel_rfl) rfl rfl rfl ?_
  (repeat' first | refine zcd ?_ | intro K' hK | (with_reducible refine zn hK ?_; clear hK) | ((with_reducible apply o_callF (g := 61) w_none); (case ha => exact ez0); (case hs => ((with_reducible apply pcheck_ev (T := T)); (case hT => first | exact hT | exact hT.set (by omega) _); (case hS => exact hS); (all_goals first | exact hk | omega))); (case' hk => rintro _ h' n' ⟨rfl, rfl, rfl⟩)) | ((with_reducible first | apply zo1 | apply zo2 | apply o_guard rfl | apply x_cond | apply k_e1 rfl | apply k_e2 rfl | apply k_e0 rfl | apply k_e3 rfl | apply k_e4 rfl); (case he => exact ez1 he); (try case hok => exact ezO); all_goals try (intro hb; (try simp only [hbs, reduceCtorEq] at hb); try exact ezX)) | ((with_reducible apply o_undef rfl); (case hb => exact ez0)))
  all_goals exact sw_flat rfl rfl ⟨rfl, rfl, rfl⟩
theorem lasked_big (hk : 30000 ≤ k) (A : Option Addr) (T : List Tp) (c : Nat) (hT : TabH h n A T) (hS : ∀ t ∈ T, t.fs.length ≤ 20000) (hm : T.length ≤ 9223372036854775807) (i : Int) (hC : ChkT T) (hi : 0 ≤ i ∧ i < T.length) (hb : 256 < ((eRow 1048576 T).at_ i).1) :
    SQ k (d + 7) cl 46 [.slice A T.length c, .int .i64 i] h n fun v h' n' => v = .tuple ⟨[.slice none 0 0, .int .i64 16]⟩ ∧ h' = h ∧ n' = n := by
  have he := errT_ok hC
  have hl := hC.1
  have hEl := eRow_length 1048576 T
  obtain ⟨j, rfl⟩ := Int.eq_ofNat_of_zero_le hi.1
  have hge := (ev_get (E := eRow 1048576 T) (i := j) (by omega)).1
  have hge1 := (ev_get (E := eRow 1048576 T) (i := j) (by omega)).2.1
  have hbg := hb
  refine enter Try.func46 (by kernel_rfl) rfl (by kernel_rfl) rfl rfl rfl ?_
  (repeat' first | refine zcd ?_ | intro K' hK | (with_reducible refine zn hK ?_; clear hK) | ((with_reducible apply o_callF (g := 61) w_none); (case ha => exact ez0); (case hs => ((with_reducible apply pcheck_ev (T := T)); (case hT => first | exact hT | exact hT.set (by omega) _); (case hS => exact hS); (all_goals first | exact hk | omega))); (case' hk => rintro _ h' n' ⟨rfl, rfl, rfl⟩)) | ((with_reducible apply o_callF (g := 62) w_none); (case ha => exact ez0); (case hs => ((with_reducible apply extents_ev (T := T)); (case hT => first | exact hT | exact hT.set (by omega) _); (case hF => exact hC.2.1); (all_goals first | exact hk | omega))); (case' hk => rintro _ h' n' ⟨rfl, rfl, rfl⟩)) | ((with_reducible first | apply zo1 | apply zo2 | apply o_guard rfl | apply x_cond | apply k_e1 rfl | apply k_e2 rfl | apply k_e0 rfl | apply k_e3 rfl | apply k_e4 rfl); (case he => exact ez2 he hge); (try case hok => exact ezO); all_goals try (intro hb; (try simp only [hbs, reduceCtorEq] at hb); try exact ezX)) | ((with_reducible apply o_undef rfl); (case hb => exact ez0)))
  all_goals exact sw_flat rfl rfl ⟨rfl, rfl, rfl⟩
theorem lasked_ok (hk : 30000 ≤ k) (A : Option Addr) (T : List Tp) (c : Nat) (hT : TabH h n A T) (hS : ∀ t ∈ T, t.fs.length ≤ 20000) (hm : T.length ≤ 9223372036854775807) (i : Int) (hC : ChkT T) (hi : 0 ≤ i ∧ i < T.length) (hb : ¬ 256 < ((eRow 1048576 T).at_ i).1) :
    SQ k (d + 7) cl 46 [.slice A T.length c, .int .i64 i] h n fun v h' n' => v = .tuple ⟨[.slice (some ⟨n, 0, none⟩) T.length T.length, .int .i64 0]⟩ ∧ h' = h.set n (.row 104 false (ev (eRow 1048576 T))) ∧ n' = n + 1 := by
  have he := errT_ok hC
  have hl := hC.1
  have hEl := eRow_length 1048576 T
  obtain ⟨j, rfl⟩ := Int.eq_ofNat_of_zero_le hi.1
  have hge := (ev_get (E := eRow 1048576 T) (i := j) (by omega)).1
  have hge1 := (ev_get (E := eRow 1048576 T) (i := j) (by omega)).2.1
  have hbg := hb
  refine enter Try.func46 (by kernel_rfl) rfl (by kernel_rfl) rfl rfl rfl ?_
  (repeat' first | refine zcd ?_ | intro K' hK | (with_reducible refine zn hK ?_; clear hK) | ((with_reducible apply o_callF (g := 61) w_none); (case ha => exact ez0); (case hs => ((with_reducible apply pcheck_ev (T := T)); (case hT => first | exact hT | exact hT.set (by omega) _); (case hS => exact hS); (all_goals first | exact hk | omega))); (case' hk => rintro _ h' n' ⟨rfl, rfl, rfl⟩)) | ((with_reducible apply o_callF (g := 62) w_none); (case ha => exact ez0); (case hs => ((with_reducible apply extents_ev (T := T)); (case hT => first | exact hT | exact hT.set (by omega) _); (case hF => exact hC.2.1); (all_goals first | exact hk | omega))); (case' hk => rintro _ h' n' ⟨rfl, rfl, rfl⟩)) | ((with_reducible first | apply zo1 | apply zo2 | apply o_guard rfl | apply x_cond | apply k_e1 rfl | apply k_e2 rfl | apply k_e0 rfl | apply k_e3 rfl | apply k_e4 rfl); (case he => exact ez2 he hge); (try case hok => exact ezO); all_goals try (intro hb; (try simp only [hbs, reduceCtorEq] at hb); try exact ezX)) | ((with_reducible apply o_undef rfl); (case hb => exact ez0)))
  (refine sw_row ezI rfl (by omega) (by first | assumption | (simp (disch := first | assumption | omega | rfl | decide) only [go_sem, seval, tys] <;> rfl)) (by exact ev_idA _ _) ezR ?_; exact ⟨rfl, rfl, rfl⟩)
open Classical in
noncomputable def szR (C : Int) (T : List Tp) (i : Int) : Int × Int × Int :=
  if ChkT T then (if 0 ≤ i ∧ i < T.length then (if 256 < ((eRow C T).at_ i).1 then (0, 0, 16) else (((eRow C T).at_ i).1, ((eRow C T).at_ i).2, 0)) else (0, 0, 2)) else (0, 0, 8)
theorem lsize_ev (hk : 30000 ≤ k) (A : Option Addr) (T : List Tp) (c : Nat) (hT : TabH h n A T) (hS : ∀ t ∈ T, t.fs.length ≤ 20000) (hm : T.length ≤ 9223372036854775807) (i : Int) :
    SQ k (d + 8) cl 23 [.slice A T.length c, .int .i64 i] h n fun v h' n' => v = .tuple ⟨[.int .i64 (szR 1048576 T i).1, .int .i64 (szR 1048576 T i).2.1, .int .i64 (szR 1048576 T i).2.2]⟩ ∧ h' = h ∧ n' = n := by
  by_cases hC : ChkT T
  · by_cases hi : 0 ≤ i ∧ i < T.length
    · by_cases hb : 256 < ((eRow 1048576 T).at_ i).1
      · have hz : szR 1048576 T i = (0, 0, 16) := by unfold szR; rw [if_pos hC, if_pos hi, if_pos hb]
        rw [hz]
        have hbg := hb
        refine enter Try.func23 (by kernel_rfl) rfl (by kernel_rfl) rfl rfl rfl ?_
        (repeat' first | refine zcd ?_ | intro K' hK | (with_reducible refine zn hK ?_; clear hK) | ((with_reducible apply o_callF (g := 46) w_none); (case ha => exact ez0); (case hs => ((with_reducible apply lasked_big (T := T)); (case hT => exact hT); (case hS => exact hS); (case hC => exact hC); (case hi => exact hi); (case hb => exact hbg); (all_goals first | exact hk | omega))); (case' hk => rintro _ h' n' ⟨rfl, rfl, rfl⟩)) | ((with_reducible first | apply zo1 | apply zo2 | apply o_guard rfl | apply x_cond | apply k_e1 rfl | apply k_e2 rfl | apply k_e0 rfl | apply k_e3 rfl | apply k_e4 rfl); (case he => exact ez0); (try case hok => exact ezO); all_goals try (intro hb; (try simp only [hbs, reduceCtorEq] at hb); try exact ezX)) | ((with_reducible apply o_undef rfl); (case hb => exact ez0)))
        all_goals exact sw_flat rfl rfl ⟨rfl, rfl, rfl⟩
      · have hz : szR 1048576 T i = (((eRow 1048576 T).at_ i).1, ((eRow 1048576 T).at_ i).2, 0) := by unfold szR; rw [if_pos hC, if_pos hi, if_neg hb]
        rw [hz]
        have hbg := hb
        have hl := hC.1
        have hi' := hi
        have hEl := eRow_length 1048576 T
        obtain ⟨j, rfl⟩ := Int.eq_ofNat_of_zero_le hi.1
        have hge := (ev_get (E := eRow 1048576 T) (i := j) (by omega)).1
        have hge1 := (ev_get (E := eRow 1048576 T) (i := j) (by omega)).2.1
        refine enter Try.func23 (by kernel_rfl) rfl (by kernel_rfl) rfl rfl rfl ?_
        (repeat' first | refine zcd ?_ | intro K' hK | (with_reducible refine zn hK ?_; clear hK) | ((with_reducible apply o_callF (g := 46) w_none); (case ha => exact ez0); (case hs => ((with_reducible apply lasked_ok (T := T)); (case hT => exact hT); (case hS => exact hS); (case hC => exact hC); (case hi => exact hi'); (case hb => exact hbg); (all_goals first | exact hk | omega))); (case' hk => rintro _ h' n' ⟨rfl, rfl, rfl⟩)) | (with_reducible refine x_drawnD (id := 4) [(4, 9)] (by kernel_rfl) fun K' hK => ?_) | ((with_reducible apply d_nil); (case hp => exact ezP); (case' hx => (refine hK _ _ _ ?_; clear hK))) | ((with_reducible apply d_pure w_none); (case hp => exact rfl); (case hc => exact rfl); (case he => exact ez2 hge hge1)) | ((with_reducible apply d_eff w_none); (case hc => exact rfl); (case he => exact ez2 hge hge1); (case hok => exact ezO)) | ((with_reducible apply d_guard rfl); (case hb => exact ez2 hge hge1); (case' h1 => intro hb; (try simp only [hbs, reduceCtorEq] at hb); try exact ezX); (case' h2 => intro hb; (try simp only [hbs, reduceCtorEq] at hb); try exact ezX)) | ((with_reducible first | apply zo1 | apply zo2 | apply o_guard rfl | apply x_cond | apply k_e1 rfl | apply k_e2 rfl | apply k_e0 rfl | apply k_e3 rfl | apply k_e4 rfl); (case he => exact ez2 hge hge1); (try case hok => exact ezO); all_goals try (intro hb; (try simp only [hbs, reduceCtorEq] at hb); try exact ezX)) | ((with_reducible apply o_undef rfl); (case hb => exact ez0)))
        all_goals exact sw_flat rfl rfl ⟨rfl, rfl, rfl⟩
    · have hz : szR 1048576 T i = (0, 0, 2) := by unfold szR; rw [if_pos hC, if_neg hi]
      rw [hz]
      refine enter Try.func23 (by kernel_rfl) rfl (by kernel_rfl) rfl rfl rfl ?_
      (repeat' first | refine zcd ?_ | intro K' hK | (with_reducible refine zn hK ?_; clear hK) | ((with_reducible apply o_callF (g := 46) w_none); (case ha => exact ez0); (case hs => ((with_reducible apply lasked_arg (T := T)); (case hT => exact hT); (case hS => exact hS); (case hC => exact hC); (case hi => exact hi); (all_goals first | exact hk | omega))); (case' hk => rintro _ h' n' ⟨rfl, rfl, rfl⟩)) | ((with_reducible first | apply zo1 | apply zo2 | apply o_guard rfl | apply x_cond | apply k_e1 rfl | apply k_e2 rfl | apply k_e0 rfl | apply k_e3 rfl | apply k_e4 rfl); (case he => exact ez0); (try case hok => exact ezO); all_goals try (intro hb; (try simp only [hbs, reduceCtorEq] at hb); try exact ezX)) | ((with_reducible apply o_undef rfl); (case hb => exact ez0)))
      all_goals exact sw_flat rfl rfl ⟨rfl, rfl, rfl⟩
  · have hz : szR 1048576 T i = (0, 0, 8) := by unfold szR; rw [if_neg hC]
    rw [hz]
    refine enter Try.func23 (by kernel_rfl) rfl (by kernel_rfl) rfl rfl rfl ?_
    (repeat' first | refine zcd ?_ | intro K' hK | (with_reducible refine zn hK ?_; clear hK) | ((with_reducible apply o_callF (g := 46) w_none); (case ha => exact ez0); (case hs => ((with_reducible apply lasked_bad (T := T)); (case hT => exact hT); (case hS => exact hS); (case hC => exact hC); (all_goals first | exact hk | omega))); (case' hk => rintro _ h' n' ⟨rfl, rfl, rfl⟩)) | ((with_reducible first | apply zo1 | apply zo2 | apply o_guard rfl | apply x_cond | apply k_e1 rfl | apply k_e2 rfl | apply k_e0 rfl | apply k_e3 rfl | apply k_e4 rfl); (case he => exact ez0); (try case hok => exact ezO); all_goals try (intro hb; (try simp only [hbs, reduceCtorEq] at hb); try exact ezX)) | ((with_reducible apply o_undef rfl); (case hb => exact ez0)))
    all_goals exact sw_flat rfl rfl ⟨rfl, rfl, rfl⟩
end Go.Proofs.Ytkngdfbibffdcaa.Ce
namespace Go.Proofs.Ytkngdfbibffdcaa.Ce
open Go.RowKit
def R2 (p q : Int × Int) : Prop := p.2 = q.2 ∧ Al p.2 ∧ ∃ N, 0 ≤ N ∧ p.1 = min 1048576 N ∧ q.1 = min 1000000 N
theorem min_mul {C l N : Int} (hl : 1 ≤ l) (hN : 0 ≤ N) (hC : 0 ≤ C) : min C (l * min C N) = min C (l * N) := by
  by_cases h : N ≤ C
  · rw [show min C N = N from by omega]
  · have h1 : min C N = C := by omega
    have h2 : C ≤ l * C := by have := Int.mul_le_mul_of_nonneg_right hl hC; rwa [Int.one_mul] at this
    have h3 : N ≤ l * N := by have := Int.mul_le_mul_of_nonneg_right hl hN; rwa [Int.one_mul] at this
    rw [h1]
    omega
def ERel (E G : Ext) : Prop := E.length = G.length ∧ ∀ j : Int, 0 ≤ j → j < E.length → R2 (E.at_ j) (G.at_ j)
theorem lay_rel {E G : Ext} (hr : ERel E G) {fs : List (List UInt8 × Int)} (hx : ∀ f ∈ fs, 0 ≤ f.2 ∧ f.2 < E.length) : ∀ q, q ≤ fs.length → (layR 1048576 E (fs.take q)).2.2 = (layR 1000000 G (fs.take q)).2.2 ∧ Al (layR 1048576 E (fs.take q)).2.2 ∧ ∃ N, 0 ≤ N ∧ (layR 1048576 E (fs.take q)).2.1 = min 1048576 N ∧ (layR 1000000 G (fs.take q)).2.1 = min 1000000 N
  | 0, _ => ⟨rfl, .inl rfl, 0, Int.le_refl _, rfl, rfl⟩
  | q + 1, h => by
    obtain ⟨i1, i2, N, i3, i4, i5⟩ := lay_rel hr hx q (by omega)
    have hf := hx fs[q] (List.getElem_mem _)
    obtain ⟨r1, r2, Y, r3, r4, r5⟩ := hr.2 (fs[q]).2 hf.1 hf.2
    rw [layR_take 1048576 E (by omega), layR_take 1000000 G (by omega)]
    unfold lStep
    dsimp only
    refine ⟨by rw [i1, r1], i2.max r2, upI N (E.at_ (fs[q]).2).2 + Y, ?_, ?_, ?_⟩
    · have := upI_bnd r2 i3; omega
    · rw [i4, r4, upI_min r2 (by decide)]
      have := upI_bnd r2 i3
      omega
    · rw [i5, r5, ← r1, upI_min r2 (by decide)]
      have := upI_bnd r2 i3
      omega
theorem eOne_rel {E G : Ext} (hr : ERel E G) {m : Nat} {t : Tp} (h : fineB m E.length t = true) : R2 (eOne 1048576 E t) (eOne 1000000 G t) := by
  have hk := fine_kd h
  by_cases h1 : t.kd = 1
  · rw [eOne_1 h1, eOne_1 h1]; exact ⟨rfl, .inl rfl, 1, by decide, rfl, rfl⟩
  by_cases h2 : t.kd = 2 ∨ t.kd = 4
  · rw [eOne_24 h2, eOne_24 h2]; exact ⟨rfl, .inr rfl, 8, by decide, rfl, rfl⟩
  by_cases h3 : t.kd = 3
  · rw [eOne_3 h3, eOne_3 h3]; exact ⟨rfl, .inr rfl, 16, by decide, rfl, rfl⟩
  by_cases h7 : t.kd = 7
  · rw [eOne_7 h7, eOne_7 h7]; exact ⟨rfl, .inr rfl, 24, by decide, rfl, rfl⟩
  by_cases h6 : t.kd = 6
  · have ha := fine_arr h h6
    obtain ⟨r1, r2, Y, r3, r4, r5⟩ := hr.2 t.el ha.1 ha.2.1
    rw [eOne_6 h6, eOne_6 h6]
    refine ⟨r1, r2, t.ln * Y, Int.mul_nonneg (by omega) r3, ?_, ?_⟩
    · dsimp only; rw [r4, min_mul ha.2.2.1 r3 (by decide)]
    · dsimp only; rw [r5, min_mul ha.2.2.1 r3 (by decide)]
  · have h5 : t.kd = 5 := by omega
    have hx : ∀ f ∈ t.fs, 0 ≤ f.2 ∧ f.2 < E.length := fun f hf => by
      obtain ⟨q, hq, rfl⟩ := List.getElem_of_mem hf
      exact fine_fld h hq
    obtain ⟨i1, i2, N, i3, i4, i5⟩ := lay_rel hr hx t.fs.length (Nat.le_refl _)
    rw [List.take_length] at i1 i2 i4 i5
    rw [eOne_5 h5, eOne_5 h5]
    refine ⟨i1, i2, upI N (layR 1048576 E t.fs).2.2, ?_, ?_, ?_⟩
    · have := upI_bnd i2 i3; omega
    · dsimp only; rw [i4, upI_min i2 (by decide)]
    · dsimp only; rw [i5, ← i1, upI_min i2 (by decide)]
theorem at_snoc_lt {E : Ext} {p : Int × Int} {j : Int} (h0 : 0 ≤ j) (h1 : j < E.length) : Ext.at_ (E ++ [p]) j = E.at_ j := by
  unfold Ext.at_
  rw [List.getD_eq_getElem?_getD, List.getElem?_append_left (by omega), List.getD_eq_getElem?_getD]
theorem at_snoc_eq {E : Ext} {p : Int × Int} : Ext.at_ (E ++ [p]) (E.length : Int) = p := by
  unfold Ext.at_
  rw [Int.toNat_natCast, List.getD_eq_getElem?_getD, List.getElem?_append_right (Nat.le_refl _)]
  simp
theorem eRow_rel {T : List Tp} (hF : Fine T) : ∀ i, i ≤ T.length → ERel (eRow 1048576 (T.take i)) (eRow 1000000 (T.take i))
  | 0, _ => ⟨by simp [eRow], fun j h0 h1 => by simp [eRow] at h1; omega⟩
  | i + 1, hi => by
    have ih := eRow_rel hF i (by omega)
    have hl1 := eRow_tlen 1048576 (T := T) (i := i) (by omega)
    have hl2 := eRow_tlen 1000000 (T := T) (i := i) (by omega)
    rw [eRow_take 1048576 (by omega), eRow_take 1000000 (by omega)]
    refine ⟨by rw [List.length_append, List.length_append, hl1, hl2, List.length_singleton, List.length_singleton], fun j h0 h1 => ?_⟩
    rw [List.length_append, hl1] at h1
    by_cases hj : j < (i : Int)
    · rw [at_snoc_lt h0 (by omega), at_snoc_lt h0 (by omega)]
      exact ih.2 j h0 (by omega)
    · have e : j = (i : Int) := by simp at h1; omega
      have e1 : j = ((eRow 1048576 (T.take i)).length : Int) := by omega
      have e2 : j = ((eRow 1000000 (T.take i)).length : Int) := by omega
      have r := eOne_rel ih (m := T.length) (t := T[i]) (by rw [hl1]; exact hF i (by omega))
      conv => arg 1; rw [e1, at_snoc_eq]
      conv => arg 2; rw [e2, at_snoc_eq]
      exact r
theorem ext_rel {T : List Tp} (hF : Fine T) : ERel (eRow 1048576 T) (eRow 1000000 T) := by have := eRow_rel hF T.length (Nat.le_refl _); rwa [List.take_length] at this
theorem R2.big {p q : Int × Int} (h : R2 p q) : (256 < p.1 ↔ 256 < q.1) ∧ (p.1 ≤ 256 → p = q) := by
  obtain ⟨h1, -, N, h2, h3, h4⟩ := h
  refine ⟨by omega, fun h5 => Prod.ext (by omega) h1⟩
theorem szR_eq (T : List Tp) (i : Int) : szR 1048576 T i = szR 1000000 T i := by
  unfold szR
  by_cases hC : ChkT T
  · rw [if_pos hC, if_pos hC]
    by_cases hi : 0 ≤ i ∧ i < T.length
    · rw [if_pos hi, if_pos hi]
      have hr := ((ext_rel hC.2.1).2 i hi.1 (by rw [eRow_length]; exact hi.2)).big
      by_cases hb : 256 < ((eRow 1048576 T).at_ i).1
      · rw [if_pos hb, if_pos (hr.1.1 hb)]
      · rw [if_neg hb, if_neg (fun h => hb (hr.1.2 h)), hr.2 (by omega)]
    · rw [if_neg hi, if_neg hi]
  · rw [if_neg hC, if_neg hC]
theorem lay_same {E G : Ext} {fs : List (List UInt8 × Int)} (he : ∀ f ∈ fs, E.at_ f.2 = G.at_ f.2) (ho : ∀ f ∈ fs, 0 ≤ (E.at_ f.2).1 ∧ (E.at_ f.2).1 ≤ 256 ∧ Al (E.at_ f.2).2) (hl : fs.length ≤ 16) : ∀ q, q ≤ fs.length → layR 1048576 E (fs.take q) = layR 1000000 G (fs.take q) ∧ 0 ≤ (layR 1048576 E (fs.take q)).2.1 ∧ (layR 1048576 E (fs.take q)).2.1 ≤ 263 * q
  | 0, _ => ⟨rfl, Int.le_refl _, by simp [layR]⟩
  | q + 1, h => by
    obtain ⟨i1, i2, i3⟩ := lay_same he ho hl q (by omega)
    have hf := he fs[q] (List.getElem_mem _)
    obtain ⟨o1, o2, o3⟩ := ho fs[q] (List.getElem_mem _)
    have hb := upI_bnd o3 i2
    rw [layR_take 1048576 E (by omega), layR_take 1000000 G (by omega), ← i1]
    unfold lStep
    rw [← hf]
    dsimp only
    refine ⟨?_, by omega, by omega⟩
    rw [show min 1048576 (upI (layR 1048576 E (fs.take q)).2.1 (E.at_ (fs[q]).2).2 + (E.at_ (fs[q]).2).1) = upI (layR 1048576 E (fs.take q)).2.1 (E.at_ (fs[q]).2).2 + (E.at_ (fs[q]).2).1 from by omega,
      show min 1000000 (upI (layR 1048576 E (fs.take q)).2.1 (E.at_ (fs[q]).2).2 + (E.at_ (fs[q]).2).1) = upI (layR 1048576 E (fs.take q)).2.1 (E.at_ (fs[q]).2).2 + (E.at_ (fs[q]).2).1 from by omega]
end Go.Proofs.Ytkngdfbibffdcaa.Ce
