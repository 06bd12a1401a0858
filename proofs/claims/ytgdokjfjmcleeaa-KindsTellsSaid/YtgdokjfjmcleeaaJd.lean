/- What a type reaches: symbolic runs. -/
import Derived.Test.YtgdokjfjmcleeaaJb
namespace Go.Proofs.Ytgdokjfjmcleeaa.Ce
open Go.RowKit
set_option linter.unusedVariables false
set_option linter.unusedSimpArgs false


set_option maxRecDepth 100000
set_option maxHeartbeats 2000000

theorem count_set_t {F : List Bool} {y : Nat} (hy : F[y]? = some false) : (F.set y true).count false + 1 = F.count false := by
  have hl : y < F.length := by
    rcases Nat.lt_or_ge y F.length with h | h
    · exact h
    · rw [List.getElem?_eq_none h] at hy; cases hy
  rw [List.getElem?_eq_getElem hl] at hy
  injection hy with hy
  have hp : 0 < F.count false := List.count_pos_iff.2 (by rw [← hy]; exact List.getElem_mem hl)
  rw [List.count_set hl, hy]
  simp
  omega
theorem bw_idA (n : Nat) (l : List Bool) : ∀ v ∈ bw l, idA n v = [] := by
  intro v hv
  obtain ⟨b, -, rfl⟩ := List.mem_map.1 hv
  rfl
variable (k d cl : Nat) (h : Hp) (n : Nat)
theorem closure_ev (hk : 30000 ≤ k) (far : Bool) (A : Option Addr) (T : List Tp) (c : Nat) (hT : TabH h n A T) (hl : T.length ≤ 32) (hF : Fine T) (i : Nat) (hi : i < T.length) :
    Sp Try.prog (acall Try.prog WW k (d + 2)) cl 69 [.slice A T.length c, .int .i64 i, .bool far] h n fun v h' n' => v = .slice (some ⟨n, 0, none⟩) T.length T.length ∧ h' = h.set n (.row 4 false (bw (rchF T far i))) ∧ n' = n + 1 := by
  obtain ⟨F0, hF0⟩ : ∃ F0, (List.replicate T.length false).set i true = F0 := ⟨_, rfl⟩
  have hov := bw_set (l := List.replicate T.length false) (i := i) (by rw [List.length_replicate]; exact hi)
  rw [hF0] at hov
  have hl0 : F0.length = T.length := by rw [← hF0, List.length_set, List.length_replicate]
  have hg0 : ∀ x, x < T.length → F0[x]? = some (decide (x = i)) := fun x hx => by
    rw [← hF0, List.getElem?_set, List.length_replicate, List.getElem?_replicate]
    by_cases e : i = x
    · rw [if_pos e, if_pos hi, decide_eq_true e.symm]
    · rw [if_neg e, if_pos hx, decide_eq_false fun e' => e e'.symm]
  have hc0 := List.count_le_length (a := false) (l := F0)
  refine enter Try.func69 (by kernel_rfl) rfl (by kernel_rfl) rfl rfl rfl ?_
  (repeat' first | (with_reducible first | apply x_seq | apply k_then | apply x_block | apply x_skip | apply x_ret | apply x_exit | apply x_label | apply k_pass | apply k_hit | apply k_miss rfl | apply k_out | apply k_turned | refine x_text fun K' hK => ?_) | ((with_reducible apply o_nil); refine hK _ _ _ ?_; clear hK) | fail | ((first | ((with_reducible apply o_pure w_none); (case hp => exact rfl); (case' he => intro h n)) | (with_reducible first | apply o_eff w_none | apply o_guard rfl | apply x_cond | apply k_e1 rfl | apply k_e2 rfl | apply k_e0 rfl | apply k_e3 rfl | apply k_e4 rfl)); (case he => (simp (disch := first | assumption | omega | rfl | decide) only [go_sem, seval, tys, mk_falses, hov] <;> rfl)); (try (case hok => first | exact rfl | exact ok_w (by omega) rfl)); all_goals (try (intro hb; (try (simp only [hbs, reduceCtorEq] at hb)); try (exfalso; omega)))) | ((with_reducible apply o_undef rfl); (case hb => (simp (disch := first | assumption | omega | rfl | decide) only [go_sem, seval, tys]))))
  refine x_loopV [8, 9, 11, 20, 21, 22, 23, 24, 25, 26, 27, 28, 29, 30, 31, 32, 33, 34, 35, 36, 37, 38, 39, 40, 41, 42, 43, 44, 45, 46, 47, 48, 49, 50, 51, 52, 53, 54, 55, 56, 57] [8] (fun m vs h' n' => ∃ (F : List Bool) (ops : List Nat) (O : Value), m = ops.length + F.count false ∧ m ≤ 40 ∧ vs = [O] ∧ n + 1 ≤ n' ∧ TabH h' n A T ∧ rowOf h' n = some (4, false, bw F) ∧ OwnS ops O h' (n + 1) n' ∧ F.length = T.length ∧ F[i]? = some true ∧ (∀ x ∈ ops, x < T.length ∧ F[x]? = some true) ∧ (∀ x, x < T.length → F[x]? = some true → Rch T far i x) ∧
      (∀ x (hx : x < T.length), F[x]? = some true → x ∈ ops ∨ ∀ y : Nat, (y : Int) ∈ leadsT far T[x] → F[y]? = some true)) (1 + F0.count false) rfl (by omega) ?_ ?_
  · refine ⟨F0, [i], .slice (some ⟨n + 1, 0, none⟩) 1 1, rfl, by omega, (by simp (disch := first | assumption | omega | rfl | decide) only [go_sem, seval, tys] <;> rfl), by omega, (hT.set (Nat.le_refl _) _).set (by omega) _, (by simp (disch := first | assumption | omega | rfl | decide) only [go_sem, seval, tys] <;> rfl), ⟨n + 1, [.int .i64 i], Nat.le_refl _, by omega, rfl, rowOf_same _ _ _ _ _, Nat.le_refl _, rfl⟩, hl0, by rw [hg0 i hi, decide_eq_true rfl], fun x hx => ?_, fun x hx hx2 => ?_, fun x hx hx2 => ?_⟩
    · obtain rfl := List.mem_singleton.1 hx
      exact ⟨hi, by rw [hg0 x hi, decide_eq_true rfl]⟩
    · rw [hg0 x hx] at hx2
      have : x = i := by simpa using hx2
      subst this
      exact .refl
    · rw [hg0 x hx] at hx2
      have : x = i := by simpa using hx2
      exact .inl (List.mem_singleton.2 this)
  · rintro m fr _ ha na ⟨F, ops, O, rfl, hm40, rfl, hn, hT2, qF, ⟨id, cs, k1, k2, rfl, q4, q5, q6⟩, hFl, hFi, hop, hsd, hcl⟩
    rcases List.eq_nil_or_concat ops with rfl | ⟨ops0, y, rfl⟩
    · have hFe := rchF_eq hF hi hFl hFi hsd fun x hx hx2 => by
        rcases hcl x hx hx2 with h1 | h1
        · cases h1
        · exact h1
      subst hFe
      (repeat' first | (with_reducible first | apply x_seq | apply k_then | apply x_block | apply x_skip | apply x_ret | apply x_exit | apply x_label | apply k_pass | apply k_hit | apply k_miss rfl | apply k_out | apply k_turned | refine x_text fun K' hK => ?_) | ((with_reducible apply o_nil); refine hK _ _ _ ?_; clear hK) | fail | ((first | ((with_reducible apply o_pure w_none); (case hp => exact rfl); (case' he => intro h n)) | (with_reducible first | apply o_eff w_none | apply o_guard rfl | apply x_cond | apply k_e1 rfl | apply k_e2 rfl | apply k_e0 rfl | apply k_e3 rfl | apply k_e4 rfl)); (case he => (simp (disch := first | assumption | omega | rfl | decide) only [go_sem, seval, tys] <;> rfl)); (try (case hok => first | exact rfl | exact ok_w (by omega) rfl)); all_goals (try (intro hb; (try (simp only [hbs, reduceCtorEq] at hb)); try (exfalso; omega)))) | ((with_reducible apply o_undef rfl); (case hb => (simp (disch := first | assumption | omega | rfl | decide) only [go_sem, seval, tys]))))
      refine sw_row (m := n) (by simp (disch := first | assumption | omega) only [idV_tuple, idV_agg, idV_int, idV_bool, idV_str, idV_slice, idV_nil, idV1_agg, idV1_int, idV1_bool, idV1_str, idV1_slice, idV1_nil, idA_int, idA_bool, idA_str, idA_slice, idA_nil, idA_old, idV_old, idV1_old, ble_t, ble_f, cond_true, cond_false, List.flatMap_cons, List.flatMap_nil, List.append_nil, List.nil_append, List.cons_append] <;> rfl) rfl (by omega) qF (bw_idA _ _) (by simp only [reV_tuple, reV_agg, reV_slice, reV1_agg, reV1_int, reV1_bool, reV1_str, reV1_slice, reV1_snil, reA_int, reA_bool, reA_str, reA_slice, reA_snil, reN_hit, List.map_cons, List.map_nil] <;> rfl) ?_
      exact ⟨rfl, rfl, rfl⟩
    · rw [List.concat_eq_append] at q5 q6 hop hcl
      have hlen : (ops0.concat y).length = ops0.length + 1 := by rw [List.concat_eq_append, List.length_append]; rfl
      have hlen2 : (ops0 ++ [y]).length = ops0.length + 1 := by rw [List.length_append]; rfl
      rw [hlen] at hm40 ⊢
      rw [hlen2] at q5 q6
      obtain ⟨w, hw⟩ : ∃ w, ops0.length = w := ⟨_, rfl⟩
      rw [hw] at q5 q6 hm40 ⊢
      have hyk := hop y (List.mem_append_right _ (List.mem_singleton.2 rfl))
      have hwc : (cn ops0).length = w := by rw [cn_length, hw]
      have c5 : cellAt ha id w = some (.int .i64 (y : Int)) := by
        rw [cellAt_row q4, lget_eq, ← List.getElem?_take_of_lt (show w < w + 1 by omega), q6, cn_app, iv_app, List.getElem?_append_right (by rw [iv_length]; omega), iv_length, hwc, Nat.sub_self]
        rfl
      have htk0 : cs.take w = iv (cn ops0) := by
        have h1 : (cs.take (w + 1)).take w = cs.take w := by rw [List.take_take]; congr 1; omega
        rw [← h1, q6, cn_app, iv_app, List.take_append_of_le_length (by rw [iv_length]; omega), List.take_of_length_le (by rw [iv_length]; omega)]
      obtain ⟨tid, toff, hAA, htid, ht4, -⟩ := hT2.at_ hyk.1
      have hfd := (hT2.fd _ (List.getElem_mem hyk.1)).more (show n ≤ na by omega)
      have hfy := hF y hyk.1
      subst hAA
      have hnat : (((w + 1 : Nat) : Int) - 1).toNat = w := by omega
      have p1 := (pleads_ev k d n ha na hk far hfy hfd).mono fun _ _ _ hh => IntsV.rd hh
      have hns := leadsT_in (far := far) hfy (by omega)
      have hnl := leadsT_len (far := far) hfy
      obtain ⟨ns, hnse⟩ : ∃ ns, leadsT far T[y] = ns := ⟨_, rfl⟩
      rw [hnse] at p1 hns hnl
      have hcF := List.count_le_length (a := false) (l := F)
      (repeat' first | (with_reducible first | apply x_seq | apply k_then | apply x_block | apply x_skip | apply x_ret | apply x_exit | apply x_label | apply k_pass | apply k_hit | apply k_miss rfl | apply k_out | apply k_turned | refine x_text fun K' hK => ?_) | ((with_reducible apply o_nil); refine hK _ _ _ ?_; clear hK) | ((with_reducible apply o_callF (g := 70) w_none); (case ha => (simp (disch := first | assumption | omega | rfl | decide) only [go_sem, seval, tys] <;> rfl)); (case hs => (exact p1)); (case' hk => rintro _ h' n' ⟨LA, lc, rfl, hrL, hLn, hn2, hkp⟩)) | ((first | ((with_reducible apply o_pure w_none); (case hp => exact rfl); (case' he => intro h n)) | (with_reducible first | apply o_eff w_none | apply o_guard rfl | apply x_cond | apply k_e1 rfl | apply k_e2 rfl | apply k_e0 rfl | apply k_e3 rfl | apply k_e4 rfl)); (case he => (simp (disch := first | assumption | omega | rfl | decide) only [go_sem, seval, tys, c5, ht4, hnat] <;> rfl)); (try (case hok => first | exact rfl | exact ok_w (by omega) rfl)); all_goals (try (intro hb; (try (simp only [hbs, reduceCtorEq] at hb)); try (exfalso; omega)))) | ((with_reducible apply o_undef rfl); (case hb => (simp (disch := first | assumption | omega | rfl | decide) only [go_sem, seval, tys]))))
      refine x_loopV [8, 11, 41, 42, 43, 44, 45, 46, 47, 48, 49, 50, 51, 52, 53, 54, 55, 56, 57] [8, 41] (fun m vs h4 n4 => ∃ (q : Nat) (O' : Value) (ops' : List Nat) (F' : List Bool), m = ns.length - q ∧ q ≤ ns.length ∧ vs = [O', .int .i64 q] ∧ n' ≤ n4 ∧ TabH h4 n (some ⟨tid, toff, none⟩) T ∧ RdH h4 n' LA (iv ns) ∧ rowOf h4 n = some (4, false, bw F') ∧ OwnS ops' O' h4 (n + 1) n4 ∧ (∀ b o, LA = some ⟨b, o, none⟩ → Blk O' b) ∧ F'.length = T.length ∧ ops'.length + F'.count false = w + F.count false ∧ (∀ x ∈ ops', x < T.length ∧ F'[x]? = some true) ∧ (∀ x ∈ ops0, x ∈ ops') ∧
          (∀ x : Nat, F[x]? = some true → F'[x]? = some true) ∧ (∀ z : Nat, (z : Int) ∈ ns.take q → F'[z]? = some true) ∧ (∀ x : Nat, F'[x]? = some true → F[x]? = some true ∨ (x ∈ ops' ∧ (x : Int) ∈ ns))) ns.length rfl (by omega) ?_ ?_
      · refine ⟨0, .slice (some ⟨id, 0, none⟩) w w, ops0, F, rfl, by omega, (by simp (disch := first | assumption | omega | rfl | decide) only [go_sem, seval, tys] <;> rfl), Nat.le_refl _, hT2.keep (by omega) hkp, hrL, by rw [rowOf_keep (hkp _ (by omega))]; exact qF, ⟨id, cs, k1, by omega, by rw [hw], by rw [rowOf_keep (hkp _ (by omega))]; exact q4, by omega, by rw [hw]; exact htk0⟩, fun b o e => ?_, hFl, by rw [hw], fun x hx => hop x (List.mem_append_left _ hx), fun x hx => hx, fun x hx => hx, fun z hz => by simp at hz, fun x hx => .inl hx⟩
        have := hLn b o e
        intro len c hh
        injection hh with hh
        injection hh with hh
        injection hh with hh
        omega
      · rintro mm fr2 _ h4 n4 ⟨q, O', ops', F', rfl, hq, rfl, hn4, hT4, hrL4, qF4, ⟨id', cs', j1, j2, rfl, j4, j5, j6⟩, hbl, hFl', hms, hop', hsub, hmo, htq, hnew⟩
        by_cases hql : q < ns.length
        · obtain ⟨lid, lof, hLA, -, cz⟩ := int_at hrL4 hql
          subst hLA
          have hzb := hns ns[q] (List.getElem_mem _)
          obtain ⟨z, hz⟩ := Int.eq_ofNat_of_zero_le hzb.1
          rw [hz] at cz hzb
          have htk1 : ns.take (q + 1) = ns.take q ++ [(z : Int)] := by rw [List.take_succ_eq_append_getElem hql, hz]
          have hzl : z < F'.length := by omega
          have cF := cellAt_row (off := z) qF4
          rw [bw_lget (List.getElem?_eq_getElem hzl)] at cF
          cases hFz : F'[z]
          · have hFz2 : F'[z]? = some false := by rw [List.getElem?_eq_getElem hzl, hFz]
            rw [hFz] at cF
            have w0 := rwOf_row qF4
            have w4 := rwOf_row j4
            have hov2 := bw_set (l := F') (i := z) hzl
            have hcs := count_set_t hFz2
            have hne : lid ≠ id' := fun e => hbl lid lof rfl _ _ (by rw [e])
            (repeat' first | (with_reducible first | apply x_seq | apply k_then | apply x_block | apply x_skip | apply x_ret | apply x_exit | apply x_label | apply k_pass | apply k_hit | apply k_miss rfl | apply k_out | apply k_turned | refine x_text fun K' hK => ?_) | ((with_reducible apply o_nil); refine hK _ _ _ ?_; clear hK) | ((with_reducible apply o_apR (t := 31) apT31 w_none); (case hs => (simp (disch := first | assumption | omega | rfl | decide) only [go_sem, seval, tys, w4] <;> rfl)); (case hy => (simp (disch := first | assumption | omega | rfl | decide) only [go_sem, seval, tys, w4] <;> rfl)); (case hsrc => exact src_row (rowOf_same _ _ _ _ _) rfl); (case hr => (simp (disch := first | assumption | omega | rfl | decide) only [go_sem, seval, tys, w4] <;> rfl)); (case hc => exact rfl); (case hm => omega); (case hli => omega); (case hln => omega); (case hcs => omega)) | ((first | ((with_reducible apply o_pure w_none); (case hp => exact rfl); (case' he => intro h n)) | (with_reducible first | apply o_eff w_none | apply o_guard rfl | apply x_cond | apply k_e1 rfl | apply k_e2 rfl | apply k_e0 rfl | apply k_e3 rfl | apply k_e4 rfl)); (case he => (simp (disch := first | assumption | omega | rfl | decide) only [go_sem, seval, tys, cz, cF, w0, w4, hov2] <;> rfl)); (try (case hok => first | exact rfl | exact ok_w (by omega) rfl)); all_goals (try (intro hb; (try (simp only [hbs, reduceCtorEq] at hb)); try (exfalso; omega)))) | ((with_reducible apply o_undef rfl); (case hb => (simp (disch := first | assumption | omega | rfl | decide) only [go_sem, seval, tys]))))
            have hset : ∀ x : Nat, F'[x]? = some true → (F'.set z true)[x]? = some true := fun x hx => by
              rw [List.getElem?_set]
              by_cases e : z = x
              · rw [if_pos e, if_pos hzl]
              · rw [if_neg e]; exact hx
            have hsetz : (F'.set z true)[z]? = some true := by rw [List.getElem?_set, if_pos rfl, if_pos hzl]
            have hLz := hLn lid lof rfl
            refine k_round (ns.length - (q + 1)) (by omega) ⟨q + 1, .slice (some ⟨n4 + 1, 0, none⟩) (ops'.length + 1) (ops'.length + 1), ops' ++ [z], F'.set z true, rfl, by omega, (by simp (disch := first | assumption | omega | rfl | decide) only [go_sem, seval, tys] <;> rfl), by omega, (((hT4.set (by omega) _).set (by omega) _).set (by omega) _).set (Nat.le_refl _) _, (((hrL4.set (by omega) _).kill (fun b o e => by injection e with e; injection e with e1; omega) _).set (by omega) _).kill (fun b o e => by injection e with e; injection e with e1; omega) _, rowOf_same _ _ _ _ _,
              ⟨n4 + 1, cs'.take ops'.length ++ [.int .i64 (z : Int)], by omega, by omega, by rw [List.length_append]; rfl, by rw [rowOf_ne _ _ (by omega)]; exact rowOf_same _ _ _ _ _, by simp; omega, ?_⟩, fun b o e => blk_new (by injection e with e; injection e with e1; omega), by rw [List.length_set]; exact hFl', by rw [List.length_append, List.length_singleton]; omega, fun x hx => ?_, fun x hx => List.mem_append_left _ (hsub x hx), fun x hx => hset x (hmo x hx), fun x hx => ?_, fun x hx => ?_⟩
            · rw [List.length_append, j6, cn_app, iv_app, List.take_of_length_le (by rw [List.length_append, iv_length, cn_length]; exact Nat.le_refl _)]
              rfl
            · rcases List.mem_append.1 hx with hx | hx
              · exact ⟨(hop' x hx).1, hset x (hop' x hx).2⟩
              · obtain rfl := List.mem_singleton.1 hx
                exact ⟨by omega, hsetz⟩
            · rw [htk1] at hx
              rcases List.mem_append.1 hx with hx | hx
              · exact hset x (htq x hx)
              · have := List.mem_singleton.1 hx
                obtain rfl : x = z := by omega
                exact hsetz
            · rw [List.getElem?_set] at hx
              by_cases e : z = x
              · subst e
                exact .inr ⟨List.mem_append_right _ (List.mem_singleton.2 rfl), by rw [← hz]; exact List.getElem_mem _⟩
              · rw [if_neg e] at hx
                rcases hnew x hx with h1 | ⟨h1, h2⟩
                · exact .inl h1
                · exact .inr ⟨List.mem_append_left _ h1, h2⟩
          · have hFz2 : F'[z]? = some true := by rw [List.getElem?_eq_getElem hzl, hFz]
            rw [hFz] at cF
            (repeat' first | (with_reducible first | apply x_seq | apply k_then | apply x_block | apply x_skip | apply x_ret | apply x_exit | apply x_label | apply k_pass | apply k_hit | apply k_miss rfl | apply k_out | apply k_turned | refine x_text fun K' hK => ?_) | ((with_reducible apply o_nil); refine hK _ _ _ ?_; clear hK) | fail | ((first | ((with_reducible apply o_pure w_none); (case hp => exact rfl); (case' he => intro h n)) | (with_reducible first | apply o_eff w_none | apply o_guard rfl | apply x_cond | apply k_e1 rfl | apply k_e2 rfl | apply k_e0 rfl | apply k_e3 rfl | apply k_e4 rfl)); (case he => (simp (disch := first | assumption | omega | rfl | decide) only [go_sem, seval, tys, cz, cF] <;> rfl)); (try (case hok => first | exact rfl | exact ok_w (by omega) rfl)); all_goals (try (intro hb; (try (simp only [hbs, reduceCtorEq] at hb)); try (exfalso; omega)))) | ((with_reducible apply o_undef rfl); (case hb => (simp (disch := first | assumption | omega | rfl | decide) only [go_sem, seval, tys]))))
            refine k_round (ns.length - (q + 1)) (by omega) ⟨q + 1, _, ops', F', rfl, by omega, (by simp (disch := first | assumption | omega | rfl | decide) only [go_sem, seval, tys] <;> rfl), hn4, hT4, hrL4, qF4, ⟨id', cs', j1, j2, rfl, j4, j5, j6⟩, hbl, hFl', hms, hop', hsub, hmo, fun x hx => ?_, hnew⟩
            rw [htk1] at hx
            rcases List.mem_append.1 hx with hx | hx
            · exact htq x hx
            · have := List.mem_singleton.1 hx
              obtain rfl : x = z := by omega
              exact hFz2
        · obtain rfl : q = ns.length := by omega
          rw [List.take_length] at htq
          (repeat' first | (with_reducible first | apply x_seq | apply k_then | apply x_block | apply x_skip | apply x_ret | apply x_exit | apply x_label | apply k_pass | apply k_hit | apply k_miss rfl | apply k_out | apply k_turned | refine x_text fun K' hK => ?_) | ((with_reducible apply o_nil); refine hK _ _ _ ?_; clear hK) | fail | ((first | ((with_reducible apply o_pure w_none); (case hp => exact rfl); (case' he => intro h n)) | (with_reducible first | apply o_eff w_none | apply o_guard rfl | apply x_cond | apply k_e1 rfl | apply k_e2 rfl | apply k_e0 rfl | apply k_e3 rfl | apply k_e4 rfl)); (case he => (simp (disch := first | assumption | omega | rfl | decide) only [go_sem, seval, tys] <;> rfl)); (try (case hok => first | exact rfl | exact ok_w (by omega) rfl)); all_goals (try (intro hb; (try (simp only [hbs, reduceCtorEq] at hb)); try (exfalso; omega)))) | ((with_reducible apply o_undef rfl); (case hb => (simp (disch := first | assumption | omega | rfl | decide) only [go_sem, seval, tys]))))
          refine k_round (ops'.length + F'.count false) (by omega) ⟨F', ops', _, rfl, by omega, (by simp (disch := first | assumption | omega | rfl | decide) only [go_sem, seval, tys] <;> rfl), by omega, hT4, qF4, ⟨id', cs', j1, j2, rfl, j4, j5, j6⟩, hFl', hmo _ hFi, hop', fun x hx hx2 => ?_, fun x hx hx2 => ?_⟩
          · rcases hnew x hx2 with h1 | ⟨-, h1⟩
            · exact hsd x hx h1
            · exact .step (hsd y hyk.1 hyk.2) hyk.1 (by rw [hnse]; exact h1)
          · rcases hnew x hx2 with h1 | ⟨h1, -⟩
            · rcases hcl x hx h1 with h2 | h2
              · rcases List.mem_append.1 h2 with h2 | h2
                · exact .inl (hsub x h2)
                · obtain rfl := List.mem_singleton.1 h2
                  exact .inr fun z hz => htq z (by rw [← hnse]; exact hz)
              · exact .inr fun z hz => hmo z (h2 z hz)
            · exact .inl h1
end Go.Proofs.Ytgdokjfjmcleeaa.Ce
