/- Package region by symbolic runs: Bytes; texts in a heap. -/
import Derived.Test.YtcdedegjpfemmaaQf
namespace Go.Proofs.Ytcdedegjpfemmaa.Ce
open Go.RowKit
set_option linter.unusedVariables false
set_option linter.unusedSimpArgs false
attribute [local go_sem ↓] lv_tmp fput_some fput_none fputs_cons fputs_nil mix_in mix_out finit_zero finit_succ cellAt_same cellAt_ne cellsAt_same cellsAt_ne rwOf_same rwOf_ne' rowOf_same rowOf_ne
attribute [local go_sem] a_move a_assign a_pick a_alloc a_box a_build a_buildSlice bif_cok a_load a_store a_bin a_un a_convert a_func a_makeMap a_makeSlice a_slice a_fieldAddr a_indexAddr a_index a_extract a_len a_append a_copy a_max a_min lv_int lv_bool lv_str lv_func lv_nil b_add b_sub b_mul b_eql b_neq b_lss b_leq b_gtr b_geq b_quo b_rem b_shl8 b_or8 b_shr u_not p_pick m_max m_min x_tuple mVO_some lget_zero lget_succ ltake_zero ltake_cons ldrop_zero ldrop_cons overAt_zero overAt_cons over_nil over_cons Hp.set_set fill_nil fill_cons c_int1 c_bool1 c_str1 c_ptr1 c_sli1 c_map1 c_agg c_agg' cok_int cok_bool cok_str cok_ptr cok_sli cok_map List.length_cons List.length_nil List.all_cons List.all_nil Bool.and_true Bool.true_and Bool.and_self beq_self_eq_true wrap_i64 wrap_u64 wrap_u8 tdiv_pos tmod_pos Nat.zero_add Nat.add_zero Nat.mul_one Nat.zero_mul List.take_zero List.take_nil Option.bind_some Option.map_some Option.map_none cond_true cond_false List.map_cons List.map_nil List.cons_append List.nil_append Int.toNat_natCast Int.zero_add Int.add_zero Int.mul_zero Int.mul_one Bool.not_true Bool.not_false r_tmp r_cell
set_option maxRecDepth 100000
set_option maxHeartbeats 2000000

theorem RdH.sub {h : Hp} {B id off p t : Nat} {vs : List Value} (hr : RdH h B (some ⟨id, off, none⟩) vs) : RdH h B (some ⟨id, off + p, none⟩) ((vs.drop p).take t) := by
  refine ⟨fun i j e => ?_, ?_⟩
  · injection e with e
    injection e with e1 e2
    subst e1
    exact hr.1 _ _ rfl
  · rcases hr.2 with hn | ⟨i, j, e, hc⟩
    · left; rw [hn]; simp
    · injection e with e
      injection e with e1 e2
      subst e1; subst e2
      refine .inr ⟨id, off + p, rfl, fun k v hk => ?_⟩
      rw [Nat.add_assoc]
      refine hc (p + k) v ?_
      rw [List.getElem?_take] at hk
      split at hk
      · rwa [List.getElem?_drop] at hk
      · cases hk
theorem bv_sub (xs : List UInt8) (p t : Nat) : ((bv xs).drop p).take t = bv ((xs.drop p).take t) := by
  unfold bv
  rw [← List.map_drop, ← List.map_take]
theorem putL_eq (xs ys : List UInt8) : putL xs ys = xs ++ (ys ++ List.replicate ((sizeI ys.length).toNat - ys.length) 0) := by
  have hs := sizeI_ge (ys.length : Int)
  unfold putL Go.Proofs.Ytcdedegjpfemmaa.put grown
  rw [List.take_left', List.drop_append, List.drop_of_length_le (by omega), List.nil_append, List.drop_replicate]
  · congr 3
    omega
  · rfl
theorem hpS_pre {ts : List (List UInt8)} {i : Nat} : ∀ {j : Nat}, i ≤ j → j ≤ ts.length → ∃ z, hpS ts j = hpS ts i ++ z := by
  intro j
  induction j with
  | zero => intro h1 h2; exact ⟨[], by rw [show i = 0 from by omega, List.append_nil]⟩
  | succ j ih =>
    intro h1 h2
    rcases Nat.eq_or_lt_of_le h1 with h3 | h3
    · exact ⟨[], by rw [h3, List.append_nil]⟩
    · obtain ⟨z, hz⟩ := ih (by omega) (by omega)
      rw [hpS_succ (by omega), putL_eq, hz]
      exact ⟨_, List.append_assoc _ _ _⟩
theorem hpS_text {ts : List (List UInt8)} {i : Nat} (hi : i < ts.length) : ((hpS ts ts.length).drop (hpS ts i).length).take (ts[i]).length = ts[i] := by
  obtain ⟨z, hz⟩ := hpS_pre (ts := ts) (i := i + 1) (j := ts.length) hi (Nat.le_refl _)
  rw [hz, hpS_succ hi, putL_eq, List.append_assoc, List.drop_left' rfl, List.append_assoc, List.take_left' rfl]
theorem hpS_fit {ts : List (List UInt8)} {i : Nat} (hi : i < ts.length) : (hpS ts i).length + (ts[i]).length ≤ (hpS ts ts.length).length := by
  obtain ⟨z, hz⟩ := hpS_pre (ts := ts) (i := i + 1) (j := ts.length) hi (Nat.le_refl _)
  rw [hz, hpS_succ hi, putL_eq]
  simp
theorem hpS_lt {ts : List (List UInt8)} {i : Nat} (hi : i < ts.length) : (hpS ts i).length < (hpS ts (i + 1)).length := by
  have hs := sizeI_ge ((ts[i]).length : Int)
  rw [hpS_succ hi, putL_length]
  omega
theorem hpS_app {ts us : List (List UInt8)} {i : Nat} (hi : i ≤ ts.length) : hpS (ts ++ us) i = hpS ts i := by
  unfold hpS
  rw [List.take_append_of_le_length hi]
theorem wsS_app {ts us : List (List UInt8)} {i : Nat} (hi : i ≤ ts.length) : wsS (ts ++ us) i = wsS ts i := by
  unfold wsS
  apply List.map_congr_left
  intro j hj
  rw [hpS_app (by have := List.mem_range.1 hj; omega)]
theorem wsS_get {ts : List (List UInt8)} {i N : Nat} (hi : i < N) : (wv (wsS ts N))[i]? = some (.int .u64 (65536 + (hpS ts i).length)) := by
  unfold wv wsS
  simp [hi]
theorem fitsT_app {ts us : List (List UInt8)} {lim : Int} (h : fitsT (ts ++ us) lim (ts ++ us).length) : fitsT ts lim ts.length := by
  intro j hj _
  have := h j (by rw [List.length_append]; omega) (by rw [List.length_append]; omega)
  rw [hpS_app (by omega)] at this
  rwa [List.getElem_append_left hj] at this
theorem textsE_app {ts us : List (List UInt8)} {lim : Int} (h : textsE (ts ++ us) lim = 0) : textsE ts lim = 0 := by
  unfold textsE at h ⊢
  split at h
  · rename_i h1
    rw [if_pos h1]
    split at h
    · cases h
    · rename_i h2
      rw [List.length_append] at h2
      rw [if_neg (by omega)]
      split at h
      · cases h
      · rename_i h3
        rw [if_neg (fun ⟨t, ht, hh⟩ => h3 ⟨t, List.mem_append_left _ ht, hh⟩)]
        split at h
        · rename_i h4
          rw [if_pos (fitsT_app h4)]
        · cases h
  · cases h
theorem textsE_fits {ts : List (List UInt8)} {lim : Int} (h : textsE ts lim = 0) : (0 ≤ lim ∧ lim ≤ 16384) ∧ fitsT ts lim ts.length := by
  unfold textsE at h
  split at h
  · rename_i h1
    split at h
    · cases h
    · split at h
      · cases h
      · split at h
        · rename_i h4; exact ⟨h1, h4⟩
        · cases h
  · cases h
theorem tv_app (ts us : List (List UInt8)) : tv ts ++ tv us = tv (ts ++ us) := by unfold tv; rw [List.map_append]
theorem tv_cok (ts : List (List UInt8)) : (tv ts).all cok = true := by simp [tv, cok]

variable (k d cl : Nat) (h : Hp) (n : Nat)
theorem bytes_ok (id : Nat) (zs ys : List UInt8) (m c t : Nat) (a : Int) (hm : m = zs.length) (hy : (zs.drop (a - 65536).toNat).take t = ys) (hyl : ys.length = t) (hr : RdH h n (some ⟨id, 0, none⟩) (bv zs)) (hc : chkR 65536 m = 0) (ha0 : 65536 ≤ a) (ha1 : a + t ≤ 65536 + m) :
    Sp Try.prog (acall Try.prog WW k (d + 4)) cl 26 [.agg ⟨[.int .u64 65536, .slice (some ⟨id, 0, none⟩) m c]⟩, .int .u64 a, .int .i64 t] h n fun v h' n' => v = .tuple ⟨[.slice (some ⟨n, 0, none⟩) t t, .int .i64 0]⟩ ∧ h' = h.set n (.row 5 false (bv ys)) ∧ n' = n + 1 := by
  subst hm; subst hyl
  obtain ⟨g2, g3, g4, g5⟩ := chkR_ok hc
  have hh := hasS_in (b := 65536) (m := zs.length) (a := a) (w := ys.length) hc (by omega) ha0 ha1
  have hi : indexS 65536 zs.length a ys.length = (a - 65536, true) := by unfold indexS; grind
  have hsub : ∀ x, RdH (h.set n x) (n + 1) (some ⟨id, (a - 65536).toNat, none⟩) (bv ys) := fun x => by
    have := ((hr.set (Nat.le_refl n) x).more (Nat.le_succ n)).sub (p := (a - 65536).toNat) (t := ys.length)
    rw [bv_sub, hy, Nat.zero_add] at this
    exact this
  have e1 : (a - 65536 + (ys.length : Int)).toNat - (a - 65536).toNat = ys.length := by omega
  refine enter Try.func26 (by kernel_rfl) rfl (by kernel_rfl) rfl rfl rfl ?_
  (repeat' first | (with_reducible refine x_seq ?_) | (with_reducible refine k_then ?_) | (with_reducible refine x_block ?_) | (with_reducible refine x_skip ?_) | (with_reducible refine x_ret ?_) | (with_reducible refine x_exit ?_) | (with_reducible refine x_label ?_) | (with_reducible refine k_pass ?_) | (with_reducible refine k_hit ?_) | (with_reducible refine k_miss rfl ?_) | (with_reducible refine k_out ?_) | (with_reducible refine k_turned ?_) | (with_reducible refine x_text fun K' hK => ?_) | ((with_reducible refine o_nil ?_); refine hK _ _ _ ?_; clear hK) | ((with_reducible apply o_callF (g := 31) w_none); (case ha => (simp (disch := first | assumption | omega | rfl | decide) only [go_sem, Nat.reduceBEq, ↓reduceIte, Nat.reduceEqDiff, Nat.reduceAdd, Nat.reduceMul, Int.reduceToNat, Int.reduceAdd, Int.reduceMul, Int.reduceSub, tys]; exact rfl)); (case hs => exact has_ev (h0 := by omega) (h1 := by omega) (hm := by omega) (ha0 := by omega) (ha1 := by omega) (hw0 := by omega) (hw1 := by omega) ..); (case' hk => rintro _ h' n' ⟨rfl, rfl, rfl⟩)) | ((with_reducible apply o_callF (g := 63) w_none); (case ha => (simp (disch := first | assumption | omega | rfl | decide) only [go_sem, Nat.reduceBEq, ↓reduceIte, Nat.reduceEqDiff, Nat.reduceAdd, Nat.reduceMul, Int.reduceToNat, Int.reduceAdd, Int.reduceMul, Int.reduceSub, tys]; exact rfl)); (case hs => exact index_ev (hv := hc) (ha0 := by omega) (ha1 := by omega) (hw0 := by omega) (hw1 := by omega) ..); (case' hk => rintro _ h' n' ⟨rfl, rfl, rfl⟩)) | ((with_reducible apply o_callF (g := 64) w_none); (case ha => (simp (disch := first | assumption | omega | rfl | decide) only [go_sem, Nat.reduceBEq, ↓reduceIte, Nat.reduceEqDiff, Nat.reduceAdd, Nat.reduceMul, Int.reduceToNat, Int.reduceAdd, Int.reduceMul, Int.reduceSub, tys]; exact rfl)); (case hs => ((apply clone_ev (xs := ys); (case hr => exact hsub _); (case hm => omega)))); (case' hk => rintro _ h' n' ⟨rfl, rfl, rfl⟩)) | ((with_reducible apply o_pure w_none); (case hp => exact rfl); (case he => (intro h n; simp (disch := first | assumption | omega | rfl | decide) only [go_sem, Nat.reduceBEq, ↓reduceIte, Nat.reduceEqDiff, Nat.reduceAdd, Nat.reduceMul, Int.reduceToNat, Int.reduceAdd, Int.reduceMul, Int.reduceSub, tys, hh, hi, e1]; exact rfl))) | ((with_reducible apply o_eff w_none); (case he => (simp (disch := first | assumption | omega | rfl | decide) only [go_sem, Nat.reduceBEq, ↓reduceIte, Nat.reduceEqDiff, Nat.reduceAdd, Nat.reduceMul, Int.reduceToNat, Int.reduceAdd, Int.reduceMul, Int.reduceSub, tys, hh, hi, e1]; exact rfl)); (case hok => first | exact rfl | exact ok_w (by omega) rfl)) | ((with_reducible apply o_guard rfl); (case hb => (simp (disch := first | assumption | omega | rfl | decide) only [go_sem, Nat.reduceBEq, ↓reduceIte, Nat.reduceEqDiff, Nat.reduceAdd, Nat.reduceMul, Int.reduceToNat, Int.reduceAdd, Int.reduceMul, Int.reduceSub, tys, hh, hi, e1]; exact rfl)); (case' h1 => intro hb; (try (simp only [decide_eq_true_eq, decide_eq_false_iff_not, beq_iff_eq, bne_iff_ne, beq_eq_false_iff_ne, bne_eq_false_iff_eq, Bool.not_eq_true', Bool.not_eq_false', Bool.not_eq_true, Bool.not_true, Bool.not_false, Bool.true_eq_false, Bool.false_eq_true, reduceCtorEq, gt_iff_lt, ge_iff_le, Int.not_lt, Int.not_le, ne_eq, not_true_eq_false, not_false_eq_true, Decidable.not_not] at hb)); try (exfalso; omega)); (case' h2 => intro hb; (try (simp only [decide_eq_true_eq, decide_eq_false_iff_not, beq_iff_eq, bne_iff_ne, beq_eq_false_iff_ne, bne_eq_false_iff_eq, Bool.not_eq_true', Bool.not_eq_false', Bool.not_eq_true, Bool.not_true, Bool.not_false, Bool.true_eq_false, Bool.false_eq_true, reduceCtorEq, gt_iff_lt, ge_iff_le, Int.not_lt, Int.not_le, ne_eq, not_true_eq_false, not_false_eq_true, Decidable.not_not] at hb)); try (exfalso; omega))) | ((with_reducible apply o_undef rfl); (case hb => (simp (disch := first | assumption | omega | rfl | decide) only [go_sem, Nat.reduceBEq, ↓reduceIte, Nat.reduceEqDiff, Nat.reduceAdd, Nat.reduceMul, Int.reduceToNat, Int.reduceAdd, Int.reduceMul, Int.reduceSub, tys]))) | ((with_reducible apply x_cond); (case hb => (simp (disch := first | assumption | omega | rfl | decide) only [go_sem, Nat.reduceBEq, ↓reduceIte, Nat.reduceEqDiff, Nat.reduceAdd, Nat.reduceMul, Int.reduceToNat, Int.reduceAdd, Int.reduceMul, Int.reduceSub, tys, hh, hi, e1]; exact rfl)); (case' h1 => intro hb; (try (simp only [decide_eq_true_eq, decide_eq_false_iff_not, beq_iff_eq, bne_iff_ne, beq_eq_false_iff_ne, bne_eq_false_iff_eq, Bool.not_eq_true', Bool.not_eq_false', Bool.not_eq_true, Bool.not_true, Bool.not_false, Bool.true_eq_false, Bool.false_eq_true, reduceCtorEq, gt_iff_lt, ge_iff_le, Int.not_lt, Int.not_le, ne_eq, not_true_eq_false, not_false_eq_true, Decidable.not_not] at hb)); try (exfalso; omega)); (case' h2 => intro hb; (try (simp only [decide_eq_true_eq, decide_eq_false_iff_not, beq_iff_eq, bne_iff_ne, beq_eq_false_iff_ne, bne_eq_false_iff_eq, Bool.not_eq_true', Bool.not_eq_false', Bool.not_eq_true, Bool.not_true, Bool.not_false, Bool.true_eq_false, Bool.false_eq_true, reduceCtorEq, gt_iff_lt, ge_iff_le, Int.not_lt, Int.not_le, ne_eq, not_true_eq_false, not_false_eq_true, Decidable.not_not] at hb)); try (exfalso; omega))) | ((with_reducible apply k_end rfl); (case hv => first | exact r_none | (apply r_one; simp (disch := first | assumption | omega | rfl | decide) only [go_sem, Nat.reduceBEq, ↓reduceIte, Nat.reduceEqDiff, Nat.reduceAdd, Nat.reduceMul, Int.reduceToNat, Int.reduceAdd, Int.reduceMul, Int.reduceSub, tys, hh, hi, e1]; exact rfl) | (apply r_two <;> first | (simp (disch := first | assumption | omega | rfl | decide) only [go_sem, Nat.reduceBEq, ↓reduceIte, Nat.reduceEqDiff, Nat.reduceAdd, Nat.reduceMul, Int.reduceToNat, Int.reduceAdd, Int.reduceMul, Int.reduceSub, tys, hh, hi, e1]; exact rfl) | exact rfl) | (apply r_three <;> first | (simp (disch := first | assumption | omega | rfl | decide) only [go_sem, Nat.reduceBEq, ↓reduceIte, Nat.reduceEqDiff, Nat.reduceAdd, Nat.reduceMul, Int.reduceToNat, Int.reduceAdd, Int.reduceMul, Int.reduceSub, tys, hh, hi, e1]; exact rfl) | exact rfl))))
  refine sw_row (by simp (disch := first | assumption | omega) only [idV_tuple, idV_agg, idV_int, idV_bool, idV_str, idV_slice, idV_nil, idV1_agg, idV1_int, idV1_bool, idV1_str, idV1_slice, idV1_nil, idA_int, idA_bool, idA_str, idA_slice, idA_nil, idA_old, idV_old, idV1_old, ble_t, ble_f, cond_true, cond_false, List.flatMap_cons, List.flatMap_nil, List.append_nil, List.nil_append, List.cons_append]; exact rfl) rfl (by omega) (by simp (disch := first | assumption | omega | rfl | decide) only [go_sem, Nat.reduceBEq, ↓reduceIte, Nat.reduceEqDiff, Nat.reduceAdd, Nat.reduceMul, Int.reduceToNat, Int.reduceAdd, Int.reduceMul, Int.reduceSub, tys]; exact rfl) (bv_idA _ _) (by simp only [reV_tuple, reV_agg, reV_slice, reV1_agg, reV1_int, reV1_bool, reV1_str, reV1_slice, reV1_snil, reA_int, reA_bool, reA_str, reA_slice, reA_snil, reN_hit, List.map_cons, List.map_nil]; exact rfl) ?_
  exact ⟨rfl, rfl, rfl⟩
end Go.Proofs.Ytcdedegjpfemmaa.Ce
