/- Cells: symbolic runs of both sides. -/
import Derived.Test.YtgdokjfjmcleeaaNe
import Derived.Test.YtgdokjfjmcleeaaLn
import Derived.Test.YtgdokjfjmcleeaaMc
namespace Go.Proofs.Ytgdokjfjmcleeaa.Ce
open Go.RowKit
set_option linter.unusedVariables false
set_option linter.unusedSimpArgs false
attribute [local go_sem ↓] lv_tmp fput_some fput_none fputs_cons fputs_nil mix_in mix_out finit_zero finit_succ cellAt_same cellAt_ne cellsAt_same cellsAt_ne rwOf_same rwOf_ne' rowOf_same rowOf_ne
attribute [local go_sem] a_move a_assign a_pick a_alloc a_box a_build a_buildSlice bif_cok a_load a_store a_bin a_un a_convert a_func a_makeMap a_makeSlice a_slice a_fieldAddr a_indexAddr a_index a_extract a_len a_append a_copy a_max a_min lv_int lv_bool lv_str lv_func lv_nil b_add b_sub b_mul b_eql b_neq b_lss b_leq b_gtr b_geq b_quo b_rem b_shl8 b_or8 b_shr u_not p_pick m_max m_min x_tuple mVO_some lget_zero lget_succ ltake_zero ltake_cons ldrop_zero ldrop_cons overAt_zero overAt_cons over_nil over_cons Hp.set_set fill_nil fill_cons c_int1 c_bool1 c_str1 c_ptr1 c_sli1 c_map1 c_agg c_agg' cok_int cok_bool cok_str cok_ptr cok_sli cok_map List.length_cons List.length_nil List.all_cons List.all_nil Bool.and_true Bool.true_and Bool.and_self beq_self_eq_true wrap_i64 wrap_u64 wrap_u8 tdiv_pos tmod_pos Nat.zero_add Nat.add_zero Nat.mul_one Nat.zero_mul List.take_zero List.take_nil Option.bind_some Option.map_some Option.map_none cond_true cond_false List.map_cons List.map_nil List.cons_append List.nil_append Int.toNat_natCast Int.zero_add Int.add_zero Int.mul_zero Int.mul_one Bool.not_true Bool.not_false r_tmp r_cell
set_option maxRecDepth 100000
set_option maxHeartbeats 2000000

theorem fine_some {m i : Nat} {t : Tp} (h : fineB m i t = true) (h5 : t.kd = 5) : 0 < t.fs.length := by
  rw [fineB_5 h5] at h
  simp at h
  omega
theorem cells_ne {C : Int} {T : List Tp} (hF : Fine T) : ∀ (f i : Nat) (off : Int), i < T.length → i < f → cellsR C T f i off ≠ []
  | 0, _, _, _, h => absurd h (by omega)
  | f + 1, i, off, hi, hf => by
    have hfi := hF i hi
    rw [cellsR_at hi]
    by_cases h6 : (T[i]).kd = 6
    · have ha := fine_arr hfi h6
      obtain ⟨x, hx⟩ := Int.eq_ofNat_of_zero_le ha.1
      have := cells_ne (C := C) hF f x (off + ((0 : Nat) : Int) * ((eRow C T).at_ (x : Int)).1) (by omega) (by omega)
      rw [if_pos h6, hx]
      intro hh
      exact this (List.flatMap_eq_nil_iff.1 hh 0 (List.mem_range.2 (by omega)))
    · rw [if_neg h6]
      by_cases h5 : (T[i]).kd = 5
      · have hj : 0 < (T[i]).fs.length := fine_some hfi h5
        have hx := fine_fld hfi hj
        obtain ⟨x, hx2⟩ := Int.eq_ofNat_of_zero_le hx.1
        have := cells_ne (C := C) hF f x (off + (layR C (eRow C T) (T[i]).fs).1.getD 0 0) (by omega) (by omega)
        rw [if_pos h5]
        intro hh
        have hh := List.flatMap_eq_nil_iff.1 hh 0 (List.mem_range.2 hj)
        rw [List.getD_eq_getElem?_getD (l := (T[i]).fs), List.getElem?_eq_getElem hj, Option.getD_some, hx2] at hh
        exact this hh
      · rw [if_neg h5]
        simp
/-- the cells of a type -/
def cellsT (T : List Tp) (j : Nat) : List (Int × Int) := cellsR 1000000 T 32 j 0
theorem szR_0 {C : Int} {T : List Tp} {i : Int} (h : (szR C T i).2.2 = 0) : ChkT T ∧ 0 ≤ i ∧ i < T.length ∧ ((eRow C T).at_ i).1 ≤ 256 ∧ szR C T i = (((eRow C T).at_ i).1, ((eRow C T).at_ i).2, 0) := by
  unfold szR at h ⊢
  by_cases hC : ChkT T
  · rw [if_pos hC] at h ⊢
    by_cases hi : 0 ≤ i ∧ i < T.length
    · rw [if_pos hi] at h ⊢
      by_cases hb : 256 < ((eRow C T).at_ i).1
      · rw [if_pos hb] at h; cases h
      · rw [if_neg hb]; exact ⟨hC, hi.1, hi.2, by omega, rfl⟩
    · rw [if_neg hi] at h; cases h
  · rw [if_neg hC] at h; cases h
variable (k d cl : Nat) (h : Hp) (n : Nat)
theorem lasked_err (hk : 30000 ≤ k) (A : Option Addr) (T : List Tp) (c : Nat) (hT : TabH h n A T) (hS : ∀ t ∈ T, t.fs.length ≤ 20000) (hm : T.length ≤ 9223372036854775807) (i : Int) (he : (szR 1048576 T i).2.2 ≠ 0) :
    Sp Try.prog (acall Try.prog WW k (d + 7)) cl 56 [.slice A T.length c, .int .i64 i] h n fun v h' n' => v = .tuple ⟨[.slice none 0 0, .int .i64 (szR 1048576 T i).2.2]⟩ ∧ h' = h ∧ n' = n := by
  by_cases hC : ChkT T
  · by_cases hi : 0 ≤ i ∧ i < T.length
    · by_cases hb : 256 < ((eRow 1048576 T).at_ i).1
      · rw [show szR 1048576 T i = (0, 0, 16) by unfold szR; rw [if_pos hC, if_pos hi, if_pos hb]]
        exact lasked_big k d cl h n hk A T c hT hS hm i hC hi hb
      · exact absurd (show (szR 1048576 T i).2.2 = 0 by unfold szR; rw [if_pos hC, if_pos hi, if_neg hb]) he
    · rw [show szR 1048576 T i = (0, 0, 2) by unfold szR; rw [if_pos hC, if_neg hi]]
      exact lasked_arg k d cl h n hk A T c hT hS hm i hC hi
  · rw [show szR 1048576 T i = (0, 0, 8) by unfold szR; rw [if_neg hC]]
    exact lasked_bad k d cl h n hk A T c hT hS hm i hC
theorem lcells_err (hk : 30000 ≤ k) (A : Option Addr) (T : List Tp) (c : Nat) (hT : TabH h n A T) (hS : ∀ t ∈ T, t.fs.length ≤ 20000) (hm : T.length ≤ 9223372036854775807) (i : Int) (he : (szR 1048576 T i).2.2 ≠ 0) :
    Sp Try.prog (acall Try.prog WW k (d + 40)) cl 27 [.slice A T.length c, .int .i64 i] h n fun v h' n' => v = .tuple ⟨[.slice none 0 0, .int .i64 (szR 1048576 T i).2.2]⟩ ∧ h' = h ∧ n' = n := by
  obtain ⟨e, hee⟩ : ∃ e, (szR 1048576 T i).2.2 = e := ⟨_, rfl⟩
  have hA := lasked_err k (d + 32) n h n hk A T c hT hS hm i he
  rw [hee] at he hA ⊢
  refine enter Try.func27 (by kernel_rfl) rfl (by kernel_rfl) rfl rfl rfl ?_
  (repeat' first | (with_reducible first | apply x_seq | apply k_then | apply x_block | apply x_skip | apply x_ret | apply x_exit | apply x_label | apply k_pass | apply k_hit | apply k_miss rfl | apply k_out | apply k_turned | refine x_text fun K' hK => ?_) | ((with_reducible apply o_nil); refine hK _ _ _ ?_; clear hK) | ((with_reducible apply o_callF (g := 56) w_none); (case ha => (simp (disch := first | assumption | omega | rfl | decide) only [go_sem, Nat.reduceBEq, ↓reduceIte, Nat.reduceEqDiff, Nat.reduceAdd, Nat.reduceMul, Int.reduceToNat, Int.reduceAdd, Int.reduceMul, Int.reduceSub, tys]; exact rfl)); (case hs => (exact hA)); (case' hk => rintro _ h' n' ⟨rfl, rfl, rfl⟩)) | ((first | ((with_reducible apply o_pure w_none); (case hp => exact rfl); (case' he => intro h n)) | (with_reducible first | apply o_eff w_none | apply o_guard rfl | apply x_cond | apply k_e1 rfl | apply k_e2 rfl | apply k_e0 rfl | apply k_e3 rfl | apply k_e4 rfl)); (case he => (simp (disch := first | assumption | omega | rfl | decide) only [go_sem, Nat.reduceBEq, ↓reduceIte, Nat.reduceEqDiff, Nat.reduceAdd, Nat.reduceMul, Int.reduceToNat, Int.reduceAdd, Int.reduceMul, Int.reduceSub, tys] <;> rfl)); (try (case hok => first | exact rfl | exact ok_w (by omega) rfl)); all_goals (try (intro hb; (try (simp only [hbs, reduceCtorEq] at hb)); try (exfalso; omega)))) | ((with_reducible apply o_undef rfl); (case hb => (simp (disch := first | assumption | omega | rfl | decide) only [go_sem, Nat.reduceBEq, ↓reduceIte, Nat.reduceEqDiff, Nat.reduceAdd, Nat.reduceMul, Int.reduceToNat, Int.reduceAdd, Int.reduceMul, Int.reduceSub, tys]))))
  all_goals exact sw_flat rfl rfl ⟨rfl, rfl, rfl⟩
theorem lparts_ev (hk : 30000 ≤ k) (A : Option Addr) (T : List Tp) (c : Nat) (hT : TabH h n A T) (hC : ChkT T) (j : Nat) (h1 : j < T.length) (hb : ((eRow 1048576 T).at_ (j : Int)).1 ≤ 256) (hcl : cl ≤ n + 1) :
    Sp Try.prog (acall Try.prog WW k (d + 39)) cl 64 [.slice none 0 0, .slice A T.length c, .slice (some ⟨n, 0, none⟩) T.length T.length, .int .i64 j, .int .i64 0] (h.set n (.row 84 false (ev (eRow 1048576 T)))) (n + 1) fun v h' n' => ∃ id, n + 1 ≤ id ∧ id < n' ∧ v = .slice (some ⟨id, 0, none⟩) (cellsT T j).length (cellsT T j).length ∧ rowOf h' id = some (57, false, pv (cellsT T j)) ∧ RdH h' n' (some ⟨n, 0, none⟩) (ev (eRow 1048576 T)) := by
  have hl := hC.1
  have hce : cellsT T j = cellsR 1048576 T 32 j 0 := (cells_eq hC.2.1 32 j 0 (by omega) (by omega) hb).symm
  have hne := cells_ne (C := 1048576) hC.2.1 32 j 0 (by omega) (by omega)
  have hP := parts_ev k hk T hC 32 (d + 5) cl (h.set n (.row 84 false (ev (eRow 1048576 T)))) (n + 1) (n + 1) A c (some ⟨n, 0, none⟩) T.length (.slice none 0 0) [] j 0 hcl (Nat.le_refl _) ((hT.set (Nat.le_refl _) _).more (by omega)) (RdH.row (by omega)) (.inl ⟨rfl, rfl⟩) (by omega) (by omega) hb (by show ((0 : Nat) : Int) + _ ≤ _; omega) (Int.le_refl _) (by omega)
  rw [List.nil_append, ← hce] at hP
  rw [← hce] at hne
  refine Sp.mono hP fun v h' n' hh => ?_
  obtain ⟨⟨hp, -⟩ | ⟨-, id, k1, k2, rfl, q4⟩, hK⟩ := hh
  · exact absurd hp hne
  · exact ⟨id, k1, k2, rfl, q4, hK.cell (rowOf_same _ _ _ _ _) (by omega) (fun len c hh => by cases hh)⟩
theorem lcells_ok (hk : 30000 ≤ k) (A : Option Addr) (T : List Tp) (c : Nat) (hT : TabH h n A T) (hS : ∀ t ∈ T, t.fs.length ≤ 20000) (hm : T.length ≤ 9223372036854775807) (j : Nat) (he : (szR 1048576 T j).2.2 = 0) :
    Sp Try.prog (acall Try.prog WW k (d + 40)) cl 27 [.slice A T.length c, .int .i64 j] h n fun v h' n' => v = .tuple ⟨[.slice (some ⟨n, 0, none⟩) (cellsT T j).length (cellsT T j).length, .int .i64 0]⟩ ∧ h' = h.set n (.row 57 false (pv (cellsT T j))) ∧ n' = n + 1 := by
  obtain ⟨hC, h0, h1, hb, -⟩ := szR_0 he
  have hl := hC.1
  have hne := cells_ne (C := 1000000) hC.2.1 32 j 0 (by omega) (by omega)
  have hA := lasked_ok k (d + 32) n h n hk A T c hT hS hm j hC ⟨h0, h1⟩ (by omega)
  have hP := lparts_ev k d n h n hk A T c hT hC j (by omega) hb (by omega)
  refine enter Try.func27 (by kernel_rfl) rfl (by kernel_rfl) rfl rfl rfl ?_
  (repeat' first | (with_reducible first | apply x_seq | apply k_then | apply x_block | apply x_skip | apply x_ret | apply x_exit | apply x_label | apply k_pass | apply k_hit | apply k_miss rfl | apply k_out | apply k_turned | refine x_text fun K' hK => ?_) | ((with_reducible apply o_nil); refine hK _ _ _ ?_; clear hK) | ((with_reducible apply o_callF (g := 56) w_none); (case ha => (simp (disch := first | assumption | omega | rfl | decide) only [go_sem, Nat.reduceBEq, ↓reduceIte, Nat.reduceEqDiff, Nat.reduceAdd, Nat.reduceMul, Int.reduceToNat, Int.reduceAdd, Int.reduceMul, Int.reduceSub, tys]; exact rfl)); (case hs => (exact hA)); (case' hk => rintro _ h' n' ⟨rfl, rfl, rfl⟩)) | ((with_reducible apply o_callF (g := 64) w_none); (case ha => (simp (disch := first | assumption | omega | rfl | decide) only [go_sem, Nat.reduceBEq, ↓reduceIte, Nat.reduceEqDiff, Nat.reduceAdd, Nat.reduceMul, Int.reduceToNat, Int.reduceAdd, Int.reduceMul, Int.reduceSub, tys]; exact rfl)); (case hs => (exact hP)); (case' hk => rintro _ h' n' ⟨id, k1, k2, rfl, q4, -⟩)) | ((first | ((with_reducible apply o_pure w_none); (case hp => exact rfl); (case' he => intro h n)) | (with_reducible first | apply o_eff w_none | apply o_guard rfl | apply x_cond | apply k_e1 rfl | apply k_e2 rfl | apply k_e0 rfl | apply k_e3 rfl | apply k_e4 rfl)); (case he => (simp (disch := first | assumption | omega | rfl | decide) only [go_sem, Nat.reduceBEq, ↓reduceIte, Nat.reduceEqDiff, Nat.reduceAdd, Nat.reduceMul, Int.reduceToNat, Int.reduceAdd, Int.reduceMul, Int.reduceSub, tys] <;> rfl)); (try (case hok => first | exact rfl | exact ok_w (by omega) rfl)); all_goals (try (intro hb; (try (simp only [hbs, reduceCtorEq] at hb)); try (exfalso; omega)))) | ((with_reducible apply o_undef rfl); (case hb => (simp (disch := first | assumption | omega | rfl | decide) only [go_sem, Nat.reduceBEq, ↓reduceIte, Nat.reduceEqDiff, Nat.reduceAdd, Nat.reduceMul, Int.reduceToNat, Int.reduceAdd, Int.reduceMul, Int.reduceSub, tys]))))
  (refine sw_row (by simp (disch := first | assumption | omega) only [idV_tuple, idV_agg, idV_int, idV_bool, idV_str, idV_slice, idV_nil, idV1_agg, idV1_int, idV1_bool, idV1_str, idV1_slice, idV1_nil, idA_int, idA_bool, idA_str, idA_slice, idA_nil, idA_old, idV_old, idV1_old, ble_t, ble_f, cond_true, cond_false, List.flatMap_cons, List.flatMap_nil, List.append_nil, List.nil_append, List.cons_append]; exact rfl) rfl (by omega) (by first | assumption | (simp (disch := first | assumption | omega | rfl | decide) only [go_sem, Nat.reduceBEq, ↓reduceIte, Nat.reduceEqDiff, Nat.reduceAdd, Nat.reduceMul, Int.reduceToNat, Int.reduceAdd, Int.reduceMul, Int.reduceSub, tys]; exact rfl)) (by exact pv_idA _ _) (by simp only [reV_tuple, reV_agg, reV_slice, reV1_agg, reV1_int, reV1_bool, reV1_str, reV1_slice, reV1_snil, reA_int, reA_bool, reA_str, reA_slice, reA_snil, reN_hit, List.map_cons, List.map_nil]; exact rfl) ?_; exact ⟨rfl, rfl, rfl⟩)
end Go.Proofs.Ytgdokjfjmcleeaa.Ce
