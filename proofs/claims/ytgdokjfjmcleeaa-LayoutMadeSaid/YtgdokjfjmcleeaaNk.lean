/- Laws on valid tables: their condition; sizes, cells and padding by symbolic runs. -/
import Derived.Test.YtgdokjfjmcleeaaNh
import Derived.Test.YtgdokjfjmcleeaaMf
import Derived.Test.YtgdokjfjmcleeaaMz
namespace Go.Proofs.Ytgdokjfjmcleeaa.Ce
open Go.RowKit
set_option linter.unusedVariables false
set_option linter.unusedSimpArgs false
attribute [local go_sem ↓] lv_tmp fput_some fput_none fputs_cons fputs_nil mix_in mix_out finit_zero finit_succ cellAt_same cellAt_ne cellsAt_same cellsAt_ne rwOf_same rwOf_ne' rowOf_same rowOf_ne
attribute [local go_sem] a_move a_assign a_pick a_alloc a_box a_build a_buildSlice bif_cok a_load a_store a_bin a_un a_convert a_func a_makeMap a_makeSlice a_slice a_fieldAddr a_indexAddr a_index a_extract a_len a_append a_copy a_max a_min lv_int lv_bool lv_str lv_func lv_nil b_add b_sub b_mul b_eql b_neq b_lss b_leq b_gtr b_geq b_quo b_rem b_shl8 b_or8 b_shr u_not p_pick m_max m_min x_tuple mVO_some lget_zero lget_succ ltake_zero ltake_cons ldrop_zero ldrop_cons overAt_zero overAt_cons over_nil over_cons Hp.set_set fill_nil fill_cons c_int1 c_bool1 c_str1 c_ptr1 c_sli1 c_map1 c_agg c_agg' cok_int cok_bool cok_str cok_ptr cok_sli cok_map List.length_cons List.length_nil List.all_cons List.all_nil Bool.and_true Bool.true_and Bool.and_self beq_self_eq_true wrap_i64 wrap_u64 wrap_u8 tdiv_pos tmod_pos Nat.zero_add Nat.add_zero Nat.mul_one Nat.zero_mul List.take_zero List.take_nil Option.bind_some Option.map_some Option.map_none cond_true cond_false List.map_cons List.map_nil List.cons_append List.nil_append Int.toNat_natCast Int.zero_add Int.add_zero Int.mul_zero Int.mul_one Bool.not_true Bool.not_false r_tmp r_cell
set_option maxRecDepth 100000
set_option maxHeartbeats 2000000

theorem sp_fix {P : Program} {F : CallE} {cl n : Nat} {g : FuncId} {ar : List Value} {h : Hp} {Φ : Value → Hp → Nat → Prop} (hs : Sp P F cl g ar h n Φ) : ∃ v h' n', Φ v h' n' ∧ Sp P F cl g ar h n fun v2 h2 n2 => v2 = v ∧ h2 = h' ∧ n2 = n' := by
  obtain ⟨hg, v, h', n', hr, hp⟩ := hs
  exact ⟨v, h', n', hp, hg, v, h', n', hr, rfl, rfl, rfl⟩
theorem upto_sorted (a b : Int) : (upto a b).Pairwise (· < ·) := by
  unfold upto
  rw [List.pairwise_map]
  exact List.pairwise_lt_range.imp fun h => by omega
theorem upto_iff {a b x : Int} : x ∈ upto a b ↔ a ≤ x ∧ x < b := by
  refine ⟨upto_mem, fun hx => ?_⟩
  unfold upto
  exact List.mem_map.2 ⟨(x - a).toNat, List.mem_range.2 (by omega), by omega⟩
/-- padding: what lies in no cell -/
theorem padT_eq {T : List Tp} (hC : ChkT T) {j : Nat} (h1 : j < T.length) (hb : ((eRow 1048576 T).at_ (j : Int)).1 ≤ 256) : padT T j = (upto 0 (szT 1048576 T j)).filter fun x => !inC (szT 1048576 T) (cellsT T j) x := by
  obtain ⟨hasc, hty, -⟩ := cellsT_bnd hC h1 hb
  unfold padT
  rw [gaps_eq hasc fun p hp => (hty p hp).1]
theorem inC_tk {S : Int → Int} {ps : List (Int × Int)} {q : Nat} (hq : q < ps.length) (x : Int) : inC S (ps.take (q + 1)) x = (inC S (ps.take q) x || (decide ((ps[q]).1 ≤ x) && decide (x < (ps[q]).1 + S (ps[q]).2))) := by
  unfold inC
  rw [List.take_succ_eq_append_getElem hq, List.any_append, List.any_cons, List.any_nil, Bool.or_false]
/-- 1 or 0 -/
def b2i (b : Bool) : Int := bif b then 1 else 0
variable (k d cl : Nat) (h : Hp) (n : Nat)
theorem fit_ev (hk : 30000 ≤ k) (A : Option Addr) (T : List Tp) (c : Nat) (hT : TabH h n A T) (i : Int) (hm : T.length ≤ 9223372036854775807) (hS0 : ∀ t ∈ T, t.fs.length ≤ 9223372036854775807) :
    Sp Try.prog (acall Try.prog WW k (d + 9)) cl 32 [.slice A T.length c, .int .i64 i] h n fun v h' n' => ∃ B : Bool, v = .bool B ∧ (B = true → (∀ t ∈ T, t.fs.length ≤ 20) ∧ (szR 1000000 T i).2.2 = 0) ∧ h' = h ∧ n' = n := by
  obtain ⟨v, h2, n2, ⟨B, rfl, hg, rfl, rfl⟩, hB⟩ := sp_fix (tgreat_ev k (d + 7) n h n hk A T c hT hm hS0)
  have hB2 : Sp Try.prog (acall Try.prog WW k (d + 8)) n2 16 [.slice A T.length c] h2 n2 fun v3 h3 n3 => v3 = .bool B ∧ h2 = h3 ∧ n2 = n3 := hB.mono fun _ _ _ hp => ⟨hp.1, hp.2.1.symm, hp.2.2.symm⟩
  rcases B with _ | _
  · have hS : ∀ t ∈ T, t.fs.length ≤ 20000 := fun t ht => by have := (hg rfl).2 t ht; omega
    have hA := rask5_ev k d n2 h2 n2 hk A T c hT hS hm i
    obtain ⟨e, hee⟩ : ∃ e, (szR 1000000 T i).2.2 = e := ⟨_, rfl⟩
    rw [hee] at hA ⊢
    refine enter Try.func32 (by kernel_rfl) rfl (by kernel_rfl) rfl rfl rfl ?_
    by_cases he : e = 0
    · subst he
      (repeat' first | (with_reducible first | apply x_seq | apply k_then | apply x_block | apply x_skip | apply x_ret | apply x_exit | apply x_label | apply k_pass | apply k_hit | apply k_miss rfl | apply k_out | apply k_turned | refine x_text fun K' hK => ?_) | ((with_reducible apply o_nil); refine hK _ _ _ ?_; clear hK) | ((with_reducible apply o_callF (g := 16) w_none); (case ha => (simp (disch := first | assumption | omega | rfl | decide) only [go_sem, Nat.reduceBEq, ↓reduceIte, Nat.reduceEqDiff, Nat.reduceAdd, Nat.reduceMul, Int.reduceToNat, Int.reduceAdd, Int.reduceMul, Int.reduceSub, tys]; exact rfl)); (case hs => (exact hB2)); (case' hk => rintro _ h' n' ⟨rfl, rfl, rfl⟩)) | ((with_reducible apply o_callF (g := 57) w_none); (case ha => (simp (disch := first | assumption | omega | rfl | decide) only [go_sem, Nat.reduceBEq, ↓reduceIte, Nat.reduceEqDiff, Nat.reduceAdd, Nat.reduceMul, Int.reduceToNat, Int.reduceAdd, Int.reduceMul, Int.reduceSub, tys]; exact rfl)); (case hs => (exact hA)); (case' hk => rintro _ h' n' ⟨rfl, rfl, rfl⟩)) | ((first | ((with_reducible apply o_pure w_none); (case hp => exact rfl); (case' he => intro h n)) | (with_reducible first | apply o_eff w_none | apply o_guard rfl | apply x_cond | apply k_e1 rfl | apply k_e2 rfl | apply k_e0 rfl | apply k_e3 rfl | apply k_e4 rfl)); (case he => (simp (disch := first | assumption | omega | rfl | decide) only [go_sem, Nat.reduceBEq, ↓reduceIte, Nat.reduceEqDiff, Nat.reduceAdd, Nat.reduceMul, Int.reduceToNat, Int.reduceAdd, Int.reduceMul, Int.reduceSub, tys] <;> rfl)); (try (case hok => first | exact rfl | exact ok_w (by omega) rfl)); all_goals (try (intro hb; (try (simp only [hbs, reduceCtorEq] at hb)); try (exfalso; omega)))) | ((with_reducible apply o_undef rfl); (case hb => (simp (disch := first | assumption | omega | rfl | decide) only [go_sem, Nat.reduceBEq, ↓reduceIte, Nat.reduceEqDiff, Nat.reduceAdd, Nat.reduceMul, Int.reduceToNat, Int.reduceAdd, Int.reduceMul, Int.reduceSub, tys]))))
      all_goals exact sw_flat rfl rfl ⟨true, rfl, fun _ => ⟨(hg rfl).2, rfl⟩, rfl, rfl⟩
    · have hbe : (e == 0) = false := by rw [beq_eq_false_iff_ne]; exact he
      (repeat' first | (with_reducible first | apply x_seq | apply k_then | apply x_block | apply x_skip | apply x_ret | apply x_exit | apply x_label | apply k_pass | apply k_hit | apply k_miss rfl | apply k_out | apply k_turned | refine x_text fun K' hK => ?_) | ((with_reducible apply o_nil); refine hK _ _ _ ?_; clear hK) | ((with_reducible apply o_callF (g := 16) w_none); (case ha => (simp (disch := first | assumption | omega | rfl | decide) only [go_sem, Nat.reduceBEq, ↓reduceIte, Nat.reduceEqDiff, Nat.reduceAdd, Nat.reduceMul, Int.reduceToNat, Int.reduceAdd, Int.reduceMul, Int.reduceSub, tys]; exact rfl)); (case hs => (exact hB2)); (case' hk => rintro _ h' n' ⟨rfl, rfl, rfl⟩)) | ((with_reducible apply o_callF (g := 57) w_none); (case ha => (simp (disch := first | assumption | omega | rfl | decide) only [go_sem, Nat.reduceBEq, ↓reduceIte, Nat.reduceEqDiff, Nat.reduceAdd, Nat.reduceMul, Int.reduceToNat, Int.reduceAdd, Int.reduceMul, Int.reduceSub, tys]; exact rfl)); (case hs => (exact hA)); (case' hk => rintro _ h' n' ⟨rfl, rfl, rfl⟩)) | ((first | ((with_reducible apply o_pure w_none); (case hp => exact rfl); (case' he => intro h n)) | (with_reducible first | apply o_eff w_none | apply o_guard rfl | apply x_cond | apply k_e1 rfl | apply k_e2 rfl | apply k_e0 rfl | apply k_e3 rfl | apply k_e4 rfl)); (case he => (simp (disch := first | assumption | omega | rfl | decide) only [go_sem, Nat.reduceBEq, ↓reduceIte, Nat.reduceEqDiff, Nat.reduceAdd, Nat.reduceMul, Int.reduceToNat, Int.reduceAdd, Int.reduceMul, Int.reduceSub, tys, hbe] <;> rfl)); (try (case hok => first | exact rfl | exact ok_w (by omega) rfl)); all_goals (try (intro hb; (try (simp only [hbs, reduceCtorEq] at hb)); try (exfalso; omega)))) | ((with_reducible apply o_undef rfl); (case hb => (simp (disch := first | assumption | omega | rfl | decide) only [go_sem, Nat.reduceBEq, ↓reduceIte, Nat.reduceEqDiff, Nat.reduceAdd, Nat.reduceMul, Int.reduceToNat, Int.reduceAdd, Int.reduceMul, Int.reduceSub, tys]))))
      all_goals exact sw_flat rfl rfl ⟨false, rfl, fun hh => (by cases hh), rfl, rfl⟩
  · refine enter Try.func32 (by kernel_rfl) rfl (by kernel_rfl) rfl rfl rfl ?_
    (repeat' first | (with_reducible first | apply x_seq | apply k_then | apply x_block | apply x_skip | apply x_ret | apply x_exit | apply x_label | apply k_pass | apply k_hit | apply k_miss rfl | apply k_out | apply k_turned | refine x_text fun K' hK => ?_) | ((with_reducible apply o_nil); refine hK _ _ _ ?_; clear hK) | ((with_reducible apply o_callF (g := 16) w_none); (case ha => (simp (disch := first | assumption | omega | rfl | decide) only [go_sem, Nat.reduceBEq, ↓reduceIte, Nat.reduceEqDiff, Nat.reduceAdd, Nat.reduceMul, Int.reduceToNat, Int.reduceAdd, Int.reduceMul, Int.reduceSub, tys]; exact rfl)); (case hs => (exact hB2)); (case' hk => rintro _ h' n' ⟨rfl, rfl, rfl⟩)) | ((first | ((with_reducible apply o_pure w_none); (case hp => exact rfl); (case' he => intro h n)) | (with_reducible first | apply o_eff w_none | apply o_guard rfl | apply x_cond | apply k_e1 rfl | apply k_e2 rfl | apply k_e0 rfl | apply k_e3 rfl | apply k_e4 rfl)); (case he => (simp (disch := first | assumption | omega | rfl | decide) only [go_sem, Nat.reduceBEq, ↓reduceIte, Nat.reduceEqDiff, Nat.reduceAdd, Nat.reduceMul, Int.reduceToNat, Int.reduceAdd, Int.reduceMul, Int.reduceSub, tys] <;> rfl)); (try (case hok => first | exact rfl | exact ok_w (by omega) rfl)); all_goals (try (intro hb; (try (simp only [hbs, reduceCtorEq] at hb)); try (exfalso; omega)))) | ((with_reducible apply o_undef rfl); (case hb => (simp (disch := first | assumption | omega | rfl | decide) only [go_sem, Nat.reduceBEq, ↓reduceIte, Nat.reduceEqDiff, Nat.reduceAdd, Nat.reduceMul, Int.reduceToNat, Int.reduceAdd, Int.reduceMul, Int.reduceSub, tys]))))
    all_goals exact sw_flat rfl rfl ⟨false, rfl, fun hh => (by cases hh), rfl, rfl⟩
end Go.Proofs.Ytgdokjfjmcleeaa.Ce
