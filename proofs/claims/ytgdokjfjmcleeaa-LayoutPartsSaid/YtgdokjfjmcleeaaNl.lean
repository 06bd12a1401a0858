/- The law LayoutParts: a symbolic run. -/
import Derived.Test.YtgdokjfjmcleeaaNk
import Derived.Test.YtgdokjfjmcleeaaAl
namespace Go.Proofs.Ytgdokjfjmcleeaa.Ce
open Go.RowKit
set_option linter.unusedVariables false
set_option linter.unusedSimpArgs false
attribute [local go_sem ↓] lv_tmp fput_some fput_none fputs_cons fputs_nil mix_in mix_out finit_zero finit_succ cellAt_same cellAt_ne cellsAt_same cellsAt_ne rwOf_same rwOf_ne' rowOf_same rowOf_ne
attribute [local go_sem] a_move a_assign a_pick a_alloc a_box a_build a_buildSlice bif_cok a_load a_store a_bin a_un a_convert a_func a_makeMap a_makeSlice a_slice a_fieldAddr a_indexAddr a_index a_extract a_len a_append a_copy a_max a_min lv_int lv_bool lv_str lv_func lv_nil b_add b_sub b_mul b_eql b_neq b_lss b_leq b_gtr b_geq b_quo b_rem b_shl8 b_or8 b_shr u_not p_pick m_max m_min x_tuple mVO_some lget_zero lget_succ ltake_zero ltake_cons ldrop_zero ldrop_cons overAt_zero overAt_cons over_nil over_cons Hp.set_set fill_nil fill_cons c_int1 c_bool1 c_str1 c_ptr1 c_sli1 c_map1 c_agg c_agg' cok_int cok_bool cok_str cok_ptr cok_sli cok_map List.length_cons List.length_nil List.all_cons List.all_nil Bool.and_true Bool.true_and Bool.and_self beq_self_eq_true wrap_i64 wrap_u64 wrap_u8 tdiv_pos tmod_pos Nat.zero_add Nat.add_zero Nat.mul_one Nat.zero_mul List.take_zero List.take_nil Option.bind_some Option.map_some Option.map_none cond_true cond_false List.map_cons List.map_nil List.cons_append List.nil_append Int.toNat_natCast Int.zero_add Int.add_zero Int.mul_zero Int.mul_one Bool.not_true Bool.not_false r_tmp r_cell
set_option maxRecDepth 100000
set_option maxHeartbeats 2000000

theorem alive5 (cl : Nat) (h : Hp) (n : Nat) : Sp Try.prog (shut (acall Try.prog WW 30000 50)) cl 33 [] h n fun v h' n' => v = .bool true ∧ h' = h ∧ n' = n :=
  Sp.alive (by kernel_rfl) alive5_true
/-- a row of marks -/
def mk (sz : Nat) (f : Nat → Bool) : List Value := (List.range sz).map fun x => .int .i64 (b2i (f x))
theorem mk_length (sz : Nat) (f : Nat → Bool) : (mk sz f).length = sz := by simp [mk]
theorem mk_zero (sz : Nat) : (List.replicate sz [Value.int .i64 0]).flatten = mk sz fun _ => false := by
  unfold mk b2i
  induction sz with
  | zero => rfl
  | succ m ih => rw [List.replicate_succ', List.flatten_append, ih, List.range_succ, List.map_append]; rfl
theorem mk_get {sz x : Nat} {f : Nat → Bool} (hx : x < sz) : lget (mk sz f) x = some (.int .i64 (b2i (f x))) := by
  rw [lget_eq]
  unfold mk
  rw [List.getElem?_map, List.getElem?_range hx]
  rfl
theorem mk_set {sz x : Nat} {f g : Nat → Bool} (hx : x < sz) (hg : ∀ y, y < sz → g y = (f y || decide (y = x))) : overAt x [Value.int .i64 1] (mk sz f) = some (mk sz g) := by
  rw [overAt_one (by rw [mk_length]; exact hx)]
  congr 1
  refine List.ext_getElem? fun y => ?_
  rw [List.getElem?_set, mk_length]
  unfold mk
  by_cases hy : y < sz
  · rw [List.getElem?_map, List.getElem?_map, List.getElem?_range hy, Option.map_some, Option.map_some, hg y hy]
    by_cases hxy : x = y
    · rw [if_pos hxy, if_pos hx, decide_eq_true hxy.symm, Bool.or_true]
      rfl
    · rw [if_neg hxy, decide_eq_false (fun e => hxy e.symm), Bool.or_false]
  · rw [if_neg (by omega), List.getElem?_eq_none (by simp; omega), List.getElem?_eq_none (by simp; omega)]
theorem mk_congr {sz : Nat} {f g : Nat → Bool} (h : ∀ y, y < sz → f y = g y) : mk sz f = mk sz g := by
  unfold mk
  refine List.map_congr_left fun y hy => ?_
  rw [h y (List.mem_range.1 hy)]
variable (k d cl : Nat) (h : Hp) (n : Nat)
theorem lpt_no (A : Option Addr) (T : List Tp) (c : Nat) (i : Int)
    (hal : ∀ cl h n, Sp Try.prog (shut (acall Try.prog WW k (d + 50))) cl 33 [] h n fun v h' n' => v = .bool true ∧ h' = h ∧ n' = n)
    (hS1 : Sp Try.prog (acall Try.prog WW k (d + 50)) n 32 [.slice A T.length c, .int .i64 i] h n fun v2 h2 n2 => v2 = .bool false ∧ h = h2 ∧ n = n2) :
    Sp Try.prog (afunc Try.prog (shut (acall Try.prog WW k (d + 50))) WW k) cl 5 [.slice A T.length c, .int .i64 i] h n fun v h' n' => v = .bool true := by
  refine enterS Try.func5 (by kernel_rfl) rfl (by kernel_rfl) rfl rfl rfl ?_
  (repeat' first | (with_reducible first | apply x_seq | apply k_then | apply x_block | apply x_skip | apply x_ret | apply x_exit | apply x_label | apply k_pass | apply k_hit | apply k_miss rfl | apply k_out | apply k_turned | refine x_text fun K' hK => ?_) | ((with_reducible apply o_nil); refine hK _ _ _ ?_; clear hK) | ((with_reducible apply o_callF (g := 33) w_none); (case ha => (simp (disch := first | assumption | omega | rfl | decide) only [go_sem, Nat.reduceBEq, ↓reduceIte, Nat.reduceEqDiff, Nat.reduceAdd, Nat.reduceMul, Int.reduceToNat, Int.reduceAdd, Int.reduceMul, Int.reduceSub, tys]; exact rfl)); (case hs => exact hal _ _ _); (case' hk => rintro _ h' n' ⟨rfl, rfl, rfl⟩)) | ((with_reducible apply o_callF (g := 32) w_none); (case ha => (simp (disch := first | assumption | omega | rfl | decide) only [go_sem, Nat.reduceBEq, ↓reduceIte, Nat.reduceEqDiff, Nat.reduceAdd, Nat.reduceMul, Int.reduceToNat, Int.reduceAdd, Int.reduceMul, Int.reduceSub, tys]; exact rfl)); (case hs => (exact Sp.shut hS1)); (case' hk => rintro _ h' n' ⟨rfl, rfl, rfl⟩)) | ((first | ((with_reducible apply o_pure w_none); (case hp => exact rfl); (case' he => intro h n)) | (with_reducible first | apply o_eff w_none | apply o_guard rfl | apply x_cond | apply k_e1 rfl | apply k_e2 rfl | apply k_e0 rfl | apply k_e3 rfl | apply k_e4 rfl)); (case he => (simp (disch := first | assumption | omega | rfl | decide) only [go_sem, Nat.reduceBEq, ↓reduceIte, Nat.reduceEqDiff, Nat.reduceAdd, Nat.reduceMul, Int.reduceToNat, Int.reduceAdd, Int.reduceMul, Int.reduceSub, tys] <;> rfl)); (try (case hok => first | exact rfl | exact ok_w (by omega) rfl)); all_goals (try (intro hb; (try (simp only [hbs, reduceCtorEq] at hb)); try (exfalso; omega)))) | ((with_reducible apply o_undef rfl); (case hb => (simp (disch := first | assumption | omega | rfl | decide) only [go_sem, Nat.reduceBEq, ↓reduceIte, Nat.reduceEqDiff, Nat.reduceAdd, Nat.reduceMul, Int.reduceToNat, Int.reduceAdd, Int.reduceMul, Int.reduceSub, tys]))))
  all_goals exact sw_flat rfl rfl rfl
theorem lpt_yes (hk : 30000 ≤ k) (A : Option Addr) (T : List Tp) (c : Nat) (hT : TabH h n A T) (hm : T.length ≤ 9223372036854775807) (j : Nat) (hS : ∀ t ∈ T, t.fs.length ≤ 20000) (he : (szR 1048576 T j).2.2 = 0)
    (hal : ∀ cl h n, Sp Try.prog (shut (acall Try.prog WW k (d + 50))) cl 33 [] h n fun v h' n' => v = .bool true ∧ h' = h ∧ n' = n)
    (hS1 : Sp Try.prog (acall Try.prog WW k (d + 50)) n 32 [.slice A T.length c, .int .i64 j] h n fun v2 h2 n2 => v2 = .bool true ∧ h = h2 ∧ n = n2) :
    Sp Try.prog (afunc Try.prog (shut (acall Try.prog WW k (d + 50))) WW k) cl 5 [.slice A T.length c, .int .i64 j] h n fun v h' n' => v = .bool true := by
  have p1 := lsize_ev k (d + 42) n h n hk A T c hT hS hm j
  have p2 := lcells_ok k (d + 10) n h n hk A T c hT hS hm j he
  obtain ⟨hC, h0, h1, hsz5, hze⟩ := szR_0 he
  have hl := hC.1
  have hF := hC.2.1
  rw [hze] at p1
  obtain ⟨hasc, hty, hlen⟩ := cellsT_bnd hC (by omega) hsz5
  have hpq := padT_eq hC (by omega) hsz5
  have hleaf := cells_leaf (C := 1000000) hF 32 j 0 (by omega) (by omega)
  have p3 := lpad_ok k (d + 10) n (h.set n (.row 57 false (pv (cellsT T j)))) (n + 1) hk A T c ((hT.set (Nat.le_refl _) _).more (by omega)) hS hm j he
  obtain ⟨pl, hp⟩ : ∃ pl, padT T j = pl := ⟨_, rfl⟩
  rw [hp] at p3 hpq
  have hps' : cellsR 1000000 T 32 (j : Int) 0 = cellsT T j := rfl
  rw [hps'] at hleaf
  obtain ⟨ps, hps⟩ : ∃ ps, cellsT T j = ps := ⟨_, rfl⟩
  rw [hps] at p2 p3 hasc hty hlen hpq hleaf
  have p3' := Sp.mono p3 (Φ' := fun v h' n' => ∃ PA pc, v = .tuple ⟨[.slice PA pl.length pc, .int .i64 0]⟩ ∧ RdH h' n' PA (iv pl) ∧ n + 1 ≤ n' ∧ TabH h' n A T ∧ rowOf h' n = some (57, false, pv ps)) fun v h' n' hh => by
    obtain ⟨V, rfl, ⟨e1, rfl, rfl, rfl⟩ | ⟨e1, rfl, rfl, rfl⟩⟩ := hh
    · subst e1
      exact ⟨none, 0, rfl, RdH.nil, by omega, hT.set (Nat.le_refl _) _, rowOf_same _ _ _ _ _⟩
    · exact ⟨_, _, rfl, RdH.row (by omega), by omega, (hT.set (Nat.le_refl _) _).set (by omega) _, by rw [rowOf_ne _ _ (by omega)]; exact rowOf_same _ _ _ _ _⟩
  have hS4 : ∀ t : Int, ((eRow 1048576 T).at_ t).1 = szT 1048576 T t := fun _ => rfl
  have hszt : ∀ t : Nat, t < T.length → szT 1048576 T t ≤ 256 → szR 1048576 T (t : Int) = (szT 1048576 T t, ((eRow 1048576 T).at_ (t : Int)).2, 0) := fun t ht hb => by
    unfold szR
    rw [if_pos hC, if_pos ⟨by omega, by omega⟩, if_neg (by rw [hS4]; omega)]
    rfl
  rw [hS4] at p1 hsz5
  obtain ⟨S, hS2⟩ : ∃ S, szT 1048576 T = S := ⟨_, rfl⟩
  rw [hS2] at p1 hsz5 hasc hpq hszt
  have hsj0 := hasc.le
  obtain ⟨sN, hsN⟩ := Int.eq_ofNat_of_zero_le hsj0
  rw [hsN] at p1 hsz5 hasc hpq hsj0
  have p1 := p1.mono (Φ' := fun v2 h2 n2 => v2 = .tuple ⟨[.int .i64 (sN : Int), .int .i64 ((eRow 1048576 T).at_ (j : Int)).2, .int .i64 0]⟩ ∧ h = h2 ∧ n = n2) fun _ _ _ hp => ⟨hp.1, hp.2.1.symm, hp.2.2.symm⟩
  refine enterS Try.func5 (by kernel_rfl) rfl (by kernel_rfl) rfl rfl rfl ?_
  (repeat' first | (with_reducible first | apply x_seq | apply k_then | apply x_block | apply x_skip | apply x_ret | apply x_exit | apply x_label | apply k_pass | apply k_hit | apply k_miss rfl | apply k_out | apply k_turned | refine x_text fun K' hK => ?_) | ((with_reducible apply o_nil); refine hK _ _ _ ?_; clear hK) | ((with_reducible apply o_callF (g := 32) w_none); (case ha => (simp (disch := first | assumption | omega | rfl | decide) only [go_sem, Nat.reduceBEq, ↓reduceIte, Nat.reduceEqDiff, Nat.reduceAdd, Nat.reduceMul, Int.reduceToNat, Int.reduceAdd, Int.reduceMul, Int.reduceSub, tys]; exact rfl)); (case hs => (exact Sp.shut hS1)); (case' hk => rintro _ h' n' ⟨rfl, rfl, rfl⟩)) | ((with_reducible apply o_callF (g := 18) w_none); (case ha => (simp (disch := first | assumption | omega | rfl | decide) only [go_sem, Nat.reduceBEq, ↓reduceIte, Nat.reduceEqDiff, Nat.reduceAdd, Nat.reduceMul, Int.reduceToNat, Int.reduceAdd, Int.reduceMul, Int.reduceSub, tys]; exact rfl)); (case hs => (exact Sp.shut p1)); (case' hk => rintro _ h' n' ⟨rfl, rfl, rfl⟩)) | ((with_reducible apply o_callF (g := 27) w_none); (case ha => (simp (disch := first | assumption | omega | rfl | decide) only [go_sem, Nat.reduceBEq, ↓reduceIte, Nat.reduceEqDiff, Nat.reduceAdd, Nat.reduceMul, Int.reduceToNat, Int.reduceAdd, Int.reduceMul, Int.reduceSub, tys]; exact rfl)); (case hs => (exact Sp.shut p2)); (case' hk => rintro _ h' n' ⟨rfl, rfl, rfl⟩)) | ((with_reducible apply o_callF (g := 29) w_none); (case ha => (simp (disch := first | assumption | omega | rfl | decide) only [go_sem, Nat.reduceBEq, ↓reduceIte, Nat.reduceEqDiff, Nat.reduceAdd, Nat.reduceMul, Int.reduceToNat, Int.reduceAdd, Int.reduceMul, Int.reduceSub, tys]; exact rfl)); (case hs => (exact Sp.shut p3')); (case' hk => rintro _ h' n' ⟨PA, pc, rfl, hrp, hn, hT2, qc⟩)) | ((first | ((with_reducible apply o_pure w_none); (case hp => exact rfl); (case' he => intro h n)) | (with_reducible first | apply o_eff w_none | apply o_guard rfl | apply x_cond | apply k_e1 rfl | apply k_e2 rfl | apply k_e0 rfl | apply k_e3 rfl | apply k_e4 rfl)); (case he => (simp (disch := first | assumption | omega | rfl | decide) only [go_sem, Nat.reduceBEq, ↓reduceIte, Nat.reduceEqDiff, Nat.reduceAdd, Nat.reduceMul, Int.reduceToNat, Int.reduceAdd, Int.reduceMul, Int.reduceSub, tys, mk_zero] <;> rfl)); (try (case hok => first | exact rfl | exact ok_w (by omega) rfl)); all_goals (try (intro hb; (try (simp only [hbs, reduceCtorEq] at hb)); try (exfalso; omega)))) | ((with_reducible apply o_undef rfl); (case hb => (simp (disch := first | assumption | omega | rfl | decide) only [go_sem, Nat.reduceBEq, ↓reduceIte, Nat.reduceEqDiff, Nat.reduceAdd, Nat.reduceMul, Int.reduceToNat, Int.reduceAdd, Int.reduceMul, Int.reduceSub, tys]))))
  refine x_loopV [4, 13, 14, 15, 16, 17, 18, 65, 66, 67, 68, 69, 70, 71, 72, 73, 74, 75, 76, 77, 78, 79, 80, 81, 82, 83, 84, 85, 86, 87, 88, 89, 90, 91, 92, 93, 94, 95, 96, 97, 98, 99, 100, 101, 102, 103, 104, 105, 106, 107, 108, 109, 110, 111, 112, 113, 114, 115, 116, 117, 118, 119, 120, 121, 122, 123, 124, 125, 126, 127, 128, 129, 130, 131, 132, 133, 134, 135, 136, 137, 138, 139, 140, 141, 142, 143, 144, 145, 146, 147, 148, 149, 150, 151, 152, 153, 154, 155, 156, 157, 158, 159] [13, 14] (fun m vs h2 n2 => ∃ (q : Nat) (e : Int), m = ps.length - q ∧ q ≤ ps.length ∧ vs = [.int .i64 e, .int .i64 q] ∧ n2 = n' + 1 ∧ 0 ≤ e ∧ AscB S e sN (ps.drop q) ∧ (∀ x, e ≤ x → inC S (ps.take q) x = false) ∧ TabH h2 n A T ∧ RdH h2 n' PA (iv pl) ∧ rowOf h2 n = some (57, false, pv ps) ∧ rowOf h2 n' = some (3, false, mk sN fun x => inC S (ps.take q) x)) ps.length rfl (by omega) ?_ ?_
  · exact ⟨0, 0, rfl, by omega, (by first | (simp (disch := first | assumption | omega | rfl | decide) only [go_sem, Nat.reduceBEq, ↓reduceIte, Nat.reduceEqDiff, Nat.reduceAdd, Nat.reduceMul, Int.reduceToNat, Int.reduceAdd, Int.reduceMul, Int.reduceSub, tys]; done) | (simp (disch := first | assumption | omega | rfl | decide) only [go_sem, Nat.reduceBEq, ↓reduceIte, Nat.reduceEqDiff, Nat.reduceAdd, Nat.reduceMul, Int.reduceToNat, Int.reduceAdd, Int.reduceMul, Int.reduceSub, tys]; exact rfl)), rfl, by omega, hasc, fun x _ => rfl, hT2.set (by omega) _, hrp.set (Nat.le_refl _) _, by rw [rowOf_ne _ _ (by omega)]; exact qc, rowOf_same _ _ _ _ _⟩
  · rintro m fr _ h2 n2 ⟨q, e, rfl, hq, rfl, rfl, he0, hA2, hno, hT3, hrp3, qc3, qm⟩
    by_cases hql : q < ps.length
    · obtain ⟨p, hp'⟩ : ∃ p, ps[q] = p := ⟨_, rfl⟩
      have hmp : p ∈ ps := by rw [← hp']; exact List.getElem_mem _
      rw [List.drop_eq_getElem_cons hql, hp'] at hA2
      obtain ⟨a1, a2, a3⟩ := hA2
      have a4 := a3.le
      obtain ⟨t, ht, hpt, hk5, hk6⟩ := hleaf p hmp
      obtain ⟨a, ha⟩ := Int.eq_ofNat_of_zero_le (show 0 ≤ p.1 by omega)
      obtain ⟨w, hw⟩ := Int.eq_ofNat_of_zero_le (show 0 ≤ S p.2 by omega)
      rw [hpt] at hw
      rw [hpt, hw, ha] at a3 a4
      rw [hpt, hw] at a2
      rw [ha] at a1
      obtain ⟨tid, toff, hAA, htid, ht4, -⟩ := hT3.at_ ht
      subst hAA
      have q1 := lsize_ev k (d + 42) n h2 (n' + 1) hk _ T c (hT3.more (by omega)) hS hm (t : Int)
      rw [hszt t ht (by omega), hw] at q1
      have q1 := q1.mono (Φ' := fun v2 h4 n4 => v2 = .tuple ⟨[.int .i64 (w : Int), .int .i64 ((eRow 1048576 T).at_ (t : Int)).2, .int .i64 0]⟩ ∧ h2 = h4 ∧ n' + 1 = n4) fun _ _ _ hp => ⟨hp.1, hp.2.1.symm, hp.2.2.symm⟩
      have c0 : cellAt h2 n (q * 2) = some (.int .i64 a) ∧ cellAt h2 n (q * 2 + 1) = some (.int .i64 t) := by
        obtain ⟨i1, o1, hA1, -, -, e1, e2⟩ := prt_at (RdH.ofRow (B := n + 1) qc3 (by omega)) hql
        injection hA1 with hA1
        injection hA1 with e3 e4
        subst e3; subst e4
        rw [hp', Nat.zero_add] at e1 e2
        rw [ha] at e1
        rw [hpt] at e2
        exact ⟨e1, e2⟩
      have hnf := fine_nofs (hF t ht) hk5
      have hnl : (T[t]).fs.length = 0 := by rw [hnf]; rfl
      rw [hnl] at ht4
      have q2 := rparts_nil k (d + 49) n h2 (n' + 1) hk (T[t]).kd (T[t]).el (T[t]).ln (T[t]).A (T[t]).c hk6
      have q2 := q2.mono (Φ' := fun v2 h4 n4 => v2 = .slice none 0 0 ∧ h2 = h4 ∧ n' + 1 = n4) fun _ _ _ hp => ⟨hp.1, hp.2.1.symm, hp.2.2.symm⟩
      (repeat' first | (with_reducible first | apply x_seq | apply k_then | apply x_block | apply x_skip | apply x_ret | apply x_exit | apply x_label | apply k_pass | apply k_hit | apply k_miss rfl | apply k_out | apply k_turned | refine x_text fun K' hK => ?_) | ((with_reducible apply o_nil); refine hK _ _ _ ?_; clear hK) | ((with_reducible apply o_callF (g := 34) w_none); (case ha => (simp (disch := first | assumption | omega | rfl | decide) only [go_sem, Nat.reduceBEq, ↓reduceIte, Nat.reduceEqDiff, Nat.reduceAdd, Nat.reduceMul, Int.reduceToNat, Int.reduceAdd, Int.reduceMul, Int.reduceSub, tys]; exact rfl)); (case hs => (exact Sp.shut q2)); (case' hk => rintro _ h' n' ⟨rfl, rfl, rfl⟩)) | ((with_reducible apply o_callF (g := 18) w_none); (case ha => (simp (disch := first | assumption | omega | rfl | decide) only [go_sem, Nat.reduceBEq, ↓reduceIte, Nat.reduceEqDiff, Nat.reduceAdd, Nat.reduceMul, Int.reduceToNat, Int.reduceAdd, Int.reduceMul, Int.reduceSub, tys]; exact rfl)); (case hs => (exact Sp.shut q1)); (case' hk => rintro _ h' n' ⟨rfl, rfl, rfl⟩)) | ((first | ((with_reducible apply o_pure w_none); (case hp => exact rfl); (case' he => intro h n)) | (with_reducible first | apply o_eff w_none | apply o_guard rfl | apply x_cond | apply k_e1 rfl | apply k_e2 rfl | apply k_e0 rfl | apply k_e3 rfl | apply k_e4 rfl)); (case he => (simp (disch := first | assumption | omega | rfl | decide) only [go_sem, Nat.reduceBEq, ↓reduceIte, Nat.reduceEqDiff, Nat.reduceAdd, Nat.reduceMul, Int.reduceToNat, Int.reduceAdd, Int.reduceMul, Int.reduceSub, tys, c0.1, c0.2, ht4] <;> rfl)); (try (case hok => first | exact rfl | exact ok_w (by omega) rfl)); all_goals (try (intro hb; (try (simp only [hbs, reduceCtorEq] at hb)); try (exfalso; omega)))) | ((with_reducible apply o_undef rfl); (case hb => (simp (disch := first | assumption | omega | rfl | decide) only [go_sem, Nat.reduceBEq, ↓reduceIte, Nat.reduceEqDiff, Nat.reduceAdd, Nat.reduceMul, Int.reduceToNat, Int.reduceAdd, Int.reduceMul, Int.reduceSub, tys]))))
      refine x_loopV [18, 149, 150, 151, 152, 153, 154, 155, 156, 157, 158, 159] [18] (fun m vs h4 n4 => ∃ (r : Nat), m = w - r ∧ r ≤ w ∧ vs = [.int .i64 ((a : Int) + r)] ∧ n4 = n' + 1 ∧ TabH h4 n (some ⟨tid, toff, none⟩) T ∧ RdH h4 n' PA (iv pl) ∧ rowOf h4 n = some (57, false, pv ps) ∧ rowOf h4 n' = some (3, false, mk sN fun x => inC S (ps.take q) x || (decide (a ≤ x) && decide (x < a + r)))) w rfl (by omega) ?_ ?_
      · refine ⟨0, rfl, by omega, (by first | (simp (disch := first | assumption | omega | rfl | decide) only [go_sem, Nat.reduceBEq, ↓reduceIte, Nat.reduceEqDiff, Nat.reduceAdd, Nat.reduceMul, Int.reduceToNat, Int.reduceAdd, Int.reduceMul, Int.reduceSub, tys]; done) | (simp (disch := first | assumption | omega | rfl | decide) only [go_sem, Nat.reduceBEq, ↓reduceIte, Nat.reduceEqDiff, Nat.reduceAdd, Nat.reduceMul, Int.reduceToNat, Int.reduceAdd, Int.reduceMul, Int.reduceSub, tys]; exact rfl)), rfl, hT3, hrp3, qc3, ?_⟩
        rw [qm]
        refine congrArg (fun r => some (3, false, r)) (mk_congr fun y hy => ?_)
        generalize inC S (ps.take q) y = P
        cases P <;> simp
      · rintro m fr _ h4 n4 ⟨r, rfl, hr, rfl, rfl, hT4, hrp4, qc4, qm4⟩
        by_cases hrw : r < w
        · have hnat : ((a : Int) + r).toNat = a + r := by omega
          have hf0 : (inC S (ps.take q) ((a + r : Nat) : Int) || (decide (a ≤ a + r) && decide (a + r < a + r))) = false := by
            rw [hno _ (by omega), decide_eq_false (show ¬ a + r < a + r by omega), Bool.and_false, Bool.or_false]
          have cm := cellAt_row (off := a + r) qm4
          rw [mk_get (by omega)] at cm
          simp only [hf0] at cm
          have w4 := rwOf_row qm4
          have hov := mk_set (sz := sN) (x := a + r) (f := fun x => inC S (ps.take q) x || (decide (a ≤ x) && decide (x < a + r))) (g := fun x => inC S (ps.take q) x || (decide (a ≤ x) && decide (x < a + (r + 1)))) (by omega) fun y hy => by
            generalize inC S (ps.take q) y = P
            cases P
            · rw [Bool.eq_iff_iff]; simp; omega
            · simp
          have hb0 : b2i false = 0 := rfl
          rw [hb0] at cm
          (repeat' first | (with_reducible first | apply x_seq | apply k_then | apply x_block | apply x_skip | apply x_ret | apply x_exit | apply x_label | apply k_pass | apply k_hit | apply k_miss rfl | apply k_out | apply k_turned | refine x_text fun K' hK => ?_) | ((with_reducible apply o_nil); refine hK _ _ _ ?_; clear hK) | fail | ((first | ((with_reducible apply o_pure w_none); (case hp => exact rfl); (case' he => intro h n)) | (with_reducible first | apply o_eff w_none | apply o_guard rfl | apply x_cond | apply k_e1 rfl | apply k_e2 rfl | apply k_e0 rfl | apply k_e3 rfl | apply k_e4 rfl)); (case he => (simp (disch := first | assumption | omega | rfl | decide) only [go_sem, Nat.reduceBEq, ↓reduceIte, Nat.reduceEqDiff, Nat.reduceAdd, Nat.reduceMul, Int.reduceToNat, Int.reduceAdd, Int.reduceMul, Int.reduceSub, tys, hnat, cm, w4, hov] <;> rfl)); (try (case hok => first | exact rfl | exact ok_w (by omega) rfl)); all_goals (try (intro hb; (try (simp only [hbs, reduceCtorEq] at hb)); try (exfalso; omega)))) | ((with_reducible apply o_undef rfl); (case hb => (simp (disch := first | assumption | omega | rfl | decide) only [go_sem, Nat.reduceBEq, ↓reduceIte, Nat.reduceEqDiff, Nat.reduceAdd, Nat.reduceMul, Int.reduceToNat, Int.reduceAdd, Int.reduceMul, Int.reduceSub, tys]))))
          refine k_round (w - (r + 1)) (by omega) ⟨r + 1, rfl, by omega, (by rw [show (a : Int) + ((r + 1 : Nat) : Int) = a + r + 1 from by omega]; first | (simp (disch := first | assumption | omega | rfl | decide) only [go_sem, Nat.reduceBEq, ↓reduceIte, Nat.reduceEqDiff, Nat.reduceAdd, Nat.reduceMul, Int.reduceToNat, Int.reduceAdd, Int.reduceMul, Int.reduceSub, tys]; done) | (simp (disch := first | assumption | omega | rfl | decide) only [go_sem, Nat.reduceBEq, ↓reduceIte, Nat.reduceEqDiff, Nat.reduceAdd, Nat.reduceMul, Int.reduceToNat, Int.reduceAdd, Int.reduceMul, Int.reduceSub, tys]; exact rfl)), rfl, hT4.set (by omega) _, hrp4.set (Nat.le_refl _) _, by rw [rowOf_ne _ _ (by omega)]; exact qc4, rowOf_same _ _ _ _ _⟩
        · obtain rfl : r = w := by omega
          (repeat' first | (with_reducible first | apply x_seq | apply k_then | apply x_block | apply x_skip | apply x_ret | apply x_exit | apply x_label | apply k_pass | apply k_hit | apply k_miss rfl | apply k_out | apply k_turned | refine x_text fun K' hK => ?_) | ((with_reducible apply o_nil); refine hK _ _ _ ?_; clear hK) | fail | ((first | ((with_reducible apply o_pure w_none); (case hp => exact rfl); (case' he => intro h n)) | (with_reducible first | apply o_eff w_none | apply o_guard rfl | apply x_cond | apply k_e1 rfl | apply k_e2 rfl | apply k_e0 rfl | apply k_e3 rfl | apply k_e4 rfl)); (case he => (simp (disch := first | assumption | omega | rfl | decide) only [go_sem, Nat.reduceBEq, ↓reduceIte, Nat.reduceEqDiff, Nat.reduceAdd, Nat.reduceMul, Int.reduceToNat, Int.reduceAdd, Int.reduceMul, Int.reduceSub, tys] <;> rfl)); (try (case hok => first | exact rfl | exact ok_w (by omega) rfl)); all_goals (try (intro hb; (try (simp only [hbs, reduceCtorEq] at hb)); try (exfalso; omega)))) | ((with_reducible apply o_undef rfl); (case hb => (simp (disch := first | assumption | omega | rfl | decide) only [go_sem, Nat.reduceBEq, ↓reduceIte, Nat.reduceEqDiff, Nat.reduceAdd, Nat.reduceMul, Int.reduceToNat, Int.reduceAdd, Int.reduceMul, Int.reduceSub, tys]))))
          refine k_round (ps.length - (q + 1)) (by omega) ⟨q + 1, (a : Int) + r, rfl, by omega, (by first | (simp (disch := first | assumption | omega | rfl | decide) only [go_sem, Nat.reduceBEq, ↓reduceIte, Nat.reduceEqDiff, Nat.reduceAdd, Nat.reduceMul, Int.reduceToNat, Int.reduceAdd, Int.reduceMul, Int.reduceSub, tys]; done) | (simp (disch := first | assumption | omega | rfl | decide) only [go_sem, Nat.reduceBEq, ↓reduceIte, Nat.reduceEqDiff, Nat.reduceAdd, Nat.reduceMul, Int.reduceToNat, Int.reduceAdd, Int.reduceMul, Int.reduceSub, tys]; exact rfl)), rfl, by omega, a3, fun x hx => ?_, hT4, hrp4, qc4, ?_⟩
          · rw [inC_tk hql, hno x (by omega), hp', ha, hpt, hw, decide_eq_false (show ¬ x < (a : Int) + r by omega), Bool.and_false, Bool.or_false]
          · rw [qm4]
            refine congrArg (fun r => some (3, false, r)) (mk_congr fun y hy => ?_)
            rw [inC_tk hql, hp', ha, hpt, hw]
            generalize inC S (ps.take q) y = P
            cases P
            · rw [Bool.eq_iff_iff]; simp; omega
            · simp
    · obtain rfl : q = ps.length := by omega
      rw [List.take_length] at qm
      have hsort : pl.Pairwise (· < ·) := by rw [hpq]; exact (upto_sorted 0 sN).filter _
      have hpm : ∀ x : Int, x ∈ pl ↔ (0 ≤ x ∧ x < sN) ∧ inC S ps x = false := fun x => by
        rw [hpq, List.mem_filter, upto_iff, Bool.not_eq_true']
      have hpll : pl.length ≤ 256 := by
        have := List.length_filter_le (fun x => !inC S ps x) (upto 0 (sN : Int))
        rw [upto_length] at this
        rw [hpq]
        omega
      (repeat' first | (with_reducible first | apply x_seq | apply k_then | apply x_block | apply x_skip | apply x_ret | apply x_exit | apply x_label | apply k_pass | apply k_hit | apply k_miss rfl | apply k_out | apply k_turned | refine x_text fun K' hK => ?_) | ((with_reducible apply o_nil); refine hK _ _ _ ?_; clear hK) | fail | ((first | ((with_reducible apply o_pure w_none); (case hp => exact rfl); (case' he => intro h n)) | (with_reducible first | apply o_eff w_none | apply o_guard rfl | apply x_cond | apply k_e1 rfl | apply k_e2 rfl | apply k_e0 rfl | apply k_e3 rfl | apply k_e4 rfl)); (case he => (simp (disch := first | assumption | omega | rfl | decide) only [go_sem, Nat.reduceBEq, ↓reduceIte, Nat.reduceEqDiff, Nat.reduceAdd, Nat.reduceMul, Int.reduceToNat, Int.reduceAdd, Int.reduceMul, Int.reduceSub, tys] <;> rfl)); (try (case hok => first | exact rfl | exact ok_w (by omega) rfl)); all_goals (try (intro hb; (try (simp only [hbs, reduceCtorEq] at hb)); try (exfalso; omega)))) | ((with_reducible apply o_undef rfl); (case hb => (simp (disch := first | assumption | omega | rfl | decide) only [go_sem, Nat.reduceBEq, ↓reduceIte, Nat.reduceEqDiff, Nat.reduceAdd, Nat.reduceMul, Int.reduceToNat, Int.reduceAdd, Int.reduceMul, Int.reduceSub, tys]))))
      refine x_loopV [4, 19, 160, 161, 162, 163, 164, 165, 166, 167, 168, 169, 170, 171, 172, 173, 174, 175, 176, 177, 178, 179, 180, 181, 182, 183, 184, 185, 186, 187, 188, 189, 190, 191, 192, 193, 194, 195, 196, 197, 198, 199, 200, 201, 202, 203] [19] (fun m vs h4 n4 => ∃ (q : Nat), m = pl.length - q ∧ q ≤ pl.length ∧ vs = [.int .i64 q] ∧ n4 = n' + 1 ∧ RdH h4 n' PA (iv pl) ∧ rowOf h4 n' = some (3, false, mk sN fun x => inC S ps x || decide ((x : Int) ∈ pl.take q))) pl.length rfl (by omega) ?_ ?_
      · refine ⟨0, rfl, by omega, (by first | (simp (disch := first | assumption | omega | rfl | decide) only [go_sem, Nat.reduceBEq, ↓reduceIte, Nat.reduceEqDiff, Nat.reduceAdd, Nat.reduceMul, Int.reduceToNat, Int.reduceAdd, Int.reduceMul, Int.reduceSub, tys]; done) | (simp (disch := first | assumption | omega | rfl | decide) only [go_sem, Nat.reduceBEq, ↓reduceIte, Nat.reduceEqDiff, Nat.reduceAdd, Nat.reduceMul, Int.reduceToNat, Int.reduceAdd, Int.reduceMul, Int.reduceSub, tys]; exact rfl)), rfl, hrp3, ?_⟩
        rw [qm]
        refine congrArg (fun r => some (3, false, r)) (mk_congr fun y hy => ?_)
        simp
      · rintro m fr _ h4 n4 ⟨q, rfl, hq, rfl, rfl, hrp4, qm4⟩
        by_cases hql : q < pl.length
        · obtain ⟨y, hy⟩ : ∃ y, pl[q] = y := ⟨_, rfl⟩
          have hym := (hpm y).1 (by rw [← hy]; exact List.getElem_mem _)
          obtain ⟨z, hz⟩ := Int.eq_ofNat_of_zero_le hym.1.1
          have hnt : y ∉ pl.take q := fun hm => by
            obtain ⟨r, hr, hre⟩ := List.getElem_of_mem hm
            rw [List.length_take] at hr
            rw [List.getElem_take] at hre
            have := List.pairwise_iff_getElem.1 hsort r q (by omega) hql (by omega)
            omega
          obtain ⟨pid, poff, hPA, -, c1⟩ := int_at hrp4 hql
          subst hPA
          rw [hy, hz] at c1
          rw [hz] at hym hnt hy
          have cm := cellAt_row (off := z) qm4
          rw [mk_get (by omega)] at cm
          have hf0 : (inC S ps (z : Int) || decide ((z : Int) ∈ pl.take q)) = false := by rw [hym.2, decide_eq_false hnt]; rfl
          simp only [hf0] at cm
          have hb0 : b2i false = 0 := rfl
          rw [hb0] at cm
          have w4 := rwOf_row qm4
          have hov := mk_set (sz := sN) (x := z) (f := fun x => inC S ps x || decide ((x : Int) ∈ pl.take q)) (g := fun x => inC S ps x || decide ((x : Int) ∈ pl.take (q + 1))) (by omega) fun x hx => by
            rw [List.take_succ_eq_append_getElem hql, hy, Bool.or_assoc]
            congr 1
            have hxz : ((x : Int) = (z : Int)) ↔ x = z := by omega
            rw [Bool.eq_iff_iff, Bool.or_eq_true, decide_eq_true_eq, decide_eq_true_eq, decide_eq_true_eq, List.mem_append, List.mem_singleton, hxz]
          by_cases hq0 : 0 < q
          · have c0 : cellAt h4 pid (poff + (q - 1)) = some (.int .i64 (pl[q - 1]'(by omega))) := by
              obtain ⟨i1, o1, hA1, -, e1⟩ := int_at hrp4 (i := q - 1) (by omega)
              injection hA1 with hA1
              injection hA1 with e3 e4
              subst e3; subst e4
              exact e1
            have hlt : pl[q - 1]'(by omega) < z := by
              have := List.pairwise_iff_getElem.1 hsort (q - 1) q (by omega) hql (by omega)
              omega
            obtain ⟨u, hu⟩ : ∃ u, pl[q - 1]'(by omega) = u := ⟨_, rfl⟩
            rw [hu] at c0 hlt
            have hnat : ((q : Int) - 1).toNat = q - 1 := by omega
            (repeat' first | (with_reducible first | apply x_seq | apply k_then | apply x_block | apply x_skip | apply x_ret | apply x_exit | apply x_label | apply k_pass | apply k_hit | apply k_miss rfl | apply k_out | apply k_turned | refine x_text fun K' hK => ?_) | ((with_reducible apply o_nil); refine hK _ _ _ ?_; clear hK) | (with_reducible refine x_drawnD (id := 26) [(21, 25)] (by kernel_rfl) fun K' hK => ?_) | ((with_reducible apply d_nil); (case hp => (simp (disch := omega) only [pairsOk, List.all_cons, List.all_nil, List.reverse_cons, List.reverse_nil, List.nil_append, List.cons_append, lget_zero, lget_succ, apartB, touches, made_mm, made_lt, made_ge, all_true, ble_t, ble_f, blt_t, blt_f, beq_f, List.contains_cons, List.contains_nil, Bool.and_true, Bool.true_and, Bool.and_false, Bool.false_and, Bool.or_false, Bool.false_or, Bool.not_false, Bool.not_true, beq_self_eq_true])); (case' hx => (refine hK _ _ _ ?_; clear hK))) | ((with_reducible apply d_pure w_none); (case hp => exact rfl); (case hc => exact rfl); (case he => (intro h n; simp (disch := first | assumption | omega | rfl | decide) only [go_sem, Nat.reduceBEq, ↓reduceIte, Nat.reduceEqDiff, Nat.reduceAdd, Nat.reduceMul, Int.reduceToNat, Int.reduceAdd, Int.reduceMul, Int.reduceSub, tys, c0, c1, hnat]; exact rfl))) | ((with_reducible apply d_eff w_none); (case hc => exact rfl); (case he => (simp (disch := first | assumption | omega | rfl | decide) only [go_sem, Nat.reduceBEq, ↓reduceIte, Nat.reduceEqDiff, Nat.reduceAdd, Nat.reduceMul, Int.reduceToNat, Int.reduceAdd, Int.reduceMul, Int.reduceSub, tys, c0, c1, hnat]; exact rfl)); (case hok => first | exact rfl | exact ok_w (by omega) rfl)) | ((with_reducible apply d_guard rfl); (case hb => (simp (disch := first | assumption | omega | rfl | decide) only [go_sem, Nat.reduceBEq, ↓reduceIte, Nat.reduceEqDiff, Nat.reduceAdd, Nat.reduceMul, Int.reduceToNat, Int.reduceAdd, Int.reduceMul, Int.reduceSub, tys, c0, c1, hnat]; exact rfl)); (case' h1 => intro hb; (try (simp only [hbs, reduceCtorEq] at hb)); try (exfalso; omega)); (case' h2 => intro hb; (try (simp only [hbs, reduceCtorEq] at hb)); try (exfalso; omega))) | ((first | ((with_reducible apply o_pure w_none); (case hp => exact rfl); (case' he => intro h n)) | (with_reducible first | apply o_eff w_none | apply o_guard rfl | apply x_cond | apply k_e1 rfl | apply k_e2 rfl | apply k_e0 rfl | apply k_e3 rfl | apply k_e4 rfl)); (case he => (simp (disch := first | assumption | omega | rfl | decide) only [go_sem, Nat.reduceBEq, ↓reduceIte, Nat.reduceEqDiff, Nat.reduceAdd, Nat.reduceMul, Int.reduceToNat, Int.reduceAdd, Int.reduceMul, Int.reduceSub, tys, c0, c1, cm, w4, hov, hnat] <;> rfl)); (try (case hok => first | exact rfl | exact ok_w (by omega) rfl)); all_goals (try (intro hb; (try (simp only [hbs, reduceCtorEq] at hb)); try (exfalso; omega)))) | ((with_reducible apply o_undef rfl); (case hb => (simp (disch := first | assumption | omega | rfl | decide) only [go_sem, Nat.reduceBEq, ↓reduceIte, Nat.reduceEqDiff, Nat.reduceAdd, Nat.reduceMul, Int.reduceToNat, Int.reduceAdd, Int.reduceMul, Int.reduceSub, tys]))))
            refine k_round (pl.length - (q + 1)) (by omega) ⟨q + 1, rfl, by omega, (by first | (simp (disch := first | assumption | omega | rfl | decide) only [go_sem, Nat.reduceBEq, ↓reduceIte, Nat.reduceEqDiff, Nat.reduceAdd, Nat.reduceMul, Int.reduceToNat, Int.reduceAdd, Int.reduceMul, Int.reduceSub, tys]; done) | (simp (disch := first | assumption | omega | rfl | decide) only [go_sem, Nat.reduceBEq, ↓reduceIte, Nat.reduceEqDiff, Nat.reduceAdd, Nat.reduceMul, Int.reduceToNat, Int.reduceAdd, Int.reduceMul, Int.reduceSub, tys]; exact rfl)), rfl, hrp4.set (Nat.le_refl _) _, rowOf_same _ _ _ _ _⟩
          · (repeat' first | (with_reducible first | apply x_seq | apply k_then | apply x_block | apply x_skip | apply x_ret | apply x_exit | apply x_label | apply k_pass | apply k_hit | apply k_miss rfl | apply k_out | apply k_turned | refine x_text fun K' hK => ?_) | ((with_reducible apply o_nil); refine hK _ _ _ ?_; clear hK) | (with_reducible refine x_drawnD (id := 26) [(21, 25)] (by kernel_rfl) fun K' hK => ?_) | ((with_reducible apply d_nil); (case hp => (simp (disch := omega) only [pairsOk, List.all_cons, List.all_nil, List.reverse_cons, List.reverse_nil, List.nil_append, List.cons_append, lget_zero, lget_succ, apartB, touches, made_mm, made_lt, made_ge, all_true, ble_t, ble_f, blt_t, blt_f, beq_f, List.contains_cons, List.contains_nil, Bool.and_true, Bool.true_and, Bool.and_false, Bool.false_and, Bool.or_false, Bool.false_or, Bool.not_false, Bool.not_true, beq_self_eq_true])); (case' hx => (refine hK _ _ _ ?_; clear hK))) | ((with_reducible apply d_pure w_none); (case hp => exact rfl); (case hc => exact rfl); (case he => (intro h n; simp (disch := first | assumption | omega | rfl | decide) only [go_sem, Nat.reduceBEq, ↓reduceIte, Nat.reduceEqDiff, Nat.reduceAdd, Nat.reduceMul, Int.reduceToNat, Int.reduceAdd, Int.reduceMul, Int.reduceSub, tys, c1]; exact rfl))) | ((with_reducible apply d_eff w_none); (case hc => exact rfl); (case he => (simp (disch := first | assumption | omega | rfl | decide) only [go_sem, Nat.reduceBEq, ↓reduceIte, Nat.reduceEqDiff, Nat.reduceAdd, Nat.reduceMul, Int.reduceToNat, Int.reduceAdd, Int.reduceMul, Int.reduceSub, tys, c1]; exact rfl)); (case hok => first | exact rfl | exact ok_w (by omega) rfl)) | ((with_reducible apply d_guard rfl); (case hb => (simp (disch := first | assumption | omega | rfl | decide) only [go_sem, Nat.reduceBEq, ↓reduceIte, Nat.reduceEqDiff, Nat.reduceAdd, Nat.reduceMul, Int.reduceToNat, Int.reduceAdd, Int.reduceMul, Int.reduceSub, tys, c1]; exact rfl)); (case' h1 => intro hb; (try (simp only [hbs, reduceCtorEq] at hb)); try (exfalso; omega)); (case' h2 => intro hb; (try (simp only [hbs, reduceCtorEq] at hb)); try (exfalso; omega))) | ((first | ((with_reducible apply o_pure w_none); (case hp => exact rfl); (case' he => intro h n)) | (with_reducible first | apply o_eff w_none | apply o_guard rfl | apply x_cond | apply k_e1 rfl | apply k_e2 rfl | apply k_e0 rfl | apply k_e3 rfl | apply k_e4 rfl)); (case he => (simp (disch := first | assumption | omega | rfl | decide) only [go_sem, Nat.reduceBEq, ↓reduceIte, Nat.reduceEqDiff, Nat.reduceAdd, Nat.reduceMul, Int.reduceToNat, Int.reduceAdd, Int.reduceMul, Int.reduceSub, tys, c1, cm, w4, hov] <;> rfl)); (try (case hok => first | exact rfl | exact ok_w (by omega) rfl)); all_goals (try (intro hb; (try (simp only [hbs, reduceCtorEq] at hb)); try (exfalso; omega)))) | ((with_reducible apply o_undef rfl); (case hb => (simp (disch := first | assumption | omega | rfl | decide) only [go_sem, Nat.reduceBEq, ↓reduceIte, Nat.reduceEqDiff, Nat.reduceAdd, Nat.reduceMul, Int.reduceToNat, Int.reduceAdd, Int.reduceMul, Int.reduceSub, tys]))))
            refine k_round (pl.length - (q + 1)) (by omega) ⟨q + 1, rfl, by omega, (by first | (simp (disch := first | assumption | omega | rfl | decide) only [go_sem, Nat.reduceBEq, ↓reduceIte, Nat.reduceEqDiff, Nat.reduceAdd, Nat.reduceMul, Int.reduceToNat, Int.reduceAdd, Int.reduceMul, Int.reduceSub, tys]; done) | (simp (disch := first | assumption | omega | rfl | decide) only [go_sem, Nat.reduceBEq, ↓reduceIte, Nat.reduceEqDiff, Nat.reduceAdd, Nat.reduceMul, Int.reduceToNat, Int.reduceAdd, Int.reduceMul, Int.reduceSub, tys]; exact rfl)), rfl, hrp4.set (Nat.le_refl _) _, rowOf_same _ _ _ _ _⟩
        · obtain rfl : q = pl.length := by omega
          rw [List.take_length] at qm4
          have hall : ∀ x : Nat, x < sN → (inC S ps x || decide ((x : Int) ∈ pl)) = true := fun x hx => by
            cases hin : inC S ps (x : Int)
            · rw [decide_eq_true ((hpm x).2 ⟨by omega, hin⟩)]; rfl
            · rfl
          have cm := fun (x : Nat) (hx : x < sN) => by
            have := cellAt_row (off := x) qm4
            rw [mk_get hx] at this
            simp only [hall x hx] at this
            exact this
          have hb1 : b2i true = 1 := rfl
          rw [hb1] at cm
          (repeat' first | (with_reducible first | apply x_seq | apply k_then | apply x_block | apply x_skip | apply x_ret | apply x_exit | apply x_label | apply k_pass | apply k_hit | apply k_miss rfl | apply k_out | apply k_turned | refine x_text fun K' hK => ?_) | ((with_reducible apply o_nil); refine hK _ _ _ ?_; clear hK) | fail | ((first | ((with_reducible apply o_pure w_none); (case hp => exact rfl); (case' he => intro h n)) | (with_reducible first | apply o_eff w_none | apply o_guard rfl | apply x_cond | apply k_e1 rfl | apply k_e2 rfl | apply k_e0 rfl | apply k_e3 rfl | apply k_e4 rfl)); (case he => (simp (disch := first | assumption | omega | rfl | decide) only [go_sem, Nat.reduceBEq, ↓reduceIte, Nat.reduceEqDiff, Nat.reduceAdd, Nat.reduceMul, Int.reduceToNat, Int.reduceAdd, Int.reduceMul, Int.reduceSub, tys] <;> rfl)); (try (case hok => first | exact rfl | exact ok_w (by omega) rfl)); all_goals (try (intro hb; (try (simp only [hbs, reduceCtorEq] at hb)); try (exfalso; omega)))) | ((with_reducible apply o_undef rfl); (case hb => (simp (disch := first | assumption | omega | rfl | decide) only [go_sem, Nat.reduceBEq, ↓reduceIte, Nat.reduceEqDiff, Nat.reduceAdd, Nat.reduceMul, Int.reduceToNat, Int.reduceAdd, Int.reduceMul, Int.reduceSub, tys]))))
          refine x_loopF [4, 20, 204, 205, 206, 207, 208, 209, 210, 211, 212, 213] [20] (fun m vs => ∃ q : Nat, m = sN - q ∧ q ≤ sN ∧ vs = [.int .i64 q]) sN rfl (by omega) ⟨0, rfl, by omega, (by first | (simp (disch := first | assumption | omega | rfl | decide) only [go_sem, Nat.reduceBEq, ↓reduceIte, Nat.reduceEqDiff, Nat.reduceAdd, Nat.reduceMul, Int.reduceToNat, Int.reduceAdd, Int.reduceMul, Int.reduceSub, tys]; done) | (simp (disch := first | assumption | omega | rfl | decide) only [go_sem, Nat.reduceBEq, ↓reduceIte, Nat.reduceEqDiff, Nat.reduceAdd, Nat.reduceMul, Int.reduceToNat, Int.reduceAdd, Int.reduceMul, Int.reduceSub, tys]; exact rfl))⟩ ?_
          rintro m g _ ⟨q, rfl, hq, rfl⟩
          by_cases hql : q < sN
          · have c5 := cm q hql
            (repeat' first | (with_reducible first | apply x_seq | apply k_then | apply x_block | apply x_skip | apply x_ret | apply x_exit | apply x_label | apply k_pass | apply k_hit | apply k_miss rfl | apply k_out | apply k_turned | refine x_text fun K' hK => ?_) | ((with_reducible apply o_nil); refine hK _ _ _ ?_; clear hK) | fail | ((first | ((with_reducible apply o_pure w_none); (case hp => exact rfl); (case' he => intro h n)) | (with_reducible first | apply o_eff w_none | apply o_guard rfl | apply x_cond | apply k_e1 rfl | apply k_e2 rfl | apply k_e0 rfl | apply k_e3 rfl | apply k_e4 rfl)); (case he => (simp (disch := first | assumption | omega | rfl | decide) only [go_sem, Nat.reduceBEq, ↓reduceIte, Nat.reduceEqDiff, Nat.reduceAdd, Nat.reduceMul, Int.reduceToNat, Int.reduceAdd, Int.reduceMul, Int.reduceSub, tys, c5] <;> rfl)); (try (case hok => first | exact rfl | exact ok_w (by omega) rfl)); all_goals (try (intro hb; (try (simp only [hbs, reduceCtorEq] at hb)); try (exfalso; omega)))) | ((with_reducible apply o_undef rfl); (case hb => (simp (disch := first | assumption | omega | rfl | decide) only [go_sem, Nat.reduceBEq, ↓reduceIte, Nat.reduceEqDiff, Nat.reduceAdd, Nat.reduceMul, Int.reduceToNat, Int.reduceAdd, Int.reduceMul, Int.reduceSub, tys]))))
            refine k_round (sN - (q + 1)) (by omega) ⟨⟨rfl, rfl⟩, q + 1, rfl, by omega, (by first | (simp (disch := first | assumption | omega | rfl | decide) only [go_sem, Nat.reduceBEq, ↓reduceIte, Nat.reduceEqDiff, Nat.reduceAdd, Nat.reduceMul, Int.reduceToNat, Int.reduceAdd, Int.reduceMul, Int.reduceSub, tys]; done) | (simp (disch := first | assumption | omega | rfl | decide) only [go_sem, Nat.reduceBEq, ↓reduceIte, Nat.reduceEqDiff, Nat.reduceAdd, Nat.reduceMul, Int.reduceToNat, Int.reduceAdd, Int.reduceMul, Int.reduceSub, tys]; exact rfl))⟩
          · obtain rfl : q = sN := by omega
            (repeat' first | (with_reducible first | apply x_seq | apply k_then | apply x_block | apply x_skip | apply x_ret | apply x_exit | apply x_label | apply k_pass | apply k_hit | apply k_miss rfl | apply k_out | apply k_turned | refine x_text fun K' hK => ?_) | ((with_reducible apply o_nil); refine hK _ _ _ ?_; clear hK) | ((with_reducible apply o_callF (g := 33) w_none); (case ha => (simp (disch := first | assumption | omega | rfl | decide) only [go_sem, Nat.reduceBEq, ↓reduceIte, Nat.reduceEqDiff, Nat.reduceAdd, Nat.reduceMul, Int.reduceToNat, Int.reduceAdd, Int.reduceMul, Int.reduceSub, tys]; exact rfl)); (case hs => exact hal _ _ _); (case' hk => rintro _ h' n' ⟨rfl, rfl, rfl⟩)) | ((first | ((with_reducible apply o_pure w_none); (case hp => exact rfl); (case' he => intro h n)) | (with_reducible first | apply o_eff w_none | apply o_guard rfl | apply x_cond | apply k_e1 rfl | apply k_e2 rfl | apply k_e0 rfl | apply k_e3 rfl | apply k_e4 rfl)); (case he => (simp (disch := first | assumption | omega | rfl | decide) only [go_sem, Nat.reduceBEq, ↓reduceIte, Nat.reduceEqDiff, Nat.reduceAdd, Nat.reduceMul, Int.reduceToNat, Int.reduceAdd, Int.reduceMul, Int.reduceSub, tys] <;> rfl)); (try (case hok => first | exact rfl | exact ok_w (by omega) rfl)); all_goals (try (intro hb; (try (simp only [hbs, reduceCtorEq] at hb)); try (exfalso; omega)))) | ((with_reducible apply o_undef rfl); (case hb => (simp (disch := first | assumption | omega | rfl | decide) only [go_sem, Nat.reduceBEq, ↓reduceIte, Nat.reduceEqDiff, Nat.reduceAdd, Nat.reduceMul, Int.reduceToNat, Int.reduceAdd, Int.reduceMul, Int.reduceSub, tys]))))
            all_goals exact sw_flat rfl rfl rfl
theorem layoutParts_ev (hk : 30000 ≤ k) (A : Option Addr) (T : List Tp) (c : Nat) (hT : TabH h n A T) (i : Int) (hm : T.length ≤ 9223372036854775807) (hS0 : ∀ t ∈ T, t.fs.length ≤ 9223372036854775807)
    (hal : ∀ cl h n, Sp Try.prog (shut (acall Try.prog WW k (d + 50))) cl 33 [] h n fun v h' n' => v = .bool true ∧ h' = h ∧ n' = n) :
    Sp Try.prog (afunc Try.prog (shut (acall Try.prog WW k (d + 50))) WW k) cl 5 [.slice A T.length c, .int .i64 i] h n fun v h' n' => v = .bool true := by
  obtain ⟨v, h2, n2, ⟨B, rfl, hg, rfl, rfl⟩, hB⟩ := sp_fix (fit_ev k (d + 41) n h n hk A T c hT i hm hS0)
  have hB2 : Sp Try.prog (acall Try.prog WW k (d + 50)) n2 32 [.slice A T.length c, .int .i64 i] h2 n2 fun v3 h3 n3 => v3 = .bool B ∧ h2 = h3 ∧ n2 = n3 := hB.mono fun _ _ _ hp => ⟨hp.1, hp.2.1.symm, hp.2.2.symm⟩
  rcases B with _ | _
  · exact lpt_no k d cl h2 n2 A T c i hal hB2
  · obtain ⟨hS, he⟩ := hg rfl
    obtain ⟨-, h0, -⟩ := szR_0 he
    obtain ⟨j, rfl⟩ := Int.eq_ofNat_of_zero_le h0
    exact lpt_yes k d cl h2 n2 hk A T c hT hm j (fun t ht => by have := hS t ht; omega) (by rw [szR_eq]; exact he) hal hB2
end Go.Proofs.Ytgdokjfjmcleeaa.Ce
