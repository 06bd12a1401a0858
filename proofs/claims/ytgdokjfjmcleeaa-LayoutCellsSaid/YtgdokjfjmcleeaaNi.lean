/- Padding: a symbolic run of the reference. -/
import Derived.Test.YtgdokjfjmcleeaaNh
import Derived.Test.YtgdokjfjmcleeaaNb
import Derived.Test.YtgdokjfjmcleeaaMb
import Derived.Test.YtgdokjfjmcleeaaMf
namespace Go.Proofs.Ytgdokjfjmcleeaa.Ce
open Go.RowKit
set_option linter.unusedVariables false
set_option linter.unusedSimpArgs false
attribute [local go_sem ↓] lv_tmp fput_some fput_none fputs_cons fputs_nil mix_in mix_out finit_zero finit_succ cellAt_same cellAt_ne cellsAt_same cellsAt_ne rwOf_same rwOf_ne' rowOf_same rowOf_ne
attribute [local go_sem] a_move a_assign a_pick a_alloc a_box a_build a_buildSlice bif_cok a_load a_store a_bin a_un a_convert a_func a_makeMap a_makeSlice a_slice a_fieldAddr a_indexAddr a_index a_extract a_len a_append a_copy a_max a_min lv_int lv_bool lv_str lv_func lv_nil b_add b_sub b_mul b_eql b_neq b_lss b_leq b_gtr b_geq b_quo b_rem b_shl8 b_or8 b_shr u_not p_pick m_max m_min x_tuple mVO_some lget_zero lget_succ ltake_zero ltake_cons ldrop_zero ldrop_cons overAt_zero overAt_cons over_nil over_cons Hp.set_set fill_nil fill_cons c_int1 c_bool1 c_str1 c_ptr1 c_sli1 c_map1 c_agg c_agg' cok_int cok_bool cok_str cok_ptr cok_sli cok_map List.length_cons List.length_nil List.all_cons List.all_nil Bool.and_true Bool.true_and Bool.and_self beq_self_eq_true wrap_i64 wrap_u64 wrap_u8 tdiv_pos tmod_pos Nat.zero_add Nat.add_zero Nat.mul_one Nat.zero_mul List.take_zero List.take_nil Option.bind_some Option.map_some Option.map_none cond_true cond_false List.map_cons List.map_nil List.cons_append List.nil_append Int.toNat_natCast Int.zero_add Int.add_zero Int.mul_zero Int.mul_one Bool.not_true Bool.not_false r_tmp r_cell
set_option maxRecDepth 100000
set_option maxHeartbeats 2000000

/-- a row of truth values -/
def bw (l : List Bool) : List Value := l.map Value.bool
theorem bw_length (l : List Bool) : (bw l).length = l.length := by simp [bw]
theorem mk_falses (m : Nat) : (List.replicate m [Value.bool false]).flatten = bw (List.replicate m false) := by unfold bw; rw [List.map_replicate]; induction m with | zero => rfl | succ m ih => rw [List.replicate_succ, List.flatten_cons, ih, List.replicate_succ]; rfl
theorem bw_lget {l : List Bool} {i : Nat} {b : Bool} (hi : l[i]? = some b) : lget (bw l) i = some (.bool b) := by rw [lget_eq]; unfold bw; rw [List.getElem?_map, hi]; rfl
theorem bw_set {l : List Bool} {i : Nat} (hi : i < l.length) : overAt i [Value.bool true] (bw l) = some (bw (l.set i true)) := by
  rw [overAt_one (by rw [bw_length]; exact hi)]
  unfold bw
  rw [List.map_set]
/-- the padding of a type, by the reference -/
def padR (T : List Tp) (j : Nat) : List Int := (upto 0 (szT 1000000 T j)).filter fun x => !inC (szT 1000000 T) (cellsT T j) x
theorem inC_take {S : Int → Int} {ps : List (Int × Int)} {q : Nat} (hq : q < ps.length) (x : Int) : inC S (ps.take (q + 1)) x = (inC S (ps.take q) x || (decide ((ps[q]).1 ≤ x) && decide (x < (ps[q]).1 + S (ps[q]).2))) := by
  unfold inC
  rw [List.take_succ_eq_append_getElem hq, List.any_append, List.any_cons, List.any_nil, Bool.or_false]
theorem cellsT_bnd2 {T : List Tp} (hC : ChkT T) {j : Nat} (h1 : j < T.length) (hb : ((eRow 1000000 T).at_ (j : Int)).1 ≤ 256) : AscB (szT 1000000 T) 0 (szT 1000000 T j) (cellsT T j) ∧ (∀ p ∈ cellsT T j, 0 ≤ p.2 ∧ p.2 < T.length) ∧ (cellsT T j).length ≤ 256 := by
  have hl := hC.1
  have := cells_asc (C := 1000000) (by decide) (by decide) hC.2.1 32 j 0 (by omega) (by omega) hb
  have h3 := cells_len (C := 1000000) (by decide) (by decide) hC.2.1 32 j 0 (by omega) (by omega) hb
  refine ⟨by rw [Int.zero_add] at this; exact this, fun p hp => ?_, by unfold cellsT; omega⟩
  obtain ⟨t, ht, e, -⟩ := cells_leaf (C := 1000000) hC.2.1 32 j 0 (by omega) (by omega) p hp
  omega
theorem pad_eq {T : List Tp} (hC : ChkT T) {j : Nat} (h1 : j < T.length) (hb : ((eRow 1048576 T).at_ (j : Int)).1 ≤ 256) : padT T j = padR T j := by
  have hat : ∀ j : Int, 0 ≤ j → j < T.length → ((eRow 1048576 T).at_ j).1 ≤ 256 → (eRow 1048576 T).at_ j = (eRow 1000000 T).at_ j := fun j h0 h1 => ((ext_rel hC.2.1).2 j h0 (by rw [eRow_length]; exact h1)).big.2
  obtain ⟨hasc, hty, -⟩ := cellsT_bnd hC h1 hb
  unfold padT padR
  rw [gaps_eq hasc fun p hp => (hty p hp).1]
  have e1 : szT 1048576 T j = szT 1000000 T j := by unfold szT; rw [hat j (by omega) (by omega) hb]
  rw [e1]
  refine List.filter_congr fun x _ => ?_
  congr 1
  unfold inC
  rw [Bool.eq_iff_iff, List.any_eq_true, List.any_eq_true]
  have key : ∀ p ∈ cellsT T j, szT 1048576 T p.2 = szT 1000000 T p.2 := fun p hp => by
    have h2 := hty p hp
    have h3 := hasc.mem p hp
    have h4 : szT 1048576 T j ≤ 256 := hb
    have h5 : ((eRow 1048576 T).at_ p.2).1 ≤ 256 := by show szT 1048576 T p.2 ≤ 256; omega
    unfold szT
    rw [hat _ h2.1 h2.2 h5]
  constructor
  · rintro ⟨p, hp, h⟩
    exact ⟨p, hp, by rw [← key p hp]; exact h⟩
  · rintro ⟨p, hp, h⟩
    exact ⟨p, hp, by rw [key p hp]; exact h⟩
theorem IntsV.nil {l : List Int} {h h' : Hp} {n n' : Nat} {v : Value} (hl : l = []) (hh : ∃ V, v = .tuple ⟨[V, .int .i64 0]⟩ ∧ IntsV l h n V h' n') : v = .tuple ⟨[.slice none 0 0, .int .i64 0]⟩ ∧ h' = h ∧ n' = n := by
  obtain ⟨V, rfl, ⟨-, rfl, rfl, rfl⟩ | ⟨hn, -⟩⟩ := hh
  · exact ⟨rfl, rfl, rfl⟩
  · exact absurd hl hn
theorem IntsV.row {l : List Int} {h h' : Hp} {n n' : Nat} {v : Value} (hl : l ≠ []) (hh : ∃ V, v = .tuple ⟨[V, .int .i64 0]⟩ ∧ IntsV l h n V h' n') : v = .tuple ⟨[.slice (some ⟨n, 0, none⟩) l.length l.length, .int .i64 0]⟩ ∧ h' = h.set n (.row 3 false (iv l)) ∧ n' = n + 1 := by
  obtain ⟨V, rfl, ⟨hn, -⟩ | ⟨-, rfl, rfl, rfl⟩⟩ := hh
  · exact absurd hn hl
  · exact ⟨rfl, rfl, rfl⟩
theorem sp_fix {P : Program} {F : CallE} {cl n : Nat} {g : FuncId} {ar : List Value} {h : Hp} {Φ : Value → Hp → Nat → Prop} (hs : Sp P F cl g ar h n Φ) : ∃ v h' n', Φ v h' n' ∧ Sp P F cl g ar h n fun v2 h2 n2 => v2 = v ∧ h2 = h' ∧ n2 = n' := by
  obtain ⟨hg, v, h', n', hr, hp⟩ := hs
  exact ⟨v, h', n', hp, hg, v, h', n', hr, rfl, rfl, rfl⟩
variable (k d cl : Nat) (h : Hp) (n : Nat)
theorem rpad_err (hk : 30000 ≤ k) (A : Option Addr) (T : List Tp) (c : Nat) (hT : TabH h n A T) (hS : ∀ t ∈ T, t.fs.length ≤ 20000) (hm : T.length ≤ 9223372036854775807) (i : Int) (he : (szR 1000000 T i).2.2 ≠ 0) :
    Sp Try.prog (acall Try.prog WW k (d + 41)) cl 30 [.slice A T.length c, .int .i64 i] h n fun v h' n' => v = .tuple ⟨[.slice none 0 0, .int .i64 (szR 1000000 T i).2.2]⟩ ∧ h' = h ∧ n' = n := by
  obtain ⟨e, hee⟩ : ∃ e, (szR 1000000 T i).2.2 = e := ⟨_, rfl⟩
  have hA := rcells_err k d n h n hk A T c hT hS hm i he
  rw [hee] at he hA ⊢
  refine enter Try.func30 (by kernel_rfl) rfl (by kernel_rfl) rfl rfl rfl ?_
  (repeat' first | (with_reducible first | apply x_seq | apply k_then | apply x_block | apply x_skip | apply x_ret | apply x_exit | apply x_label | apply k_pass | apply k_hit | apply k_miss rfl | apply k_out | apply k_turned | refine x_text fun K' hK => ?_) | ((with_reducible apply o_nil); refine hK _ _ _ ?_; clear hK) | ((with_reducible apply o_callF (g := 28) w_none); (case ha => (simp (disch := first | assumption | omega | rfl | decide) only [go_sem, Nat.reduceBEq, ↓reduceIte, Nat.reduceEqDiff, Nat.reduceAdd, Nat.reduceMul, Int.reduceToNat, Int.reduceAdd, Int.reduceMul, Int.reduceSub, tys]; exact rfl)); (case hs => (exact hA)); (case' hk => rintro _ h' n' ⟨rfl, rfl, rfl⟩)) | ((first | ((with_reducible apply o_pure w_none); (case hp => exact rfl); (case' he => intro h n)) | (with_reducible first | apply o_eff w_none | apply o_guard rfl | apply x_cond | apply k_e1 rfl | apply k_e2 rfl | apply k_e0 rfl | apply k_e3 rfl | apply k_e4 rfl)); (case he => (simp (disch := first | assumption | omega | rfl | decide) only [go_sem, Nat.reduceBEq, ↓reduceIte, Nat.reduceEqDiff, Nat.reduceAdd, Nat.reduceMul, Int.reduceToNat, Int.reduceAdd, Int.reduceMul, Int.reduceSub, tys] <;> rfl)); (try (case hok => first | exact rfl | exact ok_w (by omega) rfl)); all_goals (try (intro hb; (try (simp only [hbs, reduceCtorEq] at hb)); try (exfalso; omega)))) | ((with_reducible apply o_undef rfl); (case hb => (simp (disch := first | assumption | omega | rfl | decide) only [go_sem, Nat.reduceBEq, ↓reduceIte, Nat.reduceEqDiff, Nat.reduceAdd, Nat.reduceMul, Int.reduceToNat, Int.reduceAdd, Int.reduceMul, Int.reduceSub, tys]))))
  all_goals exact sw_flat rfl rfl ⟨rfl, rfl, rfl⟩
theorem rpad_ok (hk : 30000 ≤ k) (A : Option Addr) (T : List Tp) (c : Nat) (hT : TabH h n A T) (hS : ∀ t ∈ T, t.fs.length ≤ 20000) (hm : T.length ≤ 9223372036854775807) (j : Nat) (he : (szR 1000000 T j).2.2 = 0) :
    Sp Try.prog (acall Try.prog WW k (d + 41)) cl 30 [.slice A T.length c, .int .i64 j] h n fun v h' n' => ∃ V, v = .tuple ⟨[V, .int .i64 0]⟩ ∧ IntsV (padR T j) h n V h' n' := by
  have hA := rcells_ok k d n h n hk A T c hT hS hm j he
  obtain ⟨hC, h0, h1, hsz5, -⟩ := szR_0 he
  have hl := hC.1
  obtain ⟨hasc, hty, hlen⟩ := cellsT_bnd2 hC (by omega) hsz5
  have hB := rsizes_ev k (d + 37) n (h.set n (.row 57 false (pv (cellsT T j)))) (n + 1) hk A T c ((hT.set (Nat.le_refl _) _).more (by omega)) hl (by omega) hC.2.1
  have hszg := fun {t : Nat} (ht : t < T.length) => (sz_get (E := eRow 1000000 T) (j := t) (by rw [eRow_length]; exact ht)).1
  obtain ⟨ps, hps⟩ : ∃ ps, cellsT T j = ps := ⟨_, rfl⟩
  unfold padR
  rw [hps] at hA hB hasc hty hlen ⊢
  have hsj : szT 1000000 T j ≤ 256 := hsz5
  have hsj0 := hasc.le
  have hmem : ∀ p ∈ ps, 0 ≤ p.1 ∧ 1 ≤ szT 1000000 T p.2 ∧ p.1 + szT 1000000 T p.2 ≤ szT 1000000 T j ∧ 0 ≤ p.2 ∧ p.2 < T.length := fun p hp => by
    have := hasc.mem p hp
    have := hty p hp
    omega
  obtain ⟨S, hS2⟩ : ∃ S, szT 1000000 T = S := ⟨_, rfl⟩
  have hszS : ∀ t : Nat, ((eRow 1000000 T).at_ (t : Int)).1 = S t := fun t => by rw [← hS2]; rfl
  have hszg2 := fun {t : Nat} (ht : t < T.length) => by have := hszg ht; rw [hszS] at this; exact this
  rw [hS2] at hmem hsj hsj0 ⊢
  obtain ⟨sN, hsN⟩ := Int.eq_ofNat_of_zero_le hsj0
  rw [hsN] at hmem hsj ⊢
  have hgj := hszg2 (t := j) (by omega)
  rw [hsN] at hgj
  refine enter Try.func30 (by kernel_rfl) rfl (by kernel_rfl) rfl rfl rfl ?_
  (repeat' first | (with_reducible first | apply x_seq | apply k_then | apply x_block | apply x_skip | apply x_ret | apply x_exit | apply x_label | apply k_pass | apply k_hit | apply k_miss rfl | apply k_out | apply k_turned | refine x_text fun K' hK => ?_) | ((with_reducible apply o_nil); refine hK _ _ _ ?_; clear hK) | ((with_reducible apply o_callF (g := 28) w_none); (case ha => (simp (disch := first | assumption | omega | rfl | decide) only [go_sem, Nat.reduceBEq, ↓reduceIte, Nat.reduceEqDiff, Nat.reduceAdd, Nat.reduceMul, Int.reduceToNat, Int.reduceAdd, Int.reduceMul, Int.reduceSub, tys]; exact rfl)); (case hs => (exact hA)); (case' hk => rintro _ h' n' ⟨rfl, rfl, rfl⟩)) | ((with_reducible apply o_callF (g := 58) w_none); (case ha => (simp (disch := first | assumption | omega | rfl | decide) only [go_sem, Nat.reduceBEq, ↓reduceIte, Nat.reduceEqDiff, Nat.reduceAdd, Nat.reduceMul, Int.reduceToNat, Int.reduceAdd, Int.reduceMul, Int.reduceSub, tys]; exact rfl)); (case hs => (exact hB)); (case' hk => rintro _ h' n' ⟨rfl, rfl, rfl⟩)) | ((first | ((with_reducible apply o_pure w_none); (case hp => exact rfl); (case' he => intro h n)) | (with_reducible first | apply o_eff w_none | apply o_guard rfl | apply x_cond | apply k_e1 rfl | apply k_e2 rfl | apply k_e0 rfl | apply k_e3 rfl | apply k_e4 rfl)); (case he => (simp (disch := first | assumption | omega | rfl | decide) only [go_sem, Nat.reduceBEq, ↓reduceIte, Nat.reduceEqDiff, Nat.reduceAdd, Nat.reduceMul, Int.reduceToNat, Int.reduceAdd, Int.reduceMul, Int.reduceSub, tys, hgj, mk_falses] <;> rfl)); (try (case hok => first | exact rfl | exact ok_w (by omega) rfl)); all_goals (try (intro hb; (try (simp only [hbs, reduceCtorEq] at hb)); try (exfalso; omega)))) | ((with_reducible apply o_undef rfl); (case hb => (simp (disch := first | assumption | omega | rfl | decide) only [go_sem, Nat.reduceBEq, ↓reduceIte, Nat.reduceEqDiff, Nat.reduceAdd, Nat.reduceMul, Int.reduceToNat, Int.reduceAdd, Int.reduceMul, Int.reduceSub, tys]))))
  refine x_loopV [11, 12, 34, 35, 36, 37, 38, 39, 40, 41, 42, 43, 44, 45, 46, 47, 48, 49, 50, 51, 52, 53, 54, 55, 56, 57, 58, 59, 60] [11] (fun m vs h2 n2 => ∃ (q : Nat) (F : List Bool), m = ps.length - q ∧ q ≤ ps.length ∧ vs = [.int .i64 q] ∧ n2 = n + 1 + 1 + 1 + 1 ∧ rowOf h2 n = some (57, false, pv ps) ∧ rowOf h2 (n + 1) = some (3, false, iv (sz (eRow 1000000 T))) ∧ rowOf h2 (n + 1 + 1 + 1) = some (4, false, bw F) ∧ F.length = sN ∧ ∀ x : Nat, x < sN → F[x]? = some (inC S (ps.take q) x)) ps.length rfl (by omega) ?_ ?_
  · refine ⟨0, List.replicate sN false, rfl, by omega, (by first | (simp (disch := first | assumption | omega | rfl | decide) only [go_sem, Nat.reduceBEq, ↓reduceIte, Nat.reduceEqDiff, Nat.reduceAdd, Nat.reduceMul, Int.reduceToNat, Int.reduceAdd, Int.reduceMul, Int.reduceSub, tys]; done) | (simp (disch := first | assumption | omega | rfl | decide) only [go_sem, Nat.reduceBEq, ↓reduceIte, Nat.reduceEqDiff, Nat.reduceAdd, Nat.reduceMul, Int.reduceToNat, Int.reduceAdd, Int.reduceMul, Int.reduceSub, tys]; exact rfl)), rfl, (by first | (simp (disch := first | assumption | omega | rfl | decide) only [go_sem, Nat.reduceBEq, ↓reduceIte, Nat.reduceEqDiff, Nat.reduceAdd, Nat.reduceMul, Int.reduceToNat, Int.reduceAdd, Int.reduceMul, Int.reduceSub, tys]; done) | (simp (disch := first | assumption | omega | rfl | decide) only [go_sem, Nat.reduceBEq, ↓reduceIte, Nat.reduceEqDiff, Nat.reduceAdd, Nat.reduceMul, Int.reduceToNat, Int.reduceAdd, Int.reduceMul, Int.reduceSub, tys]; exact rfl)), (by first | (simp (disch := first | assumption | omega | rfl | decide) only [go_sem, Nat.reduceBEq, ↓reduceIte, Nat.reduceEqDiff, Nat.reduceAdd, Nat.reduceMul, Int.reduceToNat, Int.reduceAdd, Int.reduceMul, Int.reduceSub, tys]; done) | (simp (disch := first | assumption | omega | rfl | decide) only [go_sem, Nat.reduceBEq, ↓reduceIte, Nat.reduceEqDiff, Nat.reduceAdd, Nat.reduceMul, Int.reduceToNat, Int.reduceAdd, Int.reduceMul, Int.reduceSub, tys]; exact rfl)), (by first | (simp (disch := first | assumption | omega | rfl | decide) only [go_sem, Nat.reduceBEq, ↓reduceIte, Nat.reduceEqDiff, Nat.reduceAdd, Nat.reduceMul, Int.reduceToNat, Int.reduceAdd, Int.reduceMul, Int.reduceSub, tys]; done) | (simp (disch := first | assumption | omega | rfl | decide) only [go_sem, Nat.reduceBEq, ↓reduceIte, Nat.reduceEqDiff, Nat.reduceAdd, Nat.reduceMul, Int.reduceToNat, Int.reduceAdd, Int.reduceMul, Int.reduceSub, tys]; exact rfl)), List.length_replicate, fun x hx => ?_⟩
    rw [List.getElem?_replicate, if_pos hx]
    rfl
  · rintro m fr _ h2 n2 ⟨q, F, rfl, hq, rfl, rfl, q0, q1, q3, hFl, hF⟩
    by_cases hql : q < ps.length
    · obtain ⟨p, hp⟩ : ∃ p, ps[q] = p := ⟨_, rfl⟩
      have hpm := hmem p (by rw [← hp]; exact List.getElem_mem _)
      obtain ⟨t, ht⟩ := Int.eq_ofNat_of_zero_le hpm.2.2.2.1
      obtain ⟨a, ha⟩ := Int.eq_ofNat_of_zero_le hpm.1
      obtain ⟨w, hw⟩ := Int.eq_ofNat_of_zero_le (show 0 ≤ S p.2 by omega)
      have hgt := hszg2 (t := t) (by omega)
      rw [← ht, hw] at hgt
      have hcl : ∀ h4 : Hp, rowOf h4 n = some (57, false, pv ps) → cellAt h4 n (q * 2) = some (.int .i64 a) ∧ cellAt h4 n (q * 2 + 1) = some (.int .i64 t) := fun h4 q0 => by
        obtain ⟨i1, o1, hA1, -, -, e1, e2⟩ := prt_at (RdH.ofRow (B := n + 1) q0 (by omega)) hql
        injection hA1 with hA1
        injection hA1 with e3 e4
        subst e3; subst e4
        rw [hp, Nat.zero_add] at e1 e2
        rw [ha] at e1
        rw [ht] at e2
        exact ⟨e1, e2⟩
      (repeat' first | (with_reducible first | apply x_seq | apply k_then | apply x_block | apply x_skip | apply x_ret | apply x_exit | apply x_label | apply k_pass | apply k_hit | apply k_miss rfl | apply k_out | apply k_turned | refine x_text fun K' hK => ?_) | ((with_reducible apply o_nil); refine hK _ _ _ ?_; clear hK) | fail | ((first | ((with_reducible apply o_pure w_none); (case hp => exact rfl); (case' he => intro h n)) | (with_reducible first | apply o_eff w_none | apply o_guard rfl | apply x_cond | apply k_e1 rfl | apply k_e2 rfl | apply k_e0 rfl | apply k_e3 rfl | apply k_e4 rfl)); (case he => (simp (disch := first | assumption | omega | rfl | decide) only [go_sem, Nat.reduceBEq, ↓reduceIte, Nat.reduceEqDiff, Nat.reduceAdd, Nat.reduceMul, Int.reduceToNat, Int.reduceAdd, Int.reduceMul, Int.reduceSub, tys] <;> rfl)); (try (case hok => first | exact rfl | exact ok_w (by omega) rfl)); all_goals (try (intro hb; (try (simp only [hbs, reduceCtorEq] at hb)); try (exfalso; omega)))) | ((with_reducible apply o_undef rfl); (case hb => (simp (disch := first | assumption | omega | rfl | decide) only [go_sem, Nat.reduceBEq, ↓reduceIte, Nat.reduceEqDiff, Nat.reduceAdd, Nat.reduceMul, Int.reduceToNat, Int.reduceAdd, Int.reduceMul, Int.reduceSub, tys]))))
      refine x_loopV [12, 40, 41, 42, 43, 44, 45, 46, 47, 48, 49, 50, 51, 52, 53, 54, 55, 56, 57, 58, 59, 60] [12] (fun m vs h4 n4 => ∃ (r : Nat) (G : List Bool), m = w - r ∧ r ≤ w ∧ vs = [.int .i64 r] ∧ n4 = n + 1 + 1 + 1 + 1 ∧ rowOf h4 n = some (57, false, pv ps) ∧ rowOf h4 (n + 1) = some (3, false, iv (sz (eRow 1000000 T))) ∧ rowOf h4 (n + 1 + 1 + 1) = some (4, false, bw G) ∧ G.length = sN ∧ ∀ x : Nat, x < sN → G[x]? = some (inC S (ps.take q) x || (decide ((a : Int) ≤ (x : Int)) && decide ((x : Int) < (a : Int) + (r : Int))))) w rfl (by omega) ?_ ?_
      · refine ⟨0, F, rfl, by omega, (by first | (simp (disch := first | assumption | omega | rfl | decide) only [go_sem, Nat.reduceBEq, ↓reduceIte, Nat.reduceEqDiff, Nat.reduceAdd, Nat.reduceMul, Int.reduceToNat, Int.reduceAdd, Int.reduceMul, Int.reduceSub, tys]; done) | (simp (disch := first | assumption | omega | rfl | decide) only [go_sem, Nat.reduceBEq, ↓reduceIte, Nat.reduceEqDiff, Nat.reduceAdd, Nat.reduceMul, Int.reduceToNat, Int.reduceAdd, Int.reduceMul, Int.reduceSub, tys]; exact rfl)), rfl, q0, q1, q3, hFl, fun x hx => ?_⟩
        have : (decide ((a : Int) ≤ x) && decide ((x : Int) < a + ((0 : Nat) : Int))) = false := by
          rw [Bool.and_eq_false_iff, decide_eq_false_iff_not, decide_eq_false_iff_not]
          omega
        rw [hF x hx, this, Bool.or_false]
      · rintro m fr _ h4 n4 ⟨r, G, rfl, hr, rfl, rfl, p0, p1, p3, hGl, hG⟩
        obtain ⟨c1, c2⟩ := hcl h4 p0
        have cs : cellAt h4 (n + 1) t = some (.int .i64 w) := by rw [cellAt_row p1]; exact hgt
        have w3 := rwOf_row p3
        by_cases hrw : r < w
        · have hov := bw_set (l := G) (i := a + r) (by omega)
          have hnat : ((a : Int) + r).toNat = a + r := by omega
          (repeat' first | (with_reducible first | apply x_seq | apply k_then | apply x_block | apply x_skip | apply x_ret | apply x_exit | apply x_label | apply k_pass | apply k_hit | apply k_miss rfl | apply k_out | apply k_turned | refine x_text fun K' hK => ?_) | ((with_reducible apply o_nil); refine hK _ _ _ ?_; clear hK) | fail | ((first | ((with_reducible apply o_pure w_none); (case hp => exact rfl); (case' he => intro h n)) | (with_reducible first | apply o_eff w_none | apply o_guard rfl | apply x_cond | apply k_e1 rfl | apply k_e2 rfl | apply k_e0 rfl | apply k_e3 rfl | apply k_e4 rfl)); (case he => (simp (disch := first | assumption | omega | rfl | decide) only [go_sem, Nat.reduceBEq, ↓reduceIte, Nat.reduceEqDiff, Nat.reduceAdd, Nat.reduceMul, Int.reduceToNat, Int.reduceAdd, Int.reduceMul, Int.reduceSub, tys, c1, c2, cs, w3, hov, hnat] <;> rfl)); (try (case hok => first | exact rfl | exact ok_w (by omega) rfl)); all_goals (try (intro hb; (try (simp only [hbs, reduceCtorEq] at hb)); try (exfalso; omega)))) | ((with_reducible apply o_undef rfl); (case hb => (simp (disch := first | assumption | omega | rfl | decide) only [go_sem, Nat.reduceBEq, ↓reduceIte, Nat.reduceEqDiff, Nat.reduceAdd, Nat.reduceMul, Int.reduceToNat, Int.reduceAdd, Int.reduceMul, Int.reduceSub, tys]))))
          refine k_round (w - (r + 1)) (by omega) ⟨r + 1, G.set (a + r) true, rfl, by omega, (by first | (simp (disch := first | assumption | omega | rfl | decide) only [go_sem, Nat.reduceBEq, ↓reduceIte, Nat.reduceEqDiff, Nat.reduceAdd, Nat.reduceMul, Int.reduceToNat, Int.reduceAdd, Int.reduceMul, Int.reduceSub, tys]; done) | (simp (disch := first | assumption | omega | rfl | decide) only [go_sem, Nat.reduceBEq, ↓reduceIte, Nat.reduceEqDiff, Nat.reduceAdd, Nat.reduceMul, Int.reduceToNat, Int.reduceAdd, Int.reduceMul, Int.reduceSub, tys]; exact rfl)), rfl, by rw [rowOf_ne _ _ (by omega)]; exact p0, by rw [rowOf_ne _ _ (by omega)]; exact p1, rowOf_same _ _ _ _ _, by rw [List.length_set]; exact hGl, fun x hx => ?_⟩
          rw [List.getElem?_set]
          by_cases hxe : a + r = x
          · rw [if_pos hxe, if_pos (by omega), decide_eq_true (show (a : Int) ≤ x by omega), decide_eq_true (show (x : Int) < a + ((r + 1 : Nat) : Int) by omega), Bool.and_self, Bool.or_true]
          · rw [if_neg hxe, hG x hx]
            have : decide ((x : Int) < a + r) = decide ((x : Int) < a + ((r + 1 : Nat) : Int)) := by rw [decide_eq_decide]; omega
            rw [this]
        · obtain rfl : r = w := by omega
          (repeat' first | (with_reducible first | apply x_seq | apply k_then | apply x_block | apply x_skip | apply x_ret | apply x_exit | apply x_label | apply k_pass | apply k_hit | apply k_miss rfl | apply k_out | apply k_turned | refine x_text fun K' hK => ?_) | ((with_reducible apply o_nil); refine hK _ _ _ ?_; clear hK) | fail | ((first | ((with_reducible apply o_pure w_none); (case hp => exact rfl); (case' he => intro h n)) | (with_reducible first | apply o_eff w_none | apply o_guard rfl | apply x_cond | apply k_e1 rfl | apply k_e2 rfl | apply k_e0 rfl | apply k_e3 rfl | apply k_e4 rfl)); (case he => (simp (disch := first | assumption | omega | rfl | decide) only [go_sem, Nat.reduceBEq, ↓reduceIte, Nat.reduceEqDiff, Nat.reduceAdd, Nat.reduceMul, Int.reduceToNat, Int.reduceAdd, Int.reduceMul, Int.reduceSub, tys, c1, c2, cs] <;> rfl)); (try (case hok => first | exact rfl | exact ok_w (by omega) rfl)); all_goals (try (intro hb; (try (simp only [hbs, reduceCtorEq] at hb)); try (exfalso; omega)))) | ((with_reducible apply o_undef rfl); (case hb => (simp (disch := first | assumption | omega | rfl | decide) only [go_sem, Nat.reduceBEq, ↓reduceIte, Nat.reduceEqDiff, Nat.reduceAdd, Nat.reduceMul, Int.reduceToNat, Int.reduceAdd, Int.reduceMul, Int.reduceSub, tys]))))
          refine k_round (ps.length - (q + 1)) (by omega) ⟨q + 1, G, rfl, by omega, (by first | (simp (disch := first | assumption | omega | rfl | decide) only [go_sem, Nat.reduceBEq, ↓reduceIte, Nat.reduceEqDiff, Nat.reduceAdd, Nat.reduceMul, Int.reduceToNat, Int.reduceAdd, Int.reduceMul, Int.reduceSub, tys]; done) | (simp (disch := first | assumption | omega | rfl | decide) only [go_sem, Nat.reduceBEq, ↓reduceIte, Nat.reduceEqDiff, Nat.reduceAdd, Nat.reduceMul, Int.reduceToNat, Int.reduceAdd, Int.reduceMul, Int.reduceSub, tys]; exact rfl)), rfl, p0, p1, p3, hGl, fun x hx => ?_⟩
          rw [hG x hx, inC_take hql, hp, ha, hw]
    · obtain rfl : q = ps.length := by omega
      rw [List.take_length] at hF
      (repeat' first | (with_reducible first | apply x_seq | apply k_then | apply x_block | apply x_skip | apply x_ret | apply x_exit | apply x_label | apply k_pass | apply k_hit | apply k_miss rfl | apply k_out | apply k_turned | refine x_text fun K' hK => ?_) | ((with_reducible apply o_nil); refine hK _ _ _ ?_; clear hK) | fail | ((first | ((with_reducible apply o_pure w_none); (case hp => exact rfl); (case' he => intro h n)) | (with_reducible first | apply o_eff w_none | apply o_guard rfl | apply x_cond | apply k_e1 rfl | apply k_e2 rfl | apply k_e0 rfl | apply k_e3 rfl | apply k_e4 rfl)); (case he => (simp (disch := first | assumption | omega | rfl | decide) only [go_sem, Nat.reduceBEq, ↓reduceIte, Nat.reduceEqDiff, Nat.reduceAdd, Nat.reduceMul, Int.reduceToNat, Int.reduceAdd, Int.reduceMul, Int.reduceSub, tys] <;> rfl)); (try (case hok => first | exact rfl | exact ok_w (by omega) rfl)); all_goals (try (intro hb; (try (simp only [hbs, reduceCtorEq] at hb)); try (exfalso; omega)))) | ((with_reducible apply o_undef rfl); (case hb => (simp (disch := first | assumption | omega | rfl | decide) only [go_sem, Nat.reduceBEq, ↓reduceIte, Nat.reduceEqDiff, Nat.reduceAdd, Nat.reduceMul, Int.reduceToNat, Int.reduceAdd, Int.reduceMul, Int.reduceSub, tys]))))
      refine x_loopV [13, 14, 61, 62, 63, 64, 65, 66, 67, 68, 69, 70, 71, 72, 73, 74, 75] [13, 14] (fun m vs h4 n4 => ∃ (r : Nat) (O : Value), m = sN - r ∧ r ≤ sN ∧ vs = [O, .int .i64 r] ∧ n + 1 + 1 + 1 + 1 ≤ n4 ∧ rowOf h4 (n + 1 + 1 + 1) = some (4, false, bw F) ∧ OwnI ((upto 0 r).filter fun x => !inC S ps x) O h4 (n + 1 + 1 + 1 + 1) n4) sN rfl (by omega) ?_ ?_
      · refine ⟨0, .slice none 0 0, rfl, by omega, (by first | (simp (disch := first | assumption | omega | rfl | decide) only [go_sem, Nat.reduceBEq, ↓reduceIte, Nat.reduceEqDiff, Nat.reduceAdd, Nat.reduceMul, Int.reduceToNat, Int.reduceAdd, Int.reduceMul, Int.reduceSub, tys]; done) | (simp (disch := first | assumption | omega | rfl | decide) only [go_sem, Nat.reduceBEq, ↓reduceIte, Nat.reduceEqDiff, Nat.reduceAdd, Nat.reduceMul, Int.reduceToNat, Int.reduceAdd, Int.reduceMul, Int.reduceSub, tys]; exact rfl)), by omega, q3, .inl ⟨rfl, rfl⟩⟩
      · rintro m fr _ h4 n4 ⟨r, O, rfl, hr, rfl, hn4, p3, hO⟩
        by_cases hrs : r < sN
        · have c3 := cellAt_row (off := r) p3
          rw [bw_lget (hF r hrs)] at c3
          have hup : upto 0 ((r + 1 : Nat) : Int) = upto 0 r ++ [(r : Int)] := by rw [show ((r + 1 : Nat) : Int) = (r : Int) + 1 from by omega, upto_succ (by omega)]
          obtain ⟨P, hP⟩ : ∃ P : Int → Bool, P = fun x => !inC S ps x := ⟨_, rfl⟩
          rw [← hP] at hO ⊢
          have hfl : ((upto 0 (r : Int)).filter P).length ≤ r := by have := List.length_filter_le P (upto 0 (r : Int)); rw [upto_length] at this; omega
          obtain ⟨acc, hacc⟩ : ∃ acc, (upto 0 (r : Int)).filter P = acc := ⟨_, rfl⟩
          rw [hacc] at hO hfl
          cases hin : inC S ps (r : Int)
          · have hnx : (upto 0 ((r + 1 : Nat) : Int)).filter P = acc ++ [(r : Int)] := by
              rw [hup, List.filter_append, hacc, List.filter_cons_of_pos (by rw [hP]; show (!inC S ps (r : Int)) = true; rw [hin]; rfl)]
              rfl
            rw [hin] at c3
            rcases hO with ⟨hp0, rfl⟩ | ⟨hp0, id5, j1, j2, rfl, j3⟩
            · (repeat' first | (with_reducible first | apply x_seq | apply k_then | apply x_block | apply x_skip | apply x_ret | apply x_exit | apply x_label | apply k_pass | apply k_hit | apply k_miss rfl | apply k_out | apply k_turned | refine x_text fun K' hK => ?_) | ((with_reducible apply o_nil); refine hK _ _ _ ?_; clear hK) | ((with_reducible apply o_ap0 (t := 31) apT31 w_none); (case hs => (first | (simp (disch := first | assumption | omega | rfl | decide) only [go_sem, Nat.reduceBEq, ↓reduceIte, Nat.reduceEqDiff, Nat.reduceAdd, Nat.reduceMul, Int.reduceToNat, Int.reduceAdd, Int.reduceMul, Int.reduceSub, tys]; done) | (simp (disch := first | assumption | omega | rfl | decide) only [go_sem, Nat.reduceBEq, ↓reduceIte, Nat.reduceEqDiff, Nat.reduceAdd, Nat.reduceMul, Int.reduceToNat, Int.reduceAdd, Int.reduceMul, Int.reduceSub, tys]; exact rfl))); (case hy => (simp (disch := first | assumption | omega | rfl | decide) only [go_sem, Nat.reduceBEq, ↓reduceIte, Nat.reduceEqDiff, Nat.reduceAdd, Nat.reduceMul, Int.reduceToNat, Int.reduceAdd, Int.reduceMul, Int.reduceSub, tys]; exact rfl)); (case hsrc => exact src_row (rowOf_same _ _ _ _ _) rfl); (case hc => exact rfl); (case hm => omega); (case h0 => omega)) | ((first | ((with_reducible apply o_pure w_none); (case hp => exact rfl); (case' he => intro h n)) | (with_reducible first | apply o_eff w_none | apply o_guard rfl | apply x_cond | apply k_e1 rfl | apply k_e2 rfl | apply k_e0 rfl | apply k_e3 rfl | apply k_e4 rfl)); (case he => (simp (disch := first | assumption | omega | rfl | decide) only [go_sem, Nat.reduceBEq, ↓reduceIte, Nat.reduceEqDiff, Nat.reduceAdd, Nat.reduceMul, Int.reduceToNat, Int.reduceAdd, Int.reduceMul, Int.reduceSub, tys, c3, bw_length, hFl] <;> rfl)); (try (case hok => first | exact rfl | exact ok_w (by omega) rfl)); all_goals (try (intro hb; (try (simp only [hbs, reduceCtorEq] at hb)); try (exfalso; omega)))) | ((with_reducible apply o_undef rfl); (case hb => (simp (disch := first | assumption | omega | rfl | decide) only [go_sem, Nat.reduceBEq, ↓reduceIte, Nat.reduceEqDiff, Nat.reduceAdd, Nat.reduceMul, Int.reduceToNat, Int.reduceAdd, Int.reduceMul, Int.reduceSub, tys]))))
              refine k_round (sN - (r + 1)) (by omega) ⟨r + 1, .slice (some ⟨n4 + 1, 0, none⟩) 1 1, rfl, by omega, (by first | (simp (disch := first | assumption | omega | rfl | decide) only [go_sem, Nat.reduceBEq, ↓reduceIte, Nat.reduceEqDiff, Nat.reduceAdd, Nat.reduceMul, Int.reduceToNat, Int.reduceAdd, Int.reduceMul, Int.reduceSub, tys]; done) | (simp (disch := first | assumption | omega | rfl | decide) only [go_sem, Nat.reduceBEq, ↓reduceIte, Nat.reduceEqDiff, Nat.reduceAdd, Nat.reduceMul, Int.reduceToNat, Int.reduceAdd, Int.reduceMul, Int.reduceSub, tys]; exact rfl)), by omega, by rw [rowOf_ne _ _ (by omega), rowOf_ne _ _ (by omega)]; exact p3, .inr ⟨?_, n4 + 1, by omega, by omega, ?_, ?_⟩⟩
              · rw [hnx]; simp
              · rw [hnx, hp0]; rfl
              · rw [hnx, hp0]; exact rowOf_same _ _ _ _ _
            · have w4 := rwOf_row j3
              have htk5 : (iv acc).take acc.length = iv acc := List.take_of_length_le (by rw [iv_length]; omega)
              (repeat' first | (with_reducible first | apply x_seq | apply k_then | apply x_block | apply x_skip | apply x_ret | apply x_exit | apply x_label | apply k_pass | apply k_hit | apply k_miss rfl | apply k_out | apply k_turned | refine x_text fun K' hK => ?_) | ((with_reducible apply o_nil); refine hK _ _ _ ?_; clear hK) | ((with_reducible apply o_apR (t := 31) apT31 w_none); (case hs => (simp (disch := first | assumption | omega | rfl | decide) only [go_sem, Nat.reduceBEq, ↓reduceIte, Nat.reduceEqDiff, Nat.reduceAdd, Nat.reduceMul, Int.reduceToNat, Int.reduceAdd, Int.reduceMul, Int.reduceSub, tys, w4]; exact rfl)); (case hy => (simp (disch := first | assumption | omega | rfl | decide) only [go_sem, Nat.reduceBEq, ↓reduceIte, Nat.reduceEqDiff, Nat.reduceAdd, Nat.reduceMul, Int.reduceToNat, Int.reduceAdd, Int.reduceMul, Int.reduceSub, tys, w4]; exact rfl)); (case hsrc => exact src_row (rowOf_same _ _ _ _ _) rfl); (case hr => (simp (disch := first | assumption | omega | rfl | decide) only [go_sem, Nat.reduceBEq, ↓reduceIte, Nat.reduceEqDiff, Nat.reduceAdd, Nat.reduceMul, Int.reduceToNat, Int.reduceAdd, Int.reduceMul, Int.reduceSub, tys, w4]; exact rfl)); (case hc => exact rfl); (case hm => omega); (case hli => omega); (case hln => omega); (case hcs => rw [iv_length]; omega)) | ((first | ((with_reducible apply o_pure w_none); (case hp => exact rfl); (case' he => intro h n)) | (with_reducible first | apply o_eff w_none | apply o_guard rfl | apply x_cond | apply k_e1 rfl | apply k_e2 rfl | apply k_e0 rfl | apply k_e3 rfl | apply k_e4 rfl)); (case he => (simp (disch := first | assumption | omega | rfl | decide) only [go_sem, Nat.reduceBEq, ↓reduceIte, Nat.reduceEqDiff, Nat.reduceAdd, Nat.reduceMul, Int.reduceToNat, Int.reduceAdd, Int.reduceMul, Int.reduceSub, tys, c3, w4, bw_length, hFl] <;> rfl)); (try (case hok => first | exact rfl | exact ok_w (by omega) rfl)); all_goals (try (intro hb; (try (simp only [hbs, reduceCtorEq] at hb)); try (exfalso; omega)))) | ((with_reducible apply o_undef rfl); (case hb => (simp (disch := first | assumption | omega | rfl | decide) only [go_sem, Nat.reduceBEq, ↓reduceIte, Nat.reduceEqDiff, Nat.reduceAdd, Nat.reduceMul, Int.reduceToNat, Int.reduceAdd, Int.reduceMul, Int.reduceSub, tys]))))
              refine k_round (sN - (r + 1)) (by omega) ⟨r + 1, .slice (some ⟨n4 + 1, 0, none⟩) (acc.length + 1) (acc.length + 1), rfl, by omega, (by first | (simp (disch := first | assumption | omega | rfl | decide) only [go_sem, Nat.reduceBEq, ↓reduceIte, Nat.reduceEqDiff, Nat.reduceAdd, Nat.reduceMul, Int.reduceToNat, Int.reduceAdd, Int.reduceMul, Int.reduceSub, tys]; done) | (simp (disch := first | assumption | omega | rfl | decide) only [go_sem, Nat.reduceBEq, ↓reduceIte, Nat.reduceEqDiff, Nat.reduceAdd, Nat.reduceMul, Int.reduceToNat, Int.reduceAdd, Int.reduceMul, Int.reduceSub, tys]; exact rfl)), by omega, by rw [rowOf_ne _ _ (by omega), rowOf_ne _ _ (by omega), rowOf_ne _ _ (by omega)]; exact p3, .inr ⟨?_, n4 + 1, by omega, by omega, ?_, ?_⟩⟩
              · rw [hnx]; simp
              · rw [hnx, List.length_append]; rfl
              · rw [hnx, iv_app1]
                first | (simp (disch := first | assumption | omega | rfl | decide) only [go_sem, Nat.reduceBEq, ↓reduceIte, Nat.reduceEqDiff, Nat.reduceAdd, Nat.reduceMul, Int.reduceToNat, Int.reduceAdd, Int.reduceMul, Int.reduceSub, tys, htk5]; done) | (simp (disch := first | assumption | omega | rfl | decide) only [go_sem, Nat.reduceBEq, ↓reduceIte, Nat.reduceEqDiff, Nat.reduceAdd, Nat.reduceMul, Int.reduceToNat, Int.reduceAdd, Int.reduceMul, Int.reduceSub, tys, htk5]; exact rfl)
          · have hnx : (upto 0 ((r + 1 : Nat) : Int)).filter P = acc := by
              rw [hup, List.filter_append, hacc, List.filter_cons_of_neg (by rw [hP]; show ¬ (!inC S ps (r : Int)) = true; rw [hin]; decide)]
              exact List.append_nil _
            rw [hin] at c3
            (repeat' first | (with_reducible first | apply x_seq | apply k_then | apply x_block | apply x_skip | apply x_ret | apply x_exit | apply x_label | apply k_pass | apply k_hit | apply k_miss rfl | apply k_out | apply k_turned | refine x_text fun K' hK => ?_) | ((with_reducible apply o_nil); refine hK _ _ _ ?_; clear hK) | fail | ((first | ((with_reducible apply o_pure w_none); (case hp => exact rfl); (case' he => intro h n)) | (with_reducible first | apply o_eff w_none | apply o_guard rfl | apply x_cond | apply k_e1 rfl | apply k_e2 rfl | apply k_e0 rfl | apply k_e3 rfl | apply k_e4 rfl)); (case he => (simp (disch := first | assumption | omega | rfl | decide) only [go_sem, Nat.reduceBEq, ↓reduceIte, Nat.reduceEqDiff, Nat.reduceAdd, Nat.reduceMul, Int.reduceToNat, Int.reduceAdd, Int.reduceMul, Int.reduceSub, tys, c3, bw_length, hFl] <;> rfl)); (try (case hok => first | exact rfl | exact ok_w (by omega) rfl)); all_goals (try (intro hb; (try (simp only [hbs, reduceCtorEq] at hb)); try (exfalso; omega)))) | ((with_reducible apply o_undef rfl); (case hb => (simp (disch := first | assumption | omega | rfl | decide) only [go_sem, Nat.reduceBEq, ↓reduceIte, Nat.reduceEqDiff, Nat.reduceAdd, Nat.reduceMul, Int.reduceToNat, Int.reduceAdd, Int.reduceMul, Int.reduceSub, tys]))))
            refine k_round (sN - (r + 1)) (by omega) ⟨r + 1, O, rfl, by omega, (by first | (simp (disch := first | assumption | omega | rfl | decide) only [go_sem, Nat.reduceBEq, ↓reduceIte, Nat.reduceEqDiff, Nat.reduceAdd, Nat.reduceMul, Int.reduceToNat, Int.reduceAdd, Int.reduceMul, Int.reduceSub, tys]; done) | (simp (disch := first | assumption | omega | rfl | decide) only [go_sem, Nat.reduceBEq, ↓reduceIte, Nat.reduceEqDiff, Nat.reduceAdd, Nat.reduceMul, Int.reduceToNat, Int.reduceAdd, Int.reduceMul, Int.reduceSub, tys]; exact rfl)), by omega, p3, by rw [hnx]; exact hO⟩
        · obtain rfl : r = sN := by omega
          have c3 := cellAt_row (off := r) p3
          rcases hO with ⟨hp0, rfl⟩ | ⟨hp0, id5, j1, j2, rfl, j3⟩
          · (repeat' first | (with_reducible first | apply x_seq | apply k_then | apply x_block | apply x_skip | apply x_ret | apply x_exit | apply x_label | apply k_pass | apply k_hit | apply k_miss rfl | apply k_out | apply k_turned | refine x_text fun K' hK => ?_) | ((with_reducible apply o_nil); refine hK _ _ _ ?_; clear hK) | fail | ((first | ((with_reducible apply o_pure w_none); (case hp => exact rfl); (case' he => intro h n)) | (with_reducible first | apply o_eff w_none | apply o_guard rfl | apply x_cond | apply k_e1 rfl | apply k_e2 rfl | apply k_e0 rfl | apply k_e3 rfl | apply k_e4 rfl)); (case he => (simp (disch := first | assumption | omega | rfl | decide) only [go_sem, Nat.reduceBEq, ↓reduceIte, Nat.reduceEqDiff, Nat.reduceAdd, Nat.reduceMul, Int.reduceToNat, Int.reduceAdd, Int.reduceMul, Int.reduceSub, tys, bw_length, hFl] <;> rfl)); (try (case hok => first | exact rfl | exact ok_w (by omega) rfl)); all_goals (try (intro hb; (try (simp only [hbs, reduceCtorEq] at hb)); try (exfalso; omega)))) | ((with_reducible apply o_undef rfl); (case hb => (simp (disch := first | assumption | omega | rfl | decide) only [go_sem, Nat.reduceBEq, ↓reduceIte, Nat.reduceEqDiff, Nat.reduceAdd, Nat.reduceMul, Int.reduceToNat, Int.reduceAdd, Int.reduceMul, Int.reduceSub, tys]))))
            exact sw_flat rfl rfl ⟨_, rfl, .inl ⟨hp0, rfl, rfl, rfl⟩⟩
          · (repeat' first | (with_reducible first | apply x_seq | apply k_then | apply x_block | apply x_skip | apply x_ret | apply x_exit | apply x_label | apply k_pass | apply k_hit | apply k_miss rfl | apply k_out | apply k_turned | refine x_text fun K' hK => ?_) | ((with_reducible apply o_nil); refine hK _ _ _ ?_; clear hK) | fail | ((first | ((with_reducible apply o_pure w_none); (case hp => exact rfl); (case' he => intro h n)) | (with_reducible first | apply o_eff w_none | apply o_guard rfl | apply x_cond | apply k_e1 rfl | apply k_e2 rfl | apply k_e0 rfl | apply k_e3 rfl | apply k_e4 rfl)); (case he => (simp (disch := first | assumption | omega | rfl | decide) only [go_sem, Nat.reduceBEq, ↓reduceIte, Nat.reduceEqDiff, Nat.reduceAdd, Nat.reduceMul, Int.reduceToNat, Int.reduceAdd, Int.reduceMul, Int.reduceSub, tys, bw_length, hFl] <;> rfl)); (try (case hok => first | exact rfl | exact ok_w (by omega) rfl)); all_goals (try (intro hb; (try (simp only [hbs, reduceCtorEq] at hb)); try (exfalso; omega)))) | ((with_reducible apply o_undef rfl); (case hb => (simp (disch := first | assumption | omega | rfl | decide) only [go_sem, Nat.reduceBEq, ↓reduceIte, Nat.reduceEqDiff, Nat.reduceAdd, Nat.reduceMul, Int.reduceToNat, Int.reduceAdd, Int.reduceMul, Int.reduceSub, tys]))))
            refine sw_row (m := id5) (by first | (simp (disch := first | assumption | omega) only [idV_tuple, idV_agg, idV_int, idV_bool, idV_str, idV_slice, idV_nil, idV1_agg, idV1_int, idV1_bool, idV1_str, idV1_slice, idV1_nil, idA_int, idA_bool, idA_str, idA_slice, idA_nil, idA_old, idV_old, idV1_old, ble_t, ble_f, cond_true, cond_false, List.flatMap_cons, List.flatMap_nil, List.append_nil, List.nil_append, List.cons_append]; done) | (simp (disch := first | assumption | omega) only [idV_tuple, idV_agg, idV_int, idV_bool, idV_str, idV_slice, idV_nil, idV1_agg, idV1_int, idV1_bool, idV1_str, idV1_slice, idV1_nil, idA_int, idA_bool, idA_str, idA_slice, idA_nil, idA_old, idV_old, idV1_old, ble_t, ble_f, cond_true, cond_false, List.flatMap_cons, List.flatMap_nil, List.append_nil, List.nil_append, List.cons_append]; exact rfl)) rfl (by omega) j3 (iv_idA _ _) (by simp only [reV_tuple, reV_agg, reV_slice, reV1_agg, reV1_int, reV1_bool, reV1_str, reV1_slice, reV1_snil, reA_int, reA_bool, reA_str, reA_slice, reA_snil, reN_hit, List.map_cons, List.map_nil]; exact rfl) ?_
            exact ⟨_, rfl, .inr ⟨hp0, rfl, rfl, rfl⟩⟩
end Go.Proofs.Ytgdokjfjmcleeaa.Ce
