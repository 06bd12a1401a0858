/- The law KindsFounded: a symbolic run. -/
import Derived.Test.YtgdokjfjmcleeaaJf
import Derived.Test.YtgdokjfjmcleeaaAk
namespace Go.Proofs.Ytgdokjfjmcleeaa.Ce
open Go.RowKit
set_option linter.unusedVariables false
set_option linter.unusedSimpArgs false
attribute [local go_sem ↓] lv_tmp fput_some fput_none fputs_cons fputs_nil mix_in mix_out finit_zero finit_succ cellAt_same cellAt_ne cellsAt_same cellsAt_ne rwOf_same rwOf_ne' rowOf_same rowOf_ne
attribute [local go_sem] a_move a_assign a_pick a_alloc a_box a_build a_buildSlice bif_cok a_load a_store a_bin a_un a_convert a_func a_makeMap a_makeSlice a_slice a_fieldAddr a_indexAddr a_index a_extract a_len a_append a_copy a_max a_min lv_int lv_bool lv_str lv_func lv_nil b_add b_sub b_mul b_eql b_neq b_lss b_leq b_gtr b_geq b_quo b_rem b_shl8 b_or8 b_shr u_not p_pick m_max m_min x_tuple mVO_some lget_zero lget_succ ltake_zero ltake_cons ldrop_zero ldrop_cons overAt_zero overAt_cons over_nil over_cons Hp.set_set fill_nil fill_cons c_int1 c_bool1 c_str1 c_ptr1 c_sli1 c_map1 c_agg c_agg' cok_int cok_bool cok_str cok_ptr cok_sli cok_map List.length_cons List.length_nil List.all_cons List.all_nil Bool.and_true Bool.true_and Bool.and_self beq_self_eq_true wrap_i64 wrap_u64 wrap_u8 tdiv_pos tmod_pos Nat.zero_add Nat.add_zero Nat.mul_one Nat.zero_mul List.take_zero List.take_nil Option.bind_some Option.map_some Option.map_none cond_true cond_false List.map_cons List.map_nil List.cons_append List.nil_append Int.toNat_natCast Int.zero_add Int.add_zero Int.mul_zero Int.mul_one Bool.not_true Bool.not_false r_tmp r_cell
set_option maxRecDepth 100000
set_option maxHeartbeats 2000000

theorem Rch.near {T : List Tp} {i x : Nat} (hF : Fine T) (hi : i < T.length) (h : Rch T false i x) : x = i ∨ (x < i ∧ depT T x < depT T i) := by
  induction h with
  | refl => exact .inl rfl
  | @step x y hr hx hy ih =>
    have h1 := leadsT_near (hF x hx) _ hy
    have h2 := depT_eq hF hx
    have h3 := (max_mem (fun x => depT T x.toNat) (leadsT false T[x]) 0).2 _ hy
    rw [← show depT T x - 1 = (leadsT false T[x]).foldl (fun m x => max m (depT T x.toNat)) 0 from by omega] at h3
    simp only [Int.toNat_natCast] at h3
    rcases ih with rfl | ⟨h4, h5⟩
    · exact .inr ⟨by omega, by omega⟩
    · exact .inr ⟨by omega, by omega⟩
theorem Rch.cons {T : List Tp} {far : Bool} {i x : Nat} (hi : i < T.length) : Rch T far i x ↔ i = x ∨ ∃ y : Nat, (y : Int) ∈ leadsT far T[i] ∧ Rch T far y x := by
  constructor
  · intro h
    induction h with
    | refl => exact .inl rfl
    | @step x y hr hx hy ih =>
      rcases ih with rfl | ⟨z, h1, h2⟩
      · exact .inr ⟨y, hy, .refl⟩
      · exact .inr ⟨z, h1, .step h2 hx hy⟩
  · rintro (rfl | ⟨y, h1, h2⟩)
    · exact .refl
    · exact Rch.trans (.step .refl hi h1) h2
theorem askE_ok {T : List Tp} {i j : Int} (h : askE T i j = 0) : ChkT T ∧ (0 ≤ i ∧ i < T.length) ∧ 0 ≤ j ∧ j < T.length := by
  unfold askE at h
  by_cases hC : ChkT T
  · rw [if_pos hC] at h
    by_cases hi : (0 ≤ i ∧ i < T.length) ∧ 0 ≤ j ∧ j < T.length
    · exact ⟨hC, hi⟩
    · rw [if_neg hi] at h; cases h
  · rw [if_neg hC] at h; cases h
variable (k d cl : Nat) (h : Hp) (n : Nat)
/-- what the reference says that a valid type's parts are -/
theorem rparts_ev (hk : 30000 ≤ k) {m i : Nat} {t : Tp} (hf : fineB m i t = true) (hr : RdH h n t.A (fv t.fs)) :
    Sp Try.prog (acall Try.prog WW k (d + 1)) cl 34 [.agg ⟨[.int .u8 t.kd, .int .i64 t.el, .int .i64 t.ln, .slice t.A t.fs.length t.c]⟩] h n (IntsV (leadsT false t) h n) := by
  by_cases hc : t.kd = 6
  · have hn := fine_nofs hf (by omega)
    have hl : leadsT false t = [t.el] := by unfold leadsT; rw [if_pos (.inl hc)]
    rw [hl, hn, hc]
    exact (rparts_arr0 k d cl h n hk t.el t.ln t.A t.c).mono fun _ _ _ hh => .inr ⟨by simp, hh⟩
  · have hl : leadsT false t = t.fs.map (·.2) := by unfold leadsT; rw [if_neg (by simp [hc])]
    rw [hl]
    have hs := fine_len hf
    by_cases hn : t.fs = []
    · rw [hn]
      exact (rparts_nil k d cl h n hk t.kd t.el t.ln t.A t.c hc).mono fun _ _ _ hh => .inl ⟨rfl, hh⟩
    · refine (rparts_fld k d cl h n hk t.kd t.el t.ln t.A t.fs t.c hc hn hr (by omega)).mono fun _ _ _ hh => .inr ⟨by simpa using hn, ?_⟩
      rw [List.length_map]
      exact hh
theorem lkf_no (A : Option Addr) (T : List Tp) (c : Nat) (i j : Int)
    (hal : ∀ cl h n, Sp Try.prog (shut (acall Try.prog WW k (d + 30))) cl 45 [] h n fun v h' n' => v = .bool true ∧ h' = h ∧ n' = n)
    (hS1 : Sp Try.prog (acall Try.prog WW k (d + 30)) n 53 [.slice A T.length c, .int .i64 i, .int .i64 j] h n fun v2 h2 n2 => v2 = .bool false ∧ h = h2 ∧ n = n2) :
    Sp Try.prog (afunc Try.prog (shut (acall Try.prog WW k (d + 30))) WW k) cl 11 [.slice A T.length c, .int .i64 i, .int .i64 j] h n fun v h' n' => v = .bool true := by
  refine enterS Try.func11 (by kernel_rfl) rfl (by kernel_rfl) rfl rfl rfl ?_
  (repeat' first | (with_reducible first | apply x_seq | apply k_then | apply x_block | apply x_skip | apply x_ret | apply x_exit | apply x_label | apply k_pass | apply k_hit | apply k_miss rfl | apply k_out | apply k_turned | refine x_text fun K' hK => ?_) | ((with_reducible apply o_nil); refine hK _ _ _ ?_; clear hK) | ((with_reducible apply o_callF (g := 45) w_none); (case ha => (simp (disch := first | assumption | omega | rfl | decide) only [go_sem, Nat.reduceBEq, ↓reduceIte, Nat.reduceEqDiff, Nat.reduceAdd, Nat.reduceMul, Int.reduceToNat, Int.reduceAdd, Int.reduceMul, Int.reduceSub, tys]; exact rfl)); (case hs => exact hal _ _ _); (case' hk => rintro _ h' n' ⟨rfl, rfl, rfl⟩)) | ((with_reducible apply o_callF (g := 53) w_none); (case ha => (simp (disch := first | assumption | omega | rfl | decide) only [go_sem, Nat.reduceBEq, ↓reduceIte, Nat.reduceEqDiff, Nat.reduceAdd, Nat.reduceMul, Int.reduceToNat, Int.reduceAdd, Int.reduceMul, Int.reduceSub, tys]; exact rfl)); (case hs => (exact Sp.shut hS1)); (case' hk => rintro _ h' n' ⟨rfl, rfl, rfl⟩)) | ((first | ((with_reducible apply o_pure w_none); (case hp => exact rfl); (case' he => intro h n)) | (with_reducible first | apply o_eff w_none | apply o_guard rfl | apply x_cond | apply k_e1 rfl | apply k_e2 rfl | apply k_e0 rfl | apply k_e3 rfl | apply k_e4 rfl)); (case he => (simp (disch := first | assumption | omega | rfl | decide) only [go_sem, Nat.reduceBEq, ↓reduceIte, Nat.reduceEqDiff, Nat.reduceAdd, Nat.reduceMul, Int.reduceToNat, Int.reduceAdd, Int.reduceMul, Int.reduceSub, tys] <;> rfl)); (try (case hok => first | exact rfl | exact ok_w (by omega) rfl)); all_goals (try (intro hb; (try (simp only [hbs, reduceCtorEq] at hb)); try (exfalso; omega)))) | ((with_reducible apply o_undef rfl); (case hb => (simp (disch := first | assumption | omega | rfl | decide) only [go_sem, Nat.reduceBEq, ↓reduceIte, Nat.reduceEqDiff, Nat.reduceAdd, Nat.reduceMul, Int.reduceToNat, Int.reduceAdd, Int.reduceMul, Int.reduceSub, tys]))))
  all_goals exact sw_flat rfl rfl rfl
theorem lkf_yes (hk : 30000 ≤ k) (A : Option Addr) (T : List Tp) (c : Nat) (hT : TabH h n A T) (hm : T.length ≤ 9223372036854775807) (i j : Nat) (hS : ∀ t ∈ T, t.fs.length ≤ 20000) (hC : ChkT T) (hi : i < T.length) (hj : j < T.length)
    (hal : ∀ cl h n, Sp Try.prog (shut (acall Try.prog WW k (d + 30))) cl 45 [] h n fun v h' n' => v = .bool true ∧ h' = h ∧ n' = n)
    (hS1 : Sp Try.prog (acall Try.prog WW k (d + 30)) n 53 [.slice A T.length c, .int .i64 i, .int .i64 j] h n fun v2 h2 n2 => v2 = .bool true ∧ h = h2 ∧ n = n2) :
    Sp Try.prog (afunc Try.prog (shut (acall Try.prog WW k (d + 30))) WW k) cl 11 [.slice A T.length c, .int .i64 i, .int .i64 j] h n fun v h' n' => v = .bool true := by
  have hl := hC.1
  have hF := hC.2.1
  have p1 := (pholds_ok k (d + 22) n h n hk A T c hT hS hm hC i j hi hj).mono (Φ' := fun v2 h2 n2 => v2 = .tuple ⟨[.bool (holdsB T i j), .int .i64 0]⟩ ∧ h = h2 ∧ n = n2) fun _ _ _ hp => ⟨hp.1, hp.2.1.symm, hp.2.2.symm⟩
  have p2 := (pdepth_ok k (d + 22) n h n hk A T c hT hS hm hC i hi).mono (Φ' := fun v2 h2 n2 => v2 = .tuple ⟨[.int .i64 (depT T i), .int .i64 0]⟩ ∧ h = h2 ∧ n = n2) fun _ _ _ hp => ⟨hp.1, hp.2.1.symm, hp.2.2.symm⟩
  have p3 := (pdepth_ok k (d + 22) n h n hk A T c hT hS hm hC j hj).mono (Φ' := fun v2 h2 n2 => v2 = .tuple ⟨[.int .i64 (depT T j), .int .i64 0]⟩ ∧ h = h2 ∧ n = n2) fun _ _ _ hp => ⟨hp.1, hp.2.1.symm, hp.2.2.symm⟩
  have hdi := depT_bnd hF hi
  have hdj := depT_bnd hF hj
  have hfi := hF i hi
  obtain ⟨tid, toff, hAA, htid, ht4, -⟩ := hT.at_ hi
  subst hAA
  have p4 := (rparts_ev k (d + 29) n h n hk hfi (hT.fd _ (List.getElem_mem hi))).mono fun _ _ _ hh => IntsV.rd hh
  have hns := leadsT_near hfi
  have hnl := leadsT_len (far := false) hfi
  have hde := depT_eq hF hi
  have hcons := Rch.cons (far := false) (x := j) hi
  have hbi := holdsB_iff (i := i) hj
  have hbx := fun x => holdsB_iff (T := T) (i := x) hj
  have hnear : holdsB T i j = true → j = i ∨ (j < i ∧ depT T j < depT T i) := fun hb => (hbi.1 hb).near hF hi
  obtain ⟨ns, hnse⟩ : ∃ ns, leadsT false T[i] = ns := ⟨_, rfl⟩
  rw [hnse] at p4 hns hnl hde hcons
  obtain ⟨M, hM⟩ : ∃ M : Nat → Int, M = fun r => (ns.take r).foldl (fun m x => max m (depT T x.toNat)) 0 := ⟨_, rfl⟩
  have hMb : ∀ r, 0 ≤ M r ∧ M r ≤ 32 := fun r => by
    have := max_fold (fun x => depT T x.toNat) 32 (ns.take r) 0 (fun x hx => by
      have h1 := hns x (List.mem_of_mem_take hx)
      have := depT_bnd hF (i := x.toNat) (by omega)
      show depT T x.toNat ≤ 32
      omega) (by omega)
    rw [hM]
    exact this
  have hMe : M ns.length + 1 = depT T i := by rw [hde, hM]; show (ns.take ns.length).foldl _ 0 + 1 = _; rw [List.take_length]
  obtain ⟨S, hSS⟩ : ∃ S : Nat → Bool, S = fun r => (ns.take r).any fun x => holdsB T x.toNat j := ⟨_, rfl⟩
  have hSe : holdsB T i j = true ↔ i = j ∨ S ns.length = true := by
    rw [hbi, hcons, hSS]
    show _ ↔ i = j ∨ (ns.take ns.length).any _ = true
    rw [List.take_length, List.any_eq_true]
    constructor
    · rintro (h1 | ⟨y, h1, h2⟩)
      · exact .inl h1
      · exact .inr ⟨y, h1, by rw [Int.toNat_natCast]; exact (hbx y).2 h2⟩
    · rintro (h1 | ⟨x, h1, h2⟩)
      · exact .inl h1
      · have h3 := hns x h1
        refine .inr ⟨x.toNat, by rw [Int.toNat_of_nonneg h3.1]; exact h1, (hbx _).1 h2⟩
  have hloop : ∀ B : Bool, holdsB T i j = B → (B = true → j = i ∨ (j < i ∧ depT T j < depT T i)) → (B = true ↔ i = j ∨ S ns.length = true) → Sp Try.prog (afunc Try.prog (shut (acall Try.prog WW k (d + 30))) WW k) cl 11 [.slice (some ⟨tid, toff, none⟩) T.length c, .int .i64 i, .int .i64 j] h n fun v h' n' => v = .bool true := by
    intro B hB hnr hbs
    rw [hB] at p1
    refine enterS Try.func11 (by kernel_rfl) rfl (by kernel_rfl) rfl rfl rfl ?_
    cases B
    · have hij : i ≠ j := fun e => absurd (hbs.2 (.inl e)) (by decide)
      have hSf : S ns.length = false := by
        cases hs : S ns.length
        · rfl
        · exact absurd (hbs.2 (.inr hs)) (by decide)
      clear hnr hbs hnear hSe hcons hbi hbx hde
      (repeat' first | (with_reducible first | apply x_seq | apply k_then | apply x_block | apply x_skip | apply x_ret | apply x_exit | apply x_label | apply k_pass | apply k_hit | apply k_miss rfl | apply k_out | apply k_turned | refine x_text fun K' hK => ?_) | ((with_reducible apply o_nil); refine hK _ _ _ ?_; clear hK) | ((with_reducible apply o_callF (g := 53) w_none); (case ha => (simp (disch := first | assumption | omega | rfl | decide) only [go_sem, Nat.reduceBEq, ↓reduceIte, Nat.reduceEqDiff, Nat.reduceAdd, Nat.reduceMul, Int.reduceToNat, Int.reduceAdd, Int.reduceMul, Int.reduceSub, tys]; exact rfl)); (case hs => (exact Sp.shut hS1)); (case' hk => rintro _ h' n' ⟨rfl, rfl, rfl⟩)) | ((with_reducible apply o_callF (g := 40) w_none); (case ha => (simp (disch := first | assumption | omega | rfl | decide) only [go_sem, Nat.reduceBEq, ↓reduceIte, Nat.reduceEqDiff, Nat.reduceAdd, Nat.reduceMul, Int.reduceToNat, Int.reduceAdd, Int.reduceMul, Int.reduceSub, tys]; exact rfl)); (case hs => (exact Sp.shut p1)); (case' hk => rintro _ h' n' ⟨rfl, rfl, rfl⟩)) | ((with_reducible apply o_callF (g := 41) w_none); (case ha => (simp (disch := first | assumption | omega | rfl | decide) only [go_sem, Nat.reduceBEq, ↓reduceIte, Nat.reduceEqDiff, Nat.reduceAdd, Nat.reduceMul, Int.reduceToNat, Int.reduceAdd, Int.reduceMul, Int.reduceSub, tys]; exact rfl)); (case hs => (with_reducible first | exact Sp.shut p2 | exact Sp.shut p3)); (case' hk => rintro _ h' n' ⟨rfl, rfl, rfl⟩)) | ((with_reducible apply o_callF (g := 34) w_none); (case ha => (simp (disch := first | assumption | omega | rfl | decide) only [go_sem, Nat.reduceBEq, ↓reduceIte, Nat.reduceEqDiff, Nat.reduceAdd, Nat.reduceMul, Int.reduceToNat, Int.reduceAdd, Int.reduceMul, Int.reduceSub, tys]; exact rfl)); (case hs => (exact Sp.shut p4)); (case' hk => rintro _ h' n' ⟨LA, lc, rfl, hrL, hLn, hn2, hkp⟩)) | ((first | ((with_reducible apply o_pure w_none); (case hp => exact rfl); (case' he => intro h n)) | (with_reducible first | apply o_eff w_none | apply o_guard rfl | apply x_cond | apply k_e1 rfl | apply k_e2 rfl | apply k_e0 rfl | apply k_e3 rfl | apply k_e4 rfl)); (case he => (simp (disch := first | assumption | omega | rfl | decide) only [go_sem, Nat.reduceBEq, ↓reduceIte, Nat.reduceEqDiff, Nat.reduceAdd, Nat.reduceMul, Int.reduceToNat, Int.reduceAdd, Int.reduceMul, Int.reduceSub, tys, ht4] <;> rfl)); (try (case hok => first | exact rfl | exact ok_w (by omega) rfl)); all_goals (try (intro hb; (try (simp only [hbs, reduceCtorEq] at hb)); try (exfalso; omega)))) | ((with_reducible apply o_undef rfl); (case hb => (simp (disch := first | assumption | omega | rfl | decide) only [go_sem, Nat.reduceBEq, ↓reduceIte, Nat.reduceEqDiff, Nat.reduceAdd, Nat.reduceMul, Int.reduceToNat, Int.reduceAdd, Int.reduceMul, Int.reduceSub, tys]))))
      all_goals
        refine x_loopF [6, 13, 14, 16, 17, 18, 19, 20, 92, 93, 94, 95, 96, 97, 98, 99, 100, 101, 102, 103, 104, 105, 106, 107, 108, 109, 110, 111, 112, 113, 114, 115, 116, 117, 118, 119, 120, 121, 122, 123, 124, 125, 126, 127, 128, 129] [13, 14, 16] (fun m vs => ∃ q : Nat, m = ns.length - q ∧ q ≤ ns.length ∧ vs = [.int .i64 (M q), .bool (S q), .int .i64 q]) ns.length rfl (by omega) ⟨0, rfl, by omega, by rw [hM, hSS]; first | (simp (disch := first | assumption | omega | rfl | decide) only [go_sem, Nat.reduceBEq, ↓reduceIte, Nat.reduceEqDiff, Nat.reduceAdd, Nat.reduceMul, Int.reduceToNat, Int.reduceAdd, Int.reduceMul, Int.reduceSub, tys]; done) | (simp (disch := first | assumption | omega | rfl | decide) only [go_sem, Nat.reduceBEq, ↓reduceIte, Nat.reduceEqDiff, Nat.reduceAdd, Nat.reduceMul, Int.reduceToNat, Int.reduceAdd, Int.reduceMul, Int.reduceSub, tys]; exact rfl)⟩ ?_
        rintro m g _ ⟨q, rfl, hq, rfl⟩
        by_cases hql : q < ns.length
        · obtain ⟨lid, lof, hLA, -, cz⟩ := int_at hrL hql
          subst hLA
          have hzb := hns ns[q] (List.getElem_mem _)
          obtain ⟨x, hxx⟩ := Int.eq_ofNat_of_zero_le hzb.1
          rw [hxx] at cz hzb
          have hM1 : M (q + 1) = max (M q) (depT T x) := by
            rw [hM]
            show (ns.take (q + 1)).foldl _ 0 = _
            rw [List.take_succ_eq_append_getElem hql, List.foldl_append, hxx]
            rfl
          have hS1 : S (q + 1) = (S q || holdsB T x j) := by
            rw [hSS]
            show (ns.take (q + 1)).any _ = _
            rw [List.take_succ_eq_append_getElem hql, List.any_append, hxx, List.any_cons, List.any_nil, Bool.or_false, Int.toNat_natCast]
          have hTk := (hT.keep (Nat.le_refl _) hkp).more hn2
          have r1 := (pholds_ok k (d + 22) n h' n' hk (some ⟨tid, toff, none⟩) T c hTk hS hm hC x j (by omega) hj).mono (Φ' := fun v2 h2 n2 => v2 = .tuple ⟨[.bool (holdsB T x j), .int .i64 0]⟩ ∧ h' = h2 ∧ n' = n2) fun _ _ _ hp => ⟨hp.1, hp.2.1.symm, hp.2.2.symm⟩
          have r2 := (pdepth_ok k (d + 22) n h' n' hk (some ⟨tid, toff, none⟩) T c hTk hS hm hC x (by omega)).mono (Φ' := fun v2 h2 n2 => v2 = .tuple ⟨[.int .i64 (depT T x), .int .i64 0]⟩ ∧ h' = h2 ∧ n' = n2) fun _ _ _ hp => ⟨hp.1, hp.2.1.symm, hp.2.2.symm⟩
          obtain ⟨Bx, hBx⟩ : ∃ Bx, holdsB T x j = Bx := ⟨_, rfl⟩
          obtain ⟨Sq, hSq⟩ : ∃ Sq, S q = Sq := ⟨_, rfl⟩
          rw [hBx] at r1 hS1
          rw [hSq] at hS1 ⊢
          cases Sq
          · (repeat' first | (with_reducible first | apply x_seq | apply k_then | apply x_block | apply x_skip | apply x_ret | apply x_exit | apply x_label | apply k_pass | apply k_hit | apply k_miss rfl | apply k_out | apply k_turned | refine x_text fun K' hK => ?_) | ((with_reducible apply o_nil); refine hK _ _ _ ?_; clear hK) | ((with_reducible apply o_callF (g := 40) w_none); (case ha => (simp (disch := first | assumption | omega | rfl | decide) only [go_sem, Nat.reduceBEq, ↓reduceIte, Nat.reduceEqDiff, Nat.reduceAdd, Nat.reduceMul, Int.reduceToNat, Int.reduceAdd, Int.reduceMul, Int.reduceSub, tys]; exact rfl)); (case hs => (exact Sp.shut r1)); (case' hk => rintro _ h' n' ⟨rfl, rfl, rfl⟩)) | ((with_reducible apply o_callF (g := 41) w_none); (case ha => (simp (disch := first | assumption | omega | rfl | decide) only [go_sem, Nat.reduceBEq, ↓reduceIte, Nat.reduceEqDiff, Nat.reduceAdd, Nat.reduceMul, Int.reduceToNat, Int.reduceAdd, Int.reduceMul, Int.reduceSub, tys]; exact rfl)); (case hs => (exact Sp.shut r2)); (case' hk => rintro _ h' n' ⟨rfl, rfl, rfl⟩)) | ((first | ((with_reducible apply o_pure w_none); (case hp => exact rfl); (case' he => intro h n)) | (with_reducible first | apply o_eff w_none | apply o_guard rfl | apply x_cond | apply k_e1 rfl | apply k_e2 rfl | apply k_e0 rfl | apply k_e3 rfl | apply k_e4 rfl)); (case he => (simp (disch := first | assumption | omega | rfl | decide) only [go_sem, Nat.reduceBEq, ↓reduceIte, Nat.reduceEqDiff, Nat.reduceAdd, Nat.reduceMul, Int.reduceToNat, Int.reduceAdd, Int.reduceMul, Int.reduceSub, tys, cz, if_max] <;> rfl)); (try (case hok => first | exact rfl | exact ok_w (by omega) rfl)); all_goals (try (intro hb; (try (simp only [hbs, reduceCtorEq] at hb)); try (exfalso; omega)))) | ((with_reducible apply o_undef rfl); (case hb => (simp (disch := first | assumption | omega | rfl | decide) only [go_sem, Nat.reduceBEq, ↓reduceIte, Nat.reduceEqDiff, Nat.reduceAdd, Nat.reduceMul, Int.reduceToNat, Int.reduceAdd, Int.reduceMul, Int.reduceSub, tys]))))
            refine k_round (ns.length - (q + 1)) (by omega) ⟨⟨rfl, rfl⟩, q + 1, rfl, by omega, by rw [hM1, hS1]; first | (simp (disch := first | assumption | omega | rfl | decide) only [go_sem, Nat.reduceBEq, ↓reduceIte, Nat.reduceEqDiff, Nat.reduceAdd, Nat.reduceMul, Int.reduceToNat, Int.reduceAdd, Int.reduceMul, Int.reduceSub, tys]; done) | (simp (disch := first | assumption | omega | rfl | decide) only [go_sem, Nat.reduceBEq, ↓reduceIte, Nat.reduceEqDiff, Nat.reduceAdd, Nat.reduceMul, Int.reduceToNat, Int.reduceAdd, Int.reduceMul, Int.reduceSub, tys]; exact rfl)⟩
          · (repeat' first | (with_reducible first | apply x_seq | apply k_then | apply x_block | apply x_skip | apply x_ret | apply x_exit | apply x_label | apply k_pass | apply k_hit | apply k_miss rfl | apply k_out | apply k_turned | refine x_text fun K' hK => ?_) | ((with_reducible apply o_nil); refine hK _ _ _ ?_; clear hK) | ((with_reducible apply o_callF (g := 40) w_none); (case ha => (simp (disch := first | assumption | omega | rfl | decide) only [go_sem, Nat.reduceBEq, ↓reduceIte, Nat.reduceEqDiff, Nat.reduceAdd, Nat.reduceMul, Int.reduceToNat, Int.reduceAdd, Int.reduceMul, Int.reduceSub, tys]; exact rfl)); (case hs => (exact Sp.shut r1)); (case' hk => rintro _ h' n' ⟨rfl, rfl, rfl⟩)) | ((with_reducible apply o_callF (g := 41) w_none); (case ha => (simp (disch := first | assumption | omega | rfl | decide) only [go_sem, Nat.reduceBEq, ↓reduceIte, Nat.reduceEqDiff, Nat.reduceAdd, Nat.reduceMul, Int.reduceToNat, Int.reduceAdd, Int.reduceMul, Int.reduceSub, tys]; exact rfl)); (case hs => (exact Sp.shut r2)); (case' hk => rintro _ h' n' ⟨rfl, rfl, rfl⟩)) | ((first | ((with_reducible apply o_pure w_none); (case hp => exact rfl); (case' he => intro h n)) | (with_reducible first | apply o_eff w_none | apply o_guard rfl | apply x_cond | apply k_e1 rfl | apply k_e2 rfl | apply k_e0 rfl | apply k_e3 rfl | apply k_e4 rfl)); (case he => (simp (disch := first | assumption | omega | rfl | decide) only [go_sem, Nat.reduceBEq, ↓reduceIte, Nat.reduceEqDiff, Nat.reduceAdd, Nat.reduceMul, Int.reduceToNat, Int.reduceAdd, Int.reduceMul, Int.reduceSub, tys, cz, if_max] <;> rfl)); (try (case hok => first | exact rfl | exact ok_w (by omega) rfl)); all_goals (try (intro hb; (try (simp only [hbs, reduceCtorEq] at hb)); try (exfalso; omega)))) | ((with_reducible apply o_undef rfl); (case hb => (simp (disch := first | assumption | omega | rfl | decide) only [go_sem, Nat.reduceBEq, ↓reduceIte, Nat.reduceEqDiff, Nat.reduceAdd, Nat.reduceMul, Int.reduceToNat, Int.reduceAdd, Int.reduceMul, Int.reduceSub, tys]))))
            refine k_round (ns.length - (q + 1)) (by omega) ⟨⟨rfl, rfl⟩, q + 1, rfl, by omega, by rw [hM1, hS1]; first | (simp (disch := first | assumption | omega | rfl | decide) only [go_sem, Nat.reduceBEq, ↓reduceIte, Nat.reduceEqDiff, Nat.reduceAdd, Nat.reduceMul, Int.reduceToNat, Int.reduceAdd, Int.reduceMul, Int.reduceSub, tys]; done) | (simp (disch := first | assumption | omega | rfl | decide) only [go_sem, Nat.reduceBEq, ↓reduceIte, Nat.reduceEqDiff, Nat.reduceAdd, Nat.reduceMul, Int.reduceToNat, Int.reduceAdd, Int.reduceMul, Int.reduceSub, tys]; exact rfl)⟩
        · obtain rfl : q = ns.length := by omega
          have hMl := hMb ns.length
          have hdd : (depT T i == M ns.length + 1) = true := by rw [hMe]; exact beq_self_eq_true _
          rw [hSf]
          (repeat' first | (with_reducible first | apply x_seq | apply k_then | apply x_block | apply x_skip | apply x_ret | apply x_exit | apply x_label | apply k_pass | apply k_hit | apply k_miss rfl | apply k_out | apply k_turned | refine x_text fun K' hK => ?_) | ((with_reducible apply o_nil); refine hK _ _ _ ?_; clear hK) | ((with_reducible apply o_callF (g := 45) w_none); (case ha => (simp (disch := first | assumption | omega | rfl | decide) only [go_sem, Nat.reduceBEq, ↓reduceIte, Nat.reduceEqDiff, Nat.reduceAdd, Nat.reduceMul, Int.reduceToNat, Int.reduceAdd, Int.reduceMul, Int.reduceSub, tys]; exact rfl)); (case hs => exact hal _ _ _); (case' hk => rintro _ h' n' ⟨rfl, rfl, rfl⟩)) | ((first | ((with_reducible apply o_pure w_none); (case hp => exact rfl); (case' he => intro h n)) | (with_reducible first | apply o_eff w_none | apply o_guard rfl | apply x_cond | apply k_e1 rfl | apply k_e2 rfl | apply k_e0 rfl | apply k_e3 rfl | apply k_e4 rfl)); (case he => (simp (disch := first | assumption | omega | rfl | decide) only [go_sem, Nat.reduceBEq, ↓reduceIte, Nat.reduceEqDiff, Nat.reduceAdd, Nat.reduceMul, Int.reduceToNat, Int.reduceAdd, Int.reduceMul, Int.reduceSub, tys, hdd] <;> rfl)); (try (case hok => first | exact rfl | exact ok_w (by omega) rfl)); all_goals (try (intro hb; (try (simp only [hbs, reduceCtorEq] at hb)); try (exfalso; omega)))) | ((with_reducible apply o_undef rfl); (case hb => (simp (disch := first | assumption | omega | rfl | decide) only [go_sem, Nat.reduceBEq, ↓reduceIte, Nat.reduceEqDiff, Nat.reduceAdd, Nat.reduceMul, Int.reduceToNat, Int.reduceAdd, Int.reduceMul, Int.reduceSub, tys]))))
          all_goals exact sw_flat rfl rfl rfl
    · by_cases hij : i = j
      · obtain ⟨Sn, hSn⟩ : ∃ Sn, S ns.length = Sn := ⟨_, rfl⟩
        clear hnr hbs hnear hSe hcons hbi hbx hde
        (repeat' first | (with_reducible first | apply x_seq | apply k_then | apply x_block | apply x_skip | apply x_ret | apply x_exit | apply x_label | apply k_pass | apply k_hit | apply k_miss rfl | apply k_out | apply k_turned | refine x_text fun K' hK => ?_) | ((with_reducible apply o_nil); refine hK _ _ _ ?_; clear hK) | ((with_reducible apply o_callF (g := 53) w_none); (case ha => (simp (disch := first | assumption | omega | rfl | decide) only [go_sem, Nat.reduceBEq, ↓reduceIte, Nat.reduceEqDiff, Nat.reduceAdd, Nat.reduceMul, Int.reduceToNat, Int.reduceAdd, Int.reduceMul, Int.reduceSub, tys]; exact rfl)); (case hs => (exact Sp.shut hS1)); (case' hk => rintro _ h' n' ⟨rfl, rfl, rfl⟩)) | ((with_reducible apply o_callF (g := 40) w_none); (case ha => (simp (disch := first | assumption | omega | rfl | decide) only [go_sem, Nat.reduceBEq, ↓reduceIte, Nat.reduceEqDiff, Nat.reduceAdd, Nat.reduceMul, Int.reduceToNat, Int.reduceAdd, Int.reduceMul, Int.reduceSub, tys]; exact rfl)); (case hs => (exact Sp.shut p1)); (case' hk => rintro _ h' n' ⟨rfl, rfl, rfl⟩)) | ((with_reducible apply o_callF (g := 41) w_none); (case ha => (simp (disch := first | assumption | omega | rfl | decide) only [go_sem, Nat.reduceBEq, ↓reduceIte, Nat.reduceEqDiff, Nat.reduceAdd, Nat.reduceMul, Int.reduceToNat, Int.reduceAdd, Int.reduceMul, Int.reduceSub, tys]; exact rfl)); (case hs => (with_reducible first | exact Sp.shut p2 | exact Sp.shut p3)); (case' hk => rintro _ h' n' ⟨rfl, rfl, rfl⟩)) | ((with_reducible apply o_callF (g := 34) w_none); (case ha => (simp (disch := first | assumption | omega | rfl | decide) only [go_sem, Nat.reduceBEq, ↓reduceIte, Nat.reduceEqDiff, Nat.reduceAdd, Nat.reduceMul, Int.reduceToNat, Int.reduceAdd, Int.reduceMul, Int.reduceSub, tys]; exact rfl)); (case hs => (exact Sp.shut p4)); (case' hk => rintro _ h' n' ⟨LA, lc, rfl, hrL, hLn, hn2, hkp⟩)) | ((first | ((with_reducible apply o_pure w_none); (case hp => exact rfl); (case' he => intro h n)) | (with_reducible first | apply o_eff w_none | apply o_guard rfl | apply x_cond | apply k_e1 rfl | apply k_e2 rfl | apply k_e0 rfl | apply k_e3 rfl | apply k_e4 rfl)); (case he => (simp (disch := first | assumption | omega | rfl | decide) only [go_sem, Nat.reduceBEq, ↓reduceIte, Nat.reduceEqDiff, Nat.reduceAdd, Nat.reduceMul, Int.reduceToNat, Int.reduceAdd, Int.reduceMul, Int.reduceSub, tys, ht4] <;> rfl)); (try (case hok => first | exact rfl | exact ok_w (by omega) rfl)); all_goals (try (intro hb; (try (simp only [hbs, reduceCtorEq] at hb)); try (exfalso; omega)))) | ((with_reducible apply o_undef rfl); (case hb => (simp (disch := first | assumption | omega | rfl | decide) only [go_sem, Nat.reduceBEq, ↓reduceIte, Nat.reduceEqDiff, Nat.reduceAdd, Nat.reduceMul, Int.reduceToNat, Int.reduceAdd, Int.reduceMul, Int.reduceSub, tys]))))
        all_goals
          refine x_loopF [6, 13, 14, 16, 17, 18, 19, 20, 92, 93, 94, 95, 96, 97, 98, 99, 100, 101, 102, 103, 104, 105, 106, 107, 108, 109, 110, 111, 112, 113, 114, 115, 116, 117, 118, 119, 120, 121, 122, 123, 124, 125, 126, 127, 128, 129] [13, 14, 16] (fun m vs => ∃ q : Nat, m = ns.length - q ∧ q ≤ ns.length ∧ vs = [.int .i64 (M q), .bool (S q), .int .i64 q]) ns.length rfl (by omega) ⟨0, rfl, by omega, by rw [hM, hSS]; first | (simp (disch := first | assumption | omega | rfl | decide) only [go_sem, Nat.reduceBEq, ↓reduceIte, Nat.reduceEqDiff, Nat.reduceAdd, Nat.reduceMul, Int.reduceToNat, Int.reduceAdd, Int.reduceMul, Int.reduceSub, tys]; done) | (simp (disch := first | assumption | omega | rfl | decide) only [go_sem, Nat.reduceBEq, ↓reduceIte, Nat.reduceEqDiff, Nat.reduceAdd, Nat.reduceMul, Int.reduceToNat, Int.reduceAdd, Int.reduceMul, Int.reduceSub, tys]; exact rfl)⟩ ?_
          rintro m g _ ⟨q, rfl, hq, rfl⟩
          by_cases hql : q < ns.length
          · obtain ⟨lid, lof, hLA, -, cz⟩ := int_at hrL hql
            subst hLA
            have hzb := hns ns[q] (List.getElem_mem _)
            obtain ⟨x, hxx⟩ := Int.eq_ofNat_of_zero_le hzb.1
            rw [hxx] at cz hzb
            have hM1 : M (q + 1) = max (M q) (depT T x) := by
              rw [hM]
              show (ns.take (q + 1)).foldl _ 0 = _
              rw [List.take_succ_eq_append_getElem hql, List.foldl_append, hxx]
              rfl
            have hS1 : S (q + 1) = (S q || holdsB T x j) := by
              rw [hSS]
              show (ns.take (q + 1)).any _ = _
              rw [List.take_succ_eq_append_getElem hql, List.any_append, hxx, List.any_cons, List.any_nil, Bool.or_false, Int.toNat_natCast]
            have hTk := (hT.keep (Nat.le_refl _) hkp).more hn2
            have r1 := (pholds_ok k (d + 22) n h' n' hk (some ⟨tid, toff, none⟩) T c hTk hS hm hC x j (by omega) hj).mono (Φ' := fun v2 h2 n2 => v2 = .tuple ⟨[.bool (holdsB T x j), .int .i64 0]⟩ ∧ h' = h2 ∧ n' = n2) fun _ _ _ hp => ⟨hp.1, hp.2.1.symm, hp.2.2.symm⟩
            have r2 := (pdepth_ok k (d + 22) n h' n' hk (some ⟨tid, toff, none⟩) T c hTk hS hm hC x (by omega)).mono (Φ' := fun v2 h2 n2 => v2 = .tuple ⟨[.int .i64 (depT T x), .int .i64 0]⟩ ∧ h' = h2 ∧ n' = n2) fun _ _ _ hp => ⟨hp.1, hp.2.1.symm, hp.2.2.symm⟩
            obtain ⟨Bx, hBx⟩ : ∃ Bx, holdsB T x j = Bx := ⟨_, rfl⟩
            obtain ⟨Sq, hSq⟩ : ∃ Sq, S q = Sq := ⟨_, rfl⟩
            rw [hBx] at r1 hS1
            rw [hSq] at hS1 ⊢
            cases Sq
            · (repeat' first | (with_reducible first | apply x_seq | apply k_then | apply x_block | apply x_skip | apply x_ret | apply x_exit | apply x_label | apply k_pass | apply k_hit | apply k_miss rfl | apply k_out | apply k_turned | refine x_text fun K' hK => ?_) | ((with_reducible apply o_nil); refine hK _ _ _ ?_; clear hK) | ((with_reducible apply o_callF (g := 40) w_none); (case ha => (simp (disch := first | assumption | omega | rfl | decide) only [go_sem, Nat.reduceBEq, ↓reduceIte, Nat.reduceEqDiff, Nat.reduceAdd, Nat.reduceMul, Int.reduceToNat, Int.reduceAdd, Int.reduceMul, Int.reduceSub, tys]; exact rfl)); (case hs => (exact Sp.shut r1)); (case' hk => rintro _ h' n' ⟨rfl, rfl, rfl⟩)) | ((with_reducible apply o_callF (g := 41) w_none); (case ha => (simp (disch := first | assumption | omega | rfl | decide) only [go_sem, Nat.reduceBEq, ↓reduceIte, Nat.reduceEqDiff, Nat.reduceAdd, Nat.reduceMul, Int.reduceToNat, Int.reduceAdd, Int.reduceMul, Int.reduceSub, tys]; exact rfl)); (case hs => (exact Sp.shut r2)); (case' hk => rintro _ h' n' ⟨rfl, rfl, rfl⟩)) | ((first | ((with_reducible apply o_pure w_none); (case hp => exact rfl); (case' he => intro h n)) | (with_reducible first | apply o_eff w_none | apply o_guard rfl | apply x_cond | apply k_e1 rfl | apply k_e2 rfl | apply k_e0 rfl | apply k_e3 rfl | apply k_e4 rfl)); (case he => (simp (disch := first | assumption | omega | rfl | decide) only [go_sem, Nat.reduceBEq, ↓reduceIte, Nat.reduceEqDiff, Nat.reduceAdd, Nat.reduceMul, Int.reduceToNat, Int.reduceAdd, Int.reduceMul, Int.reduceSub, tys, cz, if_max] <;> rfl)); (try (case hok => first | exact rfl | exact ok_w (by omega) rfl)); all_goals (try (intro hb; (try (simp only [hbs, reduceCtorEq] at hb)); try (exfalso; omega)))) | ((with_reducible apply o_undef rfl); (case hb => (simp (disch := first | assumption | omega | rfl | decide) only [go_sem, Nat.reduceBEq, ↓reduceIte, Nat.reduceEqDiff, Nat.reduceAdd, Nat.reduceMul, Int.reduceToNat, Int.reduceAdd, Int.reduceMul, Int.reduceSub, tys]))))
              refine k_round (ns.length - (q + 1)) (by omega) ⟨⟨rfl, rfl⟩, q + 1, rfl, by omega, by rw [hM1, hS1]; first | (simp (disch := first | assumption | omega | rfl | decide) only [go_sem, Nat.reduceBEq, ↓reduceIte, Nat.reduceEqDiff, Nat.reduceAdd, Nat.reduceMul, Int.reduceToNat, Int.reduceAdd, Int.reduceMul, Int.reduceSub, tys]; done) | (simp (disch := first | assumption | omega | rfl | decide) only [go_sem, Nat.reduceBEq, ↓reduceIte, Nat.reduceEqDiff, Nat.reduceAdd, Nat.reduceMul, Int.reduceToNat, Int.reduceAdd, Int.reduceMul, Int.reduceSub, tys]; exact rfl)⟩
            · (repeat' first | (with_reducible first | apply x_seq | apply k_then | apply x_block | apply x_skip | apply x_ret | apply x_exit | apply x_label | apply k_pass | apply k_hit | apply k_miss rfl | apply k_out | apply k_turned | refine x_text fun K' hK => ?_) | ((with_reducible apply o_nil); refine hK _ _ _ ?_; clear hK) | ((with_reducible apply o_callF (g := 40) w_none); (case ha => (simp (disch := first | assumption | omega | rfl | decide) only [go_sem, Nat.reduceBEq, ↓reduceIte, Nat.reduceEqDiff, Nat.reduceAdd, Nat.reduceMul, Int.reduceToNat, Int.reduceAdd, Int.reduceMul, Int.reduceSub, tys]; exact rfl)); (case hs => (exact Sp.shut r1)); (case' hk => rintro _ h' n' ⟨rfl, rfl, rfl⟩)) | ((with_reducible apply o_callF (g := 41) w_none); (case ha => (simp (disch := first | assumption | omega | rfl | decide) only [go_sem, Nat.reduceBEq, ↓reduceIte, Nat.reduceEqDiff, Nat.reduceAdd, Nat.reduceMul, Int.reduceToNat, Int.reduceAdd, Int.reduceMul, Int.reduceSub, tys]; exact rfl)); (case hs => (exact Sp.shut r2)); (case' hk => rintro _ h' n' ⟨rfl, rfl, rfl⟩)) | ((first | ((with_reducible apply o_pure w_none); (case hp => exact rfl); (case' he => intro h n)) | (with_reducible first | apply o_eff w_none | apply o_guard rfl | apply x_cond | apply k_e1 rfl | apply k_e2 rfl | apply k_e0 rfl | apply k_e3 rfl | apply k_e4 rfl)); (case he => (simp (disch := first | assumption | omega | rfl | decide) only [go_sem, Nat.reduceBEq, ↓reduceIte, Nat.reduceEqDiff, Nat.reduceAdd, Nat.reduceMul, Int.reduceToNat, Int.reduceAdd, Int.reduceMul, Int.reduceSub, tys, cz, if_max] <;> rfl)); (try (case hok => first | exact rfl | exact ok_w (by omega) rfl)); all_goals (try (intro hb; (try (simp only [hbs, reduceCtorEq] at hb)); try (exfalso; omega)))) | ((with_reducible apply o_undef rfl); (case hb => (simp (disch := first | assumption | omega | rfl | decide) only [go_sem, Nat.reduceBEq, ↓reduceIte, Nat.reduceEqDiff, Nat.reduceAdd, Nat.reduceMul, Int.reduceToNat, Int.reduceAdd, Int.reduceMul, Int.reduceSub, tys]))))
              refine k_round (ns.length - (q + 1)) (by omega) ⟨⟨rfl, rfl⟩, q + 1, rfl, by omega, by rw [hM1, hS1]; first | (simp (disch := first | assumption | omega | rfl | decide) only [go_sem, Nat.reduceBEq, ↓reduceIte, Nat.reduceEqDiff, Nat.reduceAdd, Nat.reduceMul, Int.reduceToNat, Int.reduceAdd, Int.reduceMul, Int.reduceSub, tys]; done) | (simp (disch := first | assumption | omega | rfl | decide) only [go_sem, Nat.reduceBEq, ↓reduceIte, Nat.reduceEqDiff, Nat.reduceAdd, Nat.reduceMul, Int.reduceToNat, Int.reduceAdd, Int.reduceMul, Int.reduceSub, tys]; exact rfl)⟩
          · obtain rfl : q = ns.length := by omega
            have hMl := hMb ns.length
            have hdd : (depT T i == M ns.length + 1) = true := by rw [hMe]; exact beq_self_eq_true _
            rw [hSn]
            (repeat' first | (with_reducible first | apply x_seq | apply k_then | apply x_block | apply x_skip | apply x_ret | apply x_exit | apply x_label | apply k_pass | apply k_hit | apply k_miss rfl | apply k_out | apply k_turned | refine x_text fun K' hK => ?_) | ((with_reducible apply o_nil); refine hK _ _ _ ?_; clear hK) | ((with_reducible apply o_callF (g := 45) w_none); (case ha => (simp (disch := first | assumption | omega | rfl | decide) only [go_sem, Nat.reduceBEq, ↓reduceIte, Nat.reduceEqDiff, Nat.reduceAdd, Nat.reduceMul, Int.reduceToNat, Int.reduceAdd, Int.reduceMul, Int.reduceSub, tys]; exact rfl)); (case hs => exact hal _ _ _); (case' hk => rintro _ h' n' ⟨rfl, rfl, rfl⟩)) | ((first | ((with_reducible apply o_pure w_none); (case hp => exact rfl); (case' he => intro h n)) | (with_reducible first | apply o_eff w_none | apply o_guard rfl | apply x_cond | apply k_e1 rfl | apply k_e2 rfl | apply k_e0 rfl | apply k_e3 rfl | apply k_e4 rfl)); (case he => (simp (disch := first | assumption | omega | rfl | decide) only [go_sem, Nat.reduceBEq, ↓reduceIte, Nat.reduceEqDiff, Nat.reduceAdd, Nat.reduceMul, Int.reduceToNat, Int.reduceAdd, Int.reduceMul, Int.reduceSub, tys, hdd] <;> rfl)); (try (case hok => first | exact rfl | exact ok_w (by omega) rfl)); all_goals (try (intro hb; (try (simp only [hbs, reduceCtorEq] at hb)); try (exfalso; omega)))) | ((with_reducible apply o_undef rfl); (case hb => (simp (disch := first | assumption | omega | rfl | decide) only [go_sem, Nat.reduceBEq, ↓reduceIte, Nat.reduceEqDiff, Nat.reduceAdd, Nat.reduceMul, Int.reduceToNat, Int.reduceAdd, Int.reduceMul, Int.reduceSub, tys]))))
            all_goals exact sw_flat rfl rfl rfl
      · have hlt : j < i ∧ depT T j < depT T i := by
          rcases hnr rfl with h1 | h1
          · exact absurd h1.symm hij
          · exact h1
        have hSt : S ns.length = true := (hbs.1 rfl).resolve_left hij
        clear hnr hbs hnear hSe hcons hbi hbx hde
        (repeat' first | (with_reducible first | apply x_seq | apply k_then | apply x_block | apply x_skip | apply x_ret | apply x_exit | apply x_label | apply k_pass | apply k_hit | apply k_miss rfl | apply k_out | apply k_turned | refine x_text fun K' hK => ?_) | ((with_reducible apply o_nil); refine hK _ _ _ ?_; clear hK) | ((with_reducible apply o_callF (g := 53) w_none); (case ha => (simp (disch := first | assumption | omega | rfl | decide) only [go_sem, Nat.reduceBEq, ↓reduceIte, Nat.reduceEqDiff, Nat.reduceAdd, Nat.reduceMul, Int.reduceToNat, Int.reduceAdd, Int.reduceMul, Int.reduceSub, tys]; exact rfl)); (case hs => (exact Sp.shut hS1)); (case' hk => rintro _ h' n' ⟨rfl, rfl, rfl⟩)) | ((with_reducible apply o_callF (g := 40) w_none); (case ha => (simp (disch := first | assumption | omega | rfl | decide) only [go_sem, Nat.reduceBEq, ↓reduceIte, Nat.reduceEqDiff, Nat.reduceAdd, Nat.reduceMul, Int.reduceToNat, Int.reduceAdd, Int.reduceMul, Int.reduceSub, tys]; exact rfl)); (case hs => (exact Sp.shut p1)); (case' hk => rintro _ h' n' ⟨rfl, rfl, rfl⟩)) | ((with_reducible apply o_callF (g := 41) w_none); (case ha => (simp (disch := first | assumption | omega | rfl | decide) only [go_sem, Nat.reduceBEq, ↓reduceIte, Nat.reduceEqDiff, Nat.reduceAdd, Nat.reduceMul, Int.reduceToNat, Int.reduceAdd, Int.reduceMul, Int.reduceSub, tys]; exact rfl)); (case hs => (with_reducible first | exact Sp.shut p2 | exact Sp.shut p3)); (case' hk => rintro _ h' n' ⟨rfl, rfl, rfl⟩)) | ((with_reducible apply o_callF (g := 34) w_none); (case ha => (simp (disch := first | assumption | omega | rfl | decide) only [go_sem, Nat.reduceBEq, ↓reduceIte, Nat.reduceEqDiff, Nat.reduceAdd, Nat.reduceMul, Int.reduceToNat, Int.reduceAdd, Int.reduceMul, Int.reduceSub, tys]; exact rfl)); (case hs => (exact Sp.shut p4)); (case' hk => rintro _ h' n' ⟨LA, lc, rfl, hrL, hLn, hn2, hkp⟩)) | ((first | ((with_reducible apply o_pure w_none); (case hp => exact rfl); (case' he => intro h n)) | (with_reducible first | apply o_eff w_none | apply o_guard rfl | apply x_cond | apply k_e1 rfl | apply k_e2 rfl | apply k_e0 rfl | apply k_e3 rfl | apply k_e4 rfl)); (case he => (simp (disch := first | assumption | omega | rfl | decide) only [go_sem, Nat.reduceBEq, ↓reduceIte, Nat.reduceEqDiff, Nat.reduceAdd, Nat.reduceMul, Int.reduceToNat, Int.reduceAdd, Int.reduceMul, Int.reduceSub, tys, ht4] <;> rfl)); (try (case hok => first | exact rfl | exact ok_w (by omega) rfl)); all_goals (try (intro hb; (try (simp only [hbs, reduceCtorEq] at hb)); try (exfalso; omega)))) | ((with_reducible apply o_undef rfl); (case hb => (simp (disch := first | assumption | omega | rfl | decide) only [go_sem, Nat.reduceBEq, ↓reduceIte, Nat.reduceEqDiff, Nat.reduceAdd, Nat.reduceMul, Int.reduceToNat, Int.reduceAdd, Int.reduceMul, Int.reduceSub, tys]))))
        all_goals
          refine x_loopF [6, 13, 14, 16, 17, 18, 19, 20, 92, 93, 94, 95, 96, 97, 98, 99, 100, 101, 102, 103, 104, 105, 106, 107, 108, 109, 110, 111, 112, 113, 114, 115, 116, 117, 118, 119, 120, 121, 122, 123, 124, 125, 126, 127, 128, 129] [13, 14, 16] (fun m vs => ∃ q : Nat, m = ns.length - q ∧ q ≤ ns.length ∧ vs = [.int .i64 (M q), .bool (S q), .int .i64 q]) ns.length rfl (by omega) ⟨0, rfl, by omega, by rw [hM, hSS]; first | (simp (disch := first | assumption | omega | rfl | decide) only [go_sem, Nat.reduceBEq, ↓reduceIte, Nat.reduceEqDiff, Nat.reduceAdd, Nat.reduceMul, Int.reduceToNat, Int.reduceAdd, Int.reduceMul, Int.reduceSub, tys]; done) | (simp (disch := first | assumption | omega | rfl | decide) only [go_sem, Nat.reduceBEq, ↓reduceIte, Nat.reduceEqDiff, Nat.reduceAdd, Nat.reduceMul, Int.reduceToNat, Int.reduceAdd, Int.reduceMul, Int.reduceSub, tys]; exact rfl)⟩ ?_
          rintro m g _ ⟨q, rfl, hq, rfl⟩
          by_cases hql : q < ns.length
          · obtain ⟨lid, lof, hLA, -, cz⟩ := int_at hrL hql
            subst hLA
            have hzb := hns ns[q] (List.getElem_mem _)
            obtain ⟨x, hxx⟩ := Int.eq_ofNat_of_zero_le hzb.1
            rw [hxx] at cz hzb
            have hM1 : M (q + 1) = max (M q) (depT T x) := by
              rw [hM]
              show (ns.take (q + 1)).foldl _ 0 = _
              rw [List.take_succ_eq_append_getElem hql, List.foldl_append, hxx]
              rfl
            have hS1 : S (q + 1) = (S q || holdsB T x j) := by
              rw [hSS]
              show (ns.take (q + 1)).any _ = _
              rw [List.take_succ_eq_append_getElem hql, List.any_append, hxx, List.any_cons, List.any_nil, Bool.or_false, Int.toNat_natCast]
            have hTk := (hT.keep (Nat.le_refl _) hkp).more hn2
            have r1 := (pholds_ok k (d + 22) n h' n' hk (some ⟨tid, toff, none⟩) T c hTk hS hm hC x j (by omega) hj).mono (Φ' := fun v2 h2 n2 => v2 = .tuple ⟨[.bool (holdsB T x j), .int .i64 0]⟩ ∧ h' = h2 ∧ n' = n2) fun _ _ _ hp => ⟨hp.1, hp.2.1.symm, hp.2.2.symm⟩
            have r2 := (pdepth_ok k (d + 22) n h' n' hk (some ⟨tid, toff, none⟩) T c hTk hS hm hC x (by omega)).mono (Φ' := fun v2 h2 n2 => v2 = .tuple ⟨[.int .i64 (depT T x), .int .i64 0]⟩ ∧ h' = h2 ∧ n' = n2) fun _ _ _ hp => ⟨hp.1, hp.2.1.symm, hp.2.2.symm⟩
            obtain ⟨Bx, hBx⟩ : ∃ Bx, holdsB T x j = Bx := ⟨_, rfl⟩
            obtain ⟨Sq, hSq⟩ : ∃ Sq, S q = Sq := ⟨_, rfl⟩
            rw [hBx] at r1 hS1
            rw [hSq] at hS1 ⊢
            cases Sq
            · (repeat' first | (with_reducible first | apply x_seq | apply k_then | apply x_block | apply x_skip | apply x_ret | apply x_exit | apply x_label | apply k_pass | apply k_hit | apply k_miss rfl | apply k_out | apply k_turned | refine x_text fun K' hK => ?_) | ((with_reducible apply o_nil); refine hK _ _ _ ?_; clear hK) | ((with_reducible apply o_callF (g := 40) w_none); (case ha => (simp (disch := first | assumption | omega | rfl | decide) only [go_sem, Nat.reduceBEq, ↓reduceIte, Nat.reduceEqDiff, Nat.reduceAdd, Nat.reduceMul, Int.reduceToNat, Int.reduceAdd, Int.reduceMul, Int.reduceSub, tys]; exact rfl)); (case hs => (exact Sp.shut r1)); (case' hk => rintro _ h' n' ⟨rfl, rfl, rfl⟩)) | ((with_reducible apply o_callF (g := 41) w_none); (case ha => (simp (disch := first | assumption | omega | rfl | decide) only [go_sem, Nat.reduceBEq, ↓reduceIte, Nat.reduceEqDiff, Nat.reduceAdd, Nat.reduceMul, Int.reduceToNat, Int.reduceAdd, Int.reduceMul, Int.reduceSub, tys]; exact rfl)); (case hs => (exact Sp.shut r2)); (case' hk => rintro _ h' n' ⟨rfl, rfl, rfl⟩)) | ((first | ((with_reducible apply o_pure w_none); (case hp => exact rfl); (case' he => intro h n)) | (with_reducible first | apply o_eff w_none | apply o_guard rfl | apply x_cond | apply k_e1 rfl | apply k_e2 rfl | apply k_e0 rfl | apply k_e3 rfl | apply k_e4 rfl)); (case he => (simp (disch := first | assumption | omega | rfl | decide) only [go_sem, Nat.reduceBEq, ↓reduceIte, Nat.reduceEqDiff, Nat.reduceAdd, Nat.reduceMul, Int.reduceToNat, Int.reduceAdd, Int.reduceMul, Int.reduceSub, tys, cz, if_max] <;> rfl)); (try (case hok => first | exact rfl | exact ok_w (by omega) rfl)); all_goals (try (intro hb; (try (simp only [hbs, reduceCtorEq] at hb)); try (exfalso; omega)))) | ((with_reducible apply o_undef rfl); (case hb => (simp (disch := first | assumption | omega | rfl | decide) only [go_sem, Nat.reduceBEq, ↓reduceIte, Nat.reduceEqDiff, Nat.reduceAdd, Nat.reduceMul, Int.reduceToNat, Int.reduceAdd, Int.reduceMul, Int.reduceSub, tys]))))
              refine k_round (ns.length - (q + 1)) (by omega) ⟨⟨rfl, rfl⟩, q + 1, rfl, by omega, by rw [hM1, hS1]; first | (simp (disch := first | assumption | omega | rfl | decide) only [go_sem, Nat.reduceBEq, ↓reduceIte, Nat.reduceEqDiff, Nat.reduceAdd, Nat.reduceMul, Int.reduceToNat, Int.reduceAdd, Int.reduceMul, Int.reduceSub, tys]; done) | (simp (disch := first | assumption | omega | rfl | decide) only [go_sem, Nat.reduceBEq, ↓reduceIte, Nat.reduceEqDiff, Nat.reduceAdd, Nat.reduceMul, Int.reduceToNat, Int.reduceAdd, Int.reduceMul, Int.reduceSub, tys]; exact rfl)⟩
            · (repeat' first | (with_reducible first | apply x_seq | apply k_then | apply x_block | apply x_skip | apply x_ret | apply x_exit | apply x_label | apply k_pass | apply k_hit | apply k_miss rfl | apply k_out | apply k_turned | refine x_text fun K' hK => ?_) | ((with_reducible apply o_nil); refine hK _ _ _ ?_; clear hK) | ((with_reducible apply o_callF (g := 40) w_none); (case ha => (simp (disch := first | assumption | omega | rfl | decide) only [go_sem, Nat.reduceBEq, ↓reduceIte, Nat.reduceEqDiff, Nat.reduceAdd, Nat.reduceMul, Int.reduceToNat, Int.reduceAdd, Int.reduceMul, Int.reduceSub, tys]; exact rfl)); (case hs => (exact Sp.shut r1)); (case' hk => rintro _ h' n' ⟨rfl, rfl, rfl⟩)) | ((with_reducible apply o_callF (g := 41) w_none); (case ha => (simp (disch := first | assumption | omega | rfl | decide) only [go_sem, Nat.reduceBEq, ↓reduceIte, Nat.reduceEqDiff, Nat.reduceAdd, Nat.reduceMul, Int.reduceToNat, Int.reduceAdd, Int.reduceMul, Int.reduceSub, tys]; exact rfl)); (case hs => (exact Sp.shut r2)); (case' hk => rintro _ h' n' ⟨rfl, rfl, rfl⟩)) | ((first | ((with_reducible apply o_pure w_none); (case hp => exact rfl); (case' he => intro h n)) | (with_reducible first | apply o_eff w_none | apply o_guard rfl | apply x_cond | apply k_e1 rfl | apply k_e2 rfl | apply k_e0 rfl | apply k_e3 rfl | apply k_e4 rfl)); (case he => (simp (disch := first | assumption | omega | rfl | decide) only [go_sem, Nat.reduceBEq, ↓reduceIte, Nat.reduceEqDiff, Nat.reduceAdd, Nat.reduceMul, Int.reduceToNat, Int.reduceAdd, Int.reduceMul, Int.reduceSub, tys, cz, if_max] <;> rfl)); (try (case hok => first | exact rfl | exact ok_w (by omega) rfl)); all_goals (try (intro hb; (try (simp only [hbs, reduceCtorEq] at hb)); try (exfalso; omega)))) | ((with_reducible apply o_undef rfl); (case hb => (simp (disch := first | assumption | omega | rfl | decide) only [go_sem, Nat.reduceBEq, ↓reduceIte, Nat.reduceEqDiff, Nat.reduceAdd, Nat.reduceMul, Int.reduceToNat, Int.reduceAdd, Int.reduceMul, Int.reduceSub, tys]))))
              refine k_round (ns.length - (q + 1)) (by omega) ⟨⟨rfl, rfl⟩, q + 1, rfl, by omega, by rw [hM1, hS1]; first | (simp (disch := first | assumption | omega | rfl | decide) only [go_sem, Nat.reduceBEq, ↓reduceIte, Nat.reduceEqDiff, Nat.reduceAdd, Nat.reduceMul, Int.reduceToNat, Int.reduceAdd, Int.reduceMul, Int.reduceSub, tys]; done) | (simp (disch := first | assumption | omega | rfl | decide) only [go_sem, Nat.reduceBEq, ↓reduceIte, Nat.reduceEqDiff, Nat.reduceAdd, Nat.reduceMul, Int.reduceToNat, Int.reduceAdd, Int.reduceMul, Int.reduceSub, tys]; exact rfl)⟩
          · obtain rfl : q = ns.length := by omega
            have hMl := hMb ns.length
            have hdd : (depT T i == M ns.length + 1) = true := by rw [hMe]; exact beq_self_eq_true _
            rw [hSt]
            (repeat' first | (with_reducible first | apply x_seq | apply k_then | apply x_block | apply x_skip | apply x_ret | apply x_exit | apply x_label | apply k_pass | apply k_hit | apply k_miss rfl | apply k_out | apply k_turned | refine x_text fun K' hK => ?_) | ((with_reducible apply o_nil); refine hK _ _ _ ?_; clear hK) | ((with_reducible apply o_callF (g := 45) w_none); (case ha => (simp (disch := first | assumption | omega | rfl | decide) only [go_sem, Nat.reduceBEq, ↓reduceIte, Nat.reduceEqDiff, Nat.reduceAdd, Nat.reduceMul, Int.reduceToNat, Int.reduceAdd, Int.reduceMul, Int.reduceSub, tys]; exact rfl)); (case hs => exact hal _ _ _); (case' hk => rintro _ h' n' ⟨rfl, rfl, rfl⟩)) | ((first | ((with_reducible apply o_pure w_none); (case hp => exact rfl); (case' he => intro h n)) | (with_reducible first | apply o_eff w_none | apply o_guard rfl | apply x_cond | apply k_e1 rfl | apply k_e2 rfl | apply k_e0 rfl | apply k_e3 rfl | apply k_e4 rfl)); (case he => (simp (disch := first | assumption | omega | rfl | decide) only [go_sem, Nat.reduceBEq, ↓reduceIte, Nat.reduceEqDiff, Nat.reduceAdd, Nat.reduceMul, Int.reduceToNat, Int.reduceAdd, Int.reduceMul, Int.reduceSub, tys, hdd] <;> rfl)); (try (case hok => first | exact rfl | exact ok_w (by omega) rfl)); all_goals (try (intro hb; (try (simp only [hbs, reduceCtorEq] at hb)); try (exfalso; omega)))) | ((with_reducible apply o_undef rfl); (case hb => (simp (disch := first | assumption | omega | rfl | decide) only [go_sem, Nat.reduceBEq, ↓reduceIte, Nat.reduceEqDiff, Nat.reduceAdd, Nat.reduceMul, Int.reduceToNat, Int.reduceAdd, Int.reduceMul, Int.reduceSub, tys]))))
            all_goals exact sw_flat rfl rfl rfl
  exact hloop _ rfl hnear hSe
theorem kindsFounded_ev (hk : 30000 ≤ k) (A : Option Addr) (T : List Tp) (c : Nat) (hT : TabH h n A T) (i j : Int) (hm : T.length ≤ 9223372036854775807) (hS0 : ∀ t ∈ T, t.fs.length ≤ 9223372036854775807)
    (hal : ∀ cl h n, Sp Try.prog (shut (acall Try.prog WW k (d + 30))) cl 45 [] h n fun v h' n' => v = .bool true ∧ h' = h ∧ n' = n) :
    Sp Try.prog (afunc Try.prog (shut (acall Try.prog WW k (d + 30))) WW k) cl 11 [.slice A T.length c, .int .i64 i, .int .i64 j] h n fun v h' n' => v = .bool true := by
  obtain ⟨v, h2, n2, ⟨B, rfl, hg, rfl, rfl⟩, hB⟩ := sp_fix (fit4_ev k (d + 21) n h n hk A T c hT i j hm hS0)
  have hB2 : Sp Try.prog (acall Try.prog WW k (d + 30)) n2 53 [.slice A T.length c, .int .i64 i, .int .i64 j] h2 n2 fun v3 h3 n3 => v3 = .bool B ∧ h2 = h3 ∧ n2 = n3 := hB.mono fun _ _ _ hp => ⟨hp.1, hp.2.1.symm, hp.2.2.symm⟩
  rcases B with _ | _
  · exact lkf_no k d cl h2 n2 A T c i j hal hB2
  · obtain ⟨hS, he⟩ := hg rfl
    obtain ⟨hC, hi, hj⟩ := askE_ok he
    obtain ⟨i, rfl⟩ := Int.eq_ofNat_of_zero_le hi.1
    obtain ⟨j, rfl⟩ := Int.eq_ofNat_of_zero_le hj.1
    exact lkf_yes k d cl h2 n2 hk A T c hT hm i j (fun t ht => by have := hS t ht; omega) hC (by omega) (by omega) hal hB2
end Go.Proofs.Ytgdokjfjmcleeaa.Ce
