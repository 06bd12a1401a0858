/- The law LayoutAlike: a symbolic run. -/
import Derived.Test.YtgdokjfjmcleeaaYa
import Derived.Test.YtgdokjfjmcleeaaJv
import Derived.Test.YtgdokjfjmcleeaaAl
namespace Go.Proofs.Ytgdokjfjmcleeaa.Ce
open Go.RowKit
set_option linter.unusedVariables false
set_option linter.unusedSimpArgs false
set_option maxRecDepth 100000
set_option maxHeartbeats 2000000

theorem cell2 {h : Hp} {b e : Nat} {ro : Bool} {ps : List (Int × Int)} (hr : rowOf h b = some (e, ro, pv ps)) {q : Nat} (hq : q < ps.length) : cellAt h b (q * 2) = some (.int .i64 (ps[q]).1) ∧ cellAt h b (q * 2 + 1) = some (.int .i64 (ps[q]).2) := by
  obtain ⟨i1, o1, hA1, -, -, e1, e2⟩ := prt_at (RdH.ofRow (B := b + 1) hr (by omega)) hq
  injection hA1 with hA1
  injection hA1 with e3 e4
  subst e3; subst e4
  rw [Nat.zero_add] at e1 e2
  exact ⟨e1, e2⟩
theorem pad_len {T : List Tp} (hC : ChkT T) {j : Nat} (h1 : j < T.length) (hb : ((eRow 1048576 T).at_ (j : Int)).1 ≤ 256) : (padT T j).length ≤ 256 := by
  rw [padT_eq hC h1 hb]
  refine Nat.le_trans (List.length_filter_le _ _) ?_
  unfold upto szT
  rw [List.length_map, List.length_range]
  omega
variable (k d cl : Nat) (h : Hp) (n : Nat)
theorem lal_no1 (A : Option Addr) (T : List Tp) (c : Nat) (i j : Int)
    (hal : ∀ cl h n, Sp Try.prog (shut (acall Try.prog WW k (d + 50))) cl 33 [] h n fun v h' n' => v = .bool true ∧ h' = h ∧ n' = n)
    (hS1 : Sp Try.prog (acall Try.prog WW k (d + 50)) n 32 [.slice A T.length c, .int .i64 i] h n fun v2 h2 n2 => v2 = .bool false ∧ h = h2 ∧ n = n2) :
    Sp Try.prog (afunc Try.prog (shut (acall Try.prog WW k (d + 50))) WW k) cl 15 [.slice A T.length c, .int .i64 i, .int .i64 j] h n fun v h' n' => v = .bool true := by
  refine enterS Try.func15 (by kernel_rfl) rfl (by kernel_rfl) rfl rfl rfl ?_
  (repeat' first | (with_reducible first | apply x_seq | apply k_then | apply x_block | apply x_skip | apply x_ret | apply x_exit | apply x_label | apply k_pass | apply k_hit | apply k_miss rfl | apply k_out | apply k_turned | refine x_text fun K' hK => ?_) | ((with_reducible apply o_nil); refine hK _ _ _ ?_; clear hK) | ((with_reducible apply o_callF (g := 33) w_none); (case ha => (simp (disch := first | assumption | omega | rfl | decide) only [go_sem, seval, tys] <;> rfl)); (case hs => exact hal _ _ _); (case' hk => rintro _ h' n' ⟨rfl, rfl, rfl⟩)) | ((with_reducible apply o_callF (g := 32) w_none); (case ha => (simp (disch := first | assumption | omega | rfl | decide) only [go_sem, seval, tys] <;> rfl)); (case hs => (exact Sp.shut hS1)); (case' hk => rintro _ h' n' ⟨rfl, rfl, rfl⟩)) | ((first | ((with_reducible apply o_pure w_none); (case hp => exact rfl); (case' he => intro h n)) | (with_reducible first | apply o_eff w_none | apply o_guard rfl | apply x_cond | apply k_e1 rfl | apply k_e2 rfl | apply k_e0 rfl | apply k_e3 rfl | apply k_e4 rfl)); (case he => (simp (disch := first | assumption | omega | rfl | decide) only [go_sem, seval, tys] <;> rfl)); (try (case hok => first | exact rfl | exact ok_w (by omega) rfl)); all_goals (try (intro hb; (try (simp only [hbs, reduceCtorEq] at hb)); try (exfalso; omega)))) | ((with_reducible apply o_undef rfl); (case hb => (simp (disch := first | assumption | omega | rfl | decide) only [go_sem, seval, tys]))))
  all_goals exact sw_flat rfl rfl rfl
theorem lal_no2 (A : Option Addr) (T : List Tp) (c : Nat) (i j : Int)
    (hal : ∀ cl h n, Sp Try.prog (shut (acall Try.prog WW k (d + 50))) cl 33 [] h n fun v h' n' => v = .bool true ∧ h' = h ∧ n' = n)
    (hS1 : Sp Try.prog (acall Try.prog WW k (d + 50)) n 32 [.slice A T.length c, .int .i64 i] h n fun v2 h2 n2 => v2 = .bool true ∧ h = h2 ∧ n = n2)
    (hS2 : Sp Try.prog (acall Try.prog WW k (d + 50)) n 32 [.slice A T.length c, .int .i64 j] h n fun v2 h2 n2 => v2 = .bool false ∧ h = h2 ∧ n = n2) :
    Sp Try.prog (afunc Try.prog (shut (acall Try.prog WW k (d + 50))) WW k) cl 15 [.slice A T.length c, .int .i64 i, .int .i64 j] h n fun v h' n' => v = .bool true := by
  refine enterS Try.func15 (by kernel_rfl) rfl (by kernel_rfl) rfl rfl rfl ?_
  (repeat' first | (with_reducible first | apply x_seq | apply k_then | apply x_block | apply x_skip | apply x_ret | apply x_exit | apply x_label | apply k_pass | apply k_hit | apply k_miss rfl | apply k_out | apply k_turned | refine x_text fun K' hK => ?_) | ((with_reducible apply o_nil); refine hK _ _ _ ?_; clear hK) | ((with_reducible apply o_callF (g := 33) w_none); (case ha => (simp (disch := first | assumption | omega | rfl | decide) only [go_sem, seval, tys] <;> rfl)); (case hs => exact hal _ _ _); (case' hk => rintro _ h' n' ⟨rfl, rfl, rfl⟩)) | ((with_reducible apply o_callF (g := 32) w_none); (case ha => (simp (disch := first | assumption | omega | rfl | decide) only [go_sem, seval, tys] <;> rfl)); (case hs => (with_reducible first | exact Sp.shut hS1 | exact Sp.shut hS2)); (case' hk => rintro _ h' n' ⟨rfl, rfl, rfl⟩)) | ((first | ((with_reducible apply o_pure w_none); (case hp => exact rfl); (case' he => intro h n)) | (with_reducible first | apply o_eff w_none | apply o_guard rfl | apply x_cond | apply k_e1 rfl | apply k_e2 rfl | apply k_e0 rfl | apply k_e3 rfl | apply k_e4 rfl)); (case he => (simp (disch := first | assumption | omega | rfl | decide) only [go_sem, seval, tys] <;> rfl)); (try (case hok => first | exact rfl | exact ok_w (by omega) rfl)); all_goals (try (intro hb; (try (simp only [hbs, reduceCtorEq] at hb)); try (exfalso; omega)))) | ((with_reducible apply o_undef rfl); (case hb => (simp (disch := first | assumption | omega | rfl | decide) only [go_sem, seval, tys]))))
  all_goals exact sw_flat rfl rfl rfl
theorem lal_yes (hk : 30000 ≤ k) (A : Option Addr) (T : List Tp) (c : Nat) (hT : TabH h n A T) (hm : T.length ≤ 9223372036854775807) (i j : Nat) (hS : ∀ t ∈ T, t.fs.length ≤ 20000) (he : (szR 1048576 T i).2.2 = 0) (he2 : (szR 1048576 T j).2.2 = 0)
    (hal : ∀ cl h n, Sp Try.prog (shut (acall Try.prog WW k (d + 50))) cl 33 [] h n fun v h' n' => v = .bool true ∧ h' = h ∧ n' = n)
    (hS1 : Sp Try.prog (acall Try.prog WW k (d + 50)) n 32 [.slice A T.length c, .int .i64 i] h n fun v2 h2 n2 => v2 = .bool true ∧ h = h2 ∧ n = n2)
    (hS2 : Sp Try.prog (acall Try.prog WW k (d + 50)) n 32 [.slice A T.length c, .int .i64 j] h n fun v2 h2 n2 => v2 = .bool true ∧ h = h2 ∧ n = n2) :
    Sp Try.prog (afunc Try.prog (shut (acall Try.prog WW k (d + 50))) WW k) cl 15 [.slice A T.length c, .int .i64 i, .int .i64 j] h n fun v h' n' => v = .bool true := by
  obtain ⟨hC, h0, hi, hsz, hze⟩ := szR_0 he
  obtain ⟨-, -, hj, hsz2, hze2⟩ := szR_0 he2
  have hl := hC.1
  have hF := hC.2.1
  have hi : i < T.length := by omega
  have hj : j < T.length := by omega
  have s0 := psame_ok k (d + 42) n h n hk A T c hT hS hm hC i j hi hj
  by_cases hal2 : Alike T i j
  · have s0 := s0.mono (Φ' := fun v2 h2 n2 => v2 = .tuple ⟨[.bool true, .int .i64 0]⟩ ∧ h = h2 ∧ n = n2) fun _ _ _ hp => ⟨by rw [← alikeB_t hal2]; exact hp.1, hp.2.1.symm, hp.2.2.symm⟩
    have p1 := (lsize_ev k (d + 42) n h n hk A T c hT hS hm i)
    have p2 := (lsize_ev k (d + 42) n h n hk A T c hT hS hm j)
    rw [hze] at p1
    rw [hze2, ← alike_e hF T.length i j hi hi hj hal2] at p2
    obtain ⟨sz, hsze⟩ : ∃ x, (eRow 1048576 T).at_ (i : Int) = x := ⟨_, rfl⟩
    rw [hsze] at p1 p2
    obtain ⟨sa, sb⟩ := sz
    have p1 := p1.mono (Φ' := fun v2 h2 n2 => v2 = .tuple ⟨[.int .i64 sa, .int .i64 sb, .int .i64 0]⟩ ∧ h = h2 ∧ n = n2) fun _ _ _ hp => ⟨hp.1, hp.2.1.symm, hp.2.2.symm⟩
    have p2 := p2.mono (Φ' := fun v2 h2 n2 => v2 = .tuple ⟨[.int .i64 sa, .int .i64 sb, .int .i64 0]⟩ ∧ h = h2 ∧ n = n2) fun _ _ _ hp => ⟨hp.1, hp.2.1.symm, hp.2.2.symm⟩
    have hRl := alike_cells (C := 1000000) hF 32 i j 0 hi hj hal2
    have hcl := (cellsT_bnd hC hi hsz).2.2
    have hpe := alike_pad hF hi hj hal2
    have hpl := pad_len hC hi hsz
    have c1 := lcells_ok k (d + 10) n h n hk A T c hT hS hm i he
    have c2 := lcells_ok k (d + 10) n (h.set n (.row 57 false (pv (cellsT T i)))) (n + 1) hk A T c ((hT.set (Nat.le_refl _) _).more (by omega)) hS hm j he2
    have e1 : cellsR 1000000 T 32 (i : Int) 0 = cellsT T i := rfl
    have e2 : cellsR 1000000 T 32 (j : Int) 0 = cellsT T j := rfl
    rw [e1, e2] at hRl
    obtain ⟨ci, hci⟩ : ∃ x, cellsT T i = x := ⟨_, rfl⟩
    obtain ⟨cj, hcj⟩ : ∃ x, cellsT T j = x := ⟨_, rfl⟩
    rw [hci] at hRl c1 c2 hcl
    rw [hcj] at hRl c2
    have hcc := hRl.len
    rw [← hcc] at c2
    obtain ⟨pl, hp⟩ : ∃ x, padT T i = x := ⟨_, rfl⟩
    rw [hp] at hpe hpl
    have hat := hRl.at_
    clear hsze e1 e2 hci hcj hze hze2 hRl hsz hsz2
    refine enterS Try.func15 (by kernel_rfl) rfl (by kernel_rfl) rfl rfl rfl ?_
    (repeat' first | (with_reducible first | apply x_seq | apply k_then | apply x_block | apply x_skip | apply x_ret | apply x_exit | apply x_label | apply k_pass | apply k_hit | apply k_miss rfl | apply k_out | apply k_turned | refine x_text fun K' hK => ?_) | ((with_reducible apply o_nil); refine hK _ _ _ ?_; clear hK) | ((with_reducible apply o_callF (g := 32) w_none); (case ha => (simp (disch := first | assumption | omega | rfl | decide) only [go_sem, seval, tys] <;> rfl)); (case hs => (with_reducible first | exact Sp.shut hS1 | exact Sp.shut hS2)); (case' hk => rintro _ h' n' ⟨rfl, rfl, rfl⟩)) | ((with_reducible apply o_callF (g := 43) w_none); (case ha => (simp (disch := first | assumption | omega | rfl | decide) only [go_sem, seval, tys] <;> rfl)); (case hs => (with_reducible exact Sp.shut s0)); (case' hk => rintro _ h' n' ⟨rfl, rfl, rfl⟩)) | ((with_reducible apply o_callF (g := 18) w_none); (case ha => (simp (disch := first | assumption | omega | rfl | decide) only [go_sem, seval, tys] <;> rfl)); (case hs => (with_reducible first | exact Sp.shut p1 | exact Sp.shut p2)); (case' hk => rintro _ h' n' ⟨rfl, rfl, rfl⟩)) | ((with_reducible apply o_callF (g := 27) w_none); (case ha => (simp (disch := first | assumption | omega | rfl | decide) only [go_sem, seval, tys] <;> rfl)); (case hs => (with_reducible first | exact Sp.shut c1 | exact Sp.shut c2)); (case' hk => rintro _ h' n' ⟨rfl, rfl, rfl⟩)) | ((first | ((with_reducible apply o_pure w_none); (case hp => exact rfl); (case' he => intro h n)) | (with_reducible first | apply o_eff w_none | apply o_guard rfl | apply x_cond | apply k_e1 rfl | apply k_e2 rfl | apply k_e0 rfl | apply k_e3 rfl | apply k_e4 rfl)); (case he => (simp (disch := first | assumption | omega | rfl | decide) only [go_sem, seval, tys] <;> rfl)); (try (case hok => first | exact rfl | exact ok_w (by omega) rfl)); all_goals (try (intro hb; (try (simp only [hbs, reduceCtorEq] at hb)); try (exfalso; omega)))) | ((with_reducible apply o_undef rfl); (case hb => (simp (disch := first | assumption | omega | rfl | decide) only [go_sem, seval, tys]))))
    obtain ⟨H, hH⟩ : ∃ x, x = (h.set n (.row 57 false (pv ci))).set (n + 1) (.row 57 false (pv cj)) := ⟨_, rfl⟩
    rw [← hH]
    have hTH : TabH H n A T := by rw [hH]; exact (hT.set (Nat.le_refl _) _).set (by omega) _
    have q1 : rowOf H n = some (57, false, pv ci) := by rw [hH, rowOf_ne _ _ (by omega)]; exact rowOf_same _ _ _ _ _
    have q2 : rowOf H (n + 1) = some (57, false, pv cj) := by rw [hH]; exact rowOf_same _ _ _ _ _
    have d1 := (lpad_ok k (d + 10) n H (n + 1 + 1) hk A T c (hTH.more (by omega)) hS hm i he).mono (Φ' := fun v h' n' => ∃ RL rc, v = .tuple ⟨[.slice RL pl.length rc, .int .i64 0]⟩ ∧ RdH h' n' RL (iv pl) ∧ n + 1 + 1 ≤ n' ∧ ∀ b, b < n + 1 + 1 → h'.get b = H.get b) fun v h' n' hh => by
      obtain ⟨X, rfl, hX⟩ := hh
      rw [hp] at hX
      obtain ⟨LA, lc, rfl, h1, -, h3, h4⟩ := hX.rd
      exact ⟨LA, lc, rfl, h1, h3, h4⟩
    clear s0 p1 p2 c1 c2 hH
    (repeat' first | (with_reducible first | apply x_seq | apply k_then | apply x_block | apply x_skip | apply x_ret | apply x_exit | apply x_label | apply k_pass | apply k_hit | apply k_miss rfl | apply k_out | apply k_turned | refine x_text fun K' hK => ?_) | ((with_reducible apply o_nil); refine hK _ _ _ ?_; clear hK) | ((with_reducible apply o_callF (g := 29) w_none); (case ha => (simp (disch := first | assumption | omega | rfl | decide) only [go_sem, seval, tys] <;> rfl)); (case hs => (with_reducible exact Sp.shut d1)); (case' hk => rintro _ h' n' ⟨RL, rc, rfl, hrR, hnR, hkR⟩)) | ((first | ((with_reducible apply o_pure w_none); (case hp => exact rfl); (case' he => intro h n)) | (with_reducible first | apply o_eff w_none | apply o_guard rfl | apply x_cond | apply k_e1 rfl | apply k_e2 rfl | apply k_e0 rfl | apply k_e3 rfl | apply k_e4 rfl)); (case he => (simp (disch := first | assumption | omega | rfl | decide) only [go_sem, seval, tys] <;> rfl)); (try (case hok => first | exact rfl | exact ok_w (by omega) rfl)); all_goals (try (intro hb; (try (simp only [hbs, reduceCtorEq] at hb)); try (exfalso; omega)))) | ((with_reducible apply o_undef rfl); (case hb => (simp (disch := first | assumption | omega | rfl | decide) only [go_sem, seval, tys]))))
    obtain ⟨h3, hh3⟩ : ∃ x, x = h' := ⟨_, rfl⟩
    obtain ⟨n3, hn3⟩ : ∃ x, x = n' := ⟨_, rfl⟩
    subst hh3
    subst hn3
    have hT3 := hTH.keep (by omega) hkR
    have d2 := (lpad_ok k (d + 10) n h3 n3 hk A T c (hT3.more (by omega)) hS hm j he2).mono (Φ' := fun v h' n' => ∃ RL rc, v = .tuple ⟨[.slice RL pl.length rc, .int .i64 0]⟩ ∧ RdH h' n' RL (iv pl) ∧ n3 ≤ n' ∧ ∀ b, b < n3 → h'.get b = h3.get b) fun v h' n' hh => by
      obtain ⟨X, rfl, hX⟩ := hh
      rw [← hpe] at hX
      obtain ⟨LA, lc, rfl, h1, -, h3, h4⟩ := hX.rd
      exact ⟨LA, lc, rfl, h1, h3, h4⟩
    clear d1
    (repeat' first | (with_reducible first | apply x_seq | apply k_then | apply x_block | apply x_skip | apply x_ret | apply x_exit | apply x_label | apply k_pass | apply k_hit | apply k_miss rfl | apply k_out | apply k_turned | refine x_text fun K' hK => ?_) | ((with_reducible apply o_nil); refine hK _ _ _ ?_; clear hK) | ((with_reducible apply o_callF (g := 29) w_none); (case ha => (simp (disch := first | assumption | omega | rfl | decide) only [go_sem, seval, tys] <;> rfl)); (case hs => (with_reducible exact Sp.shut d2)); (case' hk => rintro _ h' n' ⟨RL2, rc2, rfl, hrR2, hnR2, hkR2⟩)) | ((first | ((with_reducible apply o_pure w_none); (case hp => exact rfl); (case' he => intro h n)) | (with_reducible first | apply o_eff w_none | apply o_guard rfl | apply x_cond | apply k_e1 rfl | apply k_e2 rfl | apply k_e0 rfl | apply k_e3 rfl | apply k_e4 rfl)); (case he => (simp (disch := first | assumption | omega | rfl | decide) only [go_sem, seval, tys] <;> rfl)); (try (case hok => first | exact rfl | exact ok_w (by omega) rfl)); all_goals (try (intro hb; (try (simp only [hbs, reduceCtorEq] at hb)); try (exfalso; omega)))) | ((with_reducible apply o_undef rfl); (case hb => (simp (disch := first | assumption | omega | rfl | decide) only [go_sem, seval, tys]))))
    obtain ⟨h4, hh4⟩ : ∃ x, x = h' := ⟨_, rfl⟩
    obtain ⟨n4, hn4⟩ : ∃ x, x = n' := ⟨_, rfl⟩
    subst hh4
    subst hn4
    have hT4 := hT3.keep (by omega) hkR2
    have hrR4 := (hrR.keep (Nat.le_refl _) hkR2).more hnR2
    have q3 : rowOf h4 n = some (57, false, pv ci) := by rw [rowOf_keep (hkR2 _ (by omega)), rowOf_keep (hkR _ (by omega))]; exact q1
    have q4 : rowOf h4 (n + 1) = some (57, false, pv cj) := by rw [rowOf_keep (hkR2 _ (by omega)), rowOf_keep (hkR _ (by omega))]; exact q2
    have s5 := (sameints_ev k (d + 49) n h4 n4 hk RL RL2 pl pl.length rc rc2 rfl hrR4 hrR2 (by omega)).mono (Φ' := fun v2 h2 n2 => v2 = .bool true ∧ h4 = h2 ∧ n4 = n2) fun _ _ _ hp => ⟨hp.1, hp.2.1.symm, hp.2.2.symm⟩
    clear d2 hp hpe
    (repeat' first | (with_reducible first | apply x_seq | apply k_then | apply x_block | apply x_skip | apply x_ret | apply x_exit | apply x_label | apply k_pass | apply k_hit | apply k_miss rfl | apply k_out | apply k_turned | refine x_text fun K' hK => ?_) | ((with_reducible apply o_nil); refine hK _ _ _ ?_; clear hK) | ((with_reducible apply o_callF (g := 24) w_none); (case ha => (simp (disch := first | assumption | omega | rfl | decide) only [go_sem, seval, tys] <;> rfl)); (case hs => (with_reducible exact Sp.shut s5)); (case' hk => rintro _ h' n' ⟨rfl, rfl, rfl⟩)) | ((first | ((with_reducible apply o_pure w_none); (case hp => exact rfl); (case' he => intro h n)) | (with_reducible first | apply o_eff w_none | apply o_guard rfl | apply x_cond | apply k_e1 rfl | apply k_e2 rfl | apply k_e0 rfl | apply k_e3 rfl | apply k_e4 rfl)); (case he => (simp (disch := first | assumption | omega | rfl | decide) only [go_sem, seval, tys] <;> rfl)); (try (case hok => first | exact rfl | exact ok_w (by omega) rfl)); all_goals (try (intro hb; (try (simp only [hbs, reduceCtorEq] at hb)); try (exfalso; omega)))) | ((with_reducible apply o_undef rfl); (case hb => (simp (disch := first | assumption | omega | rfl | decide) only [go_sem, seval, tys]))))
    refine x_loopF [6, 23, 24, 25, 138, 139, 140, 141, 142, 143, 144, 145, 146, 147, 148, 149, 150, 151, 152, 153, 154, 155, 156, 157, 158, 159, 160, 161, 162, 163, 164, 165, 166, 167, 168, 169, 170, 171, 172, 173, 174, 175, 176, 177] [23] (fun m vs => ∃ q : Nat, m = ci.length - q ∧ q ≤ ci.length ∧ vs = [.int .i64 q]) ci.length rfl (by omega) ⟨0, rfl, by omega, by simp (disch := first | assumption | omega | rfl | decide) only [go_sem, seval, tys] <;> rfl⟩ ?_
    rintro m g _ ⟨q, rfl, hq, rfl⟩
    by_cases hql : q < ci.length
    · obtain ⟨x, y, o1, o2, o3, hx, hy, hxy⟩ := hat q hql (by omega)
      obtain ⟨ca, cb⟩ := cell2 q3 hql
      obtain ⟨cc, ce⟩ := cell2 q4 (show q < cj.length by omega)
      rw [← o1] at cc
      rw [o2] at cb
      rw [o3] at ce
      obtain ⟨o, ho⟩ : ∃ o, (ci[q]).1 = o := ⟨_, rfl⟩
      rw [ho] at ca cc
      have r1 := (psame_ok k (d + 42) n h4 n4 hk A T c (hT4.more (by omega)) hS hm hC x y hx hy).mono (Φ' := fun v2 h2 n2 => v2 = .tuple ⟨[.bool true, .int .i64 0]⟩ ∧ h4 = h2 ∧ n4 = n2) fun _ _ _ hp => ⟨by rw [← alikeB_t hxy]; exact hp.1, hp.2.1.symm, hp.2.2.symm⟩
      (repeat' first | (with_reducible first | apply x_seq | apply k_then | apply x_block | apply x_skip | apply x_ret | apply x_exit | apply x_label | apply k_pass | apply k_hit | apply k_miss rfl | apply k_out | apply k_turned | refine x_text fun K' hK => ?_) | ((with_reducible apply o_nil); refine hK _ _ _ ?_; clear hK) | (with_reducible refine x_drawnD (id := 17) [(5, 10)] (by kernel_rfl) fun K' hK => ?_) | ((with_reducible apply d_nil); (case hp => (simp (disch := omega) only [pairsOk, List.all_cons, List.all_nil, List.reverse_cons, List.reverse_nil, List.nil_append, List.cons_append, lget_zero, lget_succ, apartB, touches, made_mm, made_lt, made_ge, all_true, ble_t, ble_f, blt_t, blt_f, beq_f, List.contains_cons, List.contains_nil, Bool.and_true, Bool.true_and, Bool.and_false, Bool.false_and, Bool.or_false, Bool.false_or, Bool.not_false, Bool.not_true, beq_self_eq_true])); (case' hx => (refine hK _ _ _ ?_; clear hK))) | ((with_reducible apply d_pure w_none); (case hp => exact rfl); (case hc => exact rfl); (case he => (intro h n; simp (disch := first | assumption | omega | rfl | decide) only [go_sem, seval, tys, ca, cb, cc, ce] <;> rfl))) | ((with_reducible apply d_eff w_none); (case hc => exact rfl); (case he => (simp (disch := first | assumption | omega | rfl | decide) only [go_sem, seval, tys, ca, cb, cc, ce] <;> rfl)); (case hok => first | exact rfl | exact ok_w (by omega) rfl)) | ((with_reducible apply d_guard rfl); (case hb => (simp (disch := first | assumption | omega | rfl | decide) only [go_sem, seval, tys, ca, cb, cc, ce] <;> rfl)); (case' h1 => intro hb; (try (simp only [hbs, reduceCtorEq] at hb)); try (exfalso; omega)); (case' h2 => intro hb; (try (simp only [hbs, reduceCtorEq] at hb)); try (exfalso; omega))) | ((with_reducible apply d_callS (g := 43) w_none); (case hs0 => exact rfl); (case ha => (simp (disch := first | assumption | omega | rfl | decide) only [go_sem, seval, tys] <;> rfl)); (case hs => (exact Sp.shut r1)); (case' hk => rintro _ h' n' ⟨rfl, rfl, rfl⟩)) | (with_reducible refine x_drawnD (id := 18) [(4, 9)] (by kernel_rfl) fun K' hK => ?_) | ((with_reducible apply d_nil); (case hp => (simp (disch := omega) only [pairsOk, List.all_cons, List.all_nil, List.reverse_cons, List.reverse_nil, List.nil_append, List.cons_append, lget_zero, lget_succ, apartB, touches, made_mm, made_lt, made_ge, all_true, ble_t, ble_f, blt_t, blt_f, beq_f, List.contains_cons, List.contains_nil, Bool.and_true, Bool.true_and, Bool.and_false, Bool.false_and, Bool.or_false, Bool.false_or, Bool.not_false, Bool.not_true, beq_self_eq_true])); (case' hx => (refine hK _ _ _ ?_; clear hK))) | ((with_reducible apply d_pure w_none); (case hp => exact rfl); (case hc => exact rfl); (case he => (intro h n; simp (disch := first | assumption | omega | rfl | decide) only [go_sem, seval, tys, ca, cb, cc, ce] <;> rfl))) | ((with_reducible apply d_eff w_none); (case hc => exact rfl); (case he => (simp (disch := first | assumption | omega | rfl | decide) only [go_sem, seval, tys, ca, cb, cc, ce] <;> rfl)); (case hok => first | exact rfl | exact ok_w (by omega) rfl)) | ((with_reducible apply d_guard rfl); (case hb => (simp (disch := first | assumption | omega | rfl | decide) only [go_sem, seval, tys, ca, cb, cc, ce] <;> rfl)); (case' h1 => intro hb; (try (simp only [hbs, reduceCtorEq] at hb)); try (exfalso; omega)); (case' h2 => intro hb; (try (simp only [hbs, reduceCtorEq] at hb)); try (exfalso; omega))) | ((first | ((with_reducible apply o_pure w_none); (case hp => exact rfl); (case' he => intro h n)) | (with_reducible first | apply o_eff w_none | apply o_guard rfl | apply x_cond | apply k_e1 rfl | apply k_e2 rfl | apply k_e0 rfl | apply k_e3 rfl | apply k_e4 rfl)); (case he => (simp (disch := first | assumption | omega | rfl | decide) only [go_sem, seval, tys, ca, cb, cc, ce] <;> rfl)); (try (case hok => first | exact rfl | exact ok_w (by omega) rfl)); all_goals (try (intro hb; (try (simp only [hbs, reduceCtorEq] at hb)); try (exfalso; omega)))) | ((with_reducible apply o_undef rfl); (case hb => (simp (disch := first | assumption | omega | rfl | decide) only [go_sem, seval, tys]))))
      refine k_round (ci.length - (q + 1)) (by omega) ⟨⟨rfl, rfl⟩, q + 1, rfl, by omega, by simp (disch := first | assumption | omega | rfl | decide) only [go_sem, seval, tys] <;> rfl⟩
    · obtain rfl : q = ci.length := by omega
      (repeat' first | (with_reducible first | apply x_seq | apply k_then | apply x_block | apply x_skip | apply x_ret | apply x_exit | apply x_label | apply k_pass | apply k_hit | apply k_miss rfl | apply k_out | apply k_turned | refine x_text fun K' hK => ?_) | ((with_reducible apply o_nil); refine hK _ _ _ ?_; clear hK) | ((with_reducible apply o_callF (g := 33) w_none); (case ha => (simp (disch := first | assumption | omega | rfl | decide) only [go_sem, seval, tys] <;> rfl)); (case hs => exact hal _ _ _); (case' hk => rintro _ h' n' ⟨rfl, rfl, rfl⟩)) | ((first | ((with_reducible apply o_pure w_none); (case hp => exact rfl); (case' he => intro h n)) | (with_reducible first | apply o_eff w_none | apply o_guard rfl | apply x_cond | apply k_e1 rfl | apply k_e2 rfl | apply k_e0 rfl | apply k_e3 rfl | apply k_e4 rfl)); (case he => (simp (disch := first | assumption | omega | rfl | decide) only [go_sem, seval, tys] <;> rfl)); (try (case hok => first | exact rfl | exact ok_w (by omega) rfl)); all_goals (try (intro hb; (try (simp only [hbs, reduceCtorEq] at hb)); try (exfalso; omega)))) | ((with_reducible apply o_undef rfl); (case hb => (simp (disch := first | assumption | omega | rfl | decide) only [go_sem, seval, tys]))))
      all_goals exact sw_flat rfl rfl rfl
  · have s0 := s0.mono (Φ' := fun v2 h2 n2 => v2 = .tuple ⟨[.bool false, .int .i64 0]⟩ ∧ h = h2 ∧ n = n2) fun _ _ _ hp => ⟨by rw [← alikeB_f hal2]; exact hp.1, hp.2.1.symm, hp.2.2.symm⟩
    refine enterS Try.func15 (by kernel_rfl) rfl (by kernel_rfl) rfl rfl rfl ?_
    (repeat' first | (with_reducible first | apply x_seq | apply k_then | apply x_block | apply x_skip | apply x_ret | apply x_exit | apply x_label | apply k_pass | apply k_hit | apply k_miss rfl | apply k_out | apply k_turned | refine x_text fun K' hK => ?_) | ((with_reducible apply o_nil); refine hK _ _ _ ?_; clear hK) | ((with_reducible apply o_callF (g := 33) w_none); (case ha => (simp (disch := first | assumption | omega | rfl | decide) only [go_sem, seval, tys] <;> rfl)); (case hs => exact hal _ _ _); (case' hk => rintro _ h' n' ⟨rfl, rfl, rfl⟩)) | ((with_reducible apply o_callF (g := 32) w_none); (case ha => (simp (disch := first | assumption | omega | rfl | decide) only [go_sem, seval, tys] <;> rfl)); (case hs => (with_reducible first | exact Sp.shut hS1 | exact Sp.shut hS2)); (case' hk => rintro _ h' n' ⟨rfl, rfl, rfl⟩)) | ((with_reducible apply o_callF (g := 43) w_none); (case ha => (simp (disch := first | assumption | omega | rfl | decide) only [go_sem, seval, tys] <;> rfl)); (case hs => (with_reducible exact Sp.shut s0)); (case' hk => rintro _ h' n' ⟨rfl, rfl, rfl⟩)) | ((first | ((with_reducible apply o_pure w_none); (case hp => exact rfl); (case' he => intro h n)) | (with_reducible first | apply o_eff w_none | apply o_guard rfl | apply x_cond | apply k_e1 rfl | apply k_e2 rfl | apply k_e0 rfl | apply k_e3 rfl | apply k_e4 rfl)); (case he => (simp (disch := first | assumption | omega | rfl | decide) only [go_sem, seval, tys] <;> rfl)); (try (case hok => first | exact rfl | exact ok_w (by omega) rfl)); all_goals (try (intro hb; (try (simp only [hbs, reduceCtorEq] at hb)); try (exfalso; omega)))) | ((with_reducible apply o_undef rfl); (case hb => (simp (disch := first | assumption | omega | rfl | decide) only [go_sem, seval, tys]))))
    all_goals exact sw_flat rfl rfl rfl
theorem layoutAlike_ev (hk : 30000 ≤ k) (A : Option Addr) (T : List Tp) (c : Nat) (hT : TabH h n A T) (i j : Int) (hm : T.length ≤ 9223372036854775807) (hS0 : ∀ t ∈ T, t.fs.length ≤ 9223372036854775807)
    (hal : ∀ cl h n, Sp Try.prog (shut (acall Try.prog WW k (d + 50))) cl 33 [] h n fun v h' n' => v = .bool true ∧ h' = h ∧ n' = n) :
    Sp Try.prog (afunc Try.prog (shut (acall Try.prog WW k (d + 50))) WW k) cl 15 [.slice A T.length c, .int .i64 i, .int .i64 j] h n fun v h' n' => v = .bool true := by
  obtain ⟨v, h2, n2, ⟨B, rfl, hg, rfl, rfl⟩, hB⟩ := sp_fix (fit_ev k (d + 41) n h n hk A T c hT i hm hS0)
  have hB2 : Sp Try.prog (acall Try.prog WW k (d + 50)) n2 32 [.slice A T.length c, .int .i64 i] h2 n2 fun v3 h3 n3 => v3 = .bool B ∧ h2 = h3 ∧ n2 = n3 := hB.mono fun _ _ _ hp => ⟨hp.1, hp.2.1.symm, hp.2.2.symm⟩
  obtain ⟨v, h3, n3, ⟨C, rfl, hg2, e1, e2⟩, hD⟩ := sp_fix (fit_ev k (d + 41) n2 h2 n2 hk A T c hT j hm hS0)
  have hD2 : Sp Try.prog (acall Try.prog WW k (d + 50)) n2 32 [.slice A T.length c, .int .i64 j] h2 n2 fun v3 h4 n4 => v3 = .bool C ∧ h2 = h4 ∧ n2 = n4 := hD.mono fun _ _ _ hp => ⟨hp.1, by rw [hp.2.1, e1], by rw [hp.2.2, e2]⟩
  rcases B with _ | _
  · exact lal_no1 k d cl h2 n2 A T c i j hal hB2
  · rcases C with _ | _
    · exact lal_no2 k d cl h2 n2 A T c i j hal hB2 hD2
    · obtain ⟨hS, he⟩ := hg rfl
      obtain ⟨-, he2⟩ := hg2 rfl
      rw [← szR_eq] at he he2
      obtain ⟨hC, hi0, hi1, -⟩ := szR_0 he
      obtain ⟨-, hj0, hj1, -⟩ := szR_0 he2
      obtain ⟨i, rfl⟩ := Int.eq_ofNat_of_zero_le hi0
      obtain ⟨j, rfl⟩ := Int.eq_ofNat_of_zero_le hj0
      exact lal_yes k d cl h2 n2 hk A T c hT hm i j (fun t ht => by have := hS t ht; omega) he he2 hal hB2 hD2
end Go.Proofs.Ytgdokjfjmcleeaa.Ce
