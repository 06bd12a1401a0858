/- The law KindsTells: a symbolic run. -/
import Derived.Test.YtgdokjfjmcleeaaJl
namespace Go.Proofs.Ytgdokjfjmcleeaa.Ce
open Go.RowKit
set_option linter.unusedVariables false
set_option linter.unusedSimpArgs false
set_option maxRecDepth 100000
set_option maxHeartbeats 4000000

theorem b_bneq (b : Bool) (h : Hp) (n : Nat) : mBin Try.prog .neq 4 (.bool b) (.bool b) h n = some ⟨.bool false, h, n, [], []⟩ := by cases b <;> rfl
theorem b_beql (b : Bool) (h : Hp) (n : Nat) : mBin Try.prog .eql 4 (.bool b) (.bool b) h n = some ⟨.bool true, h, n, [], []⟩ := by cases b <;> rfl
theorem sp_fixt {P : Program} {F : CallE} {cl n : Nat} {g : FuncId} {ar : List Value} {h : Hp} {Φ : Value → Hp → Nat → Prop} (hs : Sp P F cl g ar h n Φ) : ∃ v h' n', Φ v h' n' ∧ Sp P F cl g ar h n fun v2 h2 n2 => v2 = v ∧ h2 = h' ∧ n2 = n' := by
  obtain ⟨hg, v, h', n', hr, hp⟩ := hs
  exact ⟨v, h', n', hp, hg, v, h', n', hr, rfl, rfl, rfl⟩
variable (k d cl : Nat) (h : Hp) (n : Nat)
theorem lkt_no (s : List UInt8) (A : Option Addr) (T : List Tp) (c : Nat) (i j : Int) (hS1 : Sp Try.prog (acall Try.prog WW k (d + 8)) n 16 [.slice A T.length c] h n fun v2 h2 n2 => v2 = .bool true ∧ h = h2 ∧ n = n2) :
    Sp Try.prog (acall Try.prog WW k (d + 9)) cl 10 [.string ⟨⟨s⟩⟩, .slice A T.length c, .int .i64 i, .int .i64 j] h n fun v h' n' => v = .bool true := by
  refine enter Try.func10 (by kernel_rfl) rfl (by kernel_rfl) rfl rfl rfl ?_
  (repeat' first | (with_reducible first | apply x_seq | apply k_then | apply x_block | apply x_skip | apply x_ret | apply x_exit | apply x_label | apply k_pass | apply k_hit | apply k_miss rfl | apply k_out | apply k_turned | refine x_text fun K' hK => ?_) | ((with_reducible apply o_nil); refine hK _ _ _ ?_; clear hK) | ((with_reducible apply o_callF (g := 16) w_none); (case ha => (simp (disch := first | assumption | omega | rfl | decide) only [go_sem, seval, tys] <;> rfl)); (case hs => (exact hS1)); (case' hk => rintro _ h' n' ⟨rfl, rfl, rfl⟩)) | ((first | ((with_reducible apply o_pure w_none); (case hp => exact rfl); (case' he => intro h n)) | (with_reducible first | apply o_eff w_none | apply o_guard rfl | apply x_cond | apply k_e1 rfl | apply k_e2 rfl | apply k_e0 rfl | apply k_e3 rfl | apply k_e4 rfl)); (case he => (simp (disch := first | assumption | omega | rfl | decide) only [go_sem, seval, tys] <;> rfl)); (try (case hok => first | exact rfl | exact ok_w (by omega) rfl)); all_goals (try (intro hb; (try (simp only [hbs, reduceCtorEq] at hb)); try (exfalso; omega)))) | ((with_reducible apply o_undef rfl); (case hb => (simp (disch := first | assumption | omega | rfl | decide) only [go_sem, seval, tys]))))
  all_goals exact sw_flat rfl rfl rfl
theorem lkt_long (s : List UInt8) (hs : 100 < s.length) (A : Option Addr) (T : List Tp) (c : Nat) (i j : Int) :
    Sp Try.prog (acall Try.prog WW k (d + 9)) cl 10 [.string ⟨⟨s⟩⟩, .slice A T.length c, .int .i64 i, .int .i64 j] h n fun v h' n' => v = .bool true := by
  refine enter Try.func10 (by kernel_rfl) rfl (by kernel_rfl) rfl rfl rfl ?_
  (repeat' first | (with_reducible first | apply x_seq | apply k_then | apply x_block | apply x_skip | apply x_ret | apply x_exit | apply x_label | apply k_pass | apply k_hit | apply k_miss rfl | apply k_out | apply k_turned | refine x_text fun K' hK => ?_) | ((with_reducible apply o_nil); refine hK _ _ _ ?_; clear hK) | fail | ((first | ((with_reducible apply o_pure w_none); (case hp => exact rfl); (case' he => intro h n)) | (with_reducible first | apply o_eff w_none | apply o_guard rfl | apply x_cond | apply k_e1 rfl | apply k_e2 rfl | apply k_e0 rfl | apply k_e3 rfl | apply k_e4 rfl)); (case he => (simp (disch := first | assumption | omega | rfl | decide) only [go_sem, seval, tys, size_mk] <;> rfl)); (try (case hok => first | exact rfl | exact ok_w (by omega) rfl)); all_goals (try (intro hb; (try (simp only [hbs, reduceCtorEq] at hb)); try (exfalso; omega)))) | ((with_reducible apply o_undef rfl); (case hb => (simp (disch := first | assumption | omega | rfl | decide) only [go_sem, seval, tys]))))
  all_goals exact sw_flat rfl rfl rfl
theorem lkt_yes (hk : 30000 ≤ k) (s : List UInt8) (hs : s.length ≤ 100) (A : Option Addr) (T : List Tp) (c : Nat) (hT : TabH h n A T) (i j : Int) (hg : T.length ≤ 40 ∧ ∀ t ∈ T, t.fs.length ≤ 20) (hS1 : Sp Try.prog (acall Try.prog WW k (d + 8)) n 16 [.slice A T.length c] h n fun v2 h2 n2 => v2 = .bool false ∧ h = h2 ∧ n = n2) :
    Sp Try.prog (acall Try.prog WW k (d + 9)) cl 10 [.string ⟨⟨s⟩⟩, .slice A T.length c, .int .i64 i, .int .i64 j] h n fun v h' n' => v = .bool true := by
  have hST : ∀ t ∈ T, t.fs.length ≤ 20000 := fun t ht => by have := hg.2 t ht; omega
  have hm : T.length ≤ 9223372036854775807 := by omega
  refine enter Try.func10 (by kernel_rfl) rfl (by kernel_rfl) rfl rfl rfl ?_
  (repeat' first | (with_reducible first | apply x_seq | apply k_then | apply x_block | apply x_skip | apply x_ret | apply x_exit | apply x_label | apply k_pass | apply k_hit | apply k_miss rfl | apply k_out | apply k_turned | refine x_text fun K' hK => ?_) | ((with_reducible apply o_nil); refine hK _ _ _ ?_; clear hK) | ((with_reducible apply o_callF (g := 16) w_none); (case ha => (simp (disch := first | assumption | omega | rfl | decide) only [go_sem, seval, tys] <;> rfl)); (case hs => (exact hS1)); (case' hk => rintro _ h' n' ⟨rfl, rfl, rfl⟩)) | ((with_reducible apply o_callF (g := 17) w_none); (case ha => (simp (disch := first | assumption | omega | rfl | decide) only [go_sem, seval, tys] <;> rfl)); (case hs => ((with_reducible apply twin4_ev (T := T)); (case hT => exact hT); (case hl => exact hg.1); (case hS => exact hg.2); (exact hk))); (case' hk => rintro _ h' n' ⟨A2, c2, U, rfl, hdat, hTU, hfr, hnn⟩)) | ((first | ((with_reducible apply o_pure w_none); (case hp => exact rfl); (case' he => intro h n)) | (with_reducible first | apply o_eff w_none | apply o_guard rfl | apply x_cond | apply k_e1 rfl | apply k_e2 rfl | apply k_e0 rfl | apply k_e3 rfl | apply k_e4 rfl)); (case he => (simp (disch := first | assumption | omega | rfl | decide) only [go_sem, seval, tys, size_mk] <;> rfl)); (try (case hok => first | exact rfl | exact ok_w (by omega) rfl)); all_goals (try (intro hb; (try (simp only [hbs, reduceCtorEq] at hb)); try (exfalso; omega)))) | ((with_reducible apply o_undef rfl); (case hb => (simp (disch := first | assumption | omega | rfl | decide) only [go_sem, seval, tys]))))
  have hTT := hT.fr hfr hnn
  have hUl := dat_len hdat
  have hSU : ∀ t ∈ U, t.fs.length ≤ 20000 := fun u hu => by
    obtain ⟨t, ht, hd⟩ := dat_mem hdat hu
    have := hST t ht
    rw [(dat_elim hd).2.2.2] at this
    exact this
  have hUm : U.length ≤ 9223372036854775807 := by omega
  have hst := sametable_ev k (d + 6) n h' n' hk A2 A U T c2 c hTU hTT hdat (by omega) hSU
  clear hfr hS1
  obtain ⟨h1, hh1⟩ : ∃ x, x = h' := ⟨_, rfl⟩
  obtain ⟨n1, hn1⟩ : ∃ x, x = n' := ⟨_, rfl⟩
  subst hh1
  subst hn1
  have a1 := pholds_all k d n h1 n1 hk A2 U c2 hTU hSU hUm i j
  rw [holdsE_dat hdat, askE_dat hdat] at a1
  have a2 := rholds_all k d n h1 n1 hk A T c hTT hST hm i j
  have b1 := pdepth_all k d n h1 n1 hk A2 U c2 hTU hSU hUm i
  rw [depE_dat hdat, askE_dat hdat] at b1
  have b2 := rdepth_all k d n h1 n1 hk A T c hTT hST hm i
  have e1 := preach_all k d n h1 n1 hk A2 U c2 hTU hSU hUm i
  rw [reachE_dat hdat, askE_dat hdat] at e1
  have f1 := pcheck_ev k (d + 2) n h1 n1 hk A2 U c2 hTU hSU hUm
  rw [errT_dat hdat] at f1
  have f2 := rcheck_ev k (d + 2) n h1 n1 hk A T c hTT hST hm
  have f1 := f1.mono (Φ' := fun v2 h2 n2 => v2 = .int .i64 (errT T) ∧ h1 = h2 ∧ n1 = n2) fun _ _ _ hp => ⟨hp.1, hp.2.1.symm, hp.2.2.symm⟩
  have f2 := f2.mono (Φ' := fun v2 h2 n2 => v2 = .int .i64 (errT T) ∧ h1 = h2 ∧ n1 = n2) fun _ _ _ hp => ⟨hp.1, hp.2.1.symm, hp.2.2.symm⟩
  have g1 := (pnamed_ev k (d + 7) n h1 n1 hk s).mono (Φ' := fun v2 h2 n2 => v2 = .bool (namedB s) ∧ h1 = h2 ∧ n1 = n2) fun _ _ _ hp => ⟨hp.1, hp.2.1.symm, hp.2.2.symm⟩
  have g2 := (rnamed_ev k (d + 6) n h1 n1 hk s).mono (Φ' := fun v2 h2 n2 => v2 = .bool (namedB s) ∧ h1 = h2 ∧ n1 = n2) fun _ _ _ hp => ⟨hp.1, hp.2.1.symm, hp.2.2.symm⟩
  obtain ⟨B1, hB1e⟩ : ∃ x, holdsE T i j = x := ⟨_, rfl⟩
  rw [hB1e] at a1 a2
  obtain ⟨E1, hE1e⟩ : ∃ x, askE T i j = x := ⟨_, rfl⟩
  rw [hE1e] at a1 a2
  obtain ⟨D1, hD1e⟩ : ∃ x, depE T i = x := ⟨_, rfl⟩
  rw [hD1e] at b1 b2
  obtain ⟨E2, hE2e⟩ : ∃ x, askE T i i = x := ⟨_, rfl⟩
  rw [hE2e] at b1 b2 e1
  obtain ⟨E3, hE3e⟩ : ∃ x, errT T = x := ⟨_, rfl⟩
  rw [hE3e] at f1 f2
  obtain ⟨B2, hB2e⟩ : ∃ x, namedB s = x := ⟨_, rfl⟩
  rw [hB2e] at g1 g2
  (repeat' first | (with_reducible first | apply x_seq | apply k_then | apply x_block | apply x_skip | apply x_ret | apply x_exit | apply x_label | apply k_pass | apply k_hit | apply k_miss rfl | apply k_out | apply k_turned | refine x_text fun K' hK => ?_) | ((with_reducible apply o_nil); refine hK _ _ _ ?_; clear hK) | ((with_reducible apply o_callF (g := 40) w_none); (case ha => (simp (disch := first | assumption | omega | rfl | decide) only [go_sem, seval, tys] <;> rfl)); (case hs => (exact a1)); (case' hk => rintro _ h' n' ⟨rfl, rfl, rfl⟩)) | ((with_reducible apply o_callF (g := 46) w_none); (case ha => (simp (disch := first | assumption | omega | rfl | decide) only [go_sem, seval, tys] <;> rfl)); (case hs => (exact a2)); (case' hk => rintro _ h' n' ⟨rfl, rfl, rfl⟩)) | ((with_reducible apply o_callF (g := 41) w_none); (case ha => (simp (disch := first | assumption | omega | rfl | decide) only [go_sem, seval, tys] <;> rfl)); (case hs => (exact b1)); (case' hk => rintro _ h' n' ⟨rfl, rfl, rfl⟩)) | ((with_reducible apply o_callF (g := 47) w_none); (case ha => (simp (disch := first | assumption | omega | rfl | decide) only [go_sem, seval, tys] <;> rfl)); (case hs => (exact b2)); (case' hk => rintro _ h' n' ⟨rfl, rfl, rfl⟩)) | ((with_reducible apply o_callF (g := 44) w_none); (case ha => (simp (disch := first | assumption | omega | rfl | decide) only [go_sem, seval, tys] <;> rfl)); (case hs => (exact f1)); (case' hk => rintro _ h' n' ⟨rfl, rfl, rfl⟩)) | ((with_reducible apply o_callF (g := 49) w_none); (case ha => (simp (disch := first | assumption | omega | rfl | decide) only [go_sem, seval, tys] <;> rfl)); (case hs => (exact f2)); (case' hk => rintro _ h' n' ⟨rfl, rfl, rfl⟩)) | ((with_reducible apply o_callF (g := 38) w_none); (case ha => (simp (disch := first | assumption | omega | rfl | decide) only [go_sem, seval, tys] <;> rfl)); (case hs => (exact g1)); (case' hk => rintro _ h' n' ⟨rfl, rfl, rfl⟩)) | ((with_reducible apply o_callF (g := 48) w_none); (case ha => (simp (disch := first | assumption | omega | rfl | decide) only [go_sem, seval, tys] <;> rfl)); (case hs => (exact g2)); (case' hk => rintro _ h' n' ⟨rfl, rfl, rfl⟩)) | ((with_reducible apply o_callF (g := 42) w_none); (case ha => (simp (disch := first | assumption | omega | rfl | decide) only [go_sem, seval, tys] <;> rfl)); (case hs => (exact e1)); (case' hk => rintro _ h' n' ⟨V, rfl, LA, lca, rfl, hrA, hAn, hn2, hk2⟩)) | ((first | ((with_reducible apply o_pure w_none); (case hp => exact rfl); (case' he => intro h n)) | (with_reducible first | apply o_eff w_none | apply o_guard rfl | apply x_cond | apply k_e1 rfl | apply k_e2 rfl | apply k_e0 rfl | apply k_e3 rfl | apply k_e4 rfl)); (case he => (simp (disch := first | assumption | omega | rfl | decide) only [go_sem, seval, tys, b_bneq] <;> rfl)); (try (case hok => first | exact rfl | exact ok_w (by omega) rfl)); all_goals (try (intro hb; (try (simp only [hbs, reduceCtorEq] at hb)); try (exfalso; omega)))) | ((with_reducible apply o_undef rfl); (case hb => (simp (disch := first | assumption | omega | rfl | decide) only [go_sem, seval, tys]))))
  have hTU := (hTU.keep (Nat.le_refl _) hk2).more hn2
  have hTT := (hTT.keep (Nat.le_refl _) hk2).more hn2
  clear a1 a2 b1 b2 e1 f1 f2 g1 g2 hst hk2
  obtain ⟨h1, hh1⟩ : ∃ x, x = h' := ⟨_, rfl⟩
  obtain ⟨n1, hn1⟩ : ∃ x, x = n' := ⟨_, rfl⟩
  subst hh1
  subst hn1
  have e2 := rreach_all k d n h1 n1 hk A T c hTT hST hm i
  rw [hE2e] at e2
  (repeat' first | (with_reducible first | apply x_seq | apply k_then | apply x_block | apply x_skip | apply x_ret | apply x_exit | apply x_label | apply k_pass | apply k_hit | apply k_miss rfl | apply k_out | apply k_turned | refine x_text fun K' hK => ?_) | ((with_reducible apply o_nil); refine hK _ _ _ ?_; clear hK) | ((with_reducible apply o_callF (g := 50) w_none); (case ha => (simp (disch := first | assumption | omega | rfl | decide) only [go_sem, seval, tys] <;> rfl)); (case hs => (exact e2)); (case' hk => rintro _ h' n' ⟨V, rfl, LB, lcb, rfl, hrB, hBn, hn3, hk3⟩)) | ((first | ((with_reducible apply o_pure w_none); (case hp => exact rfl); (case' he => intro h n)) | (with_reducible first | apply o_eff w_none | apply o_guard rfl | apply x_cond | apply k_e1 rfl | apply k_e2 rfl | apply k_e0 rfl | apply k_e3 rfl | apply k_e4 rfl)); (case he => (simp (disch := first | assumption | omega | rfl | decide) only [go_sem, seval, tys] <;> rfl)); (try (case hok => first | exact rfl | exact ok_w (by omega) rfl)); all_goals (try (intro hb; (try (simp only [hbs, reduceCtorEq] at hb)); try (exfalso; omega)))) | ((with_reducible apply o_undef rfl); (case hb => (simp (disch := first | assumption | omega | rfl | decide) only [go_sem, seval, tys]))))
  have hTU := (hTU.keep (Nat.le_refl _) hk3).more hn3
  have hTT := (hTT.keep (Nat.le_refl _) hk3).more hn3
  have hrA := (hrA.keep (Nat.le_refl _) hk3).more hn3
  clear e2 hk3
  obtain ⟨h1, hh1⟩ : ∃ x, x = h' := ⟨_, rfl⟩
  obtain ⟨n1, hn1⟩ : ∃ x, x = n' := ⟨_, rfl⟩
  subst hh1
  subst hn1
  have a1 := psame_all k d n h1 n1 hk A2 U c2 hTU hSU hUm i j
  rw [sameE_dat hdat, askE_dat hdat] at a1
  have a2 := rsame_all k d n h1 n1 hk A T c hTT hST hm i j
  have b1 := pwidth_all k d n h1 n1 hk A2 U c2 hTU hSU hUm j
  rw [widE_dat hdat, askE_dat hdat] at b1
  have b2 := rwidth_all k d n h1 n1 hk A T c hTT hST hm j
  have si := (sameints_ev k (d + 7) n h1 n1 hk LA LB (reachE T i) _ lca lcb rfl hrA hrB (reachE_len (by omega) i)).mono (Φ' := fun v2 h2 n2 => v2 = .bool true ∧ h1 = h2 ∧ n1 = n2) fun _ _ _ hp => ⟨hp.1, hp.2.1.symm, hp.2.2.symm⟩
  have st := (sametable_ev k (d + 6) n h1 n1 hk A2 A U T c2 c hTU hTT hdat (by omega) hSU).mono (Φ' := fun v2 h2 n2 => v2 = .bool true ∧ h1 = h2 ∧ n1 = n2) fun _ _ _ hp => ⟨hp.1, hp.2.1.symm, hp.2.2.symm⟩
  obtain ⟨B3, hB3e⟩ : ∃ x, sameE T i j = x := ⟨_, rfl⟩
  rw [hB3e] at a1 a2
  obtain ⟨E4, hE4e⟩ : ∃ x, askE T i j = x := ⟨_, rfl⟩
  rw [hE4e] at a1 a2
  obtain ⟨D2, hD2e⟩ : ∃ x, widE T j = x := ⟨_, rfl⟩
  rw [hD2e] at b1 b2
  obtain ⟨E5, hE5e⟩ : ∃ x, askE T j j = x := ⟨_, rfl⟩
  rw [hE5e] at b1 b2
  (repeat' first | (with_reducible first | apply x_seq | apply k_then | apply x_block | apply x_skip | apply x_ret | apply x_exit | apply x_label | apply k_pass | apply k_hit | apply k_miss rfl | apply k_out | apply k_turned | refine x_text fun K' hK => ?_) | ((with_reducible apply o_nil); refine hK _ _ _ ?_; clear hK) | ((with_reducible apply o_callF (g := 43) w_none); (case ha => (simp (disch := first | assumption | omega | rfl | decide) only [go_sem, seval, tys] <;> rfl)); (case hs => (exact a1)); (case' hk => rintro _ h' n' ⟨rfl, rfl, rfl⟩)) | ((with_reducible apply o_callF (g := 51) w_none); (case ha => (simp (disch := first | assumption | omega | rfl | decide) only [go_sem, seval, tys] <;> rfl)); (case hs => (exact a2)); (case' hk => rintro _ h' n' ⟨rfl, rfl, rfl⟩)) | ((with_reducible apply o_callF (g := 39) w_none); (case ha => (simp (disch := first | assumption | omega | rfl | decide) only [go_sem, seval, tys] <;> rfl)); (case hs => (exact b1)); (case' hk => rintro _ h' n' ⟨rfl, rfl, rfl⟩)) | ((with_reducible apply o_callF (g := 52) w_none); (case ha => (simp (disch := first | assumption | omega | rfl | decide) only [go_sem, seval, tys] <;> rfl)); (case hs => (exact b2)); (case' hk => rintro _ h' n' ⟨rfl, rfl, rfl⟩)) | ((with_reducible apply o_callF (g := 24) w_none); (case ha => (simp (disch := first | assumption | omega | rfl | decide) only [go_sem, seval, tys] <;> rfl)); (case hs => (exact si)); (case' hk => rintro _ h' n' ⟨rfl, rfl, rfl⟩)) | ((with_reducible apply o_callF (g := 25) w_none); (case ha => (simp (disch := first | assumption | omega | rfl | decide) only [go_sem, seval, tys] <;> rfl)); (case hs => (exact st)); (case' hk => rintro _ h' n' ⟨rfl, rfl, rfl⟩)) | ((first | ((with_reducible apply o_pure w_none); (case hp => exact rfl); (case' he => intro h n)) | (with_reducible first | apply o_eff w_none | apply o_guard rfl | apply x_cond | apply k_e1 rfl | apply k_e2 rfl | apply k_e0 rfl | apply k_e3 rfl | apply k_e4 rfl)); (case he => (simp (disch := first | assumption | omega | rfl | decide) only [go_sem, seval, tys, b_beql] <;> rfl)); (try (case hok => first | exact rfl | exact ok_w (by omega) rfl)); all_goals (try (intro hb; (try (simp only [hbs, reduceCtorEq] at hb)); try (exfalso; omega)))) | ((with_reducible apply o_undef rfl); (case hb => (simp (disch := first | assumption | omega | rfl | decide) only [go_sem, seval, tys]))))
  all_goals exact sw_flat rfl rfl rfl
theorem kindsTells_ev (hk : 30000 ≤ k) (s : List UInt8) (A : Option Addr) (T : List Tp) (c : Nat) (hT : TabH h n A T) (i j : Int) (hm : T.length ≤ 9223372036854775807) (hS0 : ∀ t ∈ T, t.fs.length ≤ 9223372036854775807) :
    Sp Try.prog (acall Try.prog WW k (d + 9)) cl 10 [.string ⟨⟨s⟩⟩, .slice A T.length c, .int .i64 i, .int .i64 j] h n fun v h' n' => v = .bool true := by
  by_cases hs : s.length ≤ 100
  · obtain ⟨v, h2, n2, ⟨B, rfl, hg, rfl, rfl⟩, hB⟩ := sp_fixt (tgreat_ev k (d + 7) n h n hk A T c hT hm hS0)
    have hB2 : Sp Try.prog (acall Try.prog WW k (d + 8)) n2 16 [.slice A T.length c] h2 n2 fun v3 h3 n3 => v3 = .bool B ∧ h2 = h3 ∧ n2 = n3 := hB.mono fun _ _ _ hp => ⟨hp.1, hp.2.1.symm, hp.2.2.symm⟩
    rcases B with _ | _
    · exact lkt_yes k d cl h2 n2 hk s hs A T c hT i j (hg rfl) hB2
    · exact lkt_no k d cl h2 n2 s A T c i j hB2
  · exact lkt_long k d cl h n s (by omega) A T c i j
end Go.Proofs.Ytgdokjfjmcleeaa.Ce
