/- Parts of the proof of TopCode: Kw, Kj, Jb. No condition of its own. -/
import Derived.Test.YtkngdfbibffdcaaTam
set_option linter.unusedVariables false
set_option linter.unusedSimpArgs false
set_option maxRecDepth 100000
set_option maxHeartbeats 4000000
namespace Go.Proofs.Ytkngdfbibffdcaa.Ce
open Go.RowKit
variable (k d cl : Nat) (h : Hp) (n : Nat)
def wAt (T : List Tp) (r : Nat) : List Int := match r with | 0 => zeros T.length | r + 1 => wD T r
theorem wAt_succ (T : List Tp) (r : Nat) : wAt T (r + 1) = wRow (wAt T r) T := by cases r <;> rfl
theorem wAt_bnd {T : List Tp} (hf : Fine T) (r : Nat) : Bnd (wAt T r) := by cases r with | zero => exact zeros_bnd _ | succ r => exact wD_bnd hf r
theorem wAt_length (T : List Tp) (r : Nat) : (wAt T r).length = T.length := by cases r with | zero => simp [wAt, zeros] | succ r => exact wD_length T r
theorem mk_zeros (m : Nat) : (List.replicate m [Value.int IntKind.i64 0]).flatten = iv (zeros m) := by unfold iv zeros; rw [List.map_replicate]; induction m with | zero => rfl | succ m ih => rw [List.replicate_succ, List.flatten_cons, ih, List.replicate_succ]; rfl
theorem min_lt {a : Int} : (if 5001 < a then (5001 : Int) else a) = min a 5001 := by rw [Int.min_def]; split <;> split <;> omega
theorem pwidths_ev (hk : 30000 ≤ k) (A : Option Addr) (T : List Tp) (c : Nat) (hT : TabH h n A T) (hl : T.length ≤ 32) (hF : Fine T) :
    SQ k (d + 1) cl 71 [.slice A T.length c] h n fun v h' n' => v = .slice (some ⟨n, 0, none⟩) T.length T.length ∧ h' = h.set n (.row 3 false (iv (wD T 3))) ∧ n' = n + 1 := by
  refine enter Try.func71 (by kernel_rfl) rfl (by kernel_rfl) rfl rfl rfl ?_
  (repeat' first | refine zcd ?_ | intro K' hK | (with_reducible refine zn hK ?_; clear hK) | fail | ((with_reducible first | apply zo1 | apply zo2 | apply o_guard rfl | apply x_cond | apply k_e1 rfl | apply k_e2 rfl | apply k_e0 rfl | apply k_e3 rfl | apply k_e4 rfl); (case he => exact ez1 @mk_zeros); (try case hok => exact ezO); all_goals try (intro hb; (try simp only [hbs, reduceCtorEq] at hb); try exact ezX)) | ((with_reducible apply o_undef rfl); (case hb => exact ez0)))
  refine x_loopV [3, 4, 5, 6, 7, 9, 13, 14, 15, 16, 17, 18, 19, 20, 21, 22, 23, 24, 25, 26, 27, 28, 29, 30, 31, 32, 33, 34, 35, 36, 37, 38, 39, 40, 41, 42, 43, 44, 45, 46, 47, 48, 49, 50, 51, 52, 53, 54, 55, 56, 57, 58, 59, 60, 61, 62, 63, 64, 65, 66, 67, 68, 69, 70, 71, 72, 73, 74, 75, 76, 77, 78, 79, 80] [3, 13] (fun m vs h' n' => ∃ (r id : Nat), m = 4 - r ∧ r ≤ 4 ∧ vs = [.slice (some ⟨id, 0, none⟩) T.length T.length, .int .i64 r] ∧ n ≤ id ∧ id < n' ∧ rowOf h' id = some (3, false, iv (wAt T r)) ∧ TabH h' n A T) 4 rfl (by omega) ?_ ?_
  · exact ⟨0, n, rfl, by omega, by simp (disch := first | assumption | omega | rfl | decide) only [go_sem, seval, tys] <;> rfl, by omega, by omega, by simp (disch := first | assumption | omega | rfl | decide) only [go_sem, seval, tys] <;> rfl, hT.set (Nat.le_refl _) _⟩
  · rintro m g _ h' n' ⟨r, id, rfl, hr, rfl, hid0, hid1, q0, hT2⟩
    by_cases hr4 : r < 4
    · have hBb := wAt_bnd hF r
      have hBl := wAt_length T r
      (repeat' first | refine zcd ?_ | intro K' hK | (with_reducible refine zn hK ?_; clear hK) | fail | ((with_reducible first | apply zo1 | apply zo2 | apply o_guard rfl | apply x_cond | apply k_e1 rfl | apply k_e2 rfl | apply k_e0 rfl | apply k_e3 rfl | apply k_e4 rfl); (case he => exact ez1 @mk_zeros); (try case hok => exact ezO); all_goals try (intro hb; (try simp only [hbs, reduceCtorEq] at hb); try exact ezX)) | ((with_reducible apply o_undef rfl); (case hb => exact ez0)))
      refine x_loopV [5, 6, 7, 9, 20, 21, 22, 23, 24, 25, 26, 27, 28, 29, 30, 31, 32, 33, 34, 35, 36, 37, 38, 39, 40, 41, 42, 43, 44, 45, 46, 47, 48, 49, 50, 51, 52, 53, 54, 55, 56, 57, 58, 59, 60, 61, 62, 63, 64, 65, 66, 67, 68, 69, 70, 71, 72, 73, 74, 75, 76, 77, 78] [20] (fun m vs h2 n2 => ∃ (i : Nat), m = T.length - i ∧ i ≤ T.length ∧ vs = [.int .i64 i] ∧ n' + 1 ≤ n2 ∧ rowOf h2 id = some (3, false, iv (wAt T r)) ∧ rowOf h2 n' = some (3, false, iv (pad (wAt T r) T i)) ∧ TabH h2 n A T) T.length rfl (by omega) ?_ ?_
      · exact ⟨0, rfl, by omega, by simp (disch := first | assumption | omega | rfl | decide) only [go_sem, seval, tys] <;> rfl, by omega, by simp (disch := first | assumption | omega | rfl | decide) only [go_sem, seval, tys, q0], by rw [pad_zero]; simp (disch := first | assumption | omega | rfl | decide) only [go_sem, seval, tys], hT2.set (by omega) _⟩
      · rintro m2 g2 _ h2 n2 ⟨i, rfl, hi, rfl, hn2, q1, q2, hT3⟩
        have e1 := fun o => cellAt_row (off := o) q1
        have e2 := fun o => cellAt_row (off := o) q2
        have w2 := rwOf_row q2
        by_cases hiT : i < T.length
        · obtain ⟨tid, toff, hA, htid, ht4, -, -, -, -⟩ := hT3.at_ hiT
          have hfine := hF i hiT
          have hnb := wRow_bnd hBb hF i hi
          have hpl := pad_length (wAt T r) hi
          have hwh := wHead_bnd hBb hnb hfine
          have hsp := pad_succ (wAt T r) hiT
          obtain ⟨t, htt⟩ : ∃ t, T[i] = t := ⟨_, rfl⟩
          have hmem : t ∈ T := by rw [← htt]; exact List.getElem_mem hiT
          rw [htt] at ht4 hfine hwh hsp
          have hfl := fine_len hfine
          obtain ⟨now, hnow⟩ : ∃ now, wRow (wAt T r) (T.take i) = now := ⟨_, rfl⟩
          rw [hnow] at hnb hwh hsp
          have hel : (t.kd = 4 ∨ t.kd = 7) → 0 ≤ t.el ∧ t.el < T.length := fine_el hfine
          have har : t.kd = 6 → 0 ≤ t.el ∧ t.el < i ∧ 1 ≤ t.ln ∧ t.ln ≤ 16 := fine_arr hfine
          have hxb := hBb.getD t.el.toNat
          have hyb := hnb.getD t.el.toNat
          have hbe4 : t.kd = 4 → lget (iv (wAt T r)) t.el.toNat = some (.int .i64 ((wAt T r).getD t.el.toNat 0)) := fun h4 => iv_lget (by have := hel (.inl h4); omega)
          have hbe7 : t.kd = 7 → lget (iv (wAt T r)) t.el.toNat = some (.int .i64 ((wAt T r).getD t.el.toNat 0)) := fun h7 => iv_lget (by have := hel (.inr h7); omega)
          have hne6 : t.kd = 6 → lget (iv (pad (wAt T r) T i)) t.el.toNat = some (.int .i64 (now.getD t.el.toNat 0)) := fun h6 => by
            have := har h6
            rw [iv_lget (by omega), pad_getD _ hi (by omega), hnow]
          have hmul : t.kd = 6 → 0 ≤ t.ln * now.getD t.el.toNat 0 ∧ t.ln * now.getD t.el.toNat 0 ≤ 16 * 5001 := fun h6 => by
            have := har h6
            exact ⟨Int.mul_nonneg (by omega) hyb.1, Int.mul_le_mul this.2.2.2 hyb.2 hyb.1 (by omega)⟩
          have hW4 : t.kd = 4 → wHead (wAt T r) now t = 1 + (wAt T r).getD t.el.toNat 0 := fun h4 => by unfold wHead; rw [if_pos h4]
          have hW7 : t.kd = 7 → wHead (wAt T r) now t = 1 + 16 * (wAt T r).getD t.el.toNat 0 := fun h7 => by unfold wHead; rw [if_neg (by omega), if_pos h7]
          have hW6 : t.kd = 6 → wHead (wAt T r) now t = 1 + t.ln * now.getD t.el.toNat 0 := fun h6 => by unfold wHead; rw [if_neg (by omega), if_neg (by omega), if_pos h6]
          have hW0 : ¬ t.kd = 4 → ¬ t.kd = 7 → ¬ t.kd = 6 → wHead (wAt T r) now t = 1 := fun h4 h7 h6 => by unfold wHead; rw [if_neg h4, if_neg h7, if_neg h6]; rfl
          subst hA
          have hb2 := hT3.fd t hmem
          (repeat' first | ((with_reducible apply x_cutF (x := .seq (.region 9 _ _) _) [7, 25, 26, 27, 28, 29, 30, 31, 32, 33, 34, 35, 36, 37, 38, 39, 40, 41, 42, 43, 44, 45, 46, 47, 48, 49, 50, 51, 52, 53, 54, 55, 56, 57] [7] (fun vs => vs = [.int .i64 (wHead (wAt T r) now t)])); (case hw => kernel_rfl); (case' hy => rintro g3 _ rfl)) | ((with_reducible apply k_cut); (show List.map _ _ = _); first | (rw [hW4 (by assumption)]; simp (disch := first | assumption | omega | rfl | decide) only [go_sem, seval, tys] <;> rfl) | (rw [hW7 (by assumption)]; simp (disch := first | assumption | omega | rfl | decide) only [go_sem, seval, tys] <;> rfl) | (rw [hW6 (by assumption)]; simp (disch := first | assumption | omega | rfl | decide) only [go_sem, seval, tys] <;> rfl) | (rw [hW0 (by assumption) (by assumption) (by assumption)]; simp (disch := first | assumption | omega | rfl | decide) only [go_sem, seval, tys] <;> rfl)) | refine zcd ?_ | intro K' hK | (with_reducible refine zn hK ?_; clear hK) | (with_reducible refine x_drawnD (id := 15) [(2, 5), (2, 7)] (by kernel_rfl) fun K' hK => ?_) | ((with_reducible apply d_nil); (case hp => exact ezP); (case' hx => (refine hK _ _ _ ?_; clear hK))) | ((with_reducible apply d_pure w_none); (case hp => exact rfl); (case hc => exact rfl); (case he => exact ez6 ht4 e1 e2 hbe4 hbe7 hne6)) | ((with_reducible apply d_eff w_none); (case hc => exact rfl); (case he => exact ez6 ht4 e1 e2 hbe4 hbe7 hne6); (case hok => exact ezO)) | ((with_reducible apply d_guard rfl); (case hb => exact ez6 ht4 e1 e2 hbe4 hbe7 hne6); (case' h1 => intro hb; (try simp only [hbs, reduceCtorEq] at hb); try exact ezX); (case' h2 => intro hb; (try simp only [hbs, reduceCtorEq] at hb); try exact ezX)) | ((with_reducible first | apply zo1 | apply zo2 | apply o_guard rfl | apply x_cond | apply k_e1 rfl | apply k_e2 rfl | apply k_e0 rfl | apply k_e3 rfl | apply k_e4 rfl); (case he => exact ez6 ht4 e1 e2 hbe4 hbe7 hne6); (try case hok => exact ezO); all_goals try (intro hb; (try simp only [hbs, reduceCtorEq] at hb); try exact ezX)) | ((with_reducible apply o_undef rfl); (case hb => exact ez0)))
          refine x_loopV [7, 9, 61, 62, 63, 64, 65, 66, 67, 68, 69, 70, 71, 72] [7, 61] (fun m vs h3 n3 => ∃ (q : Nat), m = t.fs.length - q ∧ q ≤ t.fs.length ∧ vs = [.int .i64 (wHead (wAt T r) now t + sumF now (t.fs.take q)), .int .i64 q] ∧ n2 + 1 ≤ n3 ∧ rowOf h3 id = some (3, false, iv (wAt T r)) ∧ rowOf h3 n' = some (3, false, iv (pad (wAt T r) T i)) ∧ TabH h3 n (some ⟨tid, toff, none⟩) T) t.fs.length rfl (by omega) ?_ ?_
          · exact ⟨0, rfl, by omega, by simp (disch := first | assumption | omega | rfl | decide) only [go_sem, seval, tys]; simp [sumF], by omega, by simp (disch := first | assumption | omega | rfl | decide) only [go_sem, seval, tys, q1], by simp (disch := first | assumption | omega | rfl | decide) only [go_sem, seval, tys, q2], hT3.set (by omega) _⟩
          · rintro m3 g4 _ h3 n3 ⟨q, rfl, hq, rfl, hn3, p1, p2, hT4⟩
            have f2 := fun o => cellAt_row (off := o) p2
            have v2 := rwOf_row p2
            have hsq := sumF_bnd hnb (t.fs.take q)
            have hql : (t.fs.take q).length ≤ 8 := by rw [List.length_take]; omega
            by_cases hqf : q < t.fs.length
            · obtain ⟨id2, off2, hFA, hid2, hf2, -, -⟩ := fld_at (hT4.fd t hmem) hqf
              have hfd := fine_fld hfine hqf
              have hst := sumF_take now hqf
              obtain ⟨ty, hty⟩ : ∃ ty, (t.fs[q]).2 = ty := ⟨_, rfl⟩
              rw [hty] at hf2 hfd hst
              have hzb := hnb.getD ty.toNat
              have hfe : lget (iv (pad (wAt T r) T i)) ty.toNat = some (.int .i64 (now.getD ty.toNat 0)) := by rw [iv_lget (by omega), pad_getD _ hi (by omega), hnow]
              (repeat' first | refine zcd ?_ | intro K' hK | (with_reducible refine zn hK ?_; clear hK) | fail | ((with_reducible first | apply zo1 | apply zo2 | apply o_guard rfl | apply x_cond | apply k_e1 rfl | apply k_e2 rfl | apply k_e0 rfl | apply k_e3 rfl | apply k_e4 rfl); (case he => exact ez4 hFA hf2 f2 hfe); (try case hok => exact ezO); all_goals try (intro hb; (try simp only [hbs, reduceCtorEq] at hb); try exact ezX)) | ((with_reducible apply o_undef rfl); (case hb => exact ez0)))
              refine k_round (t.fs.length - (q + 1)) (by omega) ⟨q + 1, rfl, by omega, by rw [hst]; simp (disch := first | assumption | omega | rfl | decide) only [go_sem, seval, tys]; rw [Int.add_assoc]; exact rfl, by omega, by simp (disch := first | assumption | omega | rfl | decide) only [go_sem, seval, tys, p1], by simp (disch := first | assumption | omega | rfl | decide) only [go_sem, seval, tys, p2], hT4.set (by omega) _⟩
            · obtain rfl : q = t.fs.length := by omega
              rw [List.take_length]
              rw [List.take_length] at hsq
              have hov : ∀ v, overAt i [v] (iv (pad (wAt T r) T i)) = some ((iv (pad (wAt T r) T i)).set i v) := fun v => overAt_one (by rw [iv_length, hpl]; exact hiT)
              have hwo : min (wHead (wAt T r) now t + sumF now t.fs) 5001 = wOne (wAt T r) now t := rfl
              (repeat' first | refine zcd ?_ | intro K' hK | (with_reducible refine zn hK ?_; clear hK) | fail | ((with_reducible first | apply zo1 | apply zo2 | apply o_guard rfl | apply x_cond | apply k_e1 rfl | apply k_e2 rfl | apply k_e0 rfl | apply k_e3 rfl | apply k_e4 rfl); (case he => exact ez2 v2 hov); (try case hok => exact ezO); all_goals try (intro hb; (try simp only [hbs, reduceCtorEq] at hb); try exact ezX)) | ((with_reducible apply o_undef rfl); (case hb => exact ez0)))
              refine k_round (T.length - (i + 1)) (by omega) ⟨i + 1, rfl, by omega, by simp (disch := first | assumption | omega | rfl | decide) only [go_sem, seval, tys] <;> rfl, by omega, by simp (disch := first | assumption | omega | rfl | decide) only [go_sem, seval, tys, p1], by simp (disch := first | assumption | omega | rfl | decide) only [go_sem, seval, tys]; rw [min_lt, hwo, iv_set, hsp], hT4.set (by omega) _⟩
        · obtain rfl : i = T.length := by omega
          rw [pad_all, ← wAt_succ] at q2
          (repeat' first | refine zcd ?_ | intro K' hK | (with_reducible refine zn hK ?_; clear hK) | fail | ((with_reducible first | apply zo1 | apply zo2 | apply o_guard rfl | apply x_cond | apply k_e1 rfl | apply k_e2 rfl | apply k_e0 rfl | apply k_e3 rfl | apply k_e4 rfl); (case he => exact ez0); (try case hok => exact ezO); all_goals try (intro hb; (try simp only [hbs, reduceCtorEq] at hb); try exact ezX)) | ((with_reducible apply o_undef rfl); (case hb => exact ez0)))
          refine k_round (4 - (r + 1)) (by omega) ⟨r + 1, n', rfl, by omega, by simp (disch := first | assumption | omega | rfl | decide) only [go_sem, seval, tys] <;> rfl, by omega, by omega, q2, hT3⟩
    · obtain rfl : r = 4 := by omega
      (repeat' first | refine zcd ?_ | intro K' hK | (with_reducible refine zn hK ?_; clear hK) | fail | ((with_reducible first | apply zo1 | apply zo2 | apply o_guard rfl | apply x_cond | apply k_e1 rfl | apply k_e2 rfl | apply k_e0 rfl | apply k_e3 rfl | apply k_e4 rfl); (case he => exact ez0); (try case hok => exact ezO); all_goals try (intro hb; (try simp only [hbs, reduceCtorEq] at hb); try exact ezX)) | ((with_reducible apply o_undef rfl); (case hb => exact ez0)))
      refine sw_row ezI rfl (by omega) (by simp (disch := first | assumption | omega | rfl | decide) only [go_sem, seval, tys, q0]; exact rfl) (iv_idA _ _) ezR ?_
      exact ⟨rfl, rfl, rfl⟩
end Go.Proofs.Ytkngdfbibffdcaa.Ce
namespace Go.Proofs.Ytkngdfbibffdcaa.Ce
open Go.RowKit
variable (k d cl : Nat) (h : Hp) (n : Nat)
theorem rparts_nil (hk : 30000 ≤ k) (kd el ln : Int) (FA : Option Addr) (fc : Nat) (h6 : kd ≠ 6) :
    SQ k (d + 1) cl 67 [.agg ⟨[.int .u8 kd, .int .i64 el, .int .i64 ln, .slice FA 0 fc]⟩] h n fun v h' n' => v = .slice none 0 0 ∧ h' = h ∧ n' = n := by
  refine enter Try.func67 (by kernel_rfl) rfl (by kernel_rfl) rfl rfl rfl ?_
  (repeat' first | refine zcd ?_ | intro K' hK | (with_reducible refine zn hK ?_; clear hK) | (with_reducible refine x_turns ?_) | (with_reducible refine x_turn (by omega) ?_) | (with_reducible refine k_turn ?_) | ((with_reducible first | apply zo1 | apply zo2 | apply o_guard rfl | apply x_cond | apply k_e1 rfl | apply k_e2 rfl | apply k_e0 rfl | apply k_e3 rfl | apply k_e4 rfl); (case he => exact ez0); (try case hok => exact ezO); all_goals try (intro hb; (try simp only [hbs, reduceCtorEq] at hb); try exact ezX)) | ((with_reducible apply o_undef rfl); (case hb => exact ez0)))
  all_goals exact sw_flat rfl rfl ⟨rfl, rfl, rfl⟩
theorem rparts_arr0 (hk : 30000 ≤ k) (el ln : Int) (FA : Option Addr) (fc : Nat) :
    SQ k (d + 1) cl 67 [.agg ⟨[.int .u8 6, .int .i64 el, .int .i64 ln, .slice FA 0 fc]⟩] h n fun v h' n' => v = .slice (some ⟨n, 0, none⟩) 1 1 ∧ h' = h.set n (.row 3 false (iv [el])) ∧ n' = n + 1 := by
  refine enter Try.func67 (by kernel_rfl) rfl (by kernel_rfl) rfl rfl rfl ?_
  (repeat' first | refine zcd ?_ | intro K' hK | (with_reducible refine zn hK ?_; clear hK) | (with_reducible refine x_turns ?_) | (with_reducible refine x_turn (by omega) ?_) | (with_reducible refine k_turn ?_) | ((with_reducible apply o_ap0 (t := 36) apT36 w_none); (case hs => exact ez0); (case hy => exact ez0); (case hsrc => exact src_row (rowOf_same _ _ _ _ _) rfl); (case hc => exact rfl); (case hm => omega); (case h0 => omega)) | ((with_reducible first | apply zo1 | apply zo2 | apply o_guard rfl | apply x_cond | apply k_e1 rfl | apply k_e2 rfl | apply k_e0 rfl | apply k_e3 rfl | apply k_e4 rfl); (case he => exact ez0); (try case hok => exact ezO); all_goals try (intro hb; (try simp only [hbs, reduceCtorEq] at hb); try exact ezX)) | ((with_reducible apply o_undef rfl); (case hb => exact ez0)))
  (refine sw_row ezI rfl (by omega) (by first | assumption | (simp (disch := first | assumption | omega | rfl | decide) only [go_sem, seval, tys] <;> rfl)) (by exact iv_idA _ [el]) ezR ?_; exact ⟨rfl, rfl, rfl⟩)
theorem rparts_fld (hk : 30000 ≤ k) (kd el ln : Int) (FA : Option Addr) (fs : List (List UInt8 × Int)) (fc : Nat) (h6 : kd ≠ 6) (h0 : fs ≠ []) (hr : RdH h n FA (fv fs)) (hl2 : fs.length ≤ 20000) :
    SQ k (d + 1) cl 67 [.agg ⟨[.int .u8 kd, .int .i64 el, .int .i64 ln, .slice FA fs.length fc]⟩] h n fun v h' n' => v = .slice (some ⟨n, 0, none⟩) fs.length fs.length ∧ h' = h.set n (.row 3 false (iv (fs.map (·.2)))) ∧ n' = n + 1 := by
  have h0l : 0 < fs.length := List.length_pos_iff.2 h0
  refine enter Try.func67 (by kernel_rfl) rfl (by kernel_rfl) rfl rfl rfl ?_
  (repeat' first | refine zcd ?_ | intro K' hK | (with_reducible refine zn hK ?_; clear hK) | fail | ((with_reducible first | apply zo1 | apply zo2 | apply o_guard rfl | apply x_cond | apply k_e1 rfl | apply k_e2 rfl | apply k_e0 rfl | apply k_e3 rfl | apply k_e4 rfl); (case he => exact ez0); (try case hok => exact ezO); all_goals try (intro hb; (try simp only [hbs, reduceCtorEq] at hb); try exact ezX)) | ((with_reducible apply o_undef rfl); (case hb => exact ez0)))
  refine x_loopV [3, 4, 13, 14, 15, 16, 17, 18, 19, 20, 21, 22, 23, 24, 25, 26, 27, 28] [3, 4] (fun m vs h' n' => ∃ (q : Nat) (O : Value), m = fs.length - q ∧ q ≤ fs.length ∧ vs = [O, .int .i64 q] ∧ RdH h' n FA (fv fs) ∧ rowOf h' n = some (32, false, [.int .u8 kd, .int .i64 el, .int .i64 ln, .slice FA fs.length fc]) ∧ n + 1 ≤ n' ∧
      ((q = 0 ∧ O = .slice none 0 0) ∨ (0 < q ∧ ∃ id, n + 1 ≤ id ∧ id < n' ∧ O = .slice (some ⟨id, 0, none⟩) q q ∧ rowOf h' id = some (3, false, iv ((fs.take q).map (·.2)))))) fs.length rfl (by omega) ?_ ?_
  · exact ⟨0, .slice none 0 0, rfl, by omega, by simp (disch := first | assumption | omega | rfl | decide) only [go_sem, seval, tys] <;> rfl, by exact ezD hr, by simp (disch := first | assumption | omega | rfl | decide) only [go_sem, seval, tys], by omega, .inl ⟨rfl, rfl⟩⟩
  · rintro m g _ h' n' ⟨q, O, rfl, hq, rfl, r2, q0, hn, hO⟩
    have d0 := fun o => cellAt_row (off := o) q0
    by_cases hqf : q < fs.length
    · obtain ⟨id2, off2, rfl, hid2, -, -, hfb⟩ := fld_at r2 hqf
      obtain ⟨ty, hty⟩ : ∃ ty, (fs[q]).2 = ty := ⟨_, rfl⟩
      rw [hty] at hfb
      have htk : iv ((fs.take (q + 1)).map (·.2)) = iv ((fs.take q).map (·.2)) ++ [.int .i64 ty] := by rw [List.take_succ_eq_append_getElem hqf, List.map_append, iv_app]; simp [iv, hty]
      have htl : (iv ((fs.take q).map (·.2))).length = q := by rw [iv_length, List.length_map, List.length_take]; omega
      have htw : (iv ((fs.take q).map (·.2))).take q = iv ((fs.take q).map (·.2)) := List.take_of_length_le (by omega)
      rcases hO with ⟨rfl, rfl⟩ | ⟨hp0, id, k1, k2, rfl, q4⟩
      · (repeat' first | refine zcd ?_ | intro K' hK | (with_reducible refine zn hK ?_; clear hK) | ((with_reducible apply o_ap0 (t := 36) apT36 w_none); (case hs => exact ez0); (case hy => exact ez0); (case hsrc => exact src_row (rowOf_same _ _ _ _ _) rfl); (case hc => exact rfl); (case hm => omega); (case h0 => omega)) | ((with_reducible first | apply zo1 | apply zo2 | apply o_guard rfl | apply x_cond | apply k_e1 rfl | apply k_e2 rfl | apply k_e0 rfl | apply k_e3 rfl | apply k_e4 rfl); (case he => exact ez2 d0 hfb); (try case hok => exact ezO); all_goals try (intro hb; (try simp only [hbs, reduceCtorEq] at hb); try exact ezX)) | ((with_reducible apply o_undef rfl); (case hb => exact ez0)))
        refine k_round (fs.length - 1) (by omega) ⟨1, .slice (some ⟨n' + 1, 0, none⟩) 1 1, rfl, by omega, by simp (disch := first | assumption | omega | rfl | decide) only [go_sem, seval, tys] <;> rfl, by exact ezD r2, by simp (disch := first | assumption | omega | rfl | decide) only [go_sem, seval, tys, q0], by omega, .inr ⟨by omega, n' + 1, by omega, by omega, rfl, ?_⟩⟩
        rw [htk]
        simp (disch := first | assumption | omega | rfl | decide) only [go_sem, seval, tys]
        exact rfl
      · have w4 := rwOf_row q4
        (repeat' first | refine zcd ?_ | intro K' hK | (with_reducible refine zn hK ?_; clear hK) | ((with_reducible apply o_apR (t := 36) apT36 w_none); (case hs => exact ez1 w4); (case hy => exact ez1 w4); (case hsrc => exact src_row (rowOf_same _ _ _ _ _) rfl); (case hr => exact ez1 w4); (case hc => exact rfl); (case hm => omega); (case hli => omega); (case hln => omega); (case hcs => omega)) | ((with_reducible first | apply zo1 | apply zo2 | apply o_guard rfl | apply x_cond | apply k_e1 rfl | apply k_e2 rfl | apply k_e0 rfl | apply k_e3 rfl | apply k_e4 rfl); (case he => exact ez2 d0 hfb); (try case hok => exact ezO); all_goals try (intro hb; (try simp only [hbs, reduceCtorEq] at hb); try exact ezX)) | ((with_reducible apply o_undef rfl); (case hb => exact ez0)))
        refine k_round (fs.length - (q + 1)) (by omega) ⟨q + 1, .slice (some ⟨n' + 1, 0, none⟩) (q + 1) (q + 1), rfl, by omega, by simp (disch := first | assumption | omega | rfl | decide) only [go_sem, seval, tys] <;> rfl, by exact ezD r2, by simp (disch := first | assumption | omega | rfl | decide) only [go_sem, seval, tys, q0], by omega, .inr ⟨by omega, n' + 1, by omega, by omega, rfl, ?_⟩⟩
        rw [htk]
        simp (disch := first | assumption | omega | rfl | decide) only [go_sem, seval, tys, htw]
    · obtain rfl : q = fs.length := by omega
      rcases hO with ⟨hz, -⟩ | ⟨hp0, id, k1, k2, rfl, q4⟩
      · omega
      · rw [List.take_length] at q4
        (repeat' first | refine zcd ?_ | intro K' hK | (with_reducible refine zn hK ?_; clear hK) | fail | ((with_reducible first | apply zo1 | apply zo2 | apply o_guard rfl | apply x_cond | apply k_e1 rfl | apply k_e2 rfl | apply k_e0 rfl | apply k_e3 rfl | apply k_e4 rfl); (case he => exact ez1 d0); (try case hok => exact ezO); all_goals try (intro hb; (try simp only [hbs, reduceCtorEq] at hb); try exact ezX)) | ((with_reducible apply o_undef rfl); (case hb => exact ez0)))
        refine sw_row ezI rfl (by omega) (by simp (disch := first | assumption | omega | rfl | decide) only [go_sem, seval, tys, q4]; exact rfl) (iv_idA _ _) ezR ?_
        exact ⟨rfl, rfl, rfl⟩
end Go.Proofs.Ytkngdfbibffdcaa.Ce
namespace Go.Proofs.Ytkngdfbibffdcaa.Ce
open Go.RowKit
def wq (now : List Int) (fs : List (List UInt8 × Int)) (q : Nat) : Int := min (1 + sumF now (fs.take q)) 5001
theorem wq_zero (now : List Int) (fs : List (List UInt8 × Int)) : wq now fs 0 = 1 := by simp [wq, sumF]; rfl
theorem wq_succ {now : List Int} (hn : Bnd now) {fs : List (List UInt8 × Int)} {q : Nat} (hq : q < fs.length) : min (wq now fs q + now.getD (fs[q]).2.toNat 0) 5001 = wq now fs (q + 1) := by
  have h1 := hn.getD (fs[q]).2.toNat
  have h2 := sumF_bnd hn (fs.take q)
  unfold wq
  rw [sumF_take now hq]
  omega
theorem wOne_4 {below now : List Int} {t : Tp} (h : t.kd = 4) (hf : t.fs = []) : wOne below now t = min (1 + below.getD t.el.toNat 0) 5001 := by unfold wOne wHead; rw [if_pos h, hf]; simp [sumF]
theorem wOne_7 {below now : List Int} {t : Tp} (h : t.kd = 7) (hf : t.fs = []) : wOne below now t = min (1 + 16 * below.getD t.el.toNat 0) 5001 := by unfold wOne wHead; rw [if_neg (by omega), if_pos h, hf]; simp [sumF]
theorem wOne_6 {below now : List Int} {t : Tp} (h : t.kd = 6) (hf : t.fs = []) : wOne below now t = min (1 + t.ln * now.getD t.el.toNat 0) 5001 := by unfold wOne wHead; rw [if_neg (by omega), if_neg (by omega), if_pos h, hf]; simp [sumF]
theorem wOne_f {below now : List Int} {t : Tp} (h4 : t.kd ≠ 4) (h7 : t.kd ≠ 7) (h6 : t.kd ≠ 6) : wOne below now t = wq now t.fs t.fs.length := by unfold wOne wHead wq; rw [if_neg h4, if_neg h7, if_neg h6, List.take_length]; simp
theorem zeros_getD (m i : Nat) : (zeros m).getD i 0 = 0 := by
  rw [List.getD_eq_getElem?_getD]
  unfold zeros
  by_cases h : i < m
  · rw [List.getElem?_replicate]; simp [h]
  · rw [List.getElem?_eq_none (by simp; omega)]; rfl
end Go.Proofs.Ytkngdfbibffdcaa.Ce
namespace Go.Proofs.Ytkngdfbibffdcaa.Ce
open Go.RowKit
def leadsT (far : Bool) (t : Tp) : List Int := if t.kd = 6 ∨ (far = true ∧ (t.kd = 4 ∨ t.kd = 7)) then [t.el] else t.fs.map (·.2)
theorem leadsT_in {far : Bool} {m i : Nat} {t : Tp} (h : fineB m i t = true) (hi : i ≤ m) : ∀ x ∈ leadsT far t, 0 ≤ x ∧ x < m := by
  intro x hx
  unfold leadsT at hx
  split at hx
  · obtain rfl := List.mem_singleton.1 hx
    rename_i hc
    rcases hc with h6 | ⟨-, h47⟩
    · have := fine_arr h h6; omega
    · exact fine_el h h47
  · obtain ⟨f, hf, rfl⟩ := List.mem_map.1 hx
    obtain ⟨q, hq, rfl⟩ := List.getElem_of_mem hf
    have := fine_fld h hq
    omega
theorem leadsT_len {far : Bool} {m i : Nat} {t : Tp} (h : fineB m i t = true) : (leadsT far t).length ≤ 8 := by
  unfold leadsT
  split
  · show 1 ≤ 8; decide
  · rw [List.length_map]; exact fine_len h
variable (k d cl : Nat) (h : Hp) (n : Nat)
theorem pleads_one (hk : 30000 ≤ k) (kd el ln : Int) (far : Bool) (FA : Option Addr) (fc : Nat) (hc : kd = 6 ∨ (far = true ∧ (kd = 4 ∨ kd = 7))) :
    SQ k (d + 1) cl 54 [.agg ⟨[.int .u8 kd, .int .i64 el, .int .i64 ln, .slice FA 0 fc]⟩, .bool far] h n fun v h' n' => v = .slice (some ⟨n, 0, none⟩) 1 1 ∧ h' = h.set n (.row 3 false (iv [el])) ∧ n' = n + 1 := by
  refine enter Try.func54 (by kernel_rfl) rfl (by kernel_rfl) rfl rfl rfl ?_
  rcases hc with rfl | ⟨rfl, rfl | rfl⟩
  all_goals
    (repeat' first | refine zcd ?_ | intro K' hK | (with_reducible refine zn hK ?_; clear hK) | (with_reducible refine x_turns ?_) | (with_reducible refine x_turn (by omega) ?_) | (with_reducible refine k_turn ?_) | ((with_reducible apply o_ap0 (t := 36) apT36 w_none); (case hs => exact ez0); (case hy => exact ez0); (case hsrc => exact src_row (rowOf_same _ _ _ _ _) rfl); (case hc => exact rfl); (case hm => omega); (case h0 => omega)) | ((with_reducible first | apply zo1 | apply zo2 | apply o_guard rfl | apply x_cond | apply k_e1 rfl | apply k_e2 rfl | apply k_e0 rfl | apply k_e3 rfl | apply k_e4 rfl); (case he => exact ez0); (try case hok => exact ezO); all_goals try (intro hb; (try simp only [hbs, reduceCtorEq] at hb); try exact ezX)) | ((with_reducible apply o_undef rfl); (case hb => exact ez0)))
    (refine sw_row ezI rfl (by omega) (by first | assumption | (simp (disch := first | assumption | omega | rfl | decide) only [go_sem, seval, tys] <;> rfl)) (by exact iv_idA _ [el]) ezR ?_; exact ⟨rfl, rfl, rfl⟩)
theorem pleads_nil (hk : 30000 ≤ k) (kd el ln : Int) (far : Bool) (FA : Option Addr) (fc : Nat) (hc : ¬ (kd = 6 ∨ (far = true ∧ (kd = 4 ∨ kd = 7)))) :
    SQ k (d + 1) cl 54 [.agg ⟨[.int .u8 kd, .int .i64 el, .int .i64 ln, .slice FA 0 fc]⟩, .bool far] h n fun v h' n' => v = .slice none 0 0 ∧ h' = h ∧ n' = n := by
  have h6 : kd ≠ 6 := fun e => hc (.inl e)
  refine enter Try.func54 (by kernel_rfl) rfl (by kernel_rfl) rfl rfl rfl ?_
  cases far
  · (repeat' first | refine zcd ?_ | intro K' hK | (with_reducible refine zn hK ?_; clear hK) | (with_reducible refine x_turns ?_) | (with_reducible refine x_turn (by omega) ?_) | (with_reducible refine k_turn ?_) | ((with_reducible first | apply zo1 | apply zo2 | apply o_guard rfl | apply x_cond | apply k_e1 rfl | apply k_e2 rfl | apply k_e0 rfl | apply k_e3 rfl | apply k_e4 rfl); (case he => exact ez0); (try case hok => exact ezO); all_goals try (intro hb; (try simp only [hbs, reduceCtorEq] at hb); try exact ezX)) | ((with_reducible apply o_undef rfl); (case hb => exact ez0)))
    all_goals exact sw_flat rfl rfl ⟨rfl, rfl, rfl⟩
  · have h4 : kd ≠ 4 := fun e => hc (.inr ⟨rfl, .inl e⟩)
    have h7 : kd ≠ 7 := fun e => hc (.inr ⟨rfl, .inr e⟩)
    (repeat' first | refine zcd ?_ | intro K' hK | (with_reducible refine zn hK ?_; clear hK) | (with_reducible refine x_turns ?_) | (with_reducible refine x_turn (by omega) ?_) | (with_reducible refine k_turn ?_) | ((with_reducible first | apply zo1 | apply zo2 | apply o_guard rfl | apply x_cond | apply k_e1 rfl | apply k_e2 rfl | apply k_e0 rfl | apply k_e3 rfl | apply k_e4 rfl); (case he => exact ez0); (try case hok => exact ezO); all_goals try (intro hb; (try simp only [hbs, reduceCtorEq] at hb); try exact ezX)) | ((with_reducible apply o_undef rfl); (case hb => exact ez0)))
    all_goals exact sw_flat rfl rfl ⟨rfl, rfl, rfl⟩
theorem pleads_fld (hk : 30000 ≤ k) (el ln : Int) (far : Bool) (FA : Option Addr) (fs : List (List UInt8 × Int)) (fc : Nat) (h0 : fs ≠ []) (hr : RdH h n FA (fv fs)) (hl2 : fs.length ≤ 20000) :
    SQ k (d + 1) cl 54 [.agg ⟨[.int .u8 5, .int .i64 el, .int .i64 ln, .slice FA fs.length fc]⟩, .bool far] h n fun v h' n' => v = .slice (some ⟨n, 0, none⟩) fs.length fs.length ∧ h' = h.set n (.row 3 false (iv (fs.map (·.2)))) ∧ n' = n + 1 := by
  have h0l : 0 < fs.length := List.length_pos_iff.2 h0
  refine enter Try.func54 (by kernel_rfl) rfl (by kernel_rfl) rfl rfl rfl ?_
  cases far
  all_goals
    (repeat' first | refine zcd ?_ | intro K' hK | (with_reducible refine zn hK ?_; clear hK) | fail | ((with_reducible first | apply zo1 | apply zo2 | apply o_guard rfl | apply x_cond | apply k_e1 rfl | apply k_e2 rfl | apply k_e0 rfl | apply k_e3 rfl | apply k_e4 rfl); (case he => exact ez0); (try case hok => exact ezO); all_goals try (intro hb; (try simp only [hbs, reduceCtorEq] at hb); try exact ezX)) | ((with_reducible apply o_undef rfl); (case hb => exact ez0)))
    refine x_loopV [5, 7, 32, 33, 34, 35, 36, 37, 38, 39, 40, 41] [5, 32] (fun m vs h' n' => ∃ (q : Nat) (O : Value), m = fs.length - q ∧ q ≤ fs.length ∧ vs = [O, .int .i64 q] ∧ RdH h' n FA (fv fs) ∧ n + 1 ≤ n' ∧ OwnI ((fs.take q).map (·.2)) O h' (n + 1) n') fs.length rfl (by omega) ?_ ?_
    · exact ⟨0, .slice none 0 0, rfl, by omega, ez0, by exact ezD hr, by omega, .inl ⟨rfl, rfl⟩⟩
    · rintro m g _ h' n' ⟨q, O, rfl, hq, rfl, r2, hn, hO⟩
      by_cases hqf : q < fs.length
      · obtain ⟨id2, off2, rfl, hid2, hfa, -, -⟩ := fld_at r2 hqf
        obtain ⟨ty, hty⟩ : ∃ ty, (fs[q]).2 = ty := ⟨_, rfl⟩
        rw [hty] at hfa
        have htk : (fs.take (q + 1)).map (·.2) = (fs.take q).map (·.2) ++ [ty] := by rw [List.take_succ_eq_append_getElem hqf, List.map_append, ← hty]; rfl
        have htl : ((fs.take q).map (·.2)).length = q := by rw [List.length_map, List.length_take]; omega
        obtain ⟨acc, hacc⟩ : ∃ acc, (fs.take q).map (·.2) = acc := ⟨_, rfl⟩
        rw [hacc] at hO htk htl
        rcases hO with ⟨hp0, rfl⟩ | ⟨hp0, id, k1, k2, rfl, q4⟩
        · (repeat' first | refine zcd ?_ | intro K' hK | (with_reducible refine zn hK ?_; clear hK) | ((with_reducible apply o_ap0 (t := 36) apT36 w_none); (case hs => exact ez0); (case hy => exact ez0); (case hsrc => exact src_row (rowOf_same _ _ _ _ _) rfl); (case hc => exact rfl); (case hm => omega); (case h0 => omega)) | ((with_reducible first | apply zo1 | apply zo2 | apply o_guard rfl | apply x_cond | apply k_e1 rfl | apply k_e2 rfl | apply k_e0 rfl | apply k_e3 rfl | apply k_e4 rfl); (case he => exact ez1 hfa); (try case hok => exact ezO); all_goals try (intro hb; (try simp only [hbs, reduceCtorEq] at hb); try exact ezX)) | ((with_reducible apply o_undef rfl); (case hb => exact ez0)))
          refine k_round (fs.length - (q + 1)) (by omega) ⟨q + 1, .slice (some ⟨n' + 1 + 1, 0, none⟩) 1 1, rfl, by omega, ez0, by exact ezD r2, by omega, .inr ⟨by rw [htk]; simp, n' + 1 + 1, by omega, by omega, by rw [htk, hp0]; rfl, by rw [htk, hp0]; exact rowOf_same _ _ _ _ _⟩⟩
        · have w4 := rwOf_row q4
          have htw : (iv acc).take acc.length = iv acc := List.take_of_length_le (by rw [iv_length]; omega)
          (repeat' first | refine zcd ?_ | intro K' hK | (with_reducible refine zn hK ?_; clear hK) | ((with_reducible apply o_apR (t := 36) apT36 w_none); (case hs => exact ez1 w4); (case hy => exact ez1 w4); (case hsrc => exact src_row (rowOf_same _ _ _ _ _) rfl); (case hr => exact ez1 w4); (case hc => exact rfl); (case hm => omega); (case hli => omega); (case hln => omega); (case hcs => rw [iv_length]; omega)) | ((with_reducible first | apply zo1 | apply zo2 | apply o_guard rfl | apply x_cond | apply k_e1 rfl | apply k_e2 rfl | apply k_e0 rfl | apply k_e3 rfl | apply k_e4 rfl); (case he => exact ez2 hfa w4); (try case hok => exact ezO); all_goals try (intro hb; (try simp only [hbs, reduceCtorEq] at hb); try exact ezX)) | ((with_reducible apply o_undef rfl); (case hb => exact ez0)))
          refine k_round (fs.length - (q + 1)) (by omega) ⟨q + 1, .slice (some ⟨n' + 1 + 1, 0, none⟩) (acc.length + 1) (acc.length + 1), rfl, by omega, ez0, by exact ezD r2, by omega, .inr ⟨by rw [htk]; simp, n' + 1 + 1, by omega, by omega, by rw [htk, List.length_append]; rfl, by rw [htk, iv_app1]; exact ez1 htw⟩⟩
      · obtain rfl : q = fs.length := by omega
        rw [List.take_length] at hO
        rcases hO with ⟨hp0, -⟩ | ⟨hp0, id, k1, k2, rfl, q4⟩
        · exact absurd (List.map_eq_nil_iff.1 hp0) h0
        · rw [List.length_map]
          (repeat' first | refine zcd ?_ | intro K' hK | (with_reducible refine zn hK ?_; clear hK) | fail | ((with_reducible first | apply zo1 | apply zo2 | apply o_guard rfl | apply x_cond | apply k_e1 rfl | apply k_e2 rfl | apply k_e0 rfl | apply k_e3 rfl | apply k_e4 rfl); (case he => exact ez0); (try case hok => exact ezO); all_goals try (intro hb; (try simp only [hbs, reduceCtorEq] at hb); try exact ezX)) | ((with_reducible apply o_undef rfl); (case hb => exact ez0)))
          refine sw_row (m := id) ezI rfl (by omega) q4 (iv_idA _ _) ezR ?_
          exact ⟨rfl, rfl, rfl⟩
theorem pleads_ev (hk : 30000 ≤ k) (far : Bool) {m i : Nat} {t : Tp} (hf : fineB m i t = true) (hr : RdH h n t.A (fv t.fs)) :
    SQ k (d + 1) cl 54 [.agg ⟨[.int .u8 t.kd, .int .i64 t.el, .int .i64 t.ln, .slice t.A t.fs.length t.c]⟩, .bool far] h n (IntsV (leadsT far t) h n) := by
  by_cases hc : t.kd = 6 ∨ (far = true ∧ (t.kd = 4 ∨ t.kd = 7))
  · have h5 : t.kd ≠ 5 := by omega
    have hn := fine_nofs hf h5
    have hl : leadsT far t = [t.el] := by unfold leadsT; rw [if_pos hc]
    rw [hl, hn]
    exact (pleads_one k d cl h n hk t.kd t.el t.ln far t.A t.c hc).mono fun _ _ _ hh => .inr ⟨by simp, hh⟩
  · have hl : leadsT far t = t.fs.map (·.2) := by unfold leadsT; rw [if_neg hc]
    rw [hl]
    by_cases h5 : t.kd = 5
    · have hs := fine_len hf
      by_cases hn : t.fs = []
      · rw [hn]
        exact (pleads_nil k d cl h n hk t.kd t.el t.ln far t.A t.c hc).mono fun _ _ _ hh => .inl ⟨rfl, hh⟩
      · rw [h5]
        refine (pleads_fld k d cl h n hk t.el t.ln far t.A t.fs t.c hn hr (by omega)).mono fun _ _ _ hh => .inr ⟨by simpa using hn, ?_⟩
        rw [List.length_map]
        exact hh
    · have hn := fine_nofs hf h5
      rw [hn]
      exact (pleads_nil k d cl h n hk t.kd t.el t.ln far t.A t.c hc).mono fun _ _ _ hh => .inl ⟨rfl, hh⟩
end Go.Proofs.Ytkngdfbibffdcaa.Ce
namespace Go.Proofs.Ytkngdfbibffdcaa.Ce
open Go.RowKit
inductive Rch (T : List Tp) (far : Bool) (i : Nat) : Nat → Prop
  | refl : Rch T far i i
  | step {x y : Nat} (hr : Rch T far i x) (hx : x < T.length) (hy : (y : Int) ∈ leadsT far T[x]) : Rch T far i y
open Classical in
noncomputable def rchF (T : List Tp) (far : Bool) (i : Nat) : List Bool := (List.range T.length).map fun x => decide (Rch T far i x)
theorem rchF_length (T : List Tp) (far : Bool) (i : Nat) : (rchF T far i).length = T.length := by unfold rchF; rw [List.length_map, List.length_range]
theorem rchF_get {T : List Tp} {far : Bool} {i x : Nat} (hx : x < T.length) : (rchF T far i)[x]? = some true ↔ Rch T far i x := by
  unfold rchF
  rw [List.getElem?_map, List.getElem?_range hx, Option.map_some]
  simp
theorem Rch.trans {T : List Tp} {far : Bool} {i x y : Nat} (h : Rch T far i x) (h2 : Rch T far x y) : Rch T far i y := by
  induction h2 with
  | refl => exact h
  | step hr hx hy ih => exact .step ih hx hy
theorem rchF_eq {T : List Tp} {far : Bool} {i : Nat} {F : List Bool} (hF : Fine T) (hi : i < T.length) (hl : F.length = T.length) (h0 : F[i]? = some true) (h1 : ∀ x, x < T.length → F[x]? = some true → Rch T far i x)
    (h2 : ∀ x (hx : x < T.length), F[x]? = some true → ∀ y : Nat, (y : Int) ∈ leadsT far T[x] → F[y]? = some true) : F = rchF T far i := by
  refine List.ext_getElem? fun x => ?_
  by_cases hx : x < T.length
  · have key : F[x]? = some true ↔ (rchF T far i)[x]? = some true := by
      rw [rchF_get hx]
      refine ⟨h1 x hx, fun hr => ?_⟩
      clear hx
      induction hr with
      | refl => exact h0
      | step hr hx hy ih => exact h2 _ hx ih _ hy
    rw [List.getElem?_eq_getElem (by omega), List.getElem?_eq_getElem (by rw [rchF_length]; exact hx)] at key ⊢
    cases hb : F[x]'(by omega) <;> cases hc : (rchF T far i)[x]'(by rw [rchF_length]; exact hx) <;> simp_all
  · rw [List.getElem?_eq_none (by omega), List.getElem?_eq_none (by rw [rchF_length]; omega)]
def cn (l : List Nat) : List Int := l.map fun (x : Nat) => (x : Int)
theorem cn_length (l : List Nat) : (cn l).length = l.length := by simp [cn]
theorem cn_app (l l' : List Nat) : cn (l ++ l') = cn l ++ cn l' := by simp [cn]
def OwnS (ops : List Nat) (O : Value) (h : Hp) (lo n : Nat) : Prop :=
  ∃ id cs, lo ≤ id ∧ id < n ∧ O = .slice (some ⟨id, 0, none⟩) ops.length ops.length ∧ rowOf h id = some (3, false, cs) ∧ ops.length ≤ cs.length ∧ cs.take ops.length = iv (cn ops)
theorem RdH.kill {h : Hp} {B id : Nat} {A : Option Addr} {vs : List Value} (hr : RdH h B A vs) (hb : ∀ b o, A = some ⟨b, o, none⟩ → b ≠ id) (x : AObj) : RdH (h.set id x) B A vs := by
  refine ⟨hr.1, ?_⟩
  rcases hr.2 with e | ⟨i, off, e, hc⟩
  · exact .inl e
  · exact .inr ⟨i, off, e, fun k v hk => by rw [cellAt_ne _ _ _ (hb i off e)]; exact hc k v hk⟩
def IntsR (l : List Int) (h : Hp) (n : Nat) (v : Value) (h' : Hp) (n' : Nat) : Prop :=
  ∃ LA c, v = .slice LA l.length c ∧ RdH h' n' LA (iv l) ∧ (∀ b o, LA = some ⟨b, o, none⟩ → b = n) ∧ n ≤ n' ∧ ∀ b, b < n → h'.get b = h.get b
theorem IntsV.rd {l : List Int} {h h' : Hp} {n n' : Nat} {v : Value} (hh : IntsV l h n v h' n') : IntsR l h n v h' n' := by
  rcases hh with ⟨rfl, rfl, rfl, rfl⟩ | ⟨-, rfl, rfl, rfl⟩
  · exact ⟨none, 0, rfl, RdH.nil, fun b o e => (by cases e), Nat.le_refl _, fun _ _ => rfl⟩
  · exact ⟨some ⟨n, 0, none⟩, _, rfl, RdH.row (by omega), fun b o e => (by injection e with e; injection e with e1; omega), by omega, fun b hb => Hp.get_ne _ _ (by omega)⟩
theorem rowOf_keep {h h' : Hp} {b : Nat} (e : h'.get b = h.get b) : rowOf h' b = rowOf h b := by unfold rowOf; rw [e]
theorem RdH.keep {h h' : Hp} {B n : Nat} {A : Option Addr} {vs : List Value} (hr : RdH h B A vs) (hB : B ≤ n) (hk : ∀ b, b < n → h'.get b = h.get b) : RdH h' B A vs := by
  refine ⟨hr.1, ?_⟩
  rcases hr.2 with e | ⟨i, off, e, hc⟩
  · exact .inl e
  · have hi := hr.1 i off e
    exact .inr ⟨i, off, e, fun k v hkv => by rw [show cellAt h' i (off + k) = cellAt h i (off + k) from by unfold cellAt; rw [rowOf_keep (hk i (by omega))]]; exact hc k v hkv⟩
theorem TabH.keep {h h' : Hp} {B n : Nat} {A : Option Addr} {T : List Tp} (hT : TabH h B A T) (hB : B ≤ n) (hk : ∀ b, b < n → h'.get b = h.get b) : TabH h' B A T := ⟨hT.rd.keep hB hk, fun t ht => (hT.fd t ht).keep hB hk, hT.nl, hT.bd⟩
end Go.Proofs.Ytkngdfbibffdcaa.Ce
