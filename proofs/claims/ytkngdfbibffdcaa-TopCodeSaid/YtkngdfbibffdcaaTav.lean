/- Parts of the proof of TopCode: Km, Kq. No condition of its own. -/
import Derived.Test.YtkngdfbibffdcaaTan
import Derived.Test.YtkngdfbibffdcaaTat
import Derived.Test.YtkngdfbibffdcaaTau
set_option linter.unusedVariables false
set_option linter.unusedSimpArgs false
set_option maxRecDepth 100000
set_option maxHeartbeats 4000000
namespace Go.Proofs.Ytkngdfbibffdcaa.Ce
open Go.RowKit
variable (k d cl : Nat) (h : Hp) (n : Nat)
theorem rwidths_0 (hk : 30000 ≤ k) (A : Option Addr) (T : List Tp) (c : Nat) (hT : TabH h n A T) (hl : T.length ≤ 32) (h0T : 0 < T.length) (hF : Fine T) :
    SQ k (d + 2) cl 56 [.slice A T.length c, .int .i64 0] h n fun v h' n' => v = .slice (some ⟨n, 0, none⟩) T.length T.length ∧ h' = h.set n (.row 3 false (iv (wD T 0))) ∧ n' = n + 1 := by
  obtain ⟨below, hbz⟩ : ∃ b, b = zeros T.length := ⟨_, rfl⟩
  have hBb : Bnd below := by rw [hbz]; exact zeros_bnd _
  have hres : wD T 0 = wRow below T := by rw [hbz]; rfl
  rw [hres]
  refine enter Try.func56 (by kernel_rfl) rfl (by kernel_rfl) rfl rfl rfl ?_
  (repeat' first | refine zcd ?_ | intro K' hK | (with_reducible refine zn hK ?_; clear hK) | fail | ((with_reducible first | apply zo1 | apply zo2 | apply o_guard rfl | apply x_cond | apply k_e1 rfl | apply k_e2 rfl | apply k_e0 rfl | apply k_e3 rfl | apply k_e4 rfl); (case he => exact ez0); (try case hok => exact ezO); all_goals try (intro hb; (try simp only [hbs, reduceCtorEq] at hb); try exact ezX)) | ((with_reducible apply o_undef rfl); (case hb => exact ez0)))
  refine x_loopV [6, 7, 8, 9, 10, 11, 18, 19, 20, 21, 22, 23, 24, 25, 26, 27, 28, 29, 30, 31, 32, 33, 34, 35, 36, 37, 38, 39, 40, 41, 42, 43, 44, 45, 46, 47, 48, 49, 50, 51, 52, 53, 54, 55, 56, 57, 58, 59, 60, 61, 62, 63, 64, 65, 66, 67, 68, 69, 70, 71, 72, 73, 74, 75, 76, 77, 78, 79, 80, 81, 82, 83, 84, 85, 86, 87, 88, 89, 90, 91, 92, 93, 94, 95, 96, 97, 98, 99, 100, 101, 102, 103, 104] [6, 7] (fun m vs h' n' => ∃ (i : Nat) (O : Value), m = T.length - i ∧ i ≤ T.length ∧ vs = [O, .int .i64 i] ∧ n ≤ n' ∧ True ∧ TabH h' n A T ∧ ((i = 0 ∧ O = .slice none 0 0) ∨ (0 < i ∧ ∃ id, n ≤ id ∧ id < n' ∧ O = .slice (some ⟨id, 0, none⟩) i i ∧ rowOf h' id = some (3, false, iv (wRow below (T.take i)))))) T.length rfl (by omega) ?_ ?_
  · exact ⟨0, .slice none 0 0, rfl, by omega, by simp (disch := first | assumption | omega | rfl | decide) only [go_sem, seval, tys] <;> rfl, by omega, trivial, hT, .inl ⟨rfl, rfl⟩⟩
  · rintro m g _ h' n' ⟨i, O, rfl, hi, rfl, hn, qb, hT2, hO⟩
    by_cases hiT : i < T.length
    · obtain ⟨tid, toff, hA, htid, ht4, ht0, ht1, ht2, -⟩ := hT2.at_ hiT
      have hfine := hF i hiT
      have hnb := wRow_bnd hBb hF i hi
      have hrt := wRow_take below hiT
      have hnl := wRow_tlen below hi
      obtain ⟨t, htt⟩ : ∃ t, T[i] = t := ⟨_, rfl⟩
      have hmem : t ∈ T := by rw [← htt]; exact List.getElem_mem hiT
      have hfd2 := hT2.fd t hmem
      rw [htt] at ht4 ht0 ht1 ht2 hfine hrt
      have hfl := fine_len hfine
      obtain ⟨now, hnow⟩ : ∃ now, wRow below (T.take i) = now := ⟨_, rfl⟩
      rw [hnow] at hnb hrt hnl hO
      have hrow : iv (wRow below (T.take (i + 1))) = iv now ++ [.int .i64 (wOne below now t)] := by rw [hrt, iv_app]; rfl
      have htw : (iv now).take i = iv now := List.take_of_length_le (by rw [iv_length, hnl]; omega)
      have hil : (iv now).length = i := by rw [iv_length, hnl]
      have hwb := wOne_bnd hBb hnb hfine
      subst hA
      by_cases h6 : t.kd = 6
      · have har := fine_arr hfine h6
        have hfs := fine_nofs hfine (by omega)
        have hyb := hnb.getD t.el.toNat
        have hW := wOne_6 (below := below) (now := now) h6 hfs
        have hmul : 0 ≤ t.ln * now.getD t.el.toNat 0 ∧ t.ln * now.getD t.el.toNat 0 ≤ 16 * 5001 := ⟨Int.mul_nonneg (by omega) hyb.1, Int.mul_le_mul har.2.2.2 hyb.2 hyb.1 (by omega)⟩
        have hiv : ∀ x, lget (iv [x]) 0 = some (.int .i64 x) := fun x => rfl
        have hne : lget (iv now) t.el.toNat = some (.int .i64 (now.getD t.el.toNat 0)) := iv_lget (by omega)
        rw [h6, hfs] at ht4
        rw [List.length_nil] at ht4
        rw [h6] at ht0
        rcases hO with ⟨h0, -⟩ | ⟨h0, id, k1, k2, rfl, q4⟩
        · omega
        · have e4 := fun o => cellAt_row (off := o) q4
          have w4 := rwOf_row q4
          (repeat' first | refine zcd ?_ | intro K' hK | (with_reducible refine zn hK ?_; clear hK) | (with_reducible refine x_turns ?_) | (with_reducible refine x_turn (by omega) ?_) | (with_reducible refine k_turn ?_) | ((with_reducible apply o_callF (g := 67) w_none); (case ha => exact ez0); (case hs => ((with_reducible apply rparts_arr0) <;> (first | exact hk | omega))); (case' hk => rintro _ h' n' ⟨rfl, rfl, rfl⟩)) | ((with_reducible apply o_apR (t := 36) apT36 w_none); (case hs => exact ez1 w4); (case hy => exact ez1 w4); (case hsrc => exact src_row (rowOf_same _ _ _ _ _) rfl); (case hr => exact ez1 w4); (case hc => exact rfl); (case hm => omega); (case hli => omega); (case hln => omega); (case hcs => omega)) | ((with_reducible first | apply zo1 | apply zo2 | apply o_guard rfl | apply x_cond | apply k_e1 rfl | apply k_e2 rfl | apply k_e0 rfl | apply k_e3 rfl | apply k_e4 rfl); (case he => exact ez8 ht4 ht0 ht1 ht2 e4 hne hiv @min_lt); (try case hok => exact ezO); all_goals try (intro hb; (try simp only [hbs, reduceCtorEq] at hb); try exact ezX)) | ((with_reducible apply o_undef rfl); (case hb => exact ez0)))
          refine k_round (T.length - (i + 1)) (by omega) ⟨i + 1, .slice (some ⟨n' + 1 + 1, 0, none⟩) (i + 1) (i + 1), rfl, by omega, by simp (disch := first | assumption | omega | rfl | decide) only [go_sem, seval, tys] <;> rfl, by omega, trivial, (ezT hT2), .inr ⟨by omega, n' + 1 + 1, by omega, by omega, rfl, ?_⟩⟩
          rw [hrow, hW]
          simp (disch := first | assumption | omega | rfl | decide) only [go_sem, seval, tys, htw]
      · by_cases hfs0 : t.fs = []
        · rw [hfs0, List.length_nil] at ht4
          have hW : wOne below now t = 1 := by
            by_cases h4 : t.kd = 4
            · rw [wOne_4 h4 hfs0, hbz, zeros_getD]; rfl
            · by_cases h7 : t.kd = 7
              · rw [wOne_7 h7 hfs0, hbz, zeros_getD]; rfl
              · rw [wOne_f h4 h7 h6, hfs0]; exact wq_zero _ _
          rcases hO with ⟨rfl, rfl⟩ | ⟨h0, id, k1, k2, rfl, q4⟩
          · have hn0 : now = [] := List.length_eq_zero_iff.1 hnl
            simp only [Nat.zero_mul, Nat.add_zero] at ht4 ht0 ht1 ht2
            (repeat' first | refine zcd ?_ | intro K' hK | (with_reducible refine zn hK ?_; clear hK) | (with_reducible refine x_turns ?_) | (with_reducible refine x_turn (by omega) ?_) | (with_reducible refine k_turn ?_) | ((with_reducible apply o_callF (g := 67) w_none); (case ha => exact ez0); (case hs => ((with_reducible apply rparts_nil) <;> (first | exact hk | omega))); (case' hk => rintro _ h' n' ⟨rfl, rfl, rfl⟩)) | ((with_reducible apply o_ap0 (t := 36) apT36 w_none); (case hs => exact ez0); (case hy => exact ez0); (case hsrc => exact src_row (rowOf_same _ _ _ _ _) rfl); (case hc => exact rfl); (case hm => omega); (case h0 => omega)) | ((with_reducible first | apply zo1 | apply zo2 | apply o_guard rfl | apply x_cond | apply k_e1 rfl | apply k_e2 rfl | apply k_e0 rfl | apply k_e3 rfl | apply k_e4 rfl); (case he => exact ez4 ht4 ht0 ht1 @min_lt); (try case hok => exact ezO); all_goals try (intro hb; (try simp only [hbs, reduceCtorEq] at hb); try exact ezX)) | ((with_reducible apply o_undef rfl); (case hb => exact ez0)))
            refine k_round (T.length - (1)) (by omega) ⟨1, .slice (some ⟨n' + 1, 0, none⟩) (1) (1), rfl, by omega, by simp (disch := first | assumption | omega | rfl | decide) only [go_sem, seval, tys] <;> rfl, by omega, trivial, (ezT hT2), .inr ⟨by omega, n' + 1, by omega, by omega, rfl, ?_⟩⟩
            rw [hrow, hW, hn0]
            simp (disch := first | assumption | omega | rfl | decide) only [go_sem, seval, tys]
            exact rfl
          · have w4 := rwOf_row q4
            (repeat' first | refine zcd ?_ | intro K' hK | (with_reducible refine zn hK ?_; clear hK) | (with_reducible refine x_turns ?_) | (with_reducible refine x_turn (by omega) ?_) | (with_reducible refine k_turn ?_) | ((with_reducible apply o_callF (g := 67) w_none); (case ha => exact ez0); (case hs => ((with_reducible apply rparts_nil) <;> (first | exact hk | omega))); (case' hk => rintro _ h' n' ⟨rfl, rfl, rfl⟩)) | ((with_reducible apply o_apR (t := 36) apT36 w_none); (case hs => exact ez1 w4); (case hy => exact ez1 w4); (case hsrc => exact src_row (rowOf_same _ _ _ _ _) rfl); (case hr => exact ez1 w4); (case hc => exact rfl); (case hm => omega); (case hli => omega); (case hln => omega); (case hcs => omega)) | ((with_reducible first | apply zo1 | apply zo2 | apply o_guard rfl | apply x_cond | apply k_e1 rfl | apply k_e2 rfl | apply k_e0 rfl | apply k_e3 rfl | apply k_e4 rfl); (case he => exact ez4 ht4 ht0 ht1 @min_lt); (try case hok => exact ezO); all_goals try (intro hb; (try simp only [hbs, reduceCtorEq] at hb); try exact ezX)) | ((with_reducible apply o_undef rfl); (case hb => exact ez0)))
            refine k_round (T.length - (i + 1)) (by omega) ⟨i + 1, .slice (some ⟨n' + 1, 0, none⟩) (i + 1) (i + 1), rfl, by omega, by simp (disch := first | assumption | omega | rfl | decide) only [go_sem, seval, tys] <;> rfl, by omega, trivial, (ezT hT2), .inr ⟨by omega, n' + 1, by omega, by omega, rfl, ?_⟩⟩
            rw [hrow, hW]
            simp (disch := first | assumption | omega | rfl | decide) only [go_sem, seval, tys, htw]
        · have h5 : t.kd = 5 := by
            by_cases h5 : t.kd = 5
            · exact h5
            · exact absurd (fine_nofs hfine h5) hfs0
          have hW := wOne_f (below := below) (now := now) (t := t) (by omega) (by omega) h6
          obtain ⟨fs, hfs⟩ : ∃ fs, t.fs = fs := ⟨_, rfl⟩
          have hfldr : ∀ q (hq : q < fs.length), 0 ≤ (fs[q]).2 ∧ (fs[q]).2 < i := fun q hq => by subst hfs; exact fine_fld hfine hq
          rw [hfs] at ht4 hfd2 hfl hfs0 hW
          rw [h5] at ht4 ht0
          have hfp : 0 < fs.length := List.length_pos_iff.2 hfs0
          rcases hO with ⟨h0, -⟩ | ⟨h0, id, k1, k2, rfl, q4⟩
          · have := hfldr 0 hfp; omega
          · have e4 := fun o => cellAt_row (off := o) q4
            have w4 := rwOf_row q4
            (repeat' first | refine zcd ?_ | intro K' hK | (with_reducible refine zn hK ?_; clear hK) | ((with_reducible apply o_callF (g := 67) w_none); (case ha => exact ez0); (case hs => ((with_reducible apply rparts_fld (fs := fs)); (case hk => exact hk); (case h6 => omega); (case h0 => exact hfs0); (case hr => exact ezD hfd2); (case hl2 => omega))); (case' hk => rintro _ h' n' ⟨rfl, rfl, rfl⟩)) | ((with_reducible first | apply zo1 | apply zo2 | apply o_guard rfl | apply x_cond | apply k_e1 rfl | apply k_e2 rfl | apply k_e0 rfl | apply k_e3 rfl | apply k_e4 rfl); (case he => exact ez3 ht4 ht0 ht1); (try case hok => exact ezO); all_goals try (intro hb; (try simp only [hbs, reduceCtorEq] at hb); try exact ezX)) | ((with_reducible apply o_undef rfl); (case hb => exact ez0)))
            refine x_loopF [8, 10, 11, 29, 30, 31, 32, 33, 34, 35, 36, 37, 38, 39, 40, 41, 42, 43, 44, 45, 46, 47, 48, 49, 50, 51, 52, 53, 54, 55, 56, 57] [8, 10] (fun m vs => ∃ q : Nat, m = fs.length - q ∧ q ≤ fs.length ∧ vs = [.int .i64 (wq now fs q), .int .i64 q]) fs.length rfl (by omega) ⟨0, rfl, by omega, by rw [wq_zero]; simp (disch := first | assumption | omega | rfl | decide) only [go_sem, seval, tys] <;> rfl⟩ ?_
            rintro m2 g2 _ ⟨q, rfl, hq, rfl⟩
            have hwq : 0 ≤ wq now fs q ∧ wq now fs q ≤ 5001 := by have := sumF_bnd hnb (fs.take q); unfold wq; omega
            by_cases hqf : q < fs.length
            · have hz := hfldr q hqf
              have hws := wq_succ hnb hqf
              have hpe : lget (iv (fs.map (·.2))) q = some (.int .i64 (fs[q]).2) := by rw [lget_eq, iv_get (by simpa using hqf)]; simp
              obtain ⟨ty, hty⟩ : ∃ ty, (fs[q]).2 = ty := ⟨_, rfl⟩
              rw [hty] at hz hws hpe
              have hzb := hnb.getD ty.toNat
              have hne : lget (iv now) ty.toNat = some (.int .i64 (now.getD ty.toNat 0)) := iv_lget (by omega)
              (repeat' first | refine zcd ?_ | intro K' hK | (with_reducible refine zn hK ?_; clear hK) | fail | ((with_reducible first | apply zo1 | apply zo2 | apply o_guard rfl | apply x_cond | apply k_e1 rfl | apply k_e2 rfl | apply k_e0 rfl | apply k_e3 rfl | apply k_e4 rfl); (case he => exact ez7 ht0 hpe e4 hne @min_lt @Int.one_mul hws); (try case hok => exact ezO); all_goals try (intro hb; (try simp only [hbs, reduceCtorEq] at hb); try exact ezX)) | ((with_reducible apply o_undef rfl); (case hb => exact ez0)))
              refine k_round (fs.length - (q + 1)) (by omega) ⟨⟨rfl, rfl⟩, q + 1, rfl, by omega, by simp (disch := first | assumption | omega | rfl | decide) only [go_sem, seval, tys, hws]; exact rfl⟩
            · obtain rfl : q = fs.length := by omega
              rw [← hW]
              (repeat' first | refine zcd ?_ | intro K' hK | (with_reducible refine zn hK ?_; clear hK) | ((with_reducible apply o_apR (t := 36) apT36 w_none); (case hs => exact ez1 w4); (case hy => exact ez1 w4); (case hsrc => exact src_row (rowOf_same _ _ _ _ _) rfl); (case hr => exact ez1 w4); (case hc => exact rfl); (case hm => omega); (case hli => omega); (case hln => omega); (case hcs => omega)) | ((with_reducible first | apply zo1 | apply zo2 | apply o_guard rfl | apply x_cond | apply k_e1 rfl | apply k_e2 rfl | apply k_e0 rfl | apply k_e3 rfl | apply k_e4 rfl); (case he => exact ez2 ht0 w4); (try case hok => exact ezO); all_goals try (intro hb; (try simp only [hbs, reduceCtorEq] at hb); try exact ezX)) | ((with_reducible apply o_undef rfl); (case hb => exact ez0)))
              refine k_round (T.length - (i + 1)) (by omega) ⟨i + 1, .slice (some ⟨n' + 1 + 1, 0, none⟩) (i + 1) (i + 1), rfl, by omega, by simp (disch := first | assumption | omega | rfl | decide) only [go_sem, seval, tys] <;> rfl, by omega, trivial, (ezT hT2), .inr ⟨by omega, n' + 1 + 1, by omega, by omega, rfl, ?_⟩⟩
              rw [hrow]
              simp (disch := first | assumption | omega | rfl | decide) only [go_sem, seval, tys, htw]
    · obtain rfl : i = T.length := by omega
      rcases hO with ⟨h0, -⟩ | ⟨h0, id, k1, k2, rfl, q4⟩
      · omega
      · rw [List.take_length] at q4
        (repeat' first | refine zcd ?_ | intro K' hK | (with_reducible refine zn hK ?_; clear hK) | fail | ((with_reducible first | apply zo1 | apply zo2 | apply o_guard rfl | apply x_cond | apply k_e1 rfl | apply k_e2 rfl | apply k_e0 rfl | apply k_e3 rfl | apply k_e4 rfl); (case he => exact ez0); (try case hok => exact ezO); all_goals try (intro hb; (try simp only [hbs, reduceCtorEq] at hb); try exact ezX)) | ((with_reducible apply o_undef rfl); (case hb => exact ez0)))
        refine sw_row ezI rfl (by omega) (by simp (disch := first | assumption | omega | rfl | decide) only [go_sem, seval, tys, q4]; exact rfl) (iv_idA _ _) ezR ?_
        exact ⟨rfl, rfl, rfl⟩
end Go.Proofs.Ytkngdfbibffdcaa.Ce
namespace Go.Proofs.Ytkngdfbibffdcaa.Ce
open Go.RowKit
variable (k d cl : Nat) (h : Hp) (n : Nat)
theorem rwidths_s (hk : 30000 ≤ k) (dep e : Nat) (ih : ∀ (cl : Nat) (h : Hp) (n : Nat) (A : Option Addr) (T : List Tp) (c : Nat) (hT : TabH h n A T) (hl : T.length ≤ 32) (h0T : 0 < T.length) (hF : Fine T), SQ k (d + e + 1) cl 56 [.slice A T.length c, .int .i64 (dep : Int)] h n fun v h' n' => v = .slice (some ⟨n, 0, none⟩) T.length T.length ∧ h' = h.set n (.row 3 false (iv (wD T dep))) ∧ n' = n + 1) (hdp : dep ≤ 100) (A : Option Addr) (T : List Tp) (c : Nat) (hT : TabH h n A T) (hl : T.length ≤ 32) (h0T : 0 < T.length) (hF : Fine T) :
    SQ k (d + e + 2) cl 56 [.slice A T.length c, .int .i64 ((dep + 1 : Nat) : Int)] h n fun v h' n' => v = .slice (some ⟨n, 0, none⟩) T.length T.length ∧ h' = h.set n (.row 3 false (iv (wD T (dep + 1)))) ∧ n' = n + 1 := by
  obtain ⟨below, hbz⟩ : ∃ b, b = wD T dep := ⟨_, rfl⟩
  have hBb : Bnd below := by rw [hbz]; exact wD_bnd hF dep
  have hbl : below.length = T.length := by rw [hbz]; exact wD_length T dep
  have hres : wD T (dep + 1) = wRow below T := by rw [hbz]; rfl
  have hdd : ((dep + 1 : Nat) : Int) - 1 = (dep : Int) := by omega
  rw [hres]
  refine enter Try.func56 (by kernel_rfl) rfl (by kernel_rfl) rfl rfl rfl ?_
  (repeat' first | refine zcd ?_ | intro K' hK | (with_reducible refine zn hK ?_; clear hK) | ((with_reducible apply o_callF (g := 56) w_none); (case ha => exact ez0); (case hs => (refine (ih _ _ _ _ _ _ hT hl h0T hF))); (case' hk => rintro _ h' n' ⟨rfl, rfl, rfl⟩)) | ((with_reducible first | apply zo1 | apply zo2 | apply o_guard rfl | apply x_cond | apply k_e1 rfl | apply k_e2 rfl | apply k_e0 rfl | apply k_e3 rfl | apply k_e4 rfl); (case he => exact ez1 hdd); (try case hok => exact ezO); all_goals try (intro hb; (try simp only [hbs, reduceCtorEq] at hb); try exact ezX)) | ((with_reducible apply o_undef rfl); (case hb => exact ez0)))
  rw [← hbz]
  refine x_loopV [6, 7, 8, 9, 10, 11, 18, 19, 20, 21, 22, 23, 24, 25, 26, 27, 28, 29, 30, 31, 32, 33, 34, 35, 36, 37, 38, 39, 40, 41, 42, 43, 44, 45, 46, 47, 48, 49, 50, 51, 52, 53, 54, 55, 56, 57, 58, 59, 60, 61, 62, 63, 64, 65, 66, 67, 68, 69, 70, 71, 72, 73, 74, 75, 76, 77, 78, 79, 80, 81, 82, 83, 84, 85, 86, 87, 88, 89, 90, 91, 92, 93, 94, 95, 96, 97, 98, 99, 100, 101, 102, 103, 104] [6, 7] (fun m vs h' n' => ∃ (i : Nat) (O : Value), m = T.length - i ∧ i ≤ T.length ∧ vs = [O, .int .i64 i] ∧ n + 1 ≤ n' ∧ rowOf h' n = some (3, false, iv below) ∧ TabH h' n A T ∧ ((i = 0 ∧ O = .slice none 0 0) ∨ (0 < i ∧ ∃ id, n + 1 ≤ id ∧ id < n' ∧ O = .slice (some ⟨id, 0, none⟩) i i ∧ rowOf h' id = some (3, false, iv (wRow below (T.take i)))))) T.length rfl (by omega) ?_ ?_
  · exact ⟨0, .slice none 0 0, rfl, by omega, by simp (disch := first | assumption | omega | rfl | decide) only [go_sem, seval, tys] <;> rfl, by omega, by simp (disch := first | assumption | omega | rfl | decide) only [go_sem, seval, tys], hT.set (Nat.le_refl _) _, .inl ⟨rfl, rfl⟩⟩
  · rintro m g _ h' n' ⟨i, O, rfl, hi, rfl, hn, qb, hT2, hO⟩
    have eb := fun o => cellAt_row (off := o) qb
    by_cases hiT : i < T.length
    · obtain ⟨tid, toff, hA, htid, ht4, ht0, ht1, ht2, -⟩ := hT2.at_ hiT
      have hfine := hF i hiT
      have hnb := wRow_bnd hBb hF i hi
      have hrt := wRow_take below hiT
      have hnl := wRow_tlen below hi
      obtain ⟨t, htt⟩ : ∃ t, T[i] = t := ⟨_, rfl⟩
      have hmem : t ∈ T := by rw [← htt]; exact List.getElem_mem hiT
      have hfd2 := hT2.fd t hmem
      rw [htt] at ht4 ht0 ht1 ht2 hfine hrt
      have hfl := fine_len hfine
      obtain ⟨now, hnow⟩ : ∃ now, wRow below (T.take i) = now := ⟨_, rfl⟩
      rw [hnow] at hnb hrt hnl hO
      have hrow : iv (wRow below (T.take (i + 1))) = iv now ++ [.int .i64 (wOne below now t)] := by rw [hrt, iv_app]; rfl
      have htw : (iv now).take i = iv now := List.take_of_length_le (by rw [iv_length, hnl]; omega)
      have hil : (iv now).length = i := by rw [iv_length, hnl]
      have hwb := wOne_bnd hBb hnb hfine
      subst hA
      by_cases h6 : t.kd = 6
      · have har := fine_arr hfine h6
        have hfs := fine_nofs hfine (by omega)
        have hyb := hnb.getD t.el.toNat
        have hW := wOne_6 (below := below) (now := now) h6 hfs
        have hmul : 0 ≤ t.ln * now.getD t.el.toNat 0 ∧ t.ln * now.getD t.el.toNat 0 ≤ 16 * 5001 := ⟨Int.mul_nonneg (by omega) hyb.1, Int.mul_le_mul har.2.2.2 hyb.2 hyb.1 (by omega)⟩
        have hiv : ∀ x, lget (iv [x]) 0 = some (.int .i64 x) := fun x => rfl
        have hne : lget (iv now) t.el.toNat = some (.int .i64 (now.getD t.el.toNat 0)) := iv_lget (by omega)
        rw [h6, hfs] at ht4
        rw [List.length_nil] at ht4
        rw [h6] at ht0
        rcases hO with ⟨h0, -⟩ | ⟨h0, id, k1, k2, rfl, q4⟩
        · omega
        · have e4 := fun o => cellAt_row (off := o) q4
          have w4 := rwOf_row q4
          (repeat' first | refine zcd ?_ | intro K' hK | (with_reducible refine zn hK ?_; clear hK) | (with_reducible refine x_turns ?_) | (with_reducible refine x_turn (by omega) ?_) | (with_reducible refine k_turn ?_) | ((with_reducible apply o_callF (g := 67) w_none); (case ha => exact ez0); (case hs => ((with_reducible apply rparts_arr0) <;> (first | exact hk | omega))); (case' hk => rintro _ h' n' ⟨rfl, rfl, rfl⟩)) | ((with_reducible apply o_apR (t := 36) apT36 w_none); (case hs => exact ez1 w4); (case hy => exact ez1 w4); (case hsrc => exact src_row (rowOf_same _ _ _ _ _) rfl); (case hr => exact ez1 w4); (case hc => exact rfl); (case hm => omega); (case hli => omega); (case hln => omega); (case hcs => omega)) | ((with_reducible first | apply zo1 | apply zo2 | apply o_guard rfl | apply x_cond | apply k_e1 rfl | apply k_e2 rfl | apply k_e0 rfl | apply k_e3 rfl | apply k_e4 rfl); (case he => exact ez9 ht4 ht0 ht1 ht2 e4 hne hiv @min_lt eb); (try case hok => exact ezO); all_goals try (intro hb; (try simp only [hbs, reduceCtorEq] at hb); try exact ezX)) | ((with_reducible apply o_undef rfl); (case hb => exact ez0)))
          refine k_round (T.length - (i + 1)) (by omega) ⟨i + 1, .slice (some ⟨n' + 1 + 1, 0, none⟩) (i + 1) (i + 1), rfl, by omega, by simp (disch := first | assumption | omega | rfl | decide) only [go_sem, seval, tys] <;> rfl, by omega, by simp (disch := first | assumption | omega | rfl | decide) only [go_sem, seval, tys, qb], (ezT hT2), .inr ⟨by omega, n' + 1 + 1, by omega, by omega, rfl, ?_⟩⟩
          rw [hrow, hW]
          simp (disch := first | assumption | omega | rfl | decide) only [go_sem, seval, tys, htw]
      · by_cases hfs0 : t.fs = []
        · rw [hfs0, List.length_nil] at ht4
          by_cases h47 : t.kd = 4 ∨ t.kd = 7
          · have hel := fine_el hfine h47
            have hxb := hBb.getD t.el.toNat
            have hbe : lget (iv below) t.el.toNat = some (.int .i64 (below.getD t.el.toNat 0)) := iv_lget (by omega)
            rcases h47 with h4 | h7
            · have hW := wOne_4 (below := below) (now := now) h4 hfs0
              rw [h4] at ht4 ht0
              rcases hO with ⟨rfl, rfl⟩ | ⟨h0, id, k1, k2, rfl, q4⟩
              · have hn0 : now = [] := List.length_eq_zero_iff.1 hnl
                simp only [Nat.zero_mul, Nat.add_zero] at ht4 ht0 ht1 ht2
                (repeat' first | refine zcd ?_ | intro K' hK | (with_reducible refine zn hK ?_; clear hK) | (with_reducible refine x_turns ?_) | (with_reducible refine x_turn (by omega) ?_) | (with_reducible refine k_turn ?_) | ((with_reducible apply o_callF (g := 67) w_none); (case ha => exact ez0); (case hs => ((with_reducible apply rparts_nil) <;> (first | exact hk | omega))); (case' hk => rintro _ h' n' ⟨rfl, rfl, rfl⟩)) | ((with_reducible apply o_ap0 (t := 36) apT36 w_none); (case hs => exact ez0); (case hy => exact ez0); (case hsrc => exact src_row (rowOf_same _ _ _ _ _) rfl); (case hc => exact rfl); (case hm => omega); (case h0 => omega)) | ((with_reducible first | apply zo1 | apply zo2 | apply o_guard rfl | apply x_cond | apply k_e1 rfl | apply k_e2 rfl | apply k_e0 rfl | apply k_e3 rfl | apply k_e4 rfl); (case he => exact ez6 ht4 ht0 ht1 @min_lt eb hbe); (try case hok => exact ezO); all_goals try (intro hb; (try simp only [hbs, reduceCtorEq] at hb); try exact ezX)) | ((with_reducible apply o_undef rfl); (case hb => exact ez0)))
                refine k_round (T.length - (1)) (by omega) ⟨1, .slice (some ⟨n' + 1, 0, none⟩) (1) (1), rfl, by omega, by simp (disch := first | assumption | omega | rfl | decide) only [go_sem, seval, tys] <;> rfl, by omega, by simp (disch := first | assumption | omega | rfl | decide) only [go_sem, seval, tys, qb], (ezT hT2), .inr ⟨by omega, n' + 1, by omega, by omega, rfl, ?_⟩⟩
                rw [hrow, hW, hn0]
                simp (disch := first | assumption | omega | rfl | decide) only [go_sem, seval, tys]
                exact rfl
              · have w4 := rwOf_row q4
                (repeat' first | refine zcd ?_ | intro K' hK | (with_reducible refine zn hK ?_; clear hK) | (with_reducible refine x_turns ?_) | (with_reducible refine x_turn (by omega) ?_) | (with_reducible refine k_turn ?_) | ((with_reducible apply o_callF (g := 67) w_none); (case ha => exact ez0); (case hs => ((with_reducible apply rparts_nil) <;> (first | exact hk | omega))); (case' hk => rintro _ h' n' ⟨rfl, rfl, rfl⟩)) | ((with_reducible apply o_apR (t := 36) apT36 w_none); (case hs => exact ez1 w4); (case hy => exact ez1 w4); (case hsrc => exact src_row (rowOf_same _ _ _ _ _) rfl); (case hr => exact ez1 w4); (case hc => exact rfl); (case hm => omega); (case hli => omega); (case hln => omega); (case hcs => omega)) | ((with_reducible first | apply zo1 | apply zo2 | apply o_guard rfl | apply x_cond | apply k_e1 rfl | apply k_e2 rfl | apply k_e0 rfl | apply k_e3 rfl | apply k_e4 rfl); (case he => exact ez6 ht4 ht0 ht1 @min_lt eb hbe); (try case hok => exact ezO); all_goals try (intro hb; (try simp only [hbs, reduceCtorEq] at hb); try exact ezX)) | ((with_reducible apply o_undef rfl); (case hb => exact ez0)))
                refine k_round (T.length - (i + 1)) (by omega) ⟨i + 1, .slice (some ⟨n' + 1, 0, none⟩) (i + 1) (i + 1), rfl, by omega, by simp (disch := first | assumption | omega | rfl | decide) only [go_sem, seval, tys] <;> rfl, by omega, by simp (disch := first | assumption | omega | rfl | decide) only [go_sem, seval, tys, qb], (ezT hT2), .inr ⟨by omega, n' + 1, by omega, by omega, rfl, ?_⟩⟩
                rw [hrow, hW]
                simp (disch := first | assumption | omega | rfl | decide) only [go_sem, seval, tys, htw]
            · have hW := wOne_7 (below := below) (now := now) h7 hfs0
              rw [h7] at ht4 ht0
              rcases hO with ⟨rfl, rfl⟩ | ⟨h0, id, k1, k2, rfl, q4⟩
              · have hn0 : now = [] := List.length_eq_zero_iff.1 hnl
                simp only [Nat.zero_mul, Nat.add_zero] at ht4 ht0 ht1 ht2
                (repeat' first | refine zcd ?_ | intro K' hK | (with_reducible refine zn hK ?_; clear hK) | (with_reducible refine x_turns ?_) | (with_reducible refine x_turn (by omega) ?_) | (with_reducible refine k_turn ?_) | ((with_reducible apply o_callF (g := 67) w_none); (case ha => exact ez0); (case hs => ((with_reducible apply rparts_nil) <;> (first | exact hk | omega))); (case' hk => rintro _ h' n' ⟨rfl, rfl, rfl⟩)) | ((with_reducible apply o_ap0 (t := 36) apT36 w_none); (case hs => exact ez0); (case hy => exact ez0); (case hsrc => exact src_row (rowOf_same _ _ _ _ _) rfl); (case hc => exact rfl); (case hm => omega); (case h0 => omega)) | ((with_reducible first | apply zo1 | apply zo2 | apply o_guard rfl | apply x_cond | apply k_e1 rfl | apply k_e2 rfl | apply k_e0 rfl | apply k_e3 rfl | apply k_e4 rfl); (case he => exact ez6 ht4 ht0 ht1 @min_lt eb hbe); (try case hok => exact ezO); all_goals try (intro hb; (try simp only [hbs, reduceCtorEq] at hb); try exact ezX)) | ((with_reducible apply o_undef rfl); (case hb => exact ez0)))
                refine k_round (T.length - (1)) (by omega) ⟨1, .slice (some ⟨n' + 1, 0, none⟩) (1) (1), rfl, by omega, by simp (disch := first | assumption | omega | rfl | decide) only [go_sem, seval, tys] <;> rfl, by omega, by simp (disch := first | assumption | omega | rfl | decide) only [go_sem, seval, tys, qb], (ezT hT2), .inr ⟨by omega, n' + 1, by omega, by omega, rfl, ?_⟩⟩
                rw [hrow, hW, hn0]
                simp (disch := first | assumption | omega | rfl | decide) only [go_sem, seval, tys]
                exact rfl
              · have w4 := rwOf_row q4
                (repeat' first | refine zcd ?_ | intro K' hK | (with_reducible refine zn hK ?_; clear hK) | (with_reducible refine x_turns ?_) | (with_reducible refine x_turn (by omega) ?_) | (with_reducible refine k_turn ?_) | ((with_reducible apply o_callF (g := 67) w_none); (case ha => exact ez0); (case hs => ((with_reducible apply rparts_nil) <;> (first | exact hk | omega))); (case' hk => rintro _ h' n' ⟨rfl, rfl, rfl⟩)) | ((with_reducible apply o_apR (t := 36) apT36 w_none); (case hs => exact ez1 w4); (case hy => exact ez1 w4); (case hsrc => exact src_row (rowOf_same _ _ _ _ _) rfl); (case hr => exact ez1 w4); (case hc => exact rfl); (case hm => omega); (case hli => omega); (case hln => omega); (case hcs => omega)) | ((with_reducible first | apply zo1 | apply zo2 | apply o_guard rfl | apply x_cond | apply k_e1 rfl | apply k_e2 rfl | apply k_e0 rfl | apply k_e3 rfl | apply k_e4 rfl); (case he => exact ez6 ht4 ht0 ht1 @min_lt eb hbe); (try case hok => exact ezO); all_goals try (intro hb; (try simp only [hbs, reduceCtorEq] at hb); try exact ezX)) | ((with_reducible apply o_undef rfl); (case hb => exact ez0)))
                refine k_round (T.length - (i + 1)) (by omega) ⟨i + 1, .slice (some ⟨n' + 1, 0, none⟩) (i + 1) (i + 1), rfl, by omega, by simp (disch := first | assumption | omega | rfl | decide) only [go_sem, seval, tys] <;> rfl, by omega, by simp (disch := first | assumption | omega | rfl | decide) only [go_sem, seval, tys, qb], (ezT hT2), .inr ⟨by omega, n' + 1, by omega, by omega, rfl, ?_⟩⟩
                rw [hrow, hW]
                simp (disch := first | assumption | omega | rfl | decide) only [go_sem, seval, tys, htw]
          · have hW : wOne below now t = 1 := by rw [wOne_f (by omega) (by omega) h6, hfs0]; exact wq_zero _ _
            rcases hO with ⟨rfl, rfl⟩ | ⟨h0, id, k1, k2, rfl, q4⟩
            · have hn0 : now = [] := List.length_eq_zero_iff.1 hnl
              simp only [Nat.zero_mul, Nat.add_zero] at ht4 ht0 ht1 ht2
              (repeat' first | refine zcd ?_ | intro K' hK | (with_reducible refine zn hK ?_; clear hK) | (with_reducible refine x_turns ?_) | (with_reducible refine x_turn (by omega) ?_) | (with_reducible refine k_turn ?_) | ((with_reducible apply o_callF (g := 67) w_none); (case ha => exact ez0); (case hs => ((with_reducible apply rparts_nil) <;> (first | exact hk | omega))); (case' hk => rintro _ h' n' ⟨rfl, rfl, rfl⟩)) | ((with_reducible apply o_ap0 (t := 36) apT36 w_none); (case hs => exact ez0); (case hy => exact ez0); (case hsrc => exact src_row (rowOf_same _ _ _ _ _) rfl); (case hc => exact rfl); (case hm => omega); (case h0 => omega)) | ((with_reducible first | apply zo1 | apply zo2 | apply o_guard rfl | apply x_cond | apply k_e1 rfl | apply k_e2 rfl | apply k_e0 rfl | apply k_e3 rfl | apply k_e4 rfl); (case he => exact ez5 ht4 ht0 ht1 @min_lt eb); (try case hok => exact ezO); all_goals try (intro hb; (try simp only [hbs, reduceCtorEq] at hb); try exact ezX)) | ((with_reducible apply o_undef rfl); (case hb => exact ez0)))
              refine k_round (T.length - (1)) (by omega) ⟨1, .slice (some ⟨n' + 1, 0, none⟩) (1) (1), rfl, by omega, by simp (disch := first | assumption | omega | rfl | decide) only [go_sem, seval, tys] <;> rfl, by omega, by simp (disch := first | assumption | omega | rfl | decide) only [go_sem, seval, tys, qb], (ezT hT2), .inr ⟨by omega, n' + 1, by omega, by omega, rfl, ?_⟩⟩
              rw [hrow, hW, hn0]
              simp (disch := first | assumption | omega | rfl | decide) only [go_sem, seval, tys]
              exact rfl
            · have w4 := rwOf_row q4
              (repeat' first | refine zcd ?_ | intro K' hK | (with_reducible refine zn hK ?_; clear hK) | (with_reducible refine x_turns ?_) | (with_reducible refine x_turn (by omega) ?_) | (with_reducible refine k_turn ?_) | ((with_reducible apply o_callF (g := 67) w_none); (case ha => exact ez0); (case hs => ((with_reducible apply rparts_nil) <;> (first | exact hk | omega))); (case' hk => rintro _ h' n' ⟨rfl, rfl, rfl⟩)) | ((with_reducible apply o_apR (t := 36) apT36 w_none); (case hs => exact ez1 w4); (case hy => exact ez1 w4); (case hsrc => exact src_row (rowOf_same _ _ _ _ _) rfl); (case hr => exact ez1 w4); (case hc => exact rfl); (case hm => omega); (case hli => omega); (case hln => omega); (case hcs => omega)) | ((with_reducible first | apply zo1 | apply zo2 | apply o_guard rfl | apply x_cond | apply k_e1 rfl | apply k_e2 rfl | apply k_e0 rfl | apply k_e3 rfl | apply k_e4 rfl); (case he => exact ez5 ht4 ht0 ht1 @min_lt eb); (try case hok => exact ezO); all_goals try (intro hb; (try simp only [hbs, reduceCtorEq] at hb); try exact ezX)) | ((with_reducible apply o_undef rfl); (case hb => exact ez0)))
              refine k_round (T.length - (i + 1)) (by omega) ⟨i + 1, .slice (some ⟨n' + 1, 0, none⟩) (i + 1) (i + 1), rfl, by omega, by simp (disch := first | assumption | omega | rfl | decide) only [go_sem, seval, tys] <;> rfl, by omega, by simp (disch := first | assumption | omega | rfl | decide) only [go_sem, seval, tys, qb], (ezT hT2), .inr ⟨by omega, n' + 1, by omega, by omega, rfl, ?_⟩⟩
              rw [hrow, hW]
              simp (disch := first | assumption | omega | rfl | decide) only [go_sem, seval, tys, htw]
        · have h5 : t.kd = 5 := by
            by_cases h5 : t.kd = 5
            · exact h5
            · exact absurd (fine_nofs hfine h5) hfs0
          have hW := wOne_f (below := below) (now := now) (t := t) (by omega) (by omega) h6
          obtain ⟨fs, hfs⟩ : ∃ fs, t.fs = fs := ⟨_, rfl⟩
          have hfldr : ∀ q (hq : q < fs.length), 0 ≤ (fs[q]).2 ∧ (fs[q]).2 < i := fun q hq => by subst hfs; exact fine_fld hfine hq
          rw [hfs] at ht4 hfd2 hfl hfs0 hW
          rw [h5] at ht4 ht0
          have hfp : 0 < fs.length := List.length_pos_iff.2 hfs0
          rcases hO with ⟨h0, -⟩ | ⟨h0, id, k1, k2, rfl, q4⟩
          · have := hfldr 0 hfp; omega
          · have e4 := fun o => cellAt_row (off := o) q4
            have w4 := rwOf_row q4
            (repeat' first | refine zcd ?_ | intro K' hK | (with_reducible refine zn hK ?_; clear hK) | ((with_reducible apply o_callF (g := 67) w_none); (case ha => exact ez0); (case hs => ((with_reducible apply rparts_fld (fs := fs)); (case hk => exact hk); (case h6 => omega); (case h0 => exact hfs0); (case hr => exact ezD hfd2); (case hl2 => omega))); (case' hk => rintro _ h' n' ⟨rfl, rfl, rfl⟩)) | ((with_reducible first | apply zo1 | apply zo2 | apply o_guard rfl | apply x_cond | apply k_e1 rfl | apply k_e2 rfl | apply k_e0 rfl | apply k_e3 rfl | apply k_e4 rfl); (case he => exact ez3 ht4 ht0 ht1); (try case hok => exact ezO); all_goals try (intro hb; (try simp only [hbs, reduceCtorEq] at hb); try exact ezX)) | ((with_reducible apply o_undef rfl); (case hb => exact ez0)))
            refine x_loopF [8, 10, 11, 29, 30, 31, 32, 33, 34, 35, 36, 37, 38, 39, 40, 41, 42, 43, 44, 45, 46, 47, 48, 49, 50, 51, 52, 53, 54, 55, 56, 57] [8, 10] (fun m vs => ∃ q : Nat, m = fs.length - q ∧ q ≤ fs.length ∧ vs = [.int .i64 (wq now fs q), .int .i64 q]) fs.length rfl (by omega) ⟨0, rfl, by omega, by rw [wq_zero]; simp (disch := first | assumption | omega | rfl | decide) only [go_sem, seval, tys] <;> rfl⟩ ?_
            rintro m2 g2 _ ⟨q, rfl, hq, rfl⟩
            have hwq : 0 ≤ wq now fs q ∧ wq now fs q ≤ 5001 := by have := sumF_bnd hnb (fs.take q); unfold wq; omega
            by_cases hqf : q < fs.length
            · have hz := hfldr q hqf
              have hws := wq_succ hnb hqf
              have hpe : lget (iv (fs.map (·.2))) q = some (.int .i64 (fs[q]).2) := by rw [lget_eq, iv_get (by simpa using hqf)]; simp
              obtain ⟨ty, hty⟩ : ∃ ty, (fs[q]).2 = ty := ⟨_, rfl⟩
              rw [hty] at hz hws hpe
              have hzb := hnb.getD ty.toNat
              have hne : lget (iv now) ty.toNat = some (.int .i64 (now.getD ty.toNat 0)) := iv_lget (by omega)
              (repeat' first | refine zcd ?_ | intro K' hK | (with_reducible refine zn hK ?_; clear hK) | fail | ((with_reducible first | apply zo1 | apply zo2 | apply o_guard rfl | apply x_cond | apply k_e1 rfl | apply k_e2 rfl | apply k_e0 rfl | apply k_e3 rfl | apply k_e4 rfl); (case he => exact ez7 ht0 hpe e4 hne @min_lt @Int.one_mul hws); (try case hok => exact ezO); all_goals try (intro hb; (try simp only [hbs, reduceCtorEq] at hb); try exact ezX)) | ((with_reducible apply o_undef rfl); (case hb => exact ez0)))
              refine k_round (fs.length - (q + 1)) (by omega) ⟨⟨rfl, rfl⟩, q + 1, rfl, by omega, by simp (disch := first | assumption | omega | rfl | decide) only [go_sem, seval, tys, hws]; exact rfl⟩
            · obtain rfl : q = fs.length := by omega
              rw [← hW]
              (repeat' first | refine zcd ?_ | intro K' hK | (with_reducible refine zn hK ?_; clear hK) | ((with_reducible apply o_apR (t := 36) apT36 w_none); (case hs => exact ez1 w4); (case hy => exact ez1 w4); (case hsrc => exact src_row (rowOf_same _ _ _ _ _) rfl); (case hr => exact ez1 w4); (case hc => exact rfl); (case hm => omega); (case hli => omega); (case hln => omega); (case hcs => omega)) | ((with_reducible first | apply zo1 | apply zo2 | apply o_guard rfl | apply x_cond | apply k_e1 rfl | apply k_e2 rfl | apply k_e0 rfl | apply k_e3 rfl | apply k_e4 rfl); (case he => exact ez2 ht0 w4); (try case hok => exact ezO); all_goals try (intro hb; (try simp only [hbs, reduceCtorEq] at hb); try exact ezX)) | ((with_reducible apply o_undef rfl); (case hb => exact ez0)))
              refine k_round (T.length - (i + 1)) (by omega) ⟨i + 1, .slice (some ⟨n' + 1 + 1, 0, none⟩) (i + 1) (i + 1), rfl, by omega, by simp (disch := first | assumption | omega | rfl | decide) only [go_sem, seval, tys] <;> rfl, by omega, by simp (disch := first | assumption | omega | rfl | decide) only [go_sem, seval, tys, qb], (ezT hT2), .inr ⟨by omega, n' + 1 + 1, by omega, by omega, rfl, ?_⟩⟩
              rw [hrow]
              simp (disch := first | assumption | omega | rfl | decide) only [go_sem, seval, tys, htw]
    · obtain rfl : i = T.length := by omega
      rcases hO with ⟨h0, -⟩ | ⟨h0, id, k1, k2, rfl, q4⟩
      · omega
      · rw [List.take_length] at q4
        (repeat' first | refine zcd ?_ | intro K' hK | (with_reducible refine zn hK ?_; clear hK) | fail | ((with_reducible first | apply zo1 | apply zo2 | apply o_guard rfl | apply x_cond | apply k_e1 rfl | apply k_e2 rfl | apply k_e0 rfl | apply k_e3 rfl | apply k_e4 rfl); (case he => exact ez0); (try case hok => exact ezO); all_goals try (intro hb; (try simp only [hbs, reduceCtorEq] at hb); try exact ezX)) | ((with_reducible apply o_undef rfl); (case hb => exact ez0)))
        refine sw_row ezI rfl (by omega) (by simp (disch := first | assumption | omega | rfl | decide) only [go_sem, seval, tys, q4]; exact rfl) (iv_idA _ _) ezR ?_
        exact ⟨rfl, rfl, rfl⟩
end Go.Proofs.Ytkngdfbibffdcaa.Ce
namespace Go.Proofs.Ytkngdfbibffdcaa.Ce
open Go.RowKit
variable (k d cl : Nat) (h : Hp) (n : Nat)
theorem rwidths_3 (hk : 30000 ≤ k) (A : Option Addr) (T : List Tp) (c : Nat) (hT : TabH h n A T) (hl : T.length ≤ 32) (h0T : 0 < T.length) (hF : Fine T) :
    SQ k (d + 5) cl 56 [.slice A T.length c, .int .i64 3] h n fun v h' n' => v = .slice (some ⟨n, 0, none⟩) T.length T.length ∧ h' = h.set n (.row 3 false (iv (wD T 3))) ∧ n' = n + 1 :=
  rwidths_s k d cl h n hk 2 3 (fun cl h n A T c hT hl h0T hF => rwidths_s k d cl h n hk 1 2 (fun cl h n A T c hT hl h0T hF => rwidths_s k d cl h n hk 0 1 (fun cl h n A T c hT hl h0T hF => rwidths_0 k d cl h n hk A T c hT hl h0T hF) (by omega) A T c hT hl h0T hF) (by omega) A T c hT hl h0T hF) (by omega) A T c hT hl h0T hF
theorem rwidths_n0 (hk : 30000 ≤ k) (A : Option Addr) (c : Nat) :
    SQ k (d + 2) cl 56 [.slice A 0 c, .int .i64 0] h n fun v h' n' => v = .slice none 0 0 ∧ h' = h ∧ n' = n := by
  refine enter Try.func56 (by kernel_rfl) rfl (by kernel_rfl) rfl rfl rfl ?_
  (repeat' first | refine zcd ?_ | intro K' hK | (with_reducible refine zn hK ?_; clear hK) | (with_reducible refine x_turns ?_) | (with_reducible refine x_turn (by omega) ?_) | (with_reducible refine k_turn ?_) | ((with_reducible first | apply zo1 | apply zo2 | apply o_guard rfl | apply x_cond | apply k_e1 rfl | apply k_e2 rfl | apply k_e0 rfl | apply k_e3 rfl | apply k_e4 rfl); (case he => exact ez0); (try case hok => exact ezO); all_goals try (intro hb; (try simp only [hbs, reduceCtorEq] at hb); try exact ezX)) | ((with_reducible apply o_undef rfl); (case hb => exact ez0)))
  all_goals exact sw_flat rfl rfl ⟨rfl, rfl, rfl⟩
theorem rwidths_n1 (hk : 30000 ≤ k) (A : Option Addr) (c : Nat) :
    SQ k (d + 3) cl 56 [.slice A 0 c, .int .i64 1] h n fun v h' n' => v = .slice none 0 0 ∧ h' = h ∧ n' = n := by
  refine enter Try.func56 (by kernel_rfl) rfl (by kernel_rfl) rfl rfl rfl ?_
  (repeat' first | refine zcd ?_ | intro K' hK | (with_reducible refine zn hK ?_; clear hK) | (with_reducible refine x_turns ?_) | (with_reducible refine x_turn (by omega) ?_) | (with_reducible refine k_turn ?_) | ((with_reducible apply o_callF (g := 56) w_none); (case ha => exact ez0); (case hs => exact rwidths_n0 (hk := hk) ..); (case' hk => rintro _ h' n' ⟨rfl, rfl, rfl⟩)) | ((with_reducible first | apply zo1 | apply zo2 | apply o_guard rfl | apply x_cond | apply k_e1 rfl | apply k_e2 rfl | apply k_e0 rfl | apply k_e3 rfl | apply k_e4 rfl); (case he => exact ez0); (try case hok => exact ezO); all_goals try (intro hb; (try simp only [hbs, reduceCtorEq] at hb); try exact ezX)) | ((with_reducible apply o_undef rfl); (case hb => exact ez0)))
  all_goals exact sw_flat rfl rfl ⟨rfl, rfl, rfl⟩
theorem rwidths_n2 (hk : 30000 ≤ k) (A : Option Addr) (c : Nat) :
    SQ k (d + 4) cl 56 [.slice A 0 c, .int .i64 2] h n fun v h' n' => v = .slice none 0 0 ∧ h' = h ∧ n' = n := by
  refine enter Try.func56 (by kernel_rfl) rfl (by kernel_rfl) rfl rfl rfl ?_
  (repeat' first | refine zcd ?_ | intro K' hK | (with_reducible refine zn hK ?_; clear hK) | (with_reducible refine x_turns ?_) | (with_reducible refine x_turn (by omega) ?_) | (with_reducible refine k_turn ?_) | ((with_reducible apply o_callF (g := 56) w_none); (case ha => exact ez0); (case hs => exact rwidths_n1 (hk := hk) ..); (case' hk => rintro _ h' n' ⟨rfl, rfl, rfl⟩)) | ((with_reducible first | apply zo1 | apply zo2 | apply o_guard rfl | apply x_cond | apply k_e1 rfl | apply k_e2 rfl | apply k_e0 rfl | apply k_e3 rfl | apply k_e4 rfl); (case he => exact ez0); (try case hok => exact ezO); all_goals try (intro hb; (try simp only [hbs, reduceCtorEq] at hb); try exact ezX)) | ((with_reducible apply o_undef rfl); (case hb => exact ez0)))
  all_goals exact sw_flat rfl rfl ⟨rfl, rfl, rfl⟩
theorem rwidths_n3 (hk : 30000 ≤ k) (A : Option Addr) (c : Nat) :
    SQ k (d + 5) cl 56 [.slice A 0 c, .int .i64 3] h n fun v h' n' => v = .slice none 0 0 ∧ h' = h ∧ n' = n := by
  refine enter Try.func56 (by kernel_rfl) rfl (by kernel_rfl) rfl rfl rfl ?_
  (repeat' first | refine zcd ?_ | intro K' hK | (with_reducible refine zn hK ?_; clear hK) | (with_reducible refine x_turns ?_) | (with_reducible refine x_turn (by omega) ?_) | (with_reducible refine k_turn ?_) | ((with_reducible apply o_callF (g := 56) w_none); (case ha => exact ez0); (case hs => exact rwidths_n2 (hk := hk) ..); (case' hk => rintro _ h' n' ⟨rfl, rfl, rfl⟩)) | ((with_reducible first | apply zo1 | apply zo2 | apply o_guard rfl | apply x_cond | apply k_e1 rfl | apply k_e2 rfl | apply k_e0 rfl | apply k_e3 rfl | apply k_e4 rfl); (case he => exact ez0); (try case hok => exact ezO); all_goals try (intro hb; (try simp only [hbs, reduceCtorEq] at hb); try exact ezX)) | ((with_reducible apply o_undef rfl); (case hb => exact ez0)))
  all_goals exact sw_flat rfl rfl ⟨rfl, rfl, rfl⟩
end Go.Proofs.Ytkngdfbibffdcaa.Ce
namespace Go.Proofs.Ytkngdfbibffdcaa.Ce
open Go.RowKit
variable (k d cl : Nat) (h : Hp) (n : Nat)
theorem rcheck_c (hk : 30000 ≤ k) (A : Option Addr) (T : List Tp) (c : Nat) (hT : TabH h n A T) (hS : ∀ t ∈ T, t.fs.length ≤ 20000) (hm : T.length ≤ 9223372036854775807) (h0T : 0 < T.length) :
    SQ k (d + 6) cl 31 [.slice A T.length c] h n fun v h' n' => v = .int .i64 (errT T) ∧ h' = h ∧ n' = n := by
  by_cases hl : T.length ≤ 32
  · have hSi : ∀ i (hi : i < T.length), T[i].fs.length ≤ 20000 := fun i hi => hS _ (List.getElem_mem hi)
    by_cases hF : Fine T
    · have hwl := wD_length T 3
      have hwb := wD_bnd hF 3
      refine enter Try.func31 (by kernel_rfl) rfl (by kernel_rfl) rfl rfl rfl ?_
      (repeat' first | refine zcd ?_ | intro K' hK | (with_reducible refine zn hK ?_; clear hK) | fail | ((with_reducible first | apply zo1 | apply zo2 | apply o_guard rfl | apply x_cond | apply k_e1 rfl | apply k_e2 rfl | apply k_e0 rfl | apply k_e3 rfl | apply k_e4 rfl); (case he => exact ez0); (try case hok => exact ezO); all_goals try (intro hb; (try simp only [hbs, reduceCtorEq] at hb); try exact ezX)) | ((with_reducible apply o_undef rfl); (case hb => exact ez0)))
      refine x_loopF [2, 3, 9, 10, 11, 12, 13, 14, 15, 16, 17, 18] [3] (fun m vs => ∃ i : Nat, m = T.length - i ∧ i ≤ T.length ∧ vs = [.int .i64 i]) T.length rfl (by omega) ⟨0, rfl, by omega, by simp (disch := first | assumption | omega | rfl | decide) only [go_sem, seval, tys] <;> rfl⟩ ?_
      rintro m g _ ⟨i, rfl, hi, rfl⟩
      by_cases hiT : i < T.length
      · have hfi := hF i hiT
        have hsi := hSi i hiT
        (repeat' first | refine zcd ?_ | intro K' hK | (with_reducible refine zn hK ?_; clear hK) | ((with_reducible apply o_callF (g := 55) w_none); (case ha => exact ez0); (case hs => ((with_reducible apply rfine_ev (T := T) (i := i)); (case hT => exact hT); (case hi => exact hiT); (all_goals first | exact hk | omega))); (case' hk => rintro _ h' n' ⟨rfl, rfl, rfl⟩)) | ((with_reducible first | apply zo1 | apply zo2 | apply o_guard rfl | apply x_cond | apply k_e1 rfl | apply k_e2 rfl | apply k_e0 rfl | apply k_e3 rfl | apply k_e4 rfl); (case he => exact ez1 hfi); (try case hok => exact ezO); all_goals try (intro hb; (try simp only [hbs, reduceCtorEq] at hb); try exact ezX)) | ((with_reducible apply o_undef rfl); (case hb => exact ez0)))
        refine k_round (T.length - (i + 1)) (by omega) ⟨⟨rfl, rfl⟩, i + 1, rfl, by omega, by simp (disch := first | assumption | omega | rfl | decide) only [go_sem, seval, tys] <;> rfl⟩
      · obtain rfl : i = T.length := by omega
        (repeat' first | refine zcd ?_ | intro K' hK | (with_reducible refine zn hK ?_; clear hK) | ((with_reducible apply o_callF (g := 56) w_none); (case ha => exact ez0); (case hs => ((with_reducible apply rwidths_3 (T := T)); (case hT => exact hT); (case hF => exact hF); (all_goals first | exact hk | omega))); (case' hk => rintro _ h' n' ⟨rfl, rfl, rfl⟩)) | ((with_reducible first | apply zo1 | apply zo2 | apply o_guard rfl | apply x_cond | apply k_e1 rfl | apply k_e2 rfl | apply k_e0 rfl | apply k_e3 rfl | apply k_e4 rfl); (case he => exact ez0); (try case hok => exact ezO); all_goals try (intro hb; (try simp only [hbs, reduceCtorEq] at hb); try exact ezX)) | ((with_reducible apply o_undef rfl); (case hb => exact ez0)))
        by_cases hw : ∀ w ∈ wD T 3, w ≤ 5000
        · have he : errT T = 0 := errT_ok ⟨hl, hF, hw⟩
          refine x_loopF [2, 5, 21, 22, 23, 24, 25, 26, 27, 28, 29, 30, 31] [5] (fun m vs => ∃ i : Nat, m = T.length - i ∧ i ≤ T.length ∧ vs = [.int .i64 i]) T.length rfl (by omega) ⟨0, rfl, by omega, by simp (disch := first | assumption | omega | rfl | decide) only [go_sem, seval, tys] <;> rfl⟩ ?_
          rintro m g2 _ ⟨i, rfl, hi, rfl⟩
          by_cases hiT : i < T.length
          · have hge : lget (iv (wD T 3)) i = some (.int .i64 ((wD T 3).getD i 0)) := iv_lget (by omega)
            have hle : (wD T 3).getD i 0 ≤ 5000 := by
              rw [List.getD_eq_getElem?_getD, List.getElem?_eq_getElem (by omega)]; exact hw _ (List.getElem_mem _)
            (repeat' first | refine zcd ?_ | intro K' hK | (with_reducible refine zn hK ?_; clear hK) | fail | ((with_reducible first | apply zo1 | apply zo2 | apply o_guard rfl | apply x_cond | apply k_e1 rfl | apply k_e2 rfl | apply k_e0 rfl | apply k_e3 rfl | apply k_e4 rfl); (case he => exact ez1 hge); (try case hok => exact ezO); all_goals try (intro hb; (try simp only [hbs, reduceCtorEq] at hb); try exact ezX)) | ((with_reducible apply o_undef rfl); (case hb => exact ez0)))
            refine k_round (T.length - (i + 1)) (by omega) ⟨⟨rfl, rfl⟩, i + 1, rfl, by omega, by simp (disch := first | assumption | omega | rfl | decide) only [go_sem, seval, tys] <;> rfl⟩
          · obtain rfl : i = T.length := by omega
            (repeat' first | refine zcd ?_ | intro K' hK | (with_reducible refine zn hK ?_; clear hK) | fail | ((with_reducible first | apply zo1 | apply zo2 | apply o_guard rfl | apply x_cond | apply k_e1 rfl | apply k_e2 rfl | apply k_e0 rfl | apply k_e3 rfl | apply k_e4 rfl); (case he => exact ez0); (try case hok => exact ezO); all_goals try (intro hb; (try simp only [hbs, reduceCtorEq] at hb); try exact ezX)) | ((with_reducible apply o_undef rfl); (case hb => exact ez0)))
            all_goals exact sw_flat rfl rfl ⟨by rw [he], rfl, rfl⟩
        · have he : errT T = 8 := errT_no fun hh => hw hh.2.2
          refine x_loopF [2, 5, 21, 22, 23, 24, 25, 26, 27, 28, 29, 30, 31] [5] (fun m vs => ∃ i : Nat, m = T.length - i ∧ i ≤ T.length ∧ vs = [.int .i64 i] ∧ ∀ j, j < i → (wD T 3).getD j 0 ≤ 5000) T.length rfl (by omega) ⟨0, rfl, by omega, by simp (disch := first | assumption | omega | rfl | decide) only [go_sem, seval, tys] <;> rfl, fun j hj => by omega⟩ ?_
          rintro m g2 _ ⟨i, rfl, hi, rfl, hall⟩
          by_cases hiT : i < T.length
          · have hge : lget (iv (wD T 3)) i = some (.int .i64 ((wD T 3).getD i 0)) := iv_lget (by omega)
            by_cases hle : (wD T 3).getD i 0 ≤ 5000
            · (repeat' first | refine zcd ?_ | intro K' hK | (with_reducible refine zn hK ?_; clear hK) | fail | ((with_reducible first | apply zo1 | apply zo2 | apply o_guard rfl | apply x_cond | apply k_e1 rfl | apply k_e2 rfl | apply k_e0 rfl | apply k_e3 rfl | apply k_e4 rfl); (case he => exact ez1 hge); (try case hok => exact ezO); all_goals try (intro hb; (try simp only [hbs, reduceCtorEq] at hb); try exact ezX)) | ((with_reducible apply o_undef rfl); (case hb => exact ez0)))
              refine k_round (T.length - (i + 1)) (by omega) ⟨⟨rfl, rfl⟩, i + 1, rfl, by omega, by simp (disch := first | assumption | omega | rfl | decide) only [go_sem, seval, tys] <;> rfl, fun j hj => by
                rcases Nat.lt_or_ge j i with h1 | h1
                · exact hall j h1
                · obtain rfl : j = i := by omega
                  exact hle⟩
            · (repeat' first | refine zcd ?_ | intro K' hK | (with_reducible refine zn hK ?_; clear hK) | fail | ((with_reducible first | apply zo1 | apply zo2 | apply o_guard rfl | apply x_cond | apply k_e1 rfl | apply k_e2 rfl | apply k_e0 rfl | apply k_e3 rfl | apply k_e4 rfl); (case he => exact ez1 hge); (try case hok => exact ezO); all_goals try (intro hb; (try simp only [hbs, reduceCtorEq] at hb); try exact ezX)) | ((with_reducible apply o_undef rfl); (case hb => exact ez0)))
              all_goals exact sw_flat rfl rfl ⟨by rw [he], rfl, rfl⟩
          · obtain rfl : i = T.length := by omega
            exfalso
            apply hw
            intro w hwm
            obtain ⟨j, hj, rfl⟩ := List.getElem_of_mem hwm
            have := hall j (by omega)
            rwa [List.getD_eq_getElem?_getD, List.getElem?_eq_getElem hj] at this
    · have he : errT T = 8 := errT_no fun hh => hF hh.2.1
      refine enter Try.func31 (by kernel_rfl) rfl (by kernel_rfl) rfl rfl rfl ?_
      (repeat' first | refine zcd ?_ | intro K' hK | (with_reducible refine zn hK ?_; clear hK) | fail | ((with_reducible first | apply zo1 | apply zo2 | apply o_guard rfl | apply x_cond | apply k_e1 rfl | apply k_e2 rfl | apply k_e0 rfl | apply k_e3 rfl | apply k_e4 rfl); (case he => exact ez0); (try case hok => exact ezO); all_goals try (intro hb; (try simp only [hbs, reduceCtorEq] at hb); try exact ezX)) | ((with_reducible apply o_undef rfl); (case hb => exact ez0)))
      refine x_loopF [2, 3, 9, 10, 11, 12, 13, 14, 15, 16, 17, 18] [3] (fun m vs => ∃ i : Nat, m = T.length - i ∧ i ≤ T.length ∧ vs = [.int .i64 i] ∧ ∀ j (hj : j < T.length), j < i → fineB T.length j T[j] = true) T.length rfl (by omega) ⟨0, rfl, by omega, by simp (disch := first | assumption | omega | rfl | decide) only [go_sem, seval, tys] <;> rfl, fun j hj hji => by omega⟩ ?_
      rintro m g _ ⟨i, rfl, hi, rfl, hall⟩
      by_cases hiT : i < T.length
      · have hsi := hSi i hiT
        cases hfi : fineB T.length i T[i]
        · (repeat' first | refine zcd ?_ | intro K' hK | (with_reducible refine zn hK ?_; clear hK) | ((with_reducible apply o_callF (g := 55) w_none); (case ha => exact ez0); (case hs => ((with_reducible apply rfine_ev (T := T) (i := i)); (case hT => exact hT); (case hi => exact hiT); (all_goals first | exact hk | omega))); (case' hk => rintro _ h' n' ⟨rfl, rfl, rfl⟩)) | ((with_reducible first | apply zo1 | apply zo2 | apply o_guard rfl | apply x_cond | apply k_e1 rfl | apply k_e2 rfl | apply k_e0 rfl | apply k_e3 rfl | apply k_e4 rfl); (case he => exact ez1 hfi); (try case hok => exact ezO); all_goals try (intro hb; (try simp only [hbs, reduceCtorEq] at hb); try exact ezX)) | ((with_reducible apply o_undef rfl); (case hb => exact ez0)))
          all_goals exact sw_flat rfl rfl ⟨by rw [he], rfl, rfl⟩
        · (repeat' first | refine zcd ?_ | intro K' hK | (with_reducible refine zn hK ?_; clear hK) | ((with_reducible apply o_callF (g := 55) w_none); (case ha => exact ez0); (case hs => ((with_reducible apply rfine_ev (T := T) (i := i)); (case hT => exact hT); (case hi => exact hiT); (all_goals first | exact hk | omega))); (case' hk => rintro _ h' n' ⟨rfl, rfl, rfl⟩)) | ((with_reducible first | apply zo1 | apply zo2 | apply o_guard rfl | apply x_cond | apply k_e1 rfl | apply k_e2 rfl | apply k_e0 rfl | apply k_e3 rfl | apply k_e4 rfl); (case he => exact ez1 hfi); (try case hok => exact ezO); all_goals try (intro hb; (try simp only [hbs, reduceCtorEq] at hb); try exact ezX)) | ((with_reducible apply o_undef rfl); (case hb => exact ez0)))
          refine k_round (T.length - (i + 1)) (by omega) ⟨⟨rfl, rfl⟩, i + 1, rfl, by omega, by simp (disch := first | assumption | omega | rfl | decide) only [go_sem, seval, tys] <;> rfl, fun j hj hji => by
            rcases Nat.lt_or_ge j i with h1 | h1
            · exact hall j hj h1
            · obtain rfl : j = i := by omega
              exact hfi⟩
      · obtain rfl : i = T.length := by omega
        exact absurd (fun i hi => hall i hi hi) hF
  · have he : errT T = 8 := errT_no fun hh => hl hh.1
    refine enter Try.func31 (by kernel_rfl) rfl (by kernel_rfl) rfl rfl rfl ?_
    (repeat' first | refine zcd ?_ | intro K' hK | (with_reducible refine zn hK ?_; clear hK) | fail | ((with_reducible first | apply zo1 | apply zo2 | apply o_guard rfl | apply x_cond | apply k_e1 rfl | apply k_e2 rfl | apply k_e0 rfl | apply k_e3 rfl | apply k_e4 rfl); (case he => exact ez0); (try case hok => exact ezO); all_goals try (intro hb; (try simp only [hbs, reduceCtorEq] at hb); try exact ezX)) | ((with_reducible apply o_undef rfl); (case hb => exact ez0)))
    all_goals exact sw_flat rfl rfl ⟨by rw [he], rfl, rfl⟩
theorem rcheck_nil (hk : 30000 ≤ k) (A : Option Addr) (c : Nat) :
    SQ k (d + 6) cl 31 [.slice A 0 c] h n fun v h' n' => v = .int .i64 0 ∧ h' = h ∧ n' = n := by
  refine enter Try.func31 (by kernel_rfl) rfl (by kernel_rfl) rfl rfl rfl ?_
  (repeat' first | refine zcd ?_ | intro K' hK | (with_reducible refine zn hK ?_; clear hK) | (with_reducible refine x_turns ?_) | (with_reducible refine x_turn (by omega) ?_) | (with_reducible refine k_turn ?_) | ((with_reducible apply o_callF (g := 56) w_none); (case ha => exact ez0); (case hs => exact rwidths_n3 (hk := hk) ..); (case' hk => rintro _ h' n' ⟨rfl, rfl, rfl⟩)) | ((with_reducible first | apply zo1 | apply zo2 | apply o_guard rfl | apply x_cond | apply k_e1 rfl | apply k_e2 rfl | apply k_e0 rfl | apply k_e3 rfl | apply k_e4 rfl); (case he => exact ez0); (try case hok => exact ezO); all_goals try (intro hb; (try simp only [hbs, reduceCtorEq] at hb); try exact ezX)) | ((with_reducible apply o_undef rfl); (case hb => exact ez0)))
  all_goals exact sw_flat rfl rfl ⟨rfl, rfl, rfl⟩
theorem rcheck_ev (hk : 30000 ≤ k) (A : Option Addr) (T : List Tp) (c : Nat) (hT : TabH h n A T) (hS : ∀ t ∈ T, t.fs.length ≤ 20000) (hm : T.length ≤ 9223372036854775807) :
    SQ k (d + 6) cl 31 [.slice A T.length c] h n fun v h' n' => v = .int .i64 (errT T) ∧ h' = h ∧ n' = n := by
  rcases T with _ | ⟨t, T⟩
  · have he : errT [] = 0 := errT_ok ⟨by simp, fun i hi => by simp at hi, fun w hw => by have := wD_length [] 3; rw [List.length_nil, List.length_eq_zero_iff] at this; rw [this] at hw; cases hw⟩
    rw [he]
    exact rcheck_nil k d cl h n hk A c
  · exact rcheck_c k d cl h n hk A (t :: T) c hT hS hm (by simp)
end Go.Proofs.Ytkngdfbibffdcaa.Ce
