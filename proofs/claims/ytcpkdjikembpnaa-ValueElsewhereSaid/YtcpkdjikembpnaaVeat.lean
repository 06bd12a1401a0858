/- Parts of the proof of ValueElsewhere: Gn, Hl, Ea, Gb. No condition of its own. -/
import Derived.Test.YtcpkdjikembpnaaVeai
import Derived.Test.YtcpkdjikembpnaaVeaj
import Derived.Test.YtcpkdjikembpnaaVeak
import Derived.Test.YtcpkdjikembpnaaVeal
import Derived.Test.YtcpkdjikembpnaaVeam
import Derived.Test.YtcpkdjikembpnaaVean
import Derived.Test.YtcpkdjikembpnaaVeao
import Derived.Test.YtcpkdjikembpnaaVeaq
import Derived.Test.YtcpkdjikembpnaaVear
import Derived.Test.YtcpkdjikembpnaaVeas
set_option linter.unusedVariables false
set_option linter.unusedSimpArgs false
set_option maxRecDepth 100000
set_option maxHeartbeats 4000000
namespace Go.Proofs.Ytcpkdjikembpnaa.Ce
open Go.RowKit
def alnT (T : List Tp) (x : Nat) : Int := ((eRow 1048576 T).at_ (x : Int)).2
noncomputable def LoadR (T : List Tp) (L : List Rg) (a t dp : Int) : Except Int V :=
  if okE T t ≠ 0 then .error (okE T t) else if dp < 0 ∨ 3 < dp then .error 2 else if lstE L ≠ 0 then .error (lstE L)
  else match fstI L a (sizT T t.toNat) 0 with
    | none => .error 16
    | some i => if a % alnT T t.toNat ≠ 0 then .error 16 else match L[i]? with
      | none => .error 0
      | some g => loadP T L 1000 dp.toNat ((g.xs.drop (a - g.b).toNat).take (sizT T t.toNat).toNat) t.toNat
theorem lstE_chk {L : List Rg} (h : lstE L = 0) : ∀ g ∈ L, chkG g = 0 := by
  unfold lstE at h
  split at h
  · cases h
  · split at h
    · cases h
    · exact Classical.not_not.1 ‹_›
variable (k d cl : Nat) (h : Hp) (n : Nat)
theorem vload_ev (hk : 30000 ≤ k) (TA A : Option Addr) (T : List Tp) (L : List Rg) (tc gc : Nat) (hT : TabH h n TA T) (hS : ∀ t ∈ T, t.fs.length ≤ 20000) (hm : T.length ≤ 9223372036854775807) (hR : RgH h n A L) (hl : L.length ≤ 100) (a t dp : Int) (ha0 : 0 ≤ a) (ha1 : a < 18446744073709551616) :
    SQ k (d + 3100) cl 11 [.slice TA T.length tc, .slice A L.length gc, .int .u64 a, .int .i64 t, .int .i64 dp] h n (LdV (LoadR T L a t dp) h n) := by
  have qc0 := fun (h6 : Hp) (n6 : Nat) (hT6 : TabH h6 n6 TA T) => (vcheck_ev k (d + 3089) n h6 n6 hk TA T tc hT6 hS hm t).mono (Φ' := fun v h' n' => (∃ z : Int, v = .tuple ⟨[.int .i64 z, .int .i64 (okE T t)]⟩) ∧ h6 = h' ∧ n6 = n') fun _ _ _ hp => ⟨hp.1, hp.2.1.symm, hp.2.2.symm⟩
  by_cases hE : okE T t = 0
  · obtain ⟨x, rfl, ho⟩ := okE_0 hE
    simp only [hE] at qc0
    by_cases hdp : dp < 0 ∨ 3 < dp
    · have e : LoadR T L a x dp = .error 2 := by unfold LoadR; rw [if_neg (not_not_intro hE), if_pos hdp]
      rw [e]
      refine enter Try.func11 (by kernel_rfl) rfl (by kernel_rfl) rfl rfl rfl ?_
      (repeat' first | refine zcd ?_ | intro K' hK | (with_reducible refine zn hK ?_; clear hK) | ((with_reducible apply o_callF (g := 37) w_none); (case ha => exact ez0); (case hs => ((with_reducible apply qc0); exact ezT hT)); (case' hk => rintro _ h' n' ⟨⟨z, rfl⟩, rfl, rfl⟩)) | ((with_reducible first | apply zo1 | apply zo2 | apply o_guard rfl | apply x_cond | apply k_e1 rfl | apply k_e2 rfl | apply k_e0 rfl | apply k_e3 rfl | apply k_e4 rfl); (case he => exact ez0); (try case hok => exact ezO); all_goals try (intro hb; (try simp only [hbs, reduceCtorEq] at hb); try exact ezX)) | ((with_reducible apply o_undef rfl); (case hb => exact ez0)))
      all_goals exact sw_flat rfl rfl ⟨rfl, by decide, rfl, rfl⟩
    · have qf0 := fun (h6 : Hp) (n6 : Nat) (hR6 : RgH h6 n6 A L) => (findL_ev k (d + 3093) n h6 n6 hk A L gc hR6 hl 0 1 (by omega) (by omega) (by omega) (by omega)).mono (Φ' := fun v h' n' => v = .tuple ⟨[.int .i64 (findS L 0 1).1, .int .i64 (findS L 0 1).2]⟩ ∧ h6 = h' ∧ n6 = n') fun _ _ _ hp => ⟨hp.1, hp.2.1.symm, hp.2.2.symm⟩
      by_cases hLE : lstE L = 0
      · have hC := lstE_chk hLE
        have hz1 := siz_pos (x + 1) ho (by omega)
        have hz2 := ho.bnd
        have hal : alnT T x = 1 ∨ alnT T x = 8 := (sizT_ok ho.chk ho.lt).2.2
        have e : LoadR T L a x dp = match fstI L a (sizT T x) 0 with
            | none => .error 16
            | some i => if a % alnT T x ≠ 0 then .error 16 else match L[i]? with
              | none => .error 0
              | some g => loadP T L 1000 dp.toNat ((g.xs.drop (a - g.b).toNat).take (sizT T x).toNat) x := by
          unfold LoadR
          rw [if_neg (not_not_intro hE), if_neg hdp, if_neg (not_not_intro hLE), Int.toNat_natCast]
        rw [e]
        have qz := fun (h6 : Hp) (n6 : Nat) (hT6 : TabH h6 n6 TA T) => (lsize_ev k (d + 3091) n h6 n6 hk TA T tc hT6 hS hm x).mono (Φ' := fun v h' n' => v = .tuple ⟨[.int .i64 (sizT T x), .int .i64 (alnT T x), .int .i64 0]⟩ ∧ h6 = h' ∧ n6 = n') fun _ _ _ hp => ⟨by rw [hp.1, ho.size]; rfl, hp.2.1.symm, hp.2.2.symm⟩
        have qf1 := fun (h6 : Hp) (n6 : Nat) (w' : Int) (hw' : w' = sizT T x) (hR6 : RgH h6 n6 A L) => (findL_ev k (d + 3093) n h6 n6 hk A L gc hR6 hl a w' ha0 ha1 (by omega) (by omega)).mono (Φ' := fun v h' n' => v = .tuple ⟨[.int .i64 (findS L a (sizT T x)).1, .int .i64 (findS L a (sizT T x)).2]⟩ ∧ h6 = h' ∧ n6 = n') fun _ _ _ hp => ⟨by rw [hp.1, hw'], hp.2.1.symm, hp.2.2.symm⟩
        have hf01 : (findS L 0 1).2 = 0 ∨ (findS L 0 1).2 = 6 := by
          unfold findS
          rw [if_neg (not_not_intro hLE), if_neg (by omega)]
          split
          · exact .inl rfl
          · exact .inr rfl
        obtain ⟨F0, hF0⟩ : ∃ F0, findS L 0 1 = F0 := ⟨_, rfl⟩
        obtain ⟨F1, hF1⟩ : ∃ F1, findS L a (sizT T x) = F1 := ⟨_, rfl⟩
        have hS1 : F1 = match fstI L a (sizT T x) 0 with
            | some i => ((i : Int), 0)
            | none => (0, 6) := by
          rw [← hF1]
          unfold findS
          rw [if_neg (not_not_intro hLE), if_neg (by omega)]
          rfl
        simp only [hF0] at qf0 hf01
        simp only [hF1] at qf1
        obtain ⟨f0, f0e⟩ := F0
        obtain ⟨f1, f1e⟩ := F1
        dsimp only at qf0 qf1 hf01
        have hszx : ∃ z, sizT T x = z := ⟨_, rfl⟩
        obtain ⟨z0, hz0⟩ := hszx
        obtain ⟨al, hale⟩ : ∃ al, alnT T x = al := ⟨_, rfl⟩
        simp only [hz0] at qz qf1 hz1 hz2 hS1 ⊢
        simp only [hale] at qz hal ⊢
        cases hfi : fstI L a z0 0 with
        | none =>
          rw [hfi] at hS1
          injection hS1 with hS1 hS2
          subst hS1
          subst hS2
          dsimp only
          refine enter Try.func11 (by kernel_rfl) rfl (by kernel_rfl) rfl rfl rfl ?_
          (repeat' first | refine zcd ?_ | intro K' hK | (with_reducible refine zn hK ?_; clear hK) | ((with_reducible apply o_callF (g := 37) w_none); (case ha => exact ez0); (case hs => ((with_reducible apply qc0); exact ezT hT)); (case' hk => rintro _ h' n' ⟨⟨z, rfl⟩, rfl, rfl⟩)) | ((with_reducible apply o_callF (g := 38) w_none); (case ha => exact ez0); (case hs => ((first | with_reducible apply qf0 | ((with_reducible apply qf1); (case hw' => first | omega | (split <;> omega)))); exact ezG hR)); (case' hk => rintro _ h' n' ⟨rfl, rfl, rfl⟩)) | ((with_reducible apply o_callF (g := 27) w_none); (case ha => exact ez0); (case hs => ((with_reducible apply qz); exact ezT hT)); (case' hk => rintro _ h' n' ⟨rfl, rfl, rfl⟩)) | ((with_reducible first | apply zo1 | apply zo2 | apply o_guard rfl | apply x_cond | apply k_e1 rfl | apply k_e2 rfl | apply k_e0 rfl | apply k_e3 rfl | apply k_e4 rfl); (case he => exact ez0); (try case hok => exact ezO); all_goals try (intro hb; (try simp only [hbs, reduceCtorEq] at hb); try exact ezX)) | ((with_reducible apply o_undef rfl); (case hb => exact ez0)))
          all_goals exact sw_flat rfl rfl ⟨rfl, by decide, rfl, rfl⟩
        | some i =>
          rw [hfi] at hS1
          injection hS1 with hS1 hS2
          subst hS1
          subst hS2
          dsimp only
          obtain ⟨q, hq, eq, hin, -⟩ := fstI_some hfi
          obtain rfl : i = q := by omega
          rw [List.getElem?_eq_getElem hq]
          obtain ⟨hi1, hi2⟩ := inb_iff.1 hin
          have hg := hR.fd _ (List.getElem_mem hq)
          have hcg := hC _ (List.getElem_mem hq)
          have hcb := chkR_ok hcg
          obtain ⟨gid, goff, hgA, hgid, c1⟩ := hR.at_ hq
          subst hgA
          obtain ⟨G, hG⟩ : ∃ G, L[i] = G := ⟨_, rfl⟩
          rw [hG] at hi1 hi2 hg hcg hcb c1 ⊢
          dsimp only
          have hal2 : a % al ≠ 0 ∨ a % al = 0 := by omega
          rcases hal2 with hr | hr
          · rw [if_pos hr]
            rcases hal with rfl | rfl
            · omega
            · refine enter Try.func11 (by kernel_rfl) rfl (by kernel_rfl) rfl rfl rfl ?_
              (repeat' first | refine zcd ?_ | intro K' hK | (with_reducible refine zn hK ?_; clear hK) | ((with_reducible apply o_callF (g := 37) w_none); (case ha => exact ez0); (case hs => ((with_reducible apply qc0); exact ezT hT)); (case' hk => rintro _ h' n' ⟨⟨z, rfl⟩, rfl, rfl⟩)) | ((with_reducible apply o_callF (g := 38) w_none); (case ha => exact ez0); (case hs => ((first | with_reducible apply qf0 | ((with_reducible apply qf1); (case hw' => first | omega | (split <;> omega)))); exact ezG hR)); (case' hk => rintro _ h' n' ⟨rfl, rfl, rfl⟩)) | ((with_reducible apply o_callF (g := 27) w_none); (case ha => exact ez0); (case hs => ((with_reducible apply qz); exact ezT hT)); (case' hk => rintro _ h' n' ⟨rfl, rfl, rfl⟩)) | ((with_reducible apply o_callF (g := 39) w_none); (case ha => exact ez0); (case hs => ((with_reducible apply qb); exact ezD hg)); (case' hk => rintro _ h' n' ⟨rfl, rfl, rfl⟩)) | ((with_reducible first | apply zo1 | apply zo2 | apply o_guard rfl | apply x_cond | apply k_e1 rfl | apply k_e2 rfl | apply k_e0 rfl | apply k_e3 rfl | apply k_e4 rfl); (case he => exact ez0); (try case hok => exact ezO); all_goals try (intro hb; (try simp only [hbs, reduceCtorEq] at hb); try exact ezX)) | ((with_reducible apply o_undef rfl); (case hb => exact ez0)))
              all_goals exact sw_flat rfl rfl ⟨rfl, by decide, rfl, rfl⟩
          · rw [if_neg (not_not_intro hr)]
            obtain ⟨w, rfl⟩ := Int.eq_ofNat_of_zero_le (show 0 ≤ z0 by omega)
            obtain ⟨dn, rfl⟩ := Int.eq_ofNat_of_zero_le (show 0 ≤ dp by omega)
            rw [Int.toNat_natCast, Int.toNat_natCast]
            obtain ⟨ys, hys⟩ : ∃ ys, (G.xs.drop (a - G.b).toNat).take w = ys := ⟨_, rfl⟩
            have hyl : ys.length = w := by rw [← hys, List.length_take, List.length_drop]; omega
            rw [hys]
            have qb := fun (h6 : Hp) (n6 : Nat) (hg6 : RdH h6 n6 G.A (bv G.xs)) => bytesG_ok k (d + 3095) n h6 n6 G hg6 hcg a w hi1 (by omega) ys hys hyl
            have ql0 := fun (h6 : Hp) (n6 b : Nat) (hT6 : TabH h6 n6 TA T) (hR6 : RgH h6 n6 (some ⟨gid, goff, none⟩) L) (hB6 : RdH h6 n6 (some ⟨b, 0, none⟩) (bv ys)) => mload_ev k hk TA (some ⟨gid, goff, none⟩) T L tc gc hS ho.chk.1 hl hLE hC 1000 x dn ho (by omega) (by have := ho.lt; have := ho.chk.1; omega) (d + 79) n h6 n6 b 0 w w ys hT6 hR6 hyl.symm hB6 (by omega) (by omega)
            obtain ⟨res, hres⟩ : ∃ res, loadP T L 1000 dn ys x = res := ⟨_, rfl⟩
            simp only [hres] at ql0 ⊢
            cases res with
            | error e =>
              have ql := fun (h6 : Hp) (n6 b : Nat) (hT6 : TabH h6 n6 TA T) (hR6 : RgH h6 n6 (some ⟨gid, goff, none⟩) L) (hB6 : RdH h6 n6 (some ⟨b, 0, none⟩) (bv ys)) => (ql0 h6 n6 b hT6 hR6 hB6).mono (Φ' := fun v h' n' => v = .tuple ⟨[.agg ⟨vcell 0 0 [] none 0 0 false⟩, .int .i64 e]⟩ ∧ e ≠ 0 ∧ h6 = h' ∧ n6 = n') fun _ _ _ hp => ⟨hp.1, hp.2.1, hp.2.2.1.symm, hp.2.2.2.symm⟩
              rcases hal with rfl | rfl
              all_goals
                refine enter Try.func11 (by kernel_rfl) rfl (by kernel_rfl) rfl rfl rfl ?_
                (repeat' first | refine zcd ?_ | intro K' hK | (with_reducible refine zn hK ?_; clear hK) | ((with_reducible apply o_callF (g := 37) w_none); (case ha => exact ez0); (case hs => ((with_reducible apply qc0); exact ezT hT)); (case' hk => rintro _ h' n' ⟨⟨z, rfl⟩, rfl, rfl⟩)) | ((with_reducible apply o_callF (g := 38) w_none); (case ha => exact ez0); (case hs => ((first | with_reducible apply qf0 | ((with_reducible apply qf1); (case hw' => first | omega | (split <;> omega)))); exact ezG hR)); (case' hk => rintro _ h' n' ⟨rfl, rfl, rfl⟩)) | ((with_reducible apply o_callF (g := 27) w_none); (case ha => exact ez0); (case hs => ((with_reducible apply qz); exact ezT hT)); (case' hk => rintro _ h' n' ⟨rfl, rfl, rfl⟩)) | ((with_reducible apply o_callF (g := 39) w_none); (case ha => exact ez0); (case hs => ((with_reducible apply qb); exact ezD hg)); (case' hk => rintro _ h' n' ⟨rfl, rfl, rfl⟩)) | ((with_reducible apply o_callF (g := 40) w_none); (case ha => exact ez0); (case hs => ((with_reducible apply ql); (all_goals first | exact ezT hT | exact ezG hR | exact RdH.row (by omega)))); (case' hk => rintro _ h' n' ⟨rfl, he0, rfl, rfl⟩)) | ((with_reducible first | apply zo1 | apply zo2 | apply o_guard rfl | apply x_cond | apply k_e1 rfl | apply k_e2 rfl | apply k_e0 rfl | apply k_e3 rfl | apply k_e4 rfl); (case he => exact ez1 c1); (try case hok => exact ezO); all_goals try (intro hb; (try simp only [hbs, reduceCtorEq] at hb); try exact ezX)) | ((with_reducible apply o_undef rfl); (case hb => exact ez0)))
                all_goals exact sw_flat rfl rfl ⟨rfl, he0, rfl, rfl⟩
            | ok xv =>
              have ql := fun (h6 : Hp) (n6 b : Nat) (hT6 : TabH h6 n6 TA T) (hR6 : RgH h6 n6 (some ⟨gid, goff, none⟩) L) (hB6 : RdH h6 n6 (some ⟨b, 0, none⟩) (bv ys)) => (ql0 h6 n6 b hT6 hR6 hB6).mono (Φ' := fun v h' n' => ∃ A1 cc1, v = .tuple ⟨[.agg ⟨vcell xv.kd xv.i xv.s A1 xv.l.length cc1 xv.c⟩, .int .i64 0]⟩ ∧ FH h' n6 n' xv (vcell xv.kd xv.i xv.s A1 xv.l.length cc1 xv.c) ∧ n6 ≤ n' ∧ ∀ b, b < n6 → h'.get b = h6.get b) fun v h' n' ⟨cs, e1, hf, a, b⟩ => by
                obtain ⟨A1, cc1, rfl⟩ := hf.cells
                exact ⟨A1, cc1, e1, hf, a, b⟩
              rcases hf01 with rfl | rfl <;> rcases hal with rfl | rfl
              all_goals
                refine enter Try.func11 (by kernel_rfl) rfl (by kernel_rfl) rfl rfl rfl ?_
                (repeat' first | refine zcd ?_ | intro K' hK | (with_reducible refine zn hK ?_; clear hK) | ((with_reducible apply o_callF (g := 37) w_none); (case ha => exact ez0); (case hs => ((with_reducible apply qc0); exact ezT hT)); (case' hk => rintro _ h' n' ⟨⟨z, rfl⟩, rfl, rfl⟩)) | ((with_reducible apply o_callF (g := 38) w_none); (case ha => exact ez0); (case hs => ((first | with_reducible apply qf0 | ((with_reducible apply qf1); (case hw' => first | omega | (split <;> omega)))); exact ezG hR)); (case' hk => rintro _ h' n' ⟨rfl, rfl, rfl⟩)) | ((with_reducible apply o_callF (g := 27) w_none); (case ha => exact ez0); (case hs => ((with_reducible apply qz); exact ezT hT)); (case' hk => rintro _ h' n' ⟨rfl, rfl, rfl⟩)) | ((with_reducible apply o_callF (g := 39) w_none); (case ha => exact ez0); (case hs => ((with_reducible apply qb); exact ezD hg)); (case' hk => rintro _ h' n' ⟨rfl, rfl, rfl⟩)) | ((with_reducible apply o_callF (g := 40) w_none); (case ha => exact ez0); (case hs => ((with_reducible apply ql); (all_goals first | exact ezT hT | exact ezG hR | exact RdH.row (by omega)))); (case' hk => rintro _ h' n' ⟨A1, cc1, rfl, hfx, hn6, hk6⟩)) | ((with_reducible first | apply zo1 | apply zo2 | apply o_guard rfl | apply x_cond | apply k_e1 rfl | apply k_e2 rfl | apply k_e0 rfl | apply k_e3 rfl | apply k_e4 rfl); (case he => exact ez1 c1); (try case hok => exact ezO); all_goals try (intro hb; (try simp only [hbs, reduceCtorEq] at hb); try exact ezX)) | ((with_reducible apply o_undef rfl); (case hb => exact ez0)))
                have r8 : rowOf h' n = some (32, false, vcell 0 0 [] none 0 0 false) := by
                  rw [rowOf_keep (hk6 _ (by omega))]
                  simp (disch := first | assumption | omega | rfl | decide) only [go_sem, seval, tys]
                  try rfl
                have w8 := rwOf_row r8
                (repeat' first | refine zcd ?_ | intro K' hK | (with_reducible refine zn hK ?_; clear hK) | fail | ((with_reducible first | apply zo1 | apply zo2 | apply o_guard rfl | apply x_cond | apply k_e1 rfl | apply k_e2 rfl | apply k_e0 rfl | apply k_e3 rfl | apply k_e4 rfl); (case he => exact ez1 w8); (try case hok => exact ezO); all_goals try (intro hb; (try simp only [hbs, reduceCtorEq] at hb); try exact ezX)) | ((with_reducible apply o_undef rfl); (case hb => exact ez0)))
                refine sw_fh (hfx.keep (by omega) (Nat.le_refl _) fun b hb1 hb2 => by (repeat rw [Hp.get_ne _ _ (by omega)])) (by omega) (fun b hb => by (repeat rw [Hp.get_ne _ _ (by omega)]); rw [hk6 _ (by omega)]; (repeat rw [Hp.get_ne _ _ (by omega)])) fun cs2 h2 n2 a b c => ⟨cs2, rfl, a, b, c⟩
      · have e : LoadR T L a x dp = .error (lstE L) := by unfold LoadR; rw [if_neg (not_not_intro hE), if_neg hdp, if_pos hLE]
        have eS : findS L 0 1 = (0, lstE L) := by unfold findS; rw [if_pos hLE]
        have h6 : lstE L ≠ 6 := by
          unfold lstE
          repeat' split
          all_goals decide
        rw [e]
        simp only [eS] at qf0
        obtain ⟨E, hEe⟩ : ∃ E, lstE L = E := ⟨_, rfl⟩
        simp only [hEe] at qf0 hLE h6 ⊢
        refine enter Try.func11 (by kernel_rfl) rfl (by kernel_rfl) rfl rfl rfl ?_
        (repeat' first | refine zcd ?_ | intro K' hK | (with_reducible refine zn hK ?_; clear hK) | ((with_reducible apply o_callF (g := 37) w_none); (case ha => exact ez0); (case hs => ((with_reducible apply qc0); exact ezT hT)); (case' hk => rintro _ h' n' ⟨⟨z, rfl⟩, rfl, rfl⟩)) | ((with_reducible apply o_callF (g := 38) w_none); (case ha => exact ez0); (case hs => ((with_reducible apply qf0); exact ezG hR)); (case' hk => rintro _ h' n' ⟨rfl, rfl, rfl⟩)) | ((with_reducible first | apply zo1 | apply zo2 | apply o_guard rfl | apply x_cond | apply k_e1 rfl | apply k_e2 rfl | apply k_e0 rfl | apply k_e3 rfl | apply k_e4 rfl); (case he => exact ez0); (try case hok => exact ezO); all_goals try (intro hb; (try simp only [hbs, reduceCtorEq] at hb); try exact ezX)) | ((with_reducible apply o_undef rfl); (case hb => exact ez0)))
        all_goals exact sw_flat rfl rfl ⟨rfl, hLE, rfl, rfl⟩
  · have e : LoadR T L a t dp = .error (okE T t) := by unfold LoadR; rw [if_pos hE]
    rw [e]
    obtain ⟨E, hEe⟩ : ∃ E, okE T t = E := ⟨_, rfl⟩
    simp only [hEe] at qc0 hE ⊢
    refine enter Try.func11 (by kernel_rfl) rfl (by kernel_rfl) rfl rfl rfl ?_
    (repeat' first | refine zcd ?_ | intro K' hK | (with_reducible refine zn hK ?_; clear hK) | ((with_reducible apply o_callF (g := 37) w_none); (case ha => exact ez0); (case hs => ((with_reducible apply qc0); exact ezT hT)); (case' hk => rintro _ h' n' ⟨⟨z, rfl⟩, rfl, rfl⟩)) | ((with_reducible first | apply zo1 | apply zo2 | apply o_guard rfl | apply x_cond | apply k_e1 rfl | apply k_e2 rfl | apply k_e0 rfl | apply k_e3 rfl | apply k_e4 rfl); (case he => exact ez0); (try case hok => exact ezO); all_goals try (intro hb; (try simp only [hbs, reduceCtorEq] at hb); try exact ezX)) | ((with_reducible apply o_undef rfl); (case hb => exact ez0)))
    all_goals exact sw_flat rfl rfl ⟨rfl, hE, rfl, rfl⟩
end Go.Proofs.Ytcpkdjikembpnaa.Ce
namespace Go.Proofs.Ytcpkdjikembpnaa.Ce
open Go.RowKit
theorem listP_mem {g : List UInt8 → Nat → Except Int V} {bs : List UInt8} : ∀ {l : List (Int × Int)} {vs : List V}, listP g bs l = .ok vs → ∀ w ∈ vs, ∃ p ∈ l, g (bs.drop p.2.toNat) p.1.toNat = .ok w
  | [], vs, h, w, hw => by unfold listP at h; injection h with h; subst h; cases hw
  | p :: l, vs, h, w, hw => by
    unfold listP at h
    cases hg : g (bs.drop p.2.toNat) p.1.toNat with
    | error e => rw [hg] at h; cases h
    | ok v =>
      rw [hg] at h
      dsimp only at h
      cases hl : listP g bs l with
      | error e => rw [hl] at h; cases h
      | ok l2 =>
        rw [hl] at h
        injection h with h
        subst h
        rcases List.mem_cons.1 hw with rfl | hw
        · exact ⟨p, List.mem_cons_self, hg⟩
        · obtain ⟨p2, h1, h2⟩ := listP_mem hl w hw
          exact ⟨p2, List.mem_cons_of_mem _ h1, h2⟩
theorem Bd.leaf (f : Nat) (kd i : Int) (s : List UInt8) (c : Bool) : Bd (f + 1) (.mk kd i s [] c) := ⟨by show 0 ≤ 20000; omega, fun w hw => by cases hw⟩
theorem asV_bd {kd : Int} {r : Except Int (List V)} {v : V} {f : Nat} (h : asV kd r = .ok v) (hr : ∀ l, r = .ok l → l.length ≤ 20000 ∧ ∀ w ∈ l, Bd f w) : Bd (f + 1) v := by
  cases r with
  | error e => cases h
  | ok l =>
    injection h with h
    subst h
    exact hr l rfl
theorem folP_bd {g : Nat → List UInt8 → Nat → Except Int V} {T : List Tp} {L : List Rg} {x : Tp} {a : Int} {n most dp : Nat} {v : V} {f : Nat} (hn : n ≤ 20000) (h : folP g T L x a n most dp = .ok v) (hg : ∀ dp bs w, g dp bs x.el.toNat = .ok w → Bd f w) : Bd (f + 1) v := by
  unfold folP at h
  split at h
  · cases h
  · split at h
    · injection h with h; subst h; exact Bd.leaf f x.kd 0 [] false
    · split at h
      · injection h with h; subst h; exact Bd.leaf f x.kd 0 [] true
      · refine asV_bd h fun l hl => ⟨?_, fun w hw => ?_⟩
        · have := listP_len _ _ _ _ hl
          rw [List.length_map, List.length_range] at this
          omega
        · obtain ⟨p, hp, e⟩ := listP_mem hl w hw
          obtain ⟨i, -, rfl⟩ := List.mem_map.1 hp
          exact hg _ _ _ e
theorem loadP_bd {T : List Tp} {L : List Rg} : ∀ (f t dp : Nat) (bs : List UInt8) (v : V), OkV T t → loadP T L f dp bs t = .ok v → Bd f v
  | 0, t, dp, bs, v, ho, h => by unfold loadP at h; cases h
  | f + 1, t, dp, bs, v, ho, h => by
    have htl := ho.lt
    rw [loadP_at (List.getElem?_eq_getElem htl)] at h
    have hpl := prt_len ho
    have hpi := fun q (a : q < (prtT T[t]).length) (b : q < (offsT T T[t]).length) => prt_in ho a b
    have hpt := fun e => ho.ptr e
    obtain ⟨x, hx⟩ : ∃ x, T[t] = x := ⟨_, rfl⟩
    simp only [hx] at hpl hpi hpt h
    have w2b := wordV_bnd bs 16
    have w1b := wordV_bnd bs 8
    by_cases k1 : x.kd = 1
    · rw [if_pos k1] at h
      split at h
      · cases h
      · injection h with h; subst h; exact Bd.leaf f _ _ _ _
    rw [if_neg k1] at h
    by_cases k2 : x.kd = 2
    · rw [if_pos k2] at h
      injection h with h; subst h; exact Bd.leaf f _ _ _ _
    rw [if_neg k2] at h
    by_cases k3 : x.kd = 3
    · rw [if_pos k3] at h
      split at h
      · injection h with h; subst h; exact Bd.leaf f _ _ _ _
      · cases h
    rw [if_neg k3] at h
    by_cases k4 : x.kd = 4
    · rw [if_pos k4] at h
      obtain ⟨y, hy, hoy⟩ := hpt (.inl k4)
      split at h
      · injection h with h; subst h; exact Bd.leaf f _ _ _ _
      · exact folP_bd (by omega) h fun dp bs w e => loadP_bd f y dp bs w hoy (by rw [hy, Int.toNat_natCast] at e; exact e)
    rw [if_neg k4] at h
    by_cases k7 : x.kd = 7
    · rw [if_pos k7] at h
      obtain ⟨y, hy, hoy⟩ := hpt (.inr k7)
      split at h
      · cases h
      · split at h
        · injection h with h; subst h; exact Bd.leaf f _ _ _ _
        · exact folP_bd (by omega) h fun dp bs w e => loadP_bd f y dp bs w hoy (by rw [hy, Int.toNat_natCast] at e; exact e)
    rw [if_neg k7] at h
    refine asV_bd h fun l hl => ⟨?_, fun w hw => ?_⟩
    · have := listP_len _ _ _ _ hl
      rw [List.length_zip] at this
      omega
    · obtain ⟨p, hp, e⟩ := listP_mem hl w hw
      obtain ⟨q, hq, rfl⟩ := List.getElem_of_mem hp
      rw [List.length_zip] at hq
      obtain ⟨y, hy, -, hoy, -⟩ := hpi q (by omega) (by omega)
      rw [List.getElem_zip] at e
      dsimp only at e
      rw [hy, Int.toNat_natCast] at e
      exact loadP_bd f y dp _ w hoy e
def rvV : Except Int V → V
  | .error _ => .mk 0 0 [] [] false
  | .ok x => x
def rvE : Except Int V → Int
  | .error e => e
  | .ok _ => 0
theorem LoadR_bd {T : List Tp} {L : List Rg} {a t dp : Int} : Bd 1001 (rvV (LoadR T L a t dp)) := by
  unfold LoadR
  split
  · exact Bd.leaf 1000 _ _ _ _
  · rename_i hE
    obtain ⟨x, rfl, ho⟩ := okE_0 (Classical.not_not.1 hE)
    split
    · exact Bd.leaf 1000 _ _ _ _
    · split
      · exact Bd.leaf 1000 _ _ _ _
      · split
        · exact Bd.leaf 1000 _ _ _ _
        · split
          · exact Bd.leaf 1000 _ _ _ _
          · split
            · exact Bd.leaf 1000 _ _ _ _
            · rename_i g _
              rw [Int.toNat_natCast]
              cases h : loadP T L 1000 dp.toNat ((g.xs.drop (a - g.b).toNat).take (sizT T x).toNat) x with
              | error e => exact Bd.leaf 1000 _ _ _ _
              | ok v => exact (loadP_bd _ _ _ _ _ ho h).up (by omega)
def LdU (x : V) (e : Int) (h : Hp) (n : Nat) (v : Value) (h' : Hp) (n' : Nat) : Prop := ∃ A1 cc1, v = .tuple ⟨[.agg ⟨vcell x.kd x.i x.s A1 x.l.length cc1 x.c⟩, .int .i64 e]⟩ ∧ VH h' n' x (vcell x.kd x.i x.s A1 x.l.length cc1 x.c) ∧ n ≤ n' ∧ ∀ b, b < n → h'.get b = h.get b
theorem LdV.uni {r : Except Int V} {h h' : Hp} {n n' : Nat} {v : Value} (hh : LdV r h n v h' n') : LdU (rvV r) (rvE r) h n v h' n' := by
  cases r with
  | error e =>
    obtain ⟨e1, -, e2, e3⟩ := hh
    subst e2
    subst e3
    exact ⟨none, 0, e1, .leaf 0 0 [] false none 0 fun _ => rfl, Nat.le_refl _, fun _ _ => rfl⟩
  | ok x =>
    obtain ⟨cs, e1, hf, a, b⟩ := hh
    obtain ⟨A1, cc1, rfl⟩ := hf.cells
    exact ⟨A1, cc1, e1, hf.vh, a, b⟩
end Go.Proofs.Ytcpkdjikembpnaa.Ce
namespace Go.Proofs.Ytcpkdjikembpnaa.Ce
open Go.RowKit
def SubB (L L' : List Rg) : Prop := ∀ a w ys, findB L a w = some ys → findB L' a w = some ys
theorem textB_sub {L L' : List Rg} (hs : SubB L L') {a w : Int} (h : (textB L a w).2 = 0) : textB L' a w = textB L a w := by
  unfold textB at h ⊢
  by_cases h64 : 64 < w
  · rw [if_pos h64] at h; cases h
  · rw [if_neg h64] at h ⊢
    rw [if_neg h64]
    by_cases h0 : w = 0
    · rw [if_pos h0, if_pos h0]
    · rw [if_neg h0] at h ⊢
      rw [if_neg h0]
      cases hf : findB L a w.toNat with
      | none => rw [hf] at h; cases h
      | some ys => rw [hs _ _ _ hf]
theorem listP_sub {g g' : List UInt8 → Nat → Except Int V} (hg : ∀ bs t v, g bs t = .ok v → g' bs t = .ok v) {bs : List UInt8} : ∀ {l : List (Int × Int)} {vs : List V}, listP g bs l = .ok vs → listP g' bs l = .ok vs
  | [], vs, h => by unfold listP at h ⊢; exact h
  | p :: l, vs, h => by
    unfold listP at h ⊢
    cases hp : g (bs.drop p.2.toNat) p.1.toNat with
    | error e => rw [hp] at h; cases h
    | ok v =>
      rw [hp] at h
      rw [hg _ _ _ hp]
      dsimp only at h ⊢
      cases hl : listP g bs l with
      | error e => rw [hl] at h; cases h
      | ok l2 => rw [hl] at h; rw [listP_sub hg hl]; exact h
theorem asV_sub {kd : Int} {r r' : Except Int (List V)} {v : V} (hr : ∀ l, r = .ok l → r' = .ok l) (h : asV kd r = .ok v) : asV kd r' = .ok v := by
  cases r with
  | error e => cases h
  | ok l => rw [hr l rfl]; exact h
theorem folP_sub {g g' : Nat → List UInt8 → Nat → Except Int V} (hg : ∀ dp bs t v, g dp bs t = .ok v → g' dp bs t = .ok v) {T : List Tp} {L L' : List Rg} (hs : SubB L L') {x : Tp} {a : Int} {n most dp : Nat} {v : V} (h : folP g T L x a n most dp = .ok v) : folP g' T L' x a n most dp = .ok v := by
  unfold folP at h ⊢
  cases hf : findB L a (sizT T x.el.toNat * most).toNat with
  | none => rw [hf] at h; cases h
  | some b =>
    rw [hf] at h
    rw [hs _ _ _ hf]
    dsimp only at h ⊢
    by_cases h0 : n = 0
    · rw [if_pos h0] at h ⊢; exact h
    · rw [if_neg h0] at h ⊢
      by_cases h1 : dp = 0
      · rw [if_pos h1] at h ⊢; exact h
      · rw [if_neg h1] at h ⊢
        exact asV_sub (fun l hl => listP_sub (hg (dp - 1)) hl) h
theorem loadP_sub {T : List Tp} {L L' : List Rg} (hs : SubB L L') : ∀ (f dp : Nat) (bs : List UInt8) (t : Nat) (v : V), loadP T L f dp bs t = .ok v → loadP T L' f dp bs t = .ok v
  | 0, dp, bs, t, v, h => by unfold loadP at h; cases h
  | f + 1, dp, bs, t, v, h => by
    cases hx : T[t]? with
    | none => unfold loadP at h; rw [hx] at h; cases h
    | some x =>
      rw [loadP_at hx] at h ⊢
      by_cases k1 : x.kd = 1
      · rw [if_pos k1] at h ⊢; exact h
      rw [if_neg k1] at h ⊢
      by_cases k2 : x.kd = 2
      · rw [if_pos k2] at h ⊢; exact h
      rw [if_neg k2] at h ⊢
      by_cases k3 : x.kd = 3
      · rw [if_pos k3] at h ⊢
        by_cases ht : (textB L (wordV bs 0 8) (wordV bs 8 8)).2 = 0
        · rw [textB_sub hs ht]; exact h
        · rw [if_neg ht] at h; cases h
      rw [if_neg k3] at h ⊢
      by_cases k4 : x.kd = 4
      · rw [if_pos k4] at h ⊢
        by_cases h0 : wordV bs 0 8 = 0
        · rw [if_pos h0] at h ⊢; exact h
        · rw [if_neg h0] at h ⊢
          exact folP_sub (fun dp bs t v => loadP_sub hs f dp bs t v) hs h
      rw [if_neg k4] at h ⊢
      by_cases k7 : x.kd = 7
      · rw [if_pos k7] at h ⊢
        by_cases hc : wordV bs 16 8 < wordV bs 8 8 ∨ 16 < wordV bs 16 8 ∨ (wordV bs 0 8 = 0 ∧ 0 < wordV bs 16 8)
        · rw [if_pos hc] at h; cases h
        · rw [if_neg hc] at h ⊢
          by_cases h0 : wordV bs 0 8 = 0
          · rw [if_pos h0] at h ⊢; exact h
          · rw [if_neg h0] at h ⊢
            exact folP_sub (fun dp bs t v => loadP_sub hs f dp bs t v) hs h
      rw [if_neg k7] at h ⊢
      exact asV_sub (fun l hl => listP_sub (fun bs t v => loadP_sub hs f dp bs t v) hl) h
def SubF (G : Rg) (L' : List Rg) : Prop := ∀ (a w : Int), 1 ≤ w → inb G.b G.xs.length a w = true → ∃ i g, fstI L' a w 0 = some i ∧ L'[i]? = some g ∧ ∀ k : Nat, (k : Int) ≤ w → (g.xs.drop (a - g.b).toNat).take k = (G.xs.drop (a - G.b).toNat).take k
theorem fst_one {G : Rg} {a w : Int} {i : Nat} (h : fstI [G] a w 0 = some i) : i = 0 ∧ inb G.b G.xs.length a w = true := by
  unfold fstI at h
  split at h
  · injection h with h
    exact ⟨h.symm, by assumption⟩
  · cases h
theorem SubF.sub {G : Rg} {L' : List Rg} (hs : SubF G L') : SubB [G] L' := by
  intro a w ys h
  unfold findB at h ⊢
  by_cases h8 : a % 8 = 0
  · rw [if_pos h8] at h ⊢
    cases hf : fstI [G] a (max (w : Int) 1) 0 with
    | none => rw [hf] at h; cases h
    | some i =>
      obtain ⟨rfl, hin⟩ := fst_one hf
      rw [hf] at h
      obtain ⟨i, g, e1, e2, e3⟩ := hs a (max (w : Int) 1) (by omega) hin
      rw [e1]
      dsimp only at h ⊢
      rw [e2]
      rw [← h, Option.map_some, e3 w (by omega)]
      rfl
  · rw [if_neg h8] at h; cases h
theorem LoadR_sub {T : List Tp} {G : Rg} {L' : List Rg} (hE : lstE L' = 0) (hs : SubF G L') {a t dp : Int} {v : V} (h : LoadR T [G] a t dp = .ok v) : LoadR T L' a t dp = .ok v := by
  unfold LoadR at h ⊢
  by_cases h1 : okE T t ≠ 0
  · rw [if_pos h1] at h; cases h
  rw [if_neg h1] at h ⊢
  by_cases h2 : dp < 0 ∨ 3 < dp
  · rw [if_pos h2] at h; cases h
  rw [if_neg h2] at h ⊢
  by_cases h3 : lstE [G] ≠ 0
  · rw [if_pos h3] at h; cases h
  rw [if_neg h3] at h
  rw [if_neg (not_not_intro hE)]
  obtain ⟨x, rfl, ho⟩ := okE_0 (Classical.not_not.1 h1)
  rw [Int.toNat_natCast] at h ⊢
  have hz1 := siz_pos (x + 1) ho (by omega)
  cases hf : fstI [G] a (sizT T x) 0 with
  | none => rw [hf] at h; cases h
  | some i =>
    obtain ⟨rfl, hin⟩ := fst_one hf
    rw [hf] at h
    obtain ⟨i, g, e1, e2, e3⟩ := hs a (sizT T x) hz1 hin
    rw [e1]
    dsimp only at h ⊢
    by_cases h4 : a % alnT T x ≠ 0
    · rw [if_pos h4] at h; cases h
    rw [if_neg h4] at h ⊢
    rw [e2]
    dsimp only
    have e4 := e3 (sizT T x).toNat (by omega)
    rw [e4]
    exact loadP_sub hs.sub _ _ _ _ _ h
theorem lst_two {x y : Rg} (hx : chkG x = 0) (hy : chkG y = 0) (ho : ¬ ovl y x) : lstE [x, y] = 0 := by
  unfold lstE
  rw [if_neg (by simp), if_neg (not_not_intro fun g hg => by
    rcases List.mem_cons.1 hg with rfl | hg
    · exact hx
    · rw [List.mem_singleton.1 hg]; exact hy)]
  rw [if_neg]
  rintro ⟨i, j, hi, hj, h⟩
  have hi2 : i < 2 := hi
  obtain rfl : i = 1 := by omega
  obtain rfl : j = 0 := by omega
  exact ho h
theorem sub_more {G M F : Rg} (hb : M.b = G.b) {o : List UInt8} (hx : M.xs = G.xs ++ o) : SubF G [M, F] := by
  intro a w hw hin
  obtain ⟨h1, h2⟩ := inb_iff.1 hin
  have hi : inb M.b M.xs.length a w = true := inb_iff.2 ⟨by omega, by rw [hx, List.length_append]; omega⟩
  refine ⟨0, M, by unfold fstI; rw [if_pos hi], rfl, fun k hk => ?_⟩
  rw [hb, hx, List.drop_append_of_le_length (by omega), List.take_append_of_le_length (by rw [List.length_drop]; omega)]
theorem sub_far {G F : Rg} (hf : G.b + G.xs.length ≤ F.b) : SubF G [F, G] := by
  intro a w hw hin
  obtain ⟨h1, h2⟩ := inb_iff.1 hin
  have hi : ¬ inb F.b F.xs.length a w = true := fun h => by have := inb_iff.1 h; omega
  refine ⟨1, G, ?_, rfl, fun k hk => rfl⟩
  unfold fstI
  rw [if_neg hi]
  unfold fstI
  rw [if_pos hin]
end Go.Proofs.Ytcpkdjikembpnaa.Ce
namespace Go.Proofs.Ytcpkdjikembpnaa.Ce
open Go.RowKit
theorem b_self (s : List UInt8) : (ByteArray.toList ⟨⟨s⟩⟩ == ByteArray.toList ⟨⟨s⟩⟩) = true := beq_self_eq_true _
theorem b_diff {s t : List UInt8} (h : s ≠ t) : (ByteArray.toList ⟨⟨s⟩⟩ == ByteArray.toList ⟨⟨t⟩⟩) = false := by
  rw [beq_eq_false_iff_ne]
  intro e
  exact h (by simpa [ByteArray.toList_eq] using e)
theorem b_bneqx (a b : Bool) (h : Hp) (n : Nat) : mBin Try.prog .neq 4 (.bool a) (.bool b) h n = some ⟨.bool (a != b), h, n, [], []⟩ := by cases a <;> cases b <;> rfl
theorem b_beqlx (a b : Bool) (h : Hp) (n : Nat) : mBin Try.prog .eql 4 (.bool a) (.bool b) h n = some ⟨.bool (a == b), h, n, [], []⟩ := by cases a <;> cases b <;> rfl
theorem b_beql0 (a : Bool) (h : Hp) (n : Nat) : mBin Try.prog .eql 4 (.bool a) (.bool a) h n = some ⟨.bool true, h, n, [], []⟩ := by cases a <;> rfl
theorem b_bneq0 (a : Bool) (h : Hp) (n : Nat) : mBin Try.prog .neq 4 (.bool a) (.bool a) h n = some ⟨.bool false, h, n, [], []⟩ := by cases a <;> rfl
theorem V.ext {v w : V} (h1 : v.kd = w.kd) (h2 : v.i = w.i) (h3 : v.s = w.s) (h4 : v.c = w.c) (h5 : v.l = w.l) : v = w := V.eq_iff.2 ⟨h1, h2, h3, h4, h5⟩
open Classical in
noncomputable def sameVs (l m : List V) : Bool := decide (l = m)
theorem sameVs_t {l m : List V} (h : l = m) : sameVs l m = true := by unfold sameVs; simp [h]
theorem sameVs_f {l m : List V} (h : l ≠ m) : sameVs l m = false := by unfold sameVs; simp [h]
variable (k d cl : Nat) (h : Hp) (n : Nat)
theorem eqfn_ev (hk : 30000 ≤ k) (A B : Option Addr) (l m : List V) (c c2 : Nat) (h1 : LH h n A l) (h2 : LH h n B m) (hl : l.length ≤ 20000)
    (ih : ∀ j (hj : j < l.length) (hj2 : j < m.length) (cl : Nat) (h : Hp) (n : Nat) (cs cs' : List Value), VH h n l[j] cs → VH h n m[j] cs' → SQ k d cl 24 [.agg ⟨cs⟩, .agg ⟨cs'⟩] h n fun v h' n' => v = .bool (sameV l[j] m[j]) ∧ h = h' ∧ n = n') :
    SQ k (d + 1) cl 53 [.slice A l.length c, .slice B m.length c2, .func (.func 24) ⟨[]⟩ ⟨[]⟩] h n fun v h' n' => v = .bool (sameVs l m) ∧ h' = h ∧ n' = n := by
  by_cases hlen : l.length = m.length
  · refine enter Try.func53 (by kernel_rfl) rfl (by kernel_rfl) rfl rfl rfl ?_
    (repeat' first | refine zcd ?_ | intro K' hK | (with_reducible refine zn hK ?_; clear hK) | fail | ((with_reducible first | apply zo1 | apply zo2 | apply o_guard rfl | apply x_cond | apply k_e1 rfl | apply k_e2 rfl | apply k_e0 rfl | apply k_e3 rfl | apply k_e4 rfl); (case he => exact ez0); (try case hok => exact ezO); all_goals try (intro hb; (try simp only [hbs, reduceCtorEq] at hb); try exact ezX)) | ((with_reducible apply o_undef rfl); (case hb => exact ez0)))
    refine x_loopV [6, 7, 8, 9, 17, 18, 19, 20, 21, 22, 23, 24, 25, 26, 27, 28, 29, 30, 31] [17] (fun k2 vs h5 n5 => ∃ q : Nat, k2 = l.length - q ∧ q ≤ l.length ∧ vs = [.int .i64 q] ∧ n ≤ n5 ∧ LH h5 n A l ∧ LH h5 n B m ∧ l.take q = m.take q) l.length rfl (by omega) ⟨0, rfl, by omega, ez0, Nat.le_refl _, h1, h2, by simp⟩ ?_
    rintro k2 g _ h5 n5 ⟨q, rfl, hq, rfl, hn5, hA5, hB5, htk⟩
    by_cases hql : q < l.length
    · have hqm : q < m.length := by omega
      obtain ⟨i1, o1, A1, cc1, rfl, hi1, c1, v1⟩ := hA5.at_ hql
      obtain ⟨i2, o2, A2, cc2, rfl, hi2, c2', v2⟩ := hB5.at_ hqm
      obtain ⟨x, hx⟩ : ∃ x, l[q] = x := ⟨_, rfl⟩
      obtain ⟨y, hy⟩ : ∃ y, m[q] = y := ⟨_, rfl⟩
      have ihq := ih q hql hqm
      rw [hx] at c1 v1
      rw [hy] at c2' v2
      rw [hx, hy] at ihq
      by_cases hxy : x = y
      · have hs : sameV x y = true := by rw [hxy]; exact sameV_t
        rw [hs] at ihq
        (repeat' first | refine zcd ?_ | intro K' hK | (with_reducible refine zn hK ?_; clear hK) | ((with_reducible apply o_callV (g := 24) w_none); (case hx => exact ez0); (case ha => exact ez0); (case hs => ((with_reducible apply ihq); (case a => exact (((v1.more hn5).set (by omega) _).set (by omega) _).more (by omega)); (case a => exact (((v2.more hn5).set (by omega) _).set (by omega) _).more (by omega)))); (case' hk => rintro _ h' n' ⟨rfl, rfl, rfl⟩)) | ((with_reducible first | apply zo1 | apply zo2 | apply o_guard rfl | apply x_cond | apply k_e1 rfl | apply k_e2 rfl | apply k_e0 rfl | apply k_e3 rfl | apply k_e4 rfl); (case he => exact ez2 c1 c2'); (try case hok => exact ezO); all_goals try (intro hb; (try simp only [hbs, reduceCtorEq] at hb); try exact ezX)) | ((with_reducible apply o_undef rfl); (case hb => exact ez0)))
        refine k_round (l.length - (q + 1)) (by omega) ⟨q + 1, rfl, by omega, ez0, by omega, (ezL hA5), (ezL hB5), ?_⟩
        rw [List.take_succ_eq_append_getElem hql, List.take_succ_eq_append_getElem hqm, htk, hx, hy, hxy]
      · have hs : sameV x y = false := sameV_f hxy
        rw [hs] at ihq
        have hne : l ≠ m := fun e => by subst e; exact hxy (by rw [← hx, ← hy])
        rw [sameVs_f hne]
        (repeat' first | refine zcd ?_ | intro K' hK | (with_reducible refine zn hK ?_; clear hK) | ((with_reducible apply o_callV (g := 24) w_none); (case hx => exact ez0); (case ha => exact ez0); (case hs => ((with_reducible apply ihq); (case a => exact (((v1.more hn5).set (by omega) _).set (by omega) _).more (by omega)); (case a => exact (((v2.more hn5).set (by omega) _).set (by omega) _).more (by omega)))); (case' hk => rintro _ h' n' ⟨rfl, rfl, rfl⟩)) | ((with_reducible first | apply zo1 | apply zo2 | apply o_guard rfl | apply x_cond | apply k_e1 rfl | apply k_e2 rfl | apply k_e0 rfl | apply k_e3 rfl | apply k_e4 rfl); (case he => exact ez2 c1 c2'); (try case hok => exact ezO); all_goals try (intro hb; (try simp only [hbs, reduceCtorEq] at hb); try exact ezX)) | ((with_reducible apply o_undef rfl); (case hb => exact ez0)))
        all_goals exact sw_flat rfl rfl ⟨rfl, rfl, rfl⟩
    · obtain rfl : q = l.length := by omega
      have hE : l = m := by
        have e2 := htk
        rw [List.take_length, hlen, List.take_length] at e2
        exact e2
      rw [sameVs_t hE]
      (repeat' first | refine zcd ?_ | intro K' hK | (with_reducible refine zn hK ?_; clear hK) | fail | ((with_reducible first | apply zo1 | apply zo2 | apply o_guard rfl | apply x_cond | apply k_e1 rfl | apply k_e2 rfl | apply k_e0 rfl | apply k_e3 rfl | apply k_e4 rfl); (case he => exact ez0); (try case hok => exact ezO); all_goals try (intro hb; (try simp only [hbs, reduceCtorEq] at hb); try exact ezX)) | ((with_reducible apply o_undef rfl); (case hb => exact ez0)))
      all_goals exact sw_flat rfl rfl ⟨rfl, rfl, rfl⟩
  · rw [sameVs_f fun e => hlen (by rw [e])]
    refine enter Try.func53 (by kernel_rfl) rfl (by kernel_rfl) rfl rfl rfl ?_
    (repeat' first | refine zcd ?_ | intro K' hK | (with_reducible refine zn hK ?_; clear hK) | fail | ((with_reducible first | apply zo1 | apply zo2 | apply o_guard rfl | apply x_cond | apply k_e1 rfl | apply k_e2 rfl | apply k_e0 rfl | apply k_e3 rfl | apply k_e4 rfl); (case he => exact ez0); (try case hok => exact ezO); all_goals try (intro hb; (try simp only [hbs, reduceCtorEq] at hb); try exact ezX)) | ((with_reducible apply o_undef rfl); (case hb => exact ez0)))
    all_goals exact sw_flat rfl rfl ⟨rfl, rfl, rfl⟩
theorem psamev_ev (hk : 30000 ≤ k) : ∀ N, ∀ (v w : V) (d cl : Nat) (h : Hp) (n : Nat) (cs cs' : List Value), Bd N v → VH h n v cs → VH h n w cs' →
    SQ k (d + 2 * N) cl 24 [.agg ⟨cs⟩, .agg ⟨cs'⟩] h n fun x h' n' => x = .bool (sameV v w) ∧ h' = h ∧ n' = n := by
  intro N
  induction N with
  | zero => intro v w d cl h n cs cs' hv; exact absurd hv (by unfold Bd; exact id)
  | succ N ihN =>
    intro v w d cl h n cs cs' hv h1 h2
    obtain ⟨hv1, hv2⟩ := hv
    rw [show d + 2 * (N + 1) = d + 2 * N + 1 + 1 from by omega]
    obtain ⟨A, cc, rfl, hA, hl1⟩ := h1.cut
    obtain ⟨B, cc2, rfl, hB, hl2⟩ := h2.cut
    by_cases he : v.kd = w.kd ∧ v.i = w.i ∧ v.s = w.s ∧ v.c = w.c
    · obtain ⟨e1, e2, e3, e4⟩ := he
      have hEq : sameV v w = sameVs v.l w.l := by
        by_cases hl : v.l = w.l
        · rw [sameVs_t hl, V.ext e1 e2 e3 e4 hl, sameV_t]
        · rw [sameVs_f hl, sameV_f fun h => hl (by rw [h])]
      rw [hEq]
      have q := fun (h5 : Hp) (n5 : Nat) (hA5 : LH h5 n5 A v.l) (hB5 : LH h5 n5 B w.l) => (eqfn_ev k (d + 2 * N) n h5 n5 hk A B v.l w.l cc cc2 hA5 hB5 (by omega) fun j hj hj2 cl h n cs cs' a b => (ihN _ _ d cl h n cs cs' (hv2 _ (List.getElem_mem hj)) a b).mono fun _ _ _ hp => ⟨hp.1, hp.2.1.symm, hp.2.2.symm⟩).mono (Φ' := fun v2 h2 n2 => v2 = .bool (sameVs v.l w.l) ∧ h5 = h2 ∧ n5 = n2) fun _ _ _ hp => ⟨hp.1, hp.2.1.symm, hp.2.2.symm⟩
      rw [e1, e2, e3, e4]
      refine enter Try.func24 (by kernel_rfl) rfl (by kernel_rfl) rfl rfl rfl ?_
      (repeat' first | refine zcd ?_ | intro K' hK | (with_reducible refine zn hK ?_; clear hK) | ((with_reducible apply o_callF (g := 53) w_none); (case ha => exact ez0); (case hs => ((with_reducible apply q); (case hA5 => exact ((hl1.set (Nat.le_refl _) _).set (by omega) _).more (by omega)); (case hB5 => exact ((hl2.set (Nat.le_refl _) _).set (by omega) _).more (by omega)))); (case' hk => rintro _ h' n' ⟨rfl, rfl, rfl⟩)) | ((with_reducible first | apply zo1 | apply zo2 | apply o_guard rfl | apply x_cond | apply k_e1 rfl | apply k_e2 rfl | apply k_e0 rfl | apply k_e3 rfl | apply k_e4 rfl); (case he => exact ez3 @b_strEql @b_self @b_beql0); (try case hok => exact ezO); all_goals try (intro hb; (try simp only [hbs, reduceCtorEq] at hb); try exact ezX)) | ((with_reducible apply o_undef rfl); (case hb => exact ez0)))
      all_goals exact sw_flat rfl rfl ⟨rfl, rfl, rfl⟩
    · rw [sameV_f fun h => he (by rw [h]; exact ⟨rfl, rfl, rfl, rfl⟩)]
      by_cases e1 : v.kd = w.kd
      · by_cases e2 : v.i = w.i
        · by_cases e3 : v.s = w.s
          · have e4 : (v.c == w.c) = false := beq_eq_false_iff_ne.2 fun e4 => he ⟨e1, e2, e3, e4⟩
            rw [e1, e2, e3]
            refine enter Try.func24 (by kernel_rfl) rfl (by kernel_rfl) rfl rfl rfl ?_
            (repeat' first | refine zcd ?_ | intro K' hK | (with_reducible refine zn hK ?_; clear hK) | fail | ((with_reducible first | apply zo1 | apply zo2 | apply o_guard rfl | apply x_cond | apply k_e1 rfl | apply k_e2 rfl | apply k_e0 rfl | apply k_e3 rfl | apply k_e4 rfl); (case he => exact ez4 @b_strEql @b_self @b_beqlx e4); (try case hok => exact ezO); all_goals try (intro hb; (try simp only [hbs, reduceCtorEq] at hb); try exact ezX)) | ((with_reducible apply o_undef rfl); (case hb => exact ez0)))
            all_goals exact sw_flat rfl rfl ⟨rfl, rfl, rfl⟩
          · have e5 := b_diff e3
            rw [e1, e2]
            refine enter Try.func24 (by kernel_rfl) rfl (by kernel_rfl) rfl rfl rfl ?_
            (repeat' first | refine zcd ?_ | intro K' hK | (with_reducible refine zn hK ?_; clear hK) | fail | ((with_reducible first | apply zo1 | apply zo2 | apply o_guard rfl | apply x_cond | apply k_e1 rfl | apply k_e2 rfl | apply k_e0 rfl | apply k_e3 rfl | apply k_e4 rfl); (case he => exact ez2 @b_strEql e5); (try case hok => exact ezO); all_goals try (intro hb; (try simp only [hbs, reduceCtorEq] at hb); try exact ezX)) | ((with_reducible apply o_undef rfl); (case hb => exact ez0)))
            all_goals exact sw_flat rfl rfl ⟨rfl, rfl, rfl⟩
        · rw [e1]
          refine enter Try.func24 (by kernel_rfl) rfl (by kernel_rfl) rfl rfl rfl ?_
          (repeat' first | refine zcd ?_ | intro K' hK | (with_reducible refine zn hK ?_; clear hK) | fail | ((with_reducible first | apply zo1 | apply zo2 | apply o_guard rfl | apply x_cond | apply k_e1 rfl | apply k_e2 rfl | apply k_e0 rfl | apply k_e3 rfl | apply k_e4 rfl); (case he => exact ez0); (try case hok => exact ezO); all_goals try (intro hb; (try simp only [hbs, reduceCtorEq] at hb); try exact ezX)) | ((with_reducible apply o_undef rfl); (case hb => exact ez0)))
          all_goals exact sw_flat rfl rfl ⟨rfl, rfl, rfl⟩
      · refine enter Try.func24 (by kernel_rfl) rfl (by kernel_rfl) rfl rfl rfl ?_
        (repeat' first | refine zcd ?_ | intro K' hK | (with_reducible refine zn hK ?_; clear hK) | fail | ((with_reducible first | apply zo1 | apply zo2 | apply o_guard rfl | apply x_cond | apply k_e1 rfl | apply k_e2 rfl | apply k_e0 rfl | apply k_e3 rfl | apply k_e4 rfl); (case he => exact ez0); (try case hok => exact ezO); all_goals try (intro hb; (try simp only [hbs, reduceCtorEq] at hb); try exact ezX)) | ((with_reducible apply o_undef rfl); (case hb => exact ez0)))
        all_goals exact sw_flat rfl rfl ⟨rfl, rfl, rfl⟩
theorem rsamev_ev (hk : 30000 ≤ k) : ∀ N, ∀ (v w : V) (d cl : Nat) (h : Hp) (n : Nat) (cs cs' : List Value), Bd N v → VH h n v cs → VH h n w cs' →
    SQ k (d + N) cl 15 [.agg ⟨cs⟩, .agg ⟨cs'⟩] h n fun x h' n' => x = .bool (sameV v w) ∧ h' = h ∧ n' = n := by
  intro N
  induction N with
  | zero => intro v w d cl h n cs cs' hv; exact absurd hv (by unfold Bd; exact id)
  | succ N ihN =>
    intro v w d cl h n cs cs' hv h1 h2
    obtain ⟨hv1, hv2⟩ := hv
    rw [show d + (N + 1) = d + N + 1 from by omega]
    obtain ⟨A, cc, rfl, hA, hl1⟩ := h1.cut
    obtain ⟨B, cc2, rfl, hB, hl2⟩ := h2.cut
    by_cases he : v.kd = w.kd ∧ v.i = w.i ∧ v.s = w.s ∧ v.c = w.c
    · obtain ⟨e1, e2, e3, e4⟩ := he
      by_cases hlen : v.l.length = w.l.length
      · have hlw : w.l.length ≤ 20000 := by omega
        rw [e1, e2, e3, e4]
        refine enter Try.func15 (by kernel_rfl) rfl (by kernel_rfl) rfl rfl rfl ?_
        (repeat' first | refine zcd ?_ | intro K' hK | (with_reducible refine zn hK ?_; clear hK) | fail | ((with_reducible first | apply zo1 | apply zo2 | apply o_guard rfl | apply x_cond | apply k_e1 rfl | apply k_e2 rfl | apply k_e0 rfl | apply k_e3 rfl | apply k_e4 rfl); (case he => exact ez4 @b_strNeq @b_self @b_bneq0 hlen); (try case hok => exact ezO); all_goals try (intro hb; (try simp only [hbs, reduceCtorEq] at hb); try exact ezX)) | ((with_reducible apply o_undef rfl); (case hb => exact ez0)))
        refine x_loopV [4, 5, 41, 42, 43, 44, 45, 46, 47, 48, 49, 50, 51, 52, 53, 54, 55, 56, 57, 58, 59] [5] (fun k2 vs h5 n5 => ∃ q : Nat, k2 = v.l.length - q ∧ q ≤ v.l.length ∧ vs = [.int .i64 q] ∧ n + 2 ≤ n5 ∧ LH h5 n A v.l ∧ LH h5 n B w.l ∧ v.l.take q = w.l.take q ∧ rowOf h5 n = some (32, false, vcell w.kd w.i w.s A w.l.length cc w.c) ∧ rowOf h5 (n + 1) = some (32, false, vcell w.kd w.i w.s B w.l.length cc2 w.c)) v.l.length rfl (by omega) ⟨0, rfl, by omega, ez0, Nat.le_refl _, (ezL hl1), (ezL hl2), by simp, ez0, ez0⟩ ?_
        rintro k2 g _ h5 n5 ⟨q, rfl, hq, rfl, hn5, hA5, hB5, htk, r1, r2⟩
        have f1 := cellAt_row (off := 3) r1
        have f2 := cellAt_row (off := 3) r2
        by_cases hql : q < v.l.length
        · have hqm : q < w.l.length := by omega
          obtain ⟨i1, o1, A1, cc1, rfl, hi1, c1, v1⟩ := hA5.at_ hql
          obtain ⟨i2, o2, A2, cc2, rfl, hi2, c2', v2⟩ := hB5.at_ hqm
          have ihq := fun (cl : Nat) (h : Hp) (n : Nat) (cs cs' : List Value) (a : VH h n v.l[q] cs) (b : VH h n w.l[q] cs') => (ihN _ _ d cl h n cs cs' (hv2 _ (List.getElem_mem hql)) a b).mono (Φ' := fun x2 h2 n2 => x2 = .bool (sameV v.l[q] w.l[q]) ∧ h = h2 ∧ n = n2) fun _ _ _ hp => ⟨hp.1, hp.2.1.symm, hp.2.2.symm⟩
          obtain ⟨x, hx⟩ : ∃ x, v.l[q] = x := ⟨_, rfl⟩
          obtain ⟨y, hy⟩ : ∃ y, w.l[q] = y := ⟨_, rfl⟩
          rw [hx] at c1 v1
          rw [hy] at c2' v2
          simp only [hx, hy] at ihq
          by_cases hxy : x = y
          · have hs : sameV x y = true := by rw [hxy]; exact sameV_t
            simp only [hs] at ihq
            (repeat' first | refine zcd ?_ | intro K' hK | (with_reducible refine zn hK ?_; clear hK) | ((with_reducible apply d_callS (g := 15) w_none); (case hs0 => exact rfl); (case ha => exact ez0); (case hs => ((with_reducible apply ihq); (case a => exact v1.more (by omega)); (case b => exact v2.more (by omega)))); (case' hk => rintro _ h' n' ⟨rfl, rfl, rfl⟩)) | (with_reducible refine x_drawnD (id := 6) [(1, 6), (4, 6), (1, 9), (4, 9)] (by kernel_rfl) fun K' hK => ?_) | ((with_reducible apply d_nil); (case hp => exact ezP); (case' hx => (refine hK _ _ _ ?_; clear hK))) | ((with_reducible apply d_pure w_none); (case hp => exact rfl); (case hc => exact rfl); (case he => exact ez4 f1 f2 c1 c2')) | ((with_reducible apply d_eff w_none); (case hc => exact rfl); (case he => exact ez4 f1 f2 c1 c2'); (case hok => exact ezO)) | ((with_reducible apply d_guard rfl); (case hb => exact ez4 f1 f2 c1 c2'); (case' h1 => intro hb; (try simp only [hbs, reduceCtorEq] at hb); try exact ezX); (case' h2 => intro hb; (try simp only [hbs, reduceCtorEq] at hb); try exact ezX)) | ((with_reducible first | apply zo1 | apply zo2 | apply o_guard rfl | apply x_cond | apply k_e1 rfl | apply k_e2 rfl | apply k_e0 rfl | apply k_e3 rfl | apply k_e4 rfl); (case he => exact ez4 f1 f2 c1 c2'); (try case hok => exact ezO); all_goals try (intro hb; (try simp only [hbs, reduceCtorEq] at hb); try exact ezX)) | ((with_reducible apply o_undef rfl); (case hb => exact ez0)))
            refine k_round (v.l.length - (q + 1)) (by omega) ⟨q + 1, rfl, by omega, ez0, by omega, (ezL hA5), (ezL hB5), ?_, r1, r2⟩
            rw [List.take_succ_eq_append_getElem hql, List.take_succ_eq_append_getElem hqm, htk, hx, hy, hxy]
          · have hs : sameV x y = false := sameV_f hxy
            simp only [hs] at ihq
            have hne : v ≠ w := fun e => by subst e; exact hxy (by rw [← hx, ← hy])
            rw [sameV_f hne]
            (repeat' first | refine zcd ?_ | intro K' hK | (with_reducible refine zn hK ?_; clear hK) | ((with_reducible apply d_callS (g := 15) w_none); (case hs0 => exact rfl); (case ha => exact ez0); (case hs => ((with_reducible apply ihq); (case a => exact v1.more (by omega)); (case b => exact v2.more (by omega)))); (case' hk => rintro _ h' n' ⟨rfl, rfl, rfl⟩)) | (with_reducible refine x_drawnD (id := 6) [(1, 6), (4, 6), (1, 9), (4, 9)] (by kernel_rfl) fun K' hK => ?_) | ((with_reducible apply d_nil); (case hp => exact ezP); (case' hx => (refine hK _ _ _ ?_; clear hK))) | ((with_reducible apply d_pure w_none); (case hp => exact rfl); (case hc => exact rfl); (case he => exact ez4 f1 f2 c1 c2')) | ((with_reducible apply d_eff w_none); (case hc => exact rfl); (case he => exact ez4 f1 f2 c1 c2'); (case hok => exact ezO)) | ((with_reducible apply d_guard rfl); (case hb => exact ez4 f1 f2 c1 c2'); (case' h1 => intro hb; (try simp only [hbs, reduceCtorEq] at hb); try exact ezX); (case' h2 => intro hb; (try simp only [hbs, reduceCtorEq] at hb); try exact ezX)) | ((with_reducible first | apply zo1 | apply zo2 | apply o_guard rfl | apply x_cond | apply k_e1 rfl | apply k_e2 rfl | apply k_e0 rfl | apply k_e3 rfl | apply k_e4 rfl); (case he => exact ez4 f1 f2 c1 c2'); (try case hok => exact ezO); all_goals try (intro hb; (try simp only [hbs, reduceCtorEq] at hb); try exact ezX)) | ((with_reducible apply o_undef rfl); (case hb => exact ez0)))
            all_goals exact sw_flat rfl rfl ⟨rfl, rfl, rfl⟩
        · obtain rfl : q = v.l.length := by omega
          have hE : v.l = w.l := by
            have e2 := htk
            rw [List.take_length, hlen, List.take_length] at e2
            exact e2
          rw [V.ext e1 e2 e3 e4 hE, sameV_t]
          (repeat' first | refine zcd ?_ | intro K' hK | (with_reducible refine zn hK ?_; clear hK) | fail | ((with_reducible first | apply zo1 | apply zo2 | apply o_guard rfl | apply x_cond | apply k_e1 rfl | apply k_e2 rfl | apply k_e0 rfl | apply k_e3 rfl | apply k_e4 rfl); (case he => exact ez2 f1 f2); (try case hok => exact ezO); all_goals try (intro hb; (try simp only [hbs, reduceCtorEq] at hb); try exact ezX)) | ((with_reducible apply o_undef rfl); (case hb => exact ez0)))
          all_goals exact sw_flat rfl rfl ⟨rfl, rfl, rfl⟩
      · rw [sameV_f fun h => hlen (by rw [h])]
        rw [e1, e2, e3, e4]
        refine enter Try.func15 (by kernel_rfl) rfl (by kernel_rfl) rfl rfl rfl ?_
        (repeat' first | refine zcd ?_ | intro K' hK | (with_reducible refine zn hK ?_; clear hK) | fail | ((with_reducible first | apply zo1 | apply zo2 | apply o_guard rfl | apply x_cond | apply k_e1 rfl | apply k_e2 rfl | apply k_e0 rfl | apply k_e3 rfl | apply k_e4 rfl); (case he => exact ez3 @b_strNeq @b_self @b_bneq0); (try case hok => exact ezO); all_goals try (intro hb; (try simp only [hbs, reduceCtorEq] at hb); try exact ezX)) | ((with_reducible apply o_undef rfl); (case hb => exact ez0)))
        all_goals exact sw_flat rfl rfl ⟨rfl, rfl, rfl⟩
    · rw [sameV_f fun h => he (by rw [h]; exact ⟨rfl, rfl, rfl, rfl⟩)]
      by_cases e1 : v.kd = w.kd
      · by_cases e2 : v.i = w.i
        · by_cases e3 : v.s = w.s
          · have e4 : (v.c == w.c) = false := beq_eq_false_iff_ne.2 fun e4 => he ⟨e1, e2, e3, e4⟩
            have e5b : (v.c != w.c) = true := by rw [bne_iff_ne]; exact fun e4 => he ⟨e1, e2, e3, e4⟩
            rw [e1, e2, e3]
            refine enter Try.func15 (by kernel_rfl) rfl (by kernel_rfl) rfl rfl rfl ?_
            (repeat' first | refine zcd ?_ | intro K' hK | (with_reducible refine zn hK ?_; clear hK) | fail | ((with_reducible first | apply zo1 | apply zo2 | apply o_guard rfl | apply x_cond | apply k_e1 rfl | apply k_e2 rfl | apply k_e0 rfl | apply k_e3 rfl | apply k_e4 rfl); (case he => (intros; simp (disch := first | assumption | omega | rfl | decide) only [go_sem, seval, tys, b_strNeq, b_self, b_bneqx, e5b, Bool.not_false] <;> rfl)); (try case hok => exact ezO); all_goals try (intro hb; (try simp only [hbs, reduceCtorEq] at hb); try exact ezX)) | ((with_reducible apply o_undef rfl); (case hb => exact ez0)))
            all_goals exact sw_flat rfl rfl ⟨rfl, rfl, rfl⟩
          · have e5 := b_diff e3
            rw [e1, e2]
            refine enter Try.func15 (by kernel_rfl) rfl (by kernel_rfl) rfl rfl rfl ?_
            (repeat' first | refine zcd ?_ | intro K' hK | (with_reducible refine zn hK ?_; clear hK) | fail | ((with_reducible first | apply zo1 | apply zo2 | apply o_guard rfl | apply x_cond | apply k_e1 rfl | apply k_e2 rfl | apply k_e0 rfl | apply k_e3 rfl | apply k_e4 rfl); (case he => exact ez2 @b_strNeq e5); (try case hok => exact ezO); all_goals try (intro hb; (try simp only [hbs, reduceCtorEq] at hb); try exact ezX)) | ((with_reducible apply o_undef rfl); (case hb => exact ez0)))
            all_goals exact sw_flat rfl rfl ⟨rfl, rfl, rfl⟩
        · rw [e1]
          refine enter Try.func15 (by kernel_rfl) rfl (by kernel_rfl) rfl rfl rfl ?_
          (repeat' first | refine zcd ?_ | intro K' hK | (with_reducible refine zn hK ?_; clear hK) | fail | ((with_reducible first | apply zo1 | apply zo2 | apply o_guard rfl | apply x_cond | apply k_e1 rfl | apply k_e2 rfl | apply k_e0 rfl | apply k_e3 rfl | apply k_e4 rfl); (case he => exact ez0); (try case hok => exact ezO); all_goals try (intro hb; (try simp only [hbs, reduceCtorEq] at hb); try exact ezX)) | ((with_reducible apply o_undef rfl); (case hb => exact ez0)))
          all_goals exact sw_flat rfl rfl ⟨rfl, rfl, rfl⟩
      · refine enter Try.func15 (by kernel_rfl) rfl (by kernel_rfl) rfl rfl rfl ?_
        (repeat' first | refine zcd ?_ | intro K' hK | (with_reducible refine zn hK ?_; clear hK) | fail | ((with_reducible first | apply zo1 | apply zo2 | apply o_guard rfl | apply x_cond | apply k_e1 rfl | apply k_e2 rfl | apply k_e0 rfl | apply k_e3 rfl | apply k_e4 rfl); (case he => exact ez0); (try case hok => exact ezO); all_goals try (intro hb; (try simp only [hbs, reduceCtorEq] at hb); try exact ezX)) | ((with_reducible apply o_undef rfl); (case hb => exact ez0)))
        all_goals exact sw_flat rfl rfl ⟨rfl, rfl, rfl⟩
end Go.Proofs.Ytcpkdjikembpnaa.Ce
