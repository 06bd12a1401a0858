/- Parts of the proof of ValueLoads: Hj, Go, Gp. No condition of its own. -/
import Derived.Test.YtcpkdjikembpnaaVlal
import Derived.Test.YtcpkdjikembpnaaVlaz
import Derived.Test.YtcpkdjikembpnaaVlba
set_option linter.unusedVariables false
set_option linter.unusedSimpArgs false
set_option maxRecDepth 100000
set_option maxHeartbeats 4000000
namespace Go.Proofs.Ytcpkdjikembpnaa.Ce
open Go.RowKit
variable (k d cl : Nat) (h : Hp) (n : Nat)
theorem rasked15_ev (hk : 30000 ≤ k) (A : Option Addr) (T : List Tp) (c : Nat) (hT : TabH h n A T) (hS : ∀ t ∈ T, t.fs.length ≤ 20000) (hm : T.length ≤ 9223372036854775807) (t : Int) :
    SQ k (d + 12) cl 36 [.slice A T.length c, .int .i64 t] h n fun v h' n' => v = .int .i64 (okE T t) ∧ h = h' ∧ n = n' := by
  have qs := fun (h6 : Hp) (n6 : Nat) (t : Int) (hT6 : TabH h6 n6 A T) => (rsize_ev5 k (d + 2) n h6 n6 hk A T c hT6 hS hm t).mono (Φ' := fun v h' n' => v = .tuple ⟨[.int .i64 (szR 1048576 T t).1, .int .i64 (szR 1048576 T t).2.1, .int .i64 (szR 1048576 T t).2.2]⟩ ∧ h6 = h' ∧ n6 = n') fun _ _ _ hp => ⟨by rw [hp.1, szR_eq], hp.2.1.symm, hp.2.2.symm⟩
  by_cases he : (szR 1048576 T t).2.2 = 0
  · obtain ⟨hC, ht, -⟩ := szR_0 he
    obtain ⟨i, rfl⟩ := Int.eq_ofNat_of_zero_le ht.1
    have q1 := qs h n i hT
    rw [he] at q1
    have q2 := (rreached_ev k (d + 8) n h n hk A T c hT hC.1 hC.2.1 i (by omega)).mono (Φ' := IntsR (reachL T i) h n) fun _ _ _ hv => IntsV.rd hv
    have hrl := reach_len T i
    have hl := hC.1
    have hok0 : (∀ x ∈ reachL T i, (szR 1048576 T x).2.2 = 0) → okE T i = 0 := fun hb => by unfold okE; rw [if_neg (not_not_intro he), Int.toNat_natCast, if_pos hb]
    have hok1 : (¬ ∀ x ∈ reachL T i, (szR 1048576 T x).2.2 = 0) → okE T i = 16 := fun hb => by unfold okE; rw [if_neg (not_not_intro he), Int.toNat_natCast, if_neg hb]
    obtain ⟨rl, hrle⟩ : ∃ rl, reachL T i = rl := ⟨_, rfl⟩
    have hmem : ∀ x ∈ rl, 0 ≤ x ∧ x < T.length := fun x hx => by
      rw [← hrle] at hx
      obtain ⟨y, rfl, hy, -⟩ := reach_mem.1 hx
      omega
    rw [hrle] at q2 hrl hok0 hok1
    obtain ⟨E, hEe⟩ : ∃ E, okE T i = E := ⟨_, rfl⟩
    rw [hEe]
    refine enter Try.func36 (by kernel_rfl) rfl (by kernel_rfl) rfl rfl rfl ?_
    (repeat' first | refine zcd ?_ | intro K' hK | (with_reducible refine zn hK ?_; clear hK) | ((with_reducible apply o_callF (g := 42) w_none); (case ha => exact ez0); (case hs => (exact q1)); (case' hk => rintro _ h' n' ⟨rfl, rfl, rfl⟩)) | ((with_reducible apply o_callF (g := 58) w_none); (case ha => exact ez0); (case hs => (exact q2)); (case' hk => rintro _ h' n' ⟨RA, rc, rfl, hrR, hRn, hn2, hk2⟩)) | ((with_reducible first | apply zo1 | apply zo2 | apply o_guard rfl | apply x_cond | apply k_e1 rfl | apply k_e2 rfl | apply k_e0 rfl | apply k_e3 rfl | apply k_e4 rfl); (case he => exact ez0); (try case hok => exact ezO); all_goals try (intro hb; (try simp only [hbs, reduceCtorEq] at hb); try exact ezX)) | ((with_reducible apply o_undef rfl); (case hb => exact ez0)))
    refine x_loopF [4, 9, 10, 11, 12, 26, 27, 28, 29, 30, 31, 32, 33, 34, 35, 36, 37, 38, 39, 40, 41, 42, 43, 44] [9] (fun m vs => ∃ q : Nat, m = rl.length - q ∧ q ≤ rl.length ∧ vs = [.int .i64 q] ∧ ∀ x ∈ rl.take q, (szR 1048576 T x).2.2 = 0) rl.length rfl (by omega) ⟨0, rfl, by omega, ez0, by simp⟩ ?_
    rintro m g _ ⟨q, rfl, hq, rfl, hall⟩
    by_cases hql : q < rl.length
    · obtain ⟨rid, rof, hRA, -, c1⟩ := int_at hrR hql
      subst hRA
      have hxm := hmem rl[q] (List.getElem_mem hql)
      obtain ⟨x, hx⟩ : ∃ x, rl[q] = x := ⟨_, rfl⟩
      rw [hx] at c1 hxm
      have q3 := qs h' n' x ((hT.keep (Nat.le_refl _) hk2).more hn2)
      by_cases hx0 : (szR 1048576 T x).2.2 = 0
      · rw [hx0] at q3
        (repeat' first | refine zcd ?_ | intro K' hK | (with_reducible refine zn hK ?_; clear hK) | ((with_reducible apply o_callF (g := 42) w_none); (case ha => exact ez0); (case hs => (exact q3)); (case' hk => rintro _ h' n' ⟨rfl, rfl, rfl⟩)) | ((with_reducible first | apply zo1 | apply zo2 | apply o_guard rfl | apply x_cond | apply k_e1 rfl | apply k_e2 rfl | apply k_e0 rfl | apply k_e3 rfl | apply k_e4 rfl); (case he => exact ez1 c1); (try case hok => exact ezO); all_goals try (intro hb; (try simp only [hbs, reduceCtorEq] at hb); try exact ezX)) | ((with_reducible apply o_undef rfl); (case hb => exact ez0)))
        refine k_round (rl.length - (q + 1)) (by omega) ⟨⟨rfl, rfl⟩, q + 1, rfl, by omega, ez0, fun y hy => ?_⟩
        rw [List.take_succ_eq_append_getElem hql] at hy
        rcases List.mem_append.1 hy with hy | hy
        · exact hall y hy
        · obtain rfl := List.mem_singleton.1 hy
          rw [hx]
          exact hx0
      · have h16 := szR_err hC hxm hx0
        have hE : E = 16 := by rw [← hEe, hok1 fun hh => hx0 (hh x (by rw [← hx]; exact List.getElem_mem hql))]
        rw [h16] at q3
        subst hE
        (repeat' first | refine zcd ?_ | intro K' hK | (with_reducible refine zn hK ?_; clear hK) | ((with_reducible apply o_callF (g := 42) w_none); (case ha => exact ez0); (case hs => (exact q3)); (case' hk => rintro _ h' n' ⟨rfl, rfl, rfl⟩)) | ((with_reducible first | apply zo1 | apply zo2 | apply o_guard rfl | apply x_cond | apply k_e1 rfl | apply k_e2 rfl | apply k_e0 rfl | apply k_e3 rfl | apply k_e4 rfl); (case he => exact ez1 c1); (try case hok => exact ezO); all_goals try (intro hb; (try simp only [hbs, reduceCtorEq] at hb); try exact ezX)) | ((with_reducible apply o_undef rfl); (case hb => exact ez0)))
        all_goals exact sw_flat rfl rfl ⟨rfl, rfl, rfl⟩
    · obtain rfl : q = rl.length := by omega
      rw [List.take_length] at hall
      have hE : E = 0 := by rw [← hEe, hok0 hall]
      subst hE
      (repeat' first | refine zcd ?_ | intro K' hK | (with_reducible refine zn hK ?_; clear hK) | fail | ((with_reducible first | apply zo1 | apply zo2 | apply o_guard rfl | apply x_cond | apply k_e1 rfl | apply k_e2 rfl | apply k_e0 rfl | apply k_e3 rfl | apply k_e4 rfl); (case he => exact ez0); (try case hok => exact ezO); all_goals try (intro hb; (try simp only [hbs, reduceCtorEq] at hb); try exact ezX)) | ((with_reducible apply o_undef rfl); (case hb => exact ez0)))
      all_goals exact sw_flat rfl rfl ⟨rfl, rfl, rfl⟩
  · have e : okE T t = (szR 1048576 T t).2.2 := by unfold okE; rw [if_pos he]
    rw [e]
    have q1 := qs h n t hT
    obtain ⟨E, hE⟩ : ∃ E, (szR 1048576 T t).2.2 = E := ⟨_, rfl⟩
    rw [hE] at q1 he ⊢
    refine enter Try.func36 (by kernel_rfl) rfl (by kernel_rfl) rfl rfl rfl ?_
    (repeat' first | refine zcd ?_ | intro K' hK | (with_reducible refine zn hK ?_; clear hK) | ((with_reducible apply o_callF (g := 42) w_none); (case ha => exact ez0); (case hs => (exact q1)); (case' hk => rintro _ h' n' ⟨rfl, rfl, rfl⟩)) | ((with_reducible first | apply zo1 | apply zo2 | apply o_guard rfl | apply x_cond | apply k_e1 rfl | apply k_e2 rfl | apply k_e0 rfl | apply k_e3 rfl | apply k_e4 rfl); (case he => exact ez0); (try case hok => exact ezO); all_goals try (intro hb; (try simp only [hbs, reduceCtorEq] at hb); try exact ezX)) | ((with_reducible apply o_undef rfl); (case hb => exact ez0)))
    all_goals exact sw_flat rfl rfl ⟨rfl, rfl, rfl⟩
theorem rload0_ev (hk : 30000 ≤ k) (TA A : Option Addr) (T : List Tp) (L : List Rg) (tc gc : Nat) (hT : TabH h n TA T) (hS : ∀ t ∈ T, t.fs.length ≤ 20000) (hm : T.length ≤ 9223372036854775807) (hR : RgH h n A L) (hl : L.length ≤ 100) (hlx : ∀ g ∈ L, g.xs.length ≤ 20100) (a t dp : Int) (ha0 : 0 ≤ a) (ha1 : a < 18446744073709551616) :
    SQ k (d + 4100) cl 12 [.slice TA T.length tc, .slice A L.length gc, .int .u64 a, .int .i64 t, .int .i64 dp] h n (LdV (LoadR T L a t dp) h n) := by
  have qa := fun (h6 : Hp) (n6 : Nat) (hT6 : TabH h6 n6 TA T) => rasked15_ev k (d + 4087) n h6 n6 hk TA T tc hT6 hS hm t
  have qL := fun (h6 : Hp) (n6 : Nat) (hR6 : RgH h6 n6 A L) => listed_ev k (d + 4096) n h6 n6 hk A L gc hR6 hl
  by_cases hE : okE T t = 0
  · obtain ⟨x, rfl, ho⟩ := okE_0 hE
    simp only [hE] at qa
    by_cases hdp : dp < 0 ∨ 3 < dp
    · have e : LoadR T L a x dp = .error 2 := by unfold LoadR; rw [if_neg (not_not_intro hE), if_pos hdp]
      rw [e]
      refine enter Try.func12 (by kernel_rfl) rfl (by kernel_rfl) rfl rfl rfl ?_
      (repeat' first | refine zcd ?_ | intro K' hK | (with_reducible refine zn hK ?_; clear hK) | ((with_reducible apply o_callF (g := 36) w_none); (case ha => exact ez0); (case hs => ((with_reducible apply qa); exact ezT hT)); (case' hk => rintro _ h' n' ⟨rfl, rfl, rfl⟩)) | ((with_reducible first | apply zo1 | apply zo2 | apply o_guard rfl | apply x_cond | apply k_e1 rfl | apply k_e2 rfl | apply k_e0 rfl | apply k_e3 rfl | apply k_e4 rfl); (case he => exact ez0); (try case hok => exact ezO); all_goals try (intro hb; (try simp only [hbs, reduceCtorEq] at hb); try exact ezX)) | ((with_reducible apply o_undef rfl); (case hb => exact ez0)))
      all_goals exact sw_flat rfl rfl ⟨rfl, by decide, rfl, rfl⟩
    · by_cases hLE : lstE L = 0
      · have hC := lstE_chk hLE
        have hz1 := siz_pos (x + 1) ho (by omega)
        have hz2 := ho.bnd
        have hal : alnT T x = 1 ∨ alnT T x = 8 := (sizT_ok ho.chk ho.lt).2.2
        have e : LoadR T L a x dp = match fstI L a (sizT T x) 0 with
            | none => .error 16
            | some i => if a % alnT T x ≠ 0 then .error 16 else match L[i]? with
              | none => .error 0
              | some g => loadP T L 1000 dp.toNat ((g.xs.drop (a - g.b).toNat).take (sizT T x).toNat) x := by
          unfold LoadR
          rw [if_neg (not_not_intro hE), if_neg hdp, if_neg (not_not_intro hLE), Int.toNat_natCast]
          rfl
        rw [e]
        rw [hLE] at qL
        have qz := fun (h6 : Hp) (n6 : Nat) (hT6 : TabH h6 n6 TA T) => (rsize_ev5 k (d + 4090) n h6 n6 hk TA T tc hT6 hS hm x).mono (Φ' := fun v h' n' => v = .tuple ⟨[.int .i64 (sizT T x), .int .i64 (alnT T x), .int .i64 0]⟩ ∧ h6 = h' ∧ n6 = n') fun _ _ _ hp => ⟨by rw [hp.1, ← szR_eq, ho.size]; rfl, hp.2.1.symm, hp.2.2.symm⟩
        have qh := fun (h6 : Hp) (n6 : Nat) (w' : Int) (hw' : w' = sizT T x) (hR6 : RgH h6 n6 A L) => (held_ev k (d + 4097) n h6 n6 hk A L gc hR6 hl hC a w' ha0 ha1 (by omega) (by omega)).mono (Φ' := fun v h' n' => v = .bool (fstI L a (sizT T x) 0).isSome ∧ h6 = h' ∧ n6 = n') fun _ _ _ hp => ⟨by rw [hp.1, hw'], hp.2⟩
        obtain ⟨D, rfl⟩ : ∃ D : Nat, dp = (D : Int) := ⟨dp.toNat, by omega⟩
        have qd := fun (bs : List UInt8) (hat : AtB L a bs) (hb : bs.length = (sizT T x).toNat) (h6 : Hp) (n6 : Nat) (hT6 : TabH h6 n6 TA T) (hR6 : RgH h6 n6 A L) => rload15_ev k hk TA A T L tc gc ho.chk.1 hl hLE 1000 x D ho (by omega) (by have := ho.lt; have := ho.chk.1; omega) (d + 89) n h6 n6 a bs hT6 hR6 hat (by omega) (by omega)
        have hszx : ∃ z, sizT T x = z := ⟨_, rfl⟩
        obtain ⟨z0, hz0⟩ := hszx
        obtain ⟨al, hale⟩ : ∃ al, alnT T x = al := ⟨_, rfl⟩
        simp only [hz0] at qz qh hz1 hz2 qd ⊢
        simp only [hale] at qz hal ⊢
        have hmx : (if (1 : Int) < z0 then z0 else 1) = z0 := by split <;> omega
        have hmx2 : (if z0 < (1 : Int) then 1 else z0) = z0 := by split <;> omega
        rw [Int.toNat_natCast]
        by_cases hmod : a % al = 0
        · cases hfi : fstI L a z0 0 with
          | none =>
            simp only [hfi, Option.isSome_none] at qh
            dsimp only
            rcases hal with rfl | rfl
            all_goals
              refine enter Try.func12 (by kernel_rfl) rfl (by kernel_rfl) rfl rfl rfl ?_
              (repeat' first | refine zcd ?_ | intro K' hK | (with_reducible refine zn hK ?_; clear hK) | ((with_reducible apply o_callF (g := 36) w_none); (case ha => exact ez0); (case hs => ((with_reducible apply qa); exact ezT hT)); (case' hk => rintro _ h' n' ⟨rfl, rfl, rfl⟩)) | ((with_reducible apply o_callF (g := 41) w_none); (case ha => exact ez0); (case hs => ((with_reducible apply qL); exact ezG hR)); (case' hk => rintro _ h' n' ⟨rfl, rfl, rfl⟩)) | ((with_reducible apply o_callF (g := 42) w_none); (case ha => exact ez0); (case hs => ((with_reducible apply qz); exact ezT hT)); (case' hk => rintro _ h' n' ⟨rfl, rfl, rfl⟩)) | ((with_reducible apply o_callF (g := 43) w_none); (case ha => exact ez0); (case hs => ((with_reducible apply qh); (case hw' => first | omega | (split <;> omega)); exact ezG hR)); (case' hk => rintro _ h' n' ⟨rfl, rfl, rfl⟩)) | ((with_reducible first | apply zo1 | apply zo2 | apply o_guard rfl | apply x_cond | apply k_e1 rfl | apply k_e2 rfl | apply k_e0 rfl | apply k_e3 rfl | apply k_e4 rfl); (case he => exact ez2 hmx hmx2); (try case hok => exact ezO); all_goals try (intro hb; (try simp only [hbs, reduceCtorEq] at hb); try exact ezX)) | ((with_reducible apply o_undef rfl); (case hb => exact ez0)))
              all_goals exact sw_flat rfl rfl ⟨rfl, by decide, rfl, rfl⟩
          | some i =>
            simp only [hfi, Option.isSome_some] at qh
            dsimp only
            obtain ⟨q, hq, eq, hin, -⟩ := fstI_some hfi
            obtain rfl : i = q := by omega
            rw [List.getElem?_eq_getElem hq, if_neg (not_not_intro hmod)]
            obtain ⟨hi1, hi2⟩ := inb_iff.1 hin
            dsimp only
            obtain ⟨bs, hbse⟩ : ∃ bs, (L[i].xs.drop (a - L[i].b).toNat).take z0.toNat = bs := ⟨_, rfl⟩
            have hbl : bs.length = z0.toNat := by rw [← hbse, List.length_take, List.length_drop]; omega
            have hat : AtB L a bs := ⟨i, hq, hi1, by omega, by rw [hbl]; exact hbse⟩
            have qf0 := qd bs hat hbl
            rw [hbse]
            obtain ⟨res, hres⟩ : ∃ res, loadP T L 1000 D bs x = res := ⟨_, rfl⟩
            rw [hres] at qf0 ⊢
            clear qd
            rcases hal with rfl | rfl
            all_goals
              cases res with
              | error e =>
                have qf := fun (h6 : Hp) (n6 : Nat) (hT6 : TabH h6 n6 TA T) (hR6 : RgH h6 n6 A L) => (qf0 h6 n6 hT6 hR6).mono (Φ' := fun v h' n' => v = .tuple ⟨[.agg ⟨vcell 0 0 [] none 0 0 false⟩, .int .i64 e]⟩ ∧ e ≠ 0 ∧ h6 = h' ∧ n6 = n') fun _ _ _ hp => ⟨hp.1, hp.2.1, hp.2.2.1.symm, hp.2.2.2.symm⟩
                refine enter Try.func12 (by kernel_rfl) rfl (by kernel_rfl) rfl rfl rfl ?_
                (repeat' first | refine zcd ?_ | intro K' hK | (with_reducible refine zn hK ?_; clear hK) | ((with_reducible apply o_callF (g := 36) w_none); (case ha => exact ez0); (case hs => ((with_reducible apply qa); exact ezT hT)); (case' hk => rintro _ h' n' ⟨rfl, rfl, rfl⟩)) | ((with_reducible apply o_callF (g := 41) w_none); (case ha => exact ez0); (case hs => ((with_reducible apply qL); exact ezG hR)); (case' hk => rintro _ h' n' ⟨rfl, rfl, rfl⟩)) | ((with_reducible apply o_callF (g := 42) w_none); (case ha => exact ez0); (case hs => ((with_reducible apply qz); exact ezT hT)); (case' hk => rintro _ h' n' ⟨rfl, rfl, rfl⟩)) | ((with_reducible apply o_callF (g := 43) w_none); (case ha => exact ez0); (case hs => ((with_reducible apply qh); (case hw' => first | omega | (split <;> omega)); exact ezG hR)); (case' hk => rintro _ h' n' ⟨rfl, rfl, rfl⟩)) | ((with_reducible apply o_callF (g := 44) w_none); (case ha => exact ez0); (case hs => ((with_reducible apply qf); (all_goals first | exact ezT hT | exact ezG hR))); (case' hk => rintro _ h' n' ⟨rfl, he0, rfl, rfl⟩)) | ((with_reducible first | apply zo1 | apply zo2 | apply o_guard rfl | apply x_cond | apply k_e1 rfl | apply k_e2 rfl | apply k_e0 rfl | apply k_e3 rfl | apply k_e4 rfl); (case he => exact ez2 hmx hmx2); (try case hok => exact ezO); all_goals try (intro hb; (try simp only [hbs, reduceCtorEq] at hb); try exact ezX)) | ((with_reducible apply o_undef rfl); (case hb => exact ez0)))
                all_goals exact sw_flat rfl rfl ⟨rfl, he0, rfl, rfl⟩
              | ok xv =>
                have qf := fun (h6 : Hp) (n6 : Nat) (hT6 : TabH h6 n6 TA T) (hR6 : RgH h6 n6 A L) => (qf0 h6 n6 hT6 hR6).mono (Φ' := fun v h' n' => ∃ A1 cc1, v = .tuple ⟨[.agg ⟨vcell xv.kd xv.i xv.s A1 xv.l.length cc1 xv.c⟩, .int .i64 0]⟩ ∧ FH h' n6 n' xv (vcell xv.kd xv.i xv.s A1 xv.l.length cc1 xv.c) ∧ n6 ≤ n' ∧ ∀ b, b < n6 → h'.get b = h6.get b) fun v h' n' ⟨cs, e1, hf, a, b⟩ => by
                  obtain ⟨A1, cc1, rfl⟩ := hf.cells
                  exact ⟨A1, cc1, e1, hf, a, b⟩
                refine enter Try.func12 (by kernel_rfl) rfl (by kernel_rfl) rfl rfl rfl ?_
                (repeat' first | refine zcd ?_ | intro K' hK | (with_reducible refine zn hK ?_; clear hK) | ((with_reducible apply o_callF (g := 36) w_none); (case ha => exact ez0); (case hs => ((with_reducible apply qa); exact ezT hT)); (case' hk => rintro _ h' n' ⟨rfl, rfl, rfl⟩)) | ((with_reducible apply o_callF (g := 41) w_none); (case ha => exact ez0); (case hs => ((with_reducible apply qL); exact ezG hR)); (case' hk => rintro _ h' n' ⟨rfl, rfl, rfl⟩)) | ((with_reducible apply o_callF (g := 42) w_none); (case ha => exact ez0); (case hs => ((with_reducible apply qz); exact ezT hT)); (case' hk => rintro _ h' n' ⟨rfl, rfl, rfl⟩)) | ((with_reducible apply o_callF (g := 43) w_none); (case ha => exact ez0); (case hs => ((with_reducible apply qh); (case hw' => first | omega | (split <;> omega)); exact ezG hR)); (case' hk => rintro _ h' n' ⟨rfl, rfl, rfl⟩)) | ((with_reducible apply o_callF (g := 44) w_none); (case ha => exact ez0); (case hs => ((with_reducible apply qf); (all_goals first | exact ezT hT | exact ezG hR))); (case' hk => rintro _ h' n' ⟨A1, cc1, rfl, hfx, hn6, hk6⟩)) | ((with_reducible first | apply zo1 | apply zo2 | apply o_guard rfl | apply x_cond | apply k_e1 rfl | apply k_e2 rfl | apply k_e0 rfl | apply k_e3 rfl | apply k_e4 rfl); (case he => exact ez2 hmx hmx2); (try case hok => exact ezO); all_goals try (intro hb; (try simp only [hbs, reduceCtorEq] at hb); try exact ezX)) | ((with_reducible apply o_undef rfl); (case hb => exact ez0)))
                have wV := rwOf_row (show rowOf h' n = some (32, false, vcell 0 0 [] none 0 0 false) from by
                  rw [rowOf_keep (hk6 _ (by omega))]
                  simp (disch := first | assumption | omega | rfl | decide) only [go_sem, seval, tys]
                  try rfl)
                (repeat' first | refine zcd ?_ | intro K' hK | (with_reducible refine zn hK ?_; clear hK) | fail | ((with_reducible first | apply zo1 | apply zo2 | apply o_guard rfl | apply x_cond | apply k_e1 rfl | apply k_e2 rfl | apply k_e0 rfl | apply k_e3 rfl | apply k_e4 rfl); (case he => exact ez1 wV); (try case hok => exact ezO); all_goals try (intro hb; (try simp only [hbs, reduceCtorEq] at hb); try exact ezX)) | ((with_reducible apply o_undef rfl); (case hb => exact ez0)))
                refine sw_fh (hfx.keep (by omega) (Nat.le_refl _) fun b hb1 hb2 => by (repeat rw [Hp.get_ne _ _ (by omega)])) (by omega) (fun b hb => by (repeat rw [Hp.get_ne _ _ (by omega)]); rw [hk6 _ (by omega)]; (repeat rw [Hp.get_ne _ _ (by omega)])) fun cs2 h2 n2 a b c => ⟨cs2, rfl, a, b, c⟩
        · have hif : (match fstI L a z0 0 with
              | none => .error 16
              | some i => if a % al ≠ 0 then .error 16 else match L[i]? with
                | none => .error 0
                | some g => loadP T L 1000 D ((g.xs.drop (a - g.b).toNat).take z0.toNat) x) = (.error 16 : Except Int V) := by
            split
            · rfl
            · rw [if_pos hmod]
          rw [hif]
          rcases hal with rfl | rfl
          · omega
          · refine enter Try.func12 (by kernel_rfl) rfl (by kernel_rfl) rfl rfl rfl ?_
            (repeat' first | refine zcd ?_ | intro K' hK | (with_reducible refine zn hK ?_; clear hK) | ((with_reducible apply o_callF (g := 36) w_none); (case ha => exact ez0); (case hs => ((with_reducible apply qa); exact ezT hT)); (case' hk => rintro _ h' n' ⟨rfl, rfl, rfl⟩)) | ((with_reducible apply o_callF (g := 41) w_none); (case ha => exact ez0); (case hs => ((with_reducible apply qL); exact ezG hR)); (case' hk => rintro _ h' n' ⟨rfl, rfl, rfl⟩)) | ((with_reducible apply o_callF (g := 42) w_none); (case ha => exact ez0); (case hs => ((with_reducible apply qz); exact ezT hT)); (case' hk => rintro _ h' n' ⟨rfl, rfl, rfl⟩)) | ((with_reducible apply o_callF (g := 43) w_none); (case ha => exact ez0); (case hs => ((with_reducible apply qh); (case hw' => first | omega | (split <;> omega)); exact ezG hR)); (case' hk => rintro _ h' n' ⟨rfl, rfl, rfl⟩)) | ((with_reducible first | apply zo1 | apply zo2 | apply o_guard rfl | apply x_cond | apply k_e1 rfl | apply k_e2 rfl | apply k_e0 rfl | apply k_e3 rfl | apply k_e4 rfl); (case he => exact ez2 hmx hmx2); (try case hok => exact ezO); all_goals try (intro hb; (try simp only [hbs, reduceCtorEq] at hb); try exact ezX)) | ((with_reducible apply o_undef rfl); (case hb => exact ez0)))
            all_goals exact sw_flat rfl rfl ⟨rfl, by decide, rfl, rfl⟩
      · have e : LoadR T L a x dp = .error (lstE L) := by unfold LoadR; rw [if_neg (not_not_intro hE), if_neg hdp, if_pos hLE]
        rw [e]
        obtain ⟨E, hEe⟩ : ∃ E, lstE L = E := ⟨_, rfl⟩
        simp only [hEe] at qL hLE ⊢
        refine enter Try.func12 (by kernel_rfl) rfl (by kernel_rfl) rfl rfl rfl ?_
        (repeat' first | refine zcd ?_ | intro K' hK | (with_reducible refine zn hK ?_; clear hK) | ((with_reducible apply o_callF (g := 36) w_none); (case ha => exact ez0); (case hs => ((with_reducible apply qa); exact ezT hT)); (case' hk => rintro _ h' n' ⟨rfl, rfl, rfl⟩)) | ((with_reducible apply o_callF (g := 41) w_none); (case ha => exact ez0); (case hs => ((with_reducible apply qL); exact ezG hR)); (case' hk => rintro _ h' n' ⟨rfl, rfl, rfl⟩)) | ((with_reducible first | apply zo1 | apply zo2 | apply o_guard rfl | apply x_cond | apply k_e1 rfl | apply k_e2 rfl | apply k_e0 rfl | apply k_e3 rfl | apply k_e4 rfl); (case he => exact ez0); (try case hok => exact ezO); all_goals try (intro hb; (try simp only [hbs, reduceCtorEq] at hb); try exact ezX)) | ((with_reducible apply o_undef rfl); (case hb => exact ez0)))
        all_goals exact sw_flat rfl rfl ⟨rfl, hLE, rfl, rfl⟩
  · have e : LoadR T L a t dp = .error (okE T t) := by unfold LoadR; rw [if_pos hE]
    rw [e]
    obtain ⟨E, hEe⟩ : ∃ E, okE T t = E := ⟨_, rfl⟩
    simp only [hEe] at qa hE ⊢
    refine enter Try.func12 (by kernel_rfl) rfl (by kernel_rfl) rfl rfl rfl ?_
    (repeat' first | refine zcd ?_ | intro K' hK | (with_reducible refine zn hK ?_; clear hK) | ((with_reducible apply o_callF (g := 36) w_none); (case ha => exact ez0); (case hs => ((with_reducible apply qa); exact ezT hT)); (case' hk => rintro _ h' n' ⟨rfl, rfl, rfl⟩)) | ((with_reducible first | apply zo1 | apply zo2 | apply o_guard rfl | apply x_cond | apply k_e1 rfl | apply k_e2 rfl | apply k_e0 rfl | apply k_e3 rfl | apply k_e4 rfl); (case he => exact ez0); (try case hok => exact ezO); all_goals try (intro hb; (try simp only [hbs, reduceCtorEq] at hb); try exact ezX)) | ((with_reducible apply o_undef rfl); (case hb => exact ez0)))
    all_goals exact sw_flat rfl rfl ⟨rfl, hE, rfl, rfl⟩
end Go.Proofs.Ytcpkdjikembpnaa.Ce
namespace Go.Proofs.Ytcpkdjikembpnaa.Ce
open Go.RowKit
def zeroV (T : List Tp) : Nat → Nat → V
  | 0, _ => .mk 0 0 [] [] false
  | f + 1, t => match T[t]? with
    | none => .mk 0 0 [] [] false
    | some x => .mk x.kd 0 [] ((prtT x).map fun p => zeroV T f p.toNat) false
def FhV (x : V) (h : Hp) (n : Nat) (v : Value) (h' : Hp) (n' : Nat) : Prop := ∃ cs, v = .agg ⟨cs⟩ ∧ FH h' n n' x cs ∧ n ≤ n' ∧ ∀ b, b < n → h'.get b = h.get b
section
variable {h h' : Hp} {n n' : Nat} {Φ : Value → Hp → Nat → Prop}
theorem sw_fh1 {x : V} {cs : List Value} (hf : FH h' n n' x cs) (hn : n ≤ n') (hkeep : ∀ b, b < n → h'.get b = h.get b)
    (hk : ∀ cs2 h2 n2, FH h2 n n2 x cs2 → n ≤ n2 → (∀ b, b < n → h2.get b = h.get b) → Φ (.agg ⟨cs2⟩) h2 n2) : kSweep h n Φ (.agg ⟨cs⟩) h' n' := by
  cases hf with
  | leaf kd i s c => exact sw_flat rfl rfl (hk _ h n (.leaf kd i s c) (Nat.le_refl _) fun _ _ => rfl)
  | node kd i s c l id rows hl a b hr hlen hkk =>
    have hid : idV n (.agg ⟨vcell kd i s (some ⟨id, 0, none⟩) l.length l.length c⟩) = [id] := by
      show ((bif Nat.ble n id then [id] else []) ++ []) = [id]
      rw [ble_t a]
      rfl
    by_cases hp : ∀ u ∈ rows, idA n u = []
    · refine sw_row (v' := .agg ⟨vcell kd i s (some ⟨n, 0, none⟩) l.length l.length c⟩) hid rfl b hr hp ?_ ?_
      · show Value.agg ⟨vcell kd i s (some ⟨reN n [id] id, 0, none⟩) l.length l.length c⟩ = _
        rw [reN_hit]
      · refine hk _ _ _ (.node kd i s c l n rows hl (Nat.le_refl _) (by omega) (rowOf_same _ _ _ _ _) hlen fun j hj => ?_) (by omega) fun b hb => Hp.get_ne _ _ (by omega)
        exact (hkk j hj).plain (fun u hu => hp u (List.mem_of_mem_drop (List.mem_of_mem_take hu))) _ _
    · have hp2 : ∃ u ∈ rows, idA n u ≠ [] := Classical.byContradiction fun hh => hp fun u hu => Classical.byContradiction fun h2 => hh ⟨u, hu, h2⟩
      obtain ⟨u, hu, hi⟩ := hp2
      exact sw_keep hid hr hu hi (hk _ h' n' (.node kd i s c l id rows hl a b hr hlen hkk) hn hkeep)
end
variable (k d cl : Nat) (h : Hp) (n : Nat)
theorem vzero_ev (hk : 30000 ≤ k) (A : Option Addr) (T : List Tp) (c : Nat) (hS : ∀ t ∈ T, t.fs.length ≤ 20000) (hm : T.length ≤ 32) :
    ∀ (f t : Nat), OkV T t → t < f → ∀ (d cl : Nat) (h : Hp) (n : Nat), TabH h n A T →
    SQ k (d + f + 2) cl 45 [.slice A T.length c, .int .i64 t] h n (FhV (zeroV T f t) h n) := by
  intro f
  induction f with
  | zero => intro t _ hlt; omega
  | succ f ihf =>
  intro t ho hlt d cl h n hT
  rw [show d + (f + 1) + 2 = d + f + 2 + 1 from by omega]
  have htl := ho.lt
  have hfi := ho.chk.2.1 t htl
  have hfd := hT.fd _ (List.getElem_mem htl)
  obtain ⟨tid, toff, hTA, htid, hti, ht0, -⟩ := hT.at_ htl
  subst hTA
  have hpl := prt_len ho
  have hpi := fun q (a : q < (prtT T[t]).length) (b : q < (offsT T T[t]).length) => prt_in ho a b
  have hz : zeroV T (f + 1) t = .mk T[t].kd 0 [] ((prtT T[t]).map fun p => zeroV T f p.toNat) false := by
    rw [zeroV, List.getElem?_eq_getElem htl]
  have hnone : ∀ q (hq : q < (prtT T[t]).length), ∃ y : Nat, (prtT T[t])[q] = (y : Int) ∧ y < t ∧ OkV T y := fun q hq => by
    obtain ⟨y, e, a, b, -⟩ := hpi q hq (by omega)
    exact ⟨y, e, a, b⟩
  rw [hz]
  obtain ⟨x, hx⟩ : ∃ x, T[t] = x := ⟨_, rfl⟩
  simp only [hx] at hfi hfd hti ht0 hpl hnone ⊢
  obtain ⟨kd, el, ln, fs, FA, fc⟩ := x
  dsimp only at hfi hfd hti ht0 ⊢
  have qp := fun (cl : Nat) (h6 : Hp) (n6 : Nat) (hr6 : RdH h6 n6 FA (fv fs)) => ((vparts_ev k (d + f + 1) cl h6 n6 hk ⟨kd, el, ln, fs, FA, fc⟩ hfi hr6)).mono fun _ _ _ hh => IntsV.rd hh
  obtain ⟨ps, hps⟩ : ∃ ps, prtT ⟨kd, el, ln, fs, FA, fc⟩ = ps := ⟨_, rfl⟩
  simp only [hps] at qp hpl hnone ⊢
  obtain ⟨zs, hzs⟩ : ∃ zs, ps.map (fun p => zeroV T f p.toNat) = zs := ⟨_, rfl⟩
  rw [hzs]
  refine enter Try.func45 (by kernel_rfl) rfl (by kernel_rfl) rfl rfl rfl ?_
  (repeat' first | refine zcd ?_ | intro K' hK | (with_reducible refine zn hK ?_; clear hK) | ((with_reducible apply o_callF (g := 70) w_none); (case ha => exact ez0); (case hs => ((with_reducible apply qp); exact ezD hfd)); (case' hk => rintro _ h' n' ⟨PA, pc, rfl, hrP, hPn, hn2, hk2⟩)) | ((with_reducible first | apply zo1 | apply zo2 | apply o_guard rfl | apply x_cond | apply k_e1 rfl | apply k_e2 rfl | apply k_e0 rfl | apply k_e3 rfl | apply k_e4 rfl); (case he => exact ez2 hti ht0); (try case hok => exact ezO); all_goals try (intro hb; (try simp only [hbs, reduceCtorEq] at hb); try exact ezX)) | ((with_reducible apply o_undef rfl); (case hb => exact ez0)))
  obtain ⟨n1, rfl⟩ : ∃ y, y = n' := ⟨_, rfl⟩
  have r4 : rowOf h' n = some (32, false, vcell 0 0 [] none 0 0 false) := by
    rw [rowOf_keep (hk2 _ (by omega))]
    simp (disch := first | assumption | omega | rfl | decide) only [go_sem, seval, tys]
    try rfl
  have r5 : rowOf h' (n + 1) = some (32, false, vcell kd 0 [] none 0 0 false) := by
    rw [rowOf_keep (hk2 _ (by omega))]
    simp (disch := first | assumption | omega | rfl | decide) only [go_sem, seval, tys]
    try rfl
  have hkp : ∀ b, b < n → h'.get b = h.get b := fun b hb => by
    rw [hk2 _ (by omega)]
    (repeat rw [Hp.get_ne _ _ (by omega)])
  have hzl : zs.length = ps.length := by rw [← hzs, List.length_map]
  refine x_loopV [7, 20, 21, 22, 23, 24, 25, 26, 27, 28, 29, 30, 31, 32] [20] (fun r vs h5 n5 => ∃ (q : Nat) (acc : List V) (O : Value), r = ps.length - q ∧ q ≤ ps.length ∧ vs = [.int .i64 q] ∧ n1 ≤ n5 ∧ (∀ b, b < n → h5.get b = h.get b) ∧ RdH h5 n1 PA (iv ps) ∧ rowOf h5 n = some (32, false, vcell 0 0 [] none 0 0 false) ∧ rowOf h5 (n + 1) = some (32, false, [.int .u8 kd, .int .i64 0, .string ⟨⟨[]⟩⟩, O, .bool false]) ∧ acc.length = q ∧ OwnV acc O h5 n1 n5 ∧ acc = zs.take q) ps.length rfl (by omega) ?_ ?_
  · exact ⟨0, [], .slice none 0 0, rfl, by omega, ez0, Nat.le_refl _, hkp, hrP, r4, r5, rfl, .inl ⟨rfl, rfl⟩, by simp⟩
  · clear hkp r4 r5 hrP
    rintro r g1 _ h5 n5 ⟨q, acc, O, rfl, hq, rfl, hn5, hkp, hrP5, r4, r5, hal, hO, hacc⟩
    have f3 := cellAt_row (off := 3) r5
    by_cases hqp : q < ps.length
    · obtain ⟨pid, poff, hPA, hpid, cp⟩ := int_at hrP5 hqp
      obtain ⟨y, hy, hyt, hoy⟩ := hnone q hqp
      rw [hy] at cp
      have hT5 : TabH h5 n5 (some ⟨tid, toff, none⟩) T := (hT.keep (Nat.le_refl _) hkp).more (by omega)
      have hzq : zs.take (q + 1) = zs.take q ++ [zeroV T f y] := by
        rw [List.take_succ_eq_append_getElem (by omega)]
        congr 2
        rw [List.getElem_of_eq hzs.symm, List.getElem_map, hy, Int.toNat_natCast]
      obtain ⟨xv, hxv⟩ : ∃ xv, zeroV T f y = xv := ⟨_, rfl⟩
      rw [hxv] at hzq
      have q1 := fun (cl : Nat) (h6 : Hp) (n6 : Nat) (hT6 : TabH h6 n6 (some ⟨tid, toff, none⟩) T) => (ihf y hoy (by omega) d cl h6 n6 hT6).mono (Φ' := fun v h' n' => ∃ A1 cc1, v = .agg ⟨vcell xv.kd xv.i xv.s A1 xv.l.length cc1 xv.c⟩ ∧ FH h' n6 n' xv (vcell xv.kd xv.i xv.s A1 xv.l.length cc1 xv.c) ∧ n6 ≤ n' ∧ ∀ b, b < n6 → h'.get b = h6.get b) fun v h' n' ⟨cs, e1, hf, a, b⟩ => by
        rw [hxv] at hf
        obtain ⟨A1, cc1, rfl⟩ := hf.cells
        exact ⟨A1, cc1, e1, hf, a, b⟩
      subst hPA
      rcases hO with ⟨rfl, rfl⟩ | ⟨hne, id, rows, j1, j2, rfl, q4, hrl, hkk⟩
      · (repeat' first | refine zcd ?_ | intro K' hK | (with_reducible refine zn hK ?_; clear hK) | (with_reducible refine x_drawnD (id := 5) [(1, 4)] (by kernel_rfl) fun K' hK => ?_) | ((with_reducible apply d_nil); (case hp => exact ezP); (case' hx => (refine hK _ _ _ ?_; clear hK))) | ((with_reducible apply d_pure w_none); (case hp => exact rfl); (case hc => exact rfl); (case he => exact ez2 f3 cp)) | ((with_reducible apply d_eff w_none); (case hc => exact rfl); (case he => exact ez2 f3 cp); (case hok => exact ezO)) | ((with_reducible apply d_guard rfl); (case hb => exact ez2 f3 cp); (case' h1 => intro hb; (try simp only [hbs, reduceCtorEq] at hb); try exact ezX); (case' h2 => intro hb; (try simp only [hbs, reduceCtorEq] at hb); try exact ezX)) | ((with_reducible apply d_callN (g := 45) w_none); (case hs0 => exact rfl); (case ha => exact ez0); (case hs => ((with_reducible apply q1); (exact hT5))); (case' hk => rintro _ h' n' ⟨A1, cc1, rfl, hfx, hn6, hk6⟩)) | ((with_reducible first | apply zo1 | apply zo2 | apply o_guard rfl | apply x_cond | apply k_e1 rfl | apply k_e2 rfl | apply k_e0 rfl | apply k_e3 rfl | apply k_e4 rfl); (case he => exact ez2 f3 cp); (try case hok => exact ezO); all_goals try (intro hb; (try simp only [hbs, reduceCtorEq] at hb); try exact ezX)) | ((with_reducible apply o_undef rfl); (case hb => exact ez0)))
        have r5n : rowOf h' (n + 1) = some (32, false, [.int .u8 kd, .int .i64 0, .string ⟨⟨[]⟩⟩, .slice none 0 0, .bool false]) := by
          rw [rowOf_keep (hk6 _ (by omega))]
          exact r5
        have w5 := rwOf_row r5n
        have f5 := cellAt_row (off := 3) r5n
        (repeat' first | refine zcd ?_ | intro K' hK | (with_reducible refine zn hK ?_; clear hK) | ((with_reducible apply d_nil); (case hp => exact ezP); (case' hx => (refine hK _ _ _ ?_; clear hK))) | ((with_reducible apply d_pure w_none); (case hp => exact rfl); (case hc => exact rfl); (case he => exact ez2 w5 f5)) | ((with_reducible apply d_eff w_none); (case hc => exact rfl); (case he => exact ez2 w5 f5); (case hok => exact ezO)) | ((with_reducible apply d_guard rfl); (case hb => exact ez2 w5 f5); (case' h1 => intro hb; (try simp only [hbs, reduceCtorEq] at hb); try exact ezX); (case' h2 => intro hb; (try simp only [hbs, reduceCtorEq] at hb); try exact ezX)) | ((with_reducible apply d_ap0 (t := 30) apT30 w_none); (case hs => exact ez1 w5); (case hy => exact ez0); (case hsrc => exact src_row (rowOf_same _ _ _ _ _) rfl); (case hc => exact rfl); (case hm => omega); (case h0 => omega); (case' hx => intro rd)) | ((with_reducible first | apply zo1 | apply zo2 | apply o_guard rfl | apply x_cond | apply k_e1 rfl | apply k_e2 rfl | apply k_e0 rfl | apply k_e3 rfl | apply k_e4 rfl); (case he => exact ez2 w5 f5); (try case hok => exact ezO); all_goals try (intro hb; (try simp only [hbs, reduceCtorEq] at hb); try exact ezX)) | ((with_reducible apply o_undef rfl); (case hb => exact ez0)))
        have hq0 : q = 0 := hal.symm
        subst hq0
        refine k_round (ps.length - 1) (by omega) ⟨1, [xv], .slice (some ⟨n' + 1, 0, none⟩) 1 1, rfl, by omega, ez0, by omega, (ezC hk6 hkp), (by (repeat' (first | with_reducible exact (hrP5.keep (by omega) fun b hb => hk6 b (by omega)) | refine RdH.set ?_ (by omega) _ | refine RdH.kill ?_ (fun b o e => by have := hPn b o e; omega) _))), (ezV hk6 r4), ez0, rfl, .inr ⟨by simp, n' + 1, vcell xv.kd xv.i xv.s A1 xv.l.length cc1 xv.c, by omega, by omega, rfl, (by (repeat rw [rowOf_ne _ _ (by omega)]); exact rowOf_same _ _ _ _ _), rfl, fun j hj => ?_⟩, ?_⟩
        · have hj0 : j = 0 := by simp at hj; omega
          subst hj0
          exact (hfx.keep (by omega) (by omega) fun b hb1 hb2 => by (repeat rw [Hp.get_ne _ _ (by omega)]))
        · simpa using hzq.symm
      · (repeat' first | refine zcd ?_ | intro K' hK | (with_reducible refine zn hK ?_; clear hK) | (with_reducible refine x_drawnD (id := 5) [(1, 4)] (by kernel_rfl) fun K' hK => ?_) | ((with_reducible apply d_nil); (case hp => exact ezP); (case' hx => (refine hK _ _ _ ?_; clear hK))) | ((with_reducible apply d_pure w_none); (case hp => exact rfl); (case hc => exact rfl); (case he => exact ez2 f3 cp)) | ((with_reducible apply d_eff w_none); (case hc => exact rfl); (case he => exact ez2 f3 cp); (case hok => exact ezO)) | ((with_reducible apply d_guard rfl); (case hb => exact ez2 f3 cp); (case' h1 => intro hb; (try simp only [hbs, reduceCtorEq] at hb); try exact ezX); (case' h2 => intro hb; (try simp only [hbs, reduceCtorEq] at hb); try exact ezX)) | ((with_reducible apply d_callN (g := 45) w_none); (case hs0 => exact rfl); (case ha => exact ez0); (case hs => ((with_reducible apply q1); (exact hT5))); (case' hk => rintro _ h' n' ⟨A1, cc1, rfl, hfx, hn6, hk6⟩)) | ((with_reducible first | apply zo1 | apply zo2 | apply o_guard rfl | apply x_cond | apply k_e1 rfl | apply k_e2 rfl | apply k_e0 rfl | apply k_e3 rfl | apply k_e4 rfl); (case he => exact ez2 f3 cp); (try case hok => exact ezO); all_goals try (intro hb; (try simp only [hbs, reduceCtorEq] at hb); try exact ezX)) | ((with_reducible apply o_undef rfl); (case hb => exact ez0)))
        have r5n : rowOf h' (n + 1) = some (32, false, [.int .u8 kd, .int .i64 0, .string ⟨⟨[]⟩⟩, .slice (some ⟨id, 0, none⟩) acc.length acc.length, .bool false]) := by
          rw [rowOf_keep (hk6 _ (by omega))]
          exact r5
        have w5 := rwOf_row r5n
        have f5 := cellAt_row (off := 3) r5n
        have w4 := rwOf_row (show rowOf h' id = _ from by rw [rowOf_keep (hk6 _ j2)]; exact q4)
        have htw : rows.take (acc.length * 5) = rows := List.take_of_length_le (by omega)
        (repeat' first | refine zcd ?_ | intro K' hK | (with_reducible refine zn hK ?_; clear hK) | ((with_reducible apply d_nil); (case hp => exact ezP); (case' hx => (refine hK _ _ _ ?_; clear hK))) | ((with_reducible apply d_pure w_none); (case hp => exact rfl); (case hc => exact rfl); (case he => exact ez3 w5 f5 w4)) | ((with_reducible apply d_eff w_none); (case hc => exact rfl); (case he => exact ez3 w5 f5 w4); (case hok => exact ezO)) | ((with_reducible apply d_guard rfl); (case hb => exact ez3 w5 f5 w4); (case' h1 => intro hb; (try simp only [hbs, reduceCtorEq] at hb); try exact ezX); (case' h2 => intro hb; (try simp only [hbs, reduceCtorEq] at hb); try exact ezX)) | ((with_reducible apply d_apR (t := 30) apT30 w_none); (case hs => exact ez2 w5 w4); (case hy => exact ez2 w5 w4); (case hsrc => exact src_row (rowOf_same _ _ _ _ _) rfl); (case hr => exact ez2 w5 w4); (case hc => exact rfl); (case hm => omega); (case hli => omega); (case hln => omega); (case hcs => rw [hrl]; omega); (case' hx => intro rd)) | ((with_reducible first | apply zo1 | apply zo2 | apply o_guard rfl | apply x_cond | apply k_e1 rfl | apply k_e2 rfl | apply k_e0 rfl | apply k_e3 rfl | apply k_e4 rfl); (case he => exact ez3 w5 f5 w4); (try case hok => exact ezO); all_goals try (intro hb; (try simp only [hbs, reduceCtorEq] at hb); try exact ezX)) | ((with_reducible apply o_undef rfl); (case hb => exact ez0)))
        have hnew := fun (H : Hp) (e1 : ∀ b, n1 ≤ b → b < id → H.get b = h'.get b) (e2 : ∀ b, n5 ≤ b → b < n' → H.get b = h'.get b) => rows_snoc (h := H) (lo := n1) (hi := n' + 1) (x := xv) hrl (fun j hj => (hkk j hj).keep (Nat.le_refl _) (by omega) fun b hb1 hb2 => by rw [e1 b hb1 hb2]; exact hk6 _ (by omega)) (hfx.keep (by omega) (by omega) e2)
        refine k_round (ps.length - (q + 1)) (by omega) ⟨q + 1, acc ++ [xv], .slice (some ⟨n' + 1, 0, none⟩) (acc.length + 1) (acc.length + 1), rfl, by omega, ez0, by omega, (ezC hk6 hkp), (by (repeat' (first | with_reducible exact (hrP5.keep (by omega) fun b hb => hk6 b (by omega)) | refine RdH.set ?_ (by omega) _ | refine RdH.kill ?_ (fun b o e => by have := hPn b o e; omega) _))), (ezV hk6 r4), ez0, by rw [List.length_append, hal]; rfl, .inr ⟨by simp, n' + 1, rows ++ vcell xv.kd xv.i xv.s A1 xv.l.length cc1 xv.c, by omega, by omega, by rw [List.length_append]; rfl, (ez1 htw), (hnew h' (fun _ _ _ => rfl) fun _ _ _ => rfl).1, (hnew _ ezN fun b hb1 hb2 => by (repeat rw [Hp.get_ne _ _ (by omega)])).2⟩, ?_⟩
        rw [hzq, ← hacc]
    · obtain rfl : q = ps.length := by omega
      obtain rfl : acc = zs := by rw [hacc]; exact List.take_of_length_le (by omega)
      have hf0 := fun H e => ((hO.fhs (h := h5)).keep (h' := H) (Nat.le_refl _) (Nat.le_refl _) e).val kd 0 [] false
      have f05 := cellsAt_row (off := 0) (k := 5) r5
      have w40 : rwOf h5 n = some (32, [.int .u8 0, .int .i64 0, .string ⟨⟨[]⟩⟩, .slice none 0 0, .bool false]) := rwOf_row r4
      have hsl : ∃ A l c, O = .slice A l c := by
        rcases hO with ⟨-, rfl⟩ | ⟨-, id, rows, -, -, rfl, -⟩ <;> exact ⟨_, _, _, rfl⟩
      obtain ⟨OA, ol, oc, rfl⟩ := hsl
      (repeat' first | refine zcd ?_ | intro K' hK | (with_reducible refine zn hK ?_; clear hK) | fail | ((with_reducible first | apply zo1 | apply zo2 | apply o_guard rfl | apply x_cond | apply k_e1 rfl | apply k_e2 rfl | apply k_e0 rfl | apply k_e3 rfl | apply k_e4 rfl); (case he => exact ez2 f05 w40); (try case hok => exact ezO); all_goals try (intro hb; (try simp only [hbs, reduceCtorEq] at hb); try exact ezX)) | ((with_reducible apply o_undef rfl); (case hb => exact ez0)))
      exact sw_fh1 ((hf0 _ fun b a c => Hp.get_ne _ _ (by omega)).more (by omega) (Nat.le_refl _)) (by omega) (ezB hkp) fun cs2 h2 n2 a b c => ⟨cs2, rfl, a, b, c⟩
end Go.Proofs.Ytcpkdjikembpnaa.Ce
namespace Go.Proofs.Ytcpkdjikembpnaa.Ce
open Go.RowKit
noncomputable def ZeroR (T : List Tp) (t : Int) : Except Int V := if okE T t ≠ 0 then .error (okE T t) else .ok (zeroV T 1000 t.toNat)
variable (k d cl : Nat) (h : Hp) (n : Nat)
theorem vzero0_ev (hk : 30000 ≤ k) (TA : Option Addr) (T : List Tp) (tc : Nat) (hT : TabH h n TA T) (hS : ∀ t ∈ T, t.fs.length ≤ 20000) (hm : T.length ≤ 9223372036854775807) (t : Int) :
    SQ k (d + 1100) cl 13 [.slice TA T.length tc, .int .i64 t] h n (LdV (ZeroR T t) h n) := by
  have qc0 := fun (h6 : Hp) (n6 : Nat) (hT6 : TabH h6 n6 TA T) => (vcheck_ev k (d + 1089) n h6 n6 hk TA T tc hT6 hS hm t).mono (Φ' := fun v h' n' => (∃ z : Int, v = .tuple ⟨[.int .i64 z, .int .i64 (okE T t)]⟩) ∧ h6 = h' ∧ n6 = n') fun _ _ _ hp => ⟨hp.1, hp.2.1.symm, hp.2.2.symm⟩
  unfold ZeroR
  by_cases hE : okE T t = 0
  · obtain ⟨x, rfl, ho⟩ := okE_0 hE
    rw [if_neg (not_not_intro hE)]
    simp only [hE] at qc0
    rw [Int.toNat_natCast]
    obtain ⟨xv, hxv⟩ : ∃ xv, zeroV T 1000 x = xv := ⟨_, rfl⟩
    have qz := fun (h6 : Hp) (n6 : Nat) (hT6 : TabH h6 n6 TA T) => (vzero_ev k hk TA T tc hS (by have := ho.chk.1; omega) 1000 x ho (by have := ho.lt; have := ho.chk.1; omega) (d + 97) n h6 n6 hT6).mono (Φ' := fun v h' n' => ∃ A1 cc1, v = .agg ⟨vcell xv.kd xv.i xv.s A1 xv.l.length cc1 xv.c⟩ ∧ FH h' n6 n' xv (vcell xv.kd xv.i xv.s A1 xv.l.length cc1 xv.c) ∧ n6 ≤ n' ∧ ∀ b, b < n6 → h'.get b = h6.get b) fun v h' n' ⟨cs, e1, hf, a, b⟩ => by
      rw [hxv] at hf
      obtain ⟨A1, cc1, rfl⟩ := hf.cells
      exact ⟨A1, cc1, e1, hf, a, b⟩
    rw [hxv]
    refine enter Try.func13 (by kernel_rfl) rfl (by kernel_rfl) rfl rfl rfl ?_
    (repeat' first | refine zcd ?_ | intro K' hK | (with_reducible refine zn hK ?_; clear hK) | ((with_reducible apply o_callF (g := 37) w_none); (case ha => exact ez0); (case hs => ((with_reducible apply qc0); exact ezT hT)); (case' hk => rintro _ h' n' ⟨⟨z, rfl⟩, rfl, rfl⟩)) | ((with_reducible apply o_callF (g := 45) w_none); (case ha => exact ez0); (case hs => ((with_reducible apply qz); exact ezT hT)); (case' hk => rintro _ h' n' ⟨A1, cc1, rfl, hfx, hn6, hk6⟩)) | ((with_reducible first | apply zo1 | apply zo2 | apply o_guard rfl | apply x_cond | apply k_e1 rfl | apply k_e2 rfl | apply k_e0 rfl | apply k_e3 rfl | apply k_e4 rfl); (case he => exact ez0); (try case hok => exact ezO); all_goals try (intro hb; (try simp only [hbs, reduceCtorEq] at hb); try exact ezX)) | ((with_reducible apply o_undef rfl); (case hb => exact ez0)))
    have r8 : rowOf h' n = some (32, false, vcell 0 0 [] none 0 0 false) := by
      rw [rowOf_keep (hk6 _ (by omega))]
      simp (disch := first | assumption | omega | rfl | decide) only [go_sem, seval, tys]
      try rfl
    have w8 : rwOf h' n = some (32, [.int .u8 0, .int .i64 0, .string ⟨⟨[]⟩⟩, .slice none 0 0, .bool false]) := rwOf_row r8
    (repeat' first | refine zcd ?_ | intro K' hK | (with_reducible refine zn hK ?_; clear hK) | fail | ((with_reducible first | apply zo1 | apply zo2 | apply o_guard rfl | apply x_cond | apply k_e1 rfl | apply k_e2 rfl | apply k_e0 rfl | apply k_e3 rfl | apply k_e4 rfl); (case he => exact ez1 w8); (try case hok => exact ezO); all_goals try (intro hb; (try simp only [hbs, reduceCtorEq] at hb); try exact ezX)) | ((with_reducible apply o_undef rfl); (case hb => exact ez0)))
    exact sw_fh (hfx.keep (by omega) (Nat.le_refl _) fun b hb1 hb2 => by (repeat rw [Hp.get_ne _ _ (by omega)])) (by omega) (fun b hb => by (repeat rw [Hp.get_ne _ _ (by omega)]); rw [hk6 _ (by omega)]; (repeat rw [Hp.get_ne _ _ (by omega)])) fun cs2 h2 n2 a b c => ⟨cs2, rfl, a, b, c⟩
  · rw [if_pos hE]
    obtain ⟨E, hEe⟩ : ∃ E, okE T t = E := ⟨_, rfl⟩
    simp only [hEe] at qc0 hE ⊢
    refine enter Try.func13 (by kernel_rfl) rfl (by kernel_rfl) rfl rfl rfl ?_
    (repeat' first | refine zcd ?_ | intro K' hK | (with_reducible refine zn hK ?_; clear hK) | ((with_reducible apply o_callF (g := 37) w_none); (case ha => exact ez0); (case hs => ((with_reducible apply qc0); exact ezT hT)); (case' hk => rintro _ h' n' ⟨⟨z, rfl⟩, rfl, rfl⟩)) | ((with_reducible first | apply zo1 | apply zo2 | apply o_guard rfl | apply x_cond | apply k_e1 rfl | apply k_e2 rfl | apply k_e0 rfl | apply k_e3 rfl | apply k_e4 rfl); (case he => exact ez0); (try case hok => exact ezO); all_goals try (intro hb; (try simp only [hbs, reduceCtorEq] at hb); try exact ezX)) | ((with_reducible apply o_undef rfl); (case hb => exact ez0)))
    all_goals exact sw_flat rfl rfl ⟨rfl, hE, rfl, rfl⟩
end Go.Proofs.Ytcpkdjikembpnaa.Ce
