/- Parts of the proof of ValueLoads: Hi, Ji. No condition of its own. -/
import Derived.Test.YtcpkdjikembpnaaVlao
import Derived.Test.YtcpkdjikembpnaaVlax
import Derived.Test.YtcpkdjikembpnaaVlay
set_option linter.unusedVariables false
set_option linter.unusedSimpArgs false
set_option maxRecDepth 100000
set_option maxHeartbeats 4000000
namespace Go.Proofs.Ytcpkdjikembpnaa.Ce
open Go.RowKit
variable (k d cl : Nat) (h : Hp) (n : Nat)
theorem rpointed_ev (hk : 30000 ≤ k) (TA A : Option Addr) (T : List Tp) (L : List Rg) (tc gc : Nat) (hT : TabH h n TA T) (hm : T.length ≤ 9223372036854775807) (hR : RgH h n A L) (hl : L.length ≤ 100) (hE : lstE L = 0) (t : Nat) (hot : OkV T t) (hk47 : (T[t]'hot.lt).kd = 4 ∨ (T[t]'hot.lt).kd = 7) (a : Int) (bs : List UInt8) (hat : AtB L a bs) (hsz : sizT T t ≤ bs.length) (f dp : Nat) (hdp : dp ≤ 3)
    (ih : 1 ≤ dp → ∀ (y : Nat), OkV T y → ∀ (cl : Nat) (h6 : Hp) (n6 : Nat) (a' : Int) (bs : List UInt8), TabH h6 n6 TA T → RgH h6 n6 A L → AtB L a' bs → sizT T y ≤ bs.length → bs.length ≤ 20000 →
      SQ k (d + 6) cl 44 [.slice TA T.length tc, .slice A L.length gc, .int .u64 a', .int .i64 (y : Int), .int .i64 ((dp - 1 : Nat) : Int)] h6 n6 (LdV (loadP T L f (dp - 1) bs y) h6 n6)) :
    SQ k (d + 9) cl 77 [.slice TA T.length tc, .slice A L.length gc, .int .u64 a, .int .i64 t, .int .i64 dp] h n (LdV (loadP T L (f + 1) dp bs t) h n) := by
  have htl := hot.lt
  have hfi := hot.chk.2.1 t htl
  have hkd := fine_kd hfi
  have hab := hat.bnd hE
  have hs24 := fun e => hot.siz24 e
  have hs7 := fun e => hot.siz7 e
  have hpt := fun e => hot.ptr e
  obtain ⟨tid, toff, hTA, htid, -, t0, -, -, -⟩ := hT.at_ htl
  subst hTA
  rw [loadP_at (List.getElem?_eq_getElem htl)]
  have hfol : ∀ (y : Nat) (hy : (T[t]'htl).el = (y : Int)) (hoy : OkV T y) (w : Int) (hw : 0 ≤ w ∧ w < 18446744073709551616) (nn mo : Nat), nn ≤ mo → mo ≤ 16 → ∀ (h6 : Hp) (n6 : Nat), TabH h6 n6 (some ⟨tid, toff, none⟩) T → RgH h6 n6 A L →
      SQ k (d + 8) n 107 [.slice (some ⟨tid, toff, none⟩) T.length tc, .slice A L.length gc, .int .u64 w, .int .i64 t, .int .i64 nn, .int .i64 mo, .int .i64 dp] h6 n6 (LdV (folP (loadP T L f) T L (T[t]'htl) w nn mo dp) h6 n6) := fun y hy hoy w hw nn mo hnm hmo h6 n6 hT6 hR6 =>
    rfollowed_ev k d n h6 n6 hk (some ⟨tid, toff, none⟩) A T L tc gc hT6 hm hR6 hl hE t htl (T[t]'htl) rfl (by omega) y hy hoy w hw.1 hw.2 nn mo dp hnm hmo hdp (loadP T L f) fun hd1 cl h7 n7 a' bs2 b c e g i => ih hd1 y hoy cl h7 n7 a' bs2 b c e g i
  obtain ⟨x, hx⟩ : ∃ x, T[t] = x := ⟨_, rfl⟩
  simp only [hx] at hfi hkd hk47 hs24 hs7 hpt t0 hfol ⊢
  obtain ⟨kd, el, ln, fs, FA, fc⟩ := x
  dsimp only at hfi hkd hk47 hs24 hs7 hpt t0 hfol ⊢
  rw [if_neg (by omega), if_neg (by omega), if_neg (by omega)]
  by_cases k4 : kd = 4
  · have hs := hs24 (.inr k4)
    obtain ⟨y, hy, hoy⟩ := hpt (.inl k4)
    subst k4
    rw [if_pos rfl]
    have q0 := fun (h6 : Hp) (n6 : Nat) (hR6 : RgH h6 n6 A L) => wordAt_ev k (d + 6) n h6 n6 hk A L gc hR6 hl hE a bs hat 0 (by omega) a (by omega)
    have hw0 := wordV_bnd bs 0
    obtain ⟨w0, hw0e⟩ : ∃ w, wordV bs 0 8 = w := ⟨_, rfl⟩
    simp only [hw0e] at q0 hw0 ⊢
    by_cases hz : w0 = 0
    · rw [if_pos hz]
      subst hz
      refine enter Try.func77 (by kernel_rfl) rfl (by kernel_rfl) rfl rfl rfl ?_
      (repeat' first | refine zcd ?_ | intro K' hK | (with_reducible refine zn hK ?_; clear hK) | ((with_reducible apply o_callF (g := 106) w_none); (case ha => exact ez0); (case hs => ((first | with_reducible apply q0 | with_reducible apply q1 | with_reducible apply q2); exact ezG hR)); (case' hk => rintro _ h' n' ⟨rfl, rfl, rfl⟩)) | ((with_reducible first | apply zo1 | apply zo2 | apply o_guard rfl | apply x_cond | apply k_e1 rfl | apply k_e2 rfl | apply k_e0 rfl | apply k_e3 rfl | apply k_e4 rfl); (case he => exact ez1 t0); (try case hok => exact ezO); all_goals try (intro hb; (try simp only [hbs, reduceCtorEq] at hb); try exact ezX)) | ((with_reducible apply o_undef rfl); (case hb => exact ez0)))
      all_goals exact sw_flat rfl rfl ⟨_, rfl, .leaf 4 0 [] false, Nat.le_refl _, fun _ _ => rfl⟩
    · rw [if_neg hz]
      have qf0 := hfol y hy hoy w0 hw0 1 1 (Nat.le_refl _) (by omega)
      have qf0 : ∀ (h6 : Hp) (n6 : Nat), TabH h6 n6 (some ⟨tid, toff, none⟩) T → RgH h6 n6 A L → SQ k (d + 8) n 107 [.slice (some ⟨tid, toff, none⟩) T.length tc, .slice A L.length gc, .int .u64 w0, .int .i64 t, .int .i64 1, .int .i64 1, .int .i64 dp] h6 n6 (LdV (folP (loadP T L f) T L ⟨4, el, ln, fs, FA, fc⟩ w0 1 1 dp) h6 n6) := qf0
      obtain ⟨res, hres⟩ : ∃ res, folP (loadP T L f) T L ⟨4, el, ln, fs, FA, fc⟩ w0 1 1 dp = res := ⟨_, rfl⟩
      rw [hres] at qf0 ⊢
      cases res with
      | error e =>
        have qf := fun (h6 : Hp) (n6 : Nat) (hT6 : TabH h6 n6 (some ⟨tid, toff, none⟩) T) (hR6 : RgH h6 n6 A L) => (qf0 h6 n6 hT6 hR6).mono (Φ' := fun v h' n' => v = .tuple ⟨[.agg ⟨vcell 0 0 [] none 0 0 false⟩, .int .i64 e]⟩ ∧ e ≠ 0 ∧ h6 = h' ∧ n6 = n') fun _ _ _ hp => ⟨hp.1, hp.2.1, hp.2.2.1.symm, hp.2.2.2.symm⟩
        refine enter Try.func77 (by kernel_rfl) rfl (by kernel_rfl) rfl rfl rfl ?_
        (repeat' first | refine zcd ?_ | intro K' hK | (with_reducible refine zn hK ?_; clear hK) | ((with_reducible apply o_callF (g := 106) w_none); (case ha => exact ez0); (case hs => ((first | with_reducible apply q0 | with_reducible apply q1 | with_reducible apply q2); exact ezG hR)); (case' hk => rintro _ h' n' ⟨rfl, rfl, rfl⟩)) | ((with_reducible apply o_callF (g := 107) w_none); (case ha => exact ez0); (case hs => ((with_reducible apply qf); (all_goals first | exact ezT hT | exact ezG hR))); (case' hk => rintro _ h' n' ⟨rfl, he0, rfl, rfl⟩)) | ((with_reducible first | apply zo1 | apply zo2 | apply o_guard rfl | apply x_cond | apply k_e1 rfl | apply k_e2 rfl | apply k_e0 rfl | apply k_e3 rfl | apply k_e4 rfl); (case he => exact ez1 t0); (try case hok => exact ezO); all_goals try (intro hb; (try simp only [hbs, reduceCtorEq] at hb); try exact ezX)) | ((with_reducible apply o_undef rfl); (case hb => exact ez0)))
        all_goals exact sw_flat rfl rfl ⟨rfl, he0, rfl, rfl⟩
      | ok xv =>
        have qf := fun (h6 : Hp) (n6 : Nat) (hT6 : TabH h6 n6 (some ⟨tid, toff, none⟩) T) (hR6 : RgH h6 n6 A L) => (qf0 h6 n6 hT6 hR6).mono (Φ' := fun v h' n' => ∃ A1 cc1, v = .tuple ⟨[.agg ⟨vcell xv.kd xv.i xv.s A1 xv.l.length cc1 xv.c⟩, .int .i64 0]⟩ ∧ FH h' n6 n' xv (vcell xv.kd xv.i xv.s A1 xv.l.length cc1 xv.c) ∧ n6 ≤ n' ∧ ∀ b, b < n6 → h'.get b = h6.get b) fun v h' n' ⟨cs, e1, hf, a, b⟩ => by
          obtain ⟨A1, cc1, rfl⟩ := hf.cells
          exact ⟨A1, cc1, e1, hf, a, b⟩
        refine enter Try.func77 (by kernel_rfl) rfl (by kernel_rfl) rfl rfl rfl ?_
        (repeat' first | refine zcd ?_ | intro K' hK | (with_reducible refine zn hK ?_; clear hK) | ((with_reducible apply o_callF (g := 106) w_none); (case ha => exact ez0); (case hs => ((first | with_reducible apply q0 | with_reducible apply q1 | with_reducible apply q2); exact ezG hR)); (case' hk => rintro _ h' n' ⟨rfl, rfl, rfl⟩)) | ((with_reducible apply o_callF (g := 107) w_none); (case ha => exact ez0); (case hs => ((with_reducible apply qf); (all_goals first | exact ezT hT | exact ezG hR))); (case' hk => rintro _ h' n' ⟨A1, cc1, rfl, hfx, hn6, hk6⟩)) | ((with_reducible first | apply zo1 | apply zo2 | apply o_guard rfl | apply x_cond | apply k_e1 rfl | apply k_e2 rfl | apply k_e0 rfl | apply k_e3 rfl | apply k_e4 rfl); (case he => exact ez1 t0); (try case hok => exact ezO); all_goals try (intro hb; (try simp only [hbs, reduceCtorEq] at hb); try exact ezX)) | ((with_reducible apply o_undef rfl); (case hb => exact ez0)))
        have wV := rwOf_row (show rowOf h' n = some (32, false, vcell 0 0 [] none 0 0 false) from by
          rw [rowOf_keep (hk6 _ (by omega))]
          simp (disch := first | assumption | omega | rfl | decide) only [go_sem, seval, tys]
          try rfl)
        (repeat' first | refine zcd ?_ | intro K' hK | (with_reducible refine zn hK ?_; clear hK) | fail | ((with_reducible first | apply zo1 | apply zo2 | apply o_guard rfl | apply x_cond | apply k_e1 rfl | apply k_e2 rfl | apply k_e0 rfl | apply k_e3 rfl | apply k_e4 rfl); (case he => exact ez1 wV); (try case hok => exact ezO); all_goals try (intro hb; (try simp only [hbs, reduceCtorEq] at hb); try exact ezX)) | ((with_reducible apply o_undef rfl); (case hb => exact ez0)))
        refine sw_fh (hfx.keep (by omega) (Nat.le_refl _) fun b hb1 hb2 => by (repeat rw [Hp.get_ne _ _ (by omega)])) (by omega) (fun b hb => by (repeat rw [Hp.get_ne _ _ (by omega)]); rw [hk6 _ (by omega)]; (repeat rw [Hp.get_ne _ _ (by omega)])) fun cs2 h2 n2 a b c => ⟨cs2, rfl, a, b, c⟩
  · have k7 : kd = 7 := hk47.resolve_left k4
    have hs := hs7 k7
    obtain ⟨y, hy, hoy⟩ := hpt (.inr k7)
    subst k7
    rw [if_neg (by decide), if_pos rfl]
    have q0 := fun (h6 : Hp) (n6 : Nat) (hR6 : RgH h6 n6 A L) => wordAt_ev k (d + 6) n h6 n6 hk A L gc hR6 hl hE a bs hat 0 (by omega) a (by omega)
    have q1 := fun (h6 : Hp) (n6 : Nat) (hR6 : RgH h6 n6 A L) => wordAt_ev k (d + 6) n h6 n6 hk A L gc hR6 hl hE a bs hat 8 (by omega) (a + 8) rfl
    have q2 := fun (h6 : Hp) (n6 : Nat) (hR6 : RgH h6 n6 A L) => wordAt_ev k (d + 6) n h6 n6 hk A L gc hR6 hl hE a bs hat 16 (by omega) (a + 16) rfl
    have hw0 := wordV_bnd bs 0
    have hw1 := wordV_bnd bs 8
    have hw2 := wordV_bnd bs 16
    obtain ⟨w0, hw0e⟩ : ∃ w, wordV bs 0 8 = w := ⟨_, rfl⟩
    obtain ⟨w1, hw1e⟩ : ∃ w, wordV bs 8 8 = w := ⟨_, rfl⟩
    obtain ⟨w2, hw2e⟩ : ∃ w, wordV bs 16 8 = w := ⟨_, rfl⟩
    simp only [hw0e] at q0 hw0 ⊢
    simp only [hw1e] at q1 hw1 ⊢
    simp only [hw2e] at q2 hw2 ⊢
    have ha8 : IntKind.wrap .u64 (a + 8) = a + 8 := by rw [IntKind.wrap_u64]; omega
    have ha16 : IntKind.wrap .u64 (a + 16) = a + 16 := by rw [IntKind.wrap_u64]; omega
    by_cases hc : w2 < w1 ∨ 16 < w2 ∨ (w0 = 0 ∧ 0 < w2)
    · rw [if_pos hc]
      refine enter Try.func77 (by kernel_rfl) rfl (by kernel_rfl) rfl rfl rfl ?_
      (repeat' first | refine zcd ?_ | intro K' hK | (with_reducible refine zn hK ?_; clear hK) | ((with_reducible apply o_callF (g := 106) w_none); (case ha => exact ez0); (case hs => ((first | with_reducible apply q0 | with_reducible apply q1 | with_reducible apply q2); exact ezG hR)); (case' hk => rintro _ h' n' ⟨rfl, rfl, rfl⟩)) | ((with_reducible first | apply zo1 | apply zo2 | apply o_guard rfl | apply x_cond | apply k_e1 rfl | apply k_e2 rfl | apply k_e0 rfl | apply k_e3 rfl | apply k_e4 rfl); (case he => exact ez3 t0 ha8 ha16); (try case hok => exact ezO); all_goals try (intro hb; (try simp only [hbs, reduceCtorEq] at hb); try exact ezX)) | ((with_reducible apply o_undef rfl); (case hb => exact ez0)))
      all_goals exact sw_flat rfl rfl ⟨rfl, by decide, rfl, rfl⟩
    · rw [if_neg hc]
      by_cases hz : w0 = 0
      · rw [if_pos hz]
        subst hz
        have hw20 : w2 = 0 := by omega
        have hw10 : w1 = 0 := by omega
        subst hw20
        subst hw10
        refine enter Try.func77 (by kernel_rfl) rfl (by kernel_rfl) rfl rfl rfl ?_
        (repeat' first | refine zcd ?_ | intro K' hK | (with_reducible refine zn hK ?_; clear hK) | ((with_reducible apply o_callF (g := 106) w_none); (case ha => exact ez0); (case hs => ((first | with_reducible apply q0 | with_reducible apply q1 | with_reducible apply q2); exact ezG hR)); (case' hk => rintro _ h' n' ⟨rfl, rfl, rfl⟩)) | ((with_reducible first | apply zo1 | apply zo2 | apply o_guard rfl | apply x_cond | apply k_e1 rfl | apply k_e2 rfl | apply k_e0 rfl | apply k_e3 rfl | apply k_e4 rfl); (case he => exact ez3 t0 ha8 ha16); (try case hok => exact ezO); all_goals try (intro hb; (try simp only [hbs, reduceCtorEq] at hb); try exact ezX)) | ((with_reducible apply o_undef rfl); (case hb => exact ez0)))
        all_goals exact sw_flat rfl rfl ⟨_, rfl, .leaf 7 0 [] false, Nat.le_refl _, fun _ _ => rfl⟩
      · rw [if_neg hz]
        obtain ⟨m1, rfl⟩ := Int.eq_ofNat_of_zero_le hw1.1
        obtain ⟨m2, rfl⟩ := Int.eq_ofNat_of_zero_le hw2.1
        have qf0 := hfol y hy hoy w0 hw0 m1 m2 (by omega) (by omega)
        simp only [Int.toNat_natCast]
        obtain ⟨res, hres⟩ : ∃ res, folP (loadP T L f) T L ⟨7, el, ln, fs, FA, fc⟩ w0 m1 m2 dp = res := ⟨_, rfl⟩
        rw [hres] at qf0 ⊢
        cases res with
        | error e =>
          have qf := fun (h6 : Hp) (n6 : Nat) (hT6 : TabH h6 n6 (some ⟨tid, toff, none⟩) T) (hR6 : RgH h6 n6 A L) => (qf0 h6 n6 hT6 hR6).mono (Φ' := fun v h' n' => v = .tuple ⟨[.agg ⟨vcell 0 0 [] none 0 0 false⟩, .int .i64 e]⟩ ∧ e ≠ 0 ∧ h6 = h' ∧ n6 = n') fun _ _ _ hp => ⟨hp.1, hp.2.1, hp.2.2.1.symm, hp.2.2.2.symm⟩
          refine enter Try.func77 (by kernel_rfl) rfl (by kernel_rfl) rfl rfl rfl ?_
          (repeat' first | refine zcd ?_ | intro K' hK | (with_reducible refine zn hK ?_; clear hK) | ((with_reducible apply o_callF (g := 106) w_none); (case ha => exact ez0); (case hs => ((first | with_reducible apply q0 | with_reducible apply q1 | with_reducible apply q2); exact ezG hR)); (case' hk => rintro _ h' n' ⟨rfl, rfl, rfl⟩)) | ((with_reducible apply o_callF (g := 107) w_none); (case ha => exact ez0); (case hs => ((with_reducible apply qf); (all_goals first | exact ezT hT | exact ezG hR))); (case' hk => rintro _ h' n' ⟨rfl, he0, rfl, rfl⟩)) | ((with_reducible first | apply zo1 | apply zo2 | apply o_guard rfl | apply x_cond | apply k_e1 rfl | apply k_e2 rfl | apply k_e0 rfl | apply k_e3 rfl | apply k_e4 rfl); (case he => exact ez3 t0 ha8 ha16); (try case hok => exact ezO); all_goals try (intro hb; (try simp only [hbs, reduceCtorEq] at hb); try exact ezX)) | ((with_reducible apply o_undef rfl); (case hb => exact ez0)))
          all_goals exact sw_flat rfl rfl ⟨rfl, he0, rfl, rfl⟩
        | ok xv =>
          have qf := fun (h6 : Hp) (n6 : Nat) (hT6 : TabH h6 n6 (some ⟨tid, toff, none⟩) T) (hR6 : RgH h6 n6 A L) => (qf0 h6 n6 hT6 hR6).mono (Φ' := fun v h' n' => ∃ A1 cc1, v = .tuple ⟨[.agg ⟨vcell xv.kd xv.i xv.s A1 xv.l.length cc1 xv.c⟩, .int .i64 0]⟩ ∧ FH h' n6 n' xv (vcell xv.kd xv.i xv.s A1 xv.l.length cc1 xv.c) ∧ n6 ≤ n' ∧ ∀ b, b < n6 → h'.get b = h6.get b) fun v h' n' ⟨cs, e1, hf, a, b⟩ => by
            obtain ⟨A1, cc1, rfl⟩ := hf.cells
            exact ⟨A1, cc1, e1, hf, a, b⟩
          refine enter Try.func77 (by kernel_rfl) rfl (by kernel_rfl) rfl rfl rfl ?_
          (repeat' first | refine zcd ?_ | intro K' hK | (with_reducible refine zn hK ?_; clear hK) | ((with_reducible apply o_callF (g := 106) w_none); (case ha => exact ez0); (case hs => ((first | with_reducible apply q0 | with_reducible apply q1 | with_reducible apply q2); exact ezG hR)); (case' hk => rintro _ h' n' ⟨rfl, rfl, rfl⟩)) | ((with_reducible apply o_callF (g := 107) w_none); (case ha => exact ez0); (case hs => ((with_reducible apply qf); (all_goals first | exact ezT hT | exact ezG hR))); (case' hk => rintro _ h' n' ⟨A1, cc1, rfl, hfx, hn6, hk6⟩)) | ((with_reducible first | apply zo1 | apply zo2 | apply o_guard rfl | apply x_cond | apply k_e1 rfl | apply k_e2 rfl | apply k_e0 rfl | apply k_e3 rfl | apply k_e4 rfl); (case he => exact ez3 t0 ha8 ha16); (try case hok => exact ezO); all_goals try (intro hb; (try simp only [hbs, reduceCtorEq] at hb); try exact ezX)) | ((with_reducible apply o_undef rfl); (case hb => exact ez0)))
          have wV := rwOf_row (show rowOf h' n = some (32, false, vcell 0 0 [] none 0 0 false) from by
            rw [rowOf_keep (hk6 _ (by omega))]
            simp (disch := first | assumption | omega | rfl | decide) only [go_sem, seval, tys]
            try rfl)
          (repeat' first | refine zcd ?_ | intro K' hK | (with_reducible refine zn hK ?_; clear hK) | fail | ((with_reducible first | apply zo1 | apply zo2 | apply o_guard rfl | apply x_cond | apply k_e1 rfl | apply k_e2 rfl | apply k_e0 rfl | apply k_e3 rfl | apply k_e4 rfl); (case he => exact ez1 wV); (try case hok => exact ezO); all_goals try (intro hb; (try simp only [hbs, reduceCtorEq] at hb); try exact ezX)) | ((with_reducible apply o_undef rfl); (case hb => exact ez0)))
          refine sw_fh (hfx.keep (by omega) (Nat.le_refl _) fun b hb1 hb2 => by (repeat rw [Hp.get_ne _ _ (by omega)])) (by omega) (fun b hb => by (repeat rw [Hp.get_ne _ _ (by omega)]); rw [hk6 _ (by omega)]; (repeat rw [Hp.get_ne _ _ (by omega)])) fun cs2 h2 n2 a b c => ⟨cs2, rfl, a, b, c⟩
theorem rload15_ev (hk : 30000 ≤ k) (TA A : Option Addr) (T : List Tp) (L : List Rg) (tc gc : Nat) (hm : T.length ≤ 32) (hl : L.length ≤ 100) (hE : lstE L = 0) :
    ∀ (f t dp : Nat), OkV T t → dp ≤ 3 → dp * 32 + t < f → ∀ (d cl : Nat) (h : Hp) (n : Nat) (a : Int) (bs : List UInt8), TabH h n TA T → RgH h n A L → AtB L a bs → sizT T t ≤ bs.length → bs.length ≤ 20000 →
    SQ k (d + 4 * f + 10) cl 44 [.slice TA T.length tc, .slice A L.length gc, .int .u64 a, .int .i64 t, .int .i64 dp] h n (LdV (loadP T L f dp bs t) h n) := by
  intro f
  induction f with
  | zero => intro t dp _ _ hlt; omega
  | succ f ihf =>
  intro t dp ho hdp hlt d cl h n a bs hT hR hat hsz hbl
  rw [show d + 4 * (f + 1) + 10 = d + 4 * f + 13 + 1 from by omega]
  have htl := ho.lt
  have hfi := ho.chk.2.1 t htl
  have hkd := fine_kd hfi
  have hm2 : T.length ≤ 9223372036854775807 := by omega
  have hpl := prt_len ho
  have hpi := fun q (a : q < (prtT T[t]).length) (b : q < (offsT T T[t]).length) => prt_in ho a b
  obtain ⟨tid, toff, hTA, htid, -, t0, -, -, -⟩ := hT.at_ htl
  subst hTA
  have c47 : (T[t]'htl).kd = 4 ∨ (T[t]'htl).kd = 7 → ∀ (h6 : Hp) (n6 : Nat), TabH h6 n6 (some ⟨tid, toff, none⟩) T → RgH h6 n6 A L → SQ k (d + 4 * f + 13) n 77 [.slice (some ⟨tid, toff, none⟩) T.length tc, .slice A L.length gc, .int .u64 a, .int .i64 t, .int .i64 dp] h6 n6 (LdV (loadP T L (f + 1) dp bs t) h6 n6) := fun hc h6 n6 hT6 hR6 =>
    rpointed_ev k (d + 4 * f + 4) n h6 n6 hk (some ⟨tid, toff, none⟩) A T L tc gc hT6 hm2 hR6 hl hE t ho hc a bs hat hsz f dp hdp fun hd1 y hoy cl h7 n7 a' bs2 b c e g i => ihf y (dp - 1) hoy (by omega) (by have := hoy.lt; omega) d cl h7 n7 a' bs2 b c e g i
  have c4 : (T[t]'htl).kd < 4 → ∀ (h6 : Hp) (n6 : Nat), TabH h6 n6 (some ⟨tid, toff, none⟩) T → RgH h6 n6 A L → SQ k (d + 4 * f + 13) n 78 [.slice (some ⟨tid, toff, none⟩) T.length tc, .slice A L.length gc, .int .u64 a, .int .i64 t] h6 n6 (LdV (loadP T L (f + 1) dp bs t) h6 n6) := fun hc h6 n6 hT6 hR6 =>
    rplain_ev k (d + 4 * f + 10) n h6 n6 hk (some ⟨tid, toff, none⟩) A T L tc gc hT6 hm2 hR6 hl hE t ho hc a bs hat hsz f dp
  have cP : (T[t]'htl).kd = 5 ∨ (T[t]'htl).kd = 6 → ∀ (h6 : Hp) (n6 : Nat), TabH h6 n6 (some ⟨tid, toff, none⟩) T → SQ k (d + 4 * f + 13) n 79 [.slice (some ⟨tid, toff, none⟩) T.length tc, .int .i64 t] h6 n6 fun v h' n' => ∃ i1 i2, v = .tuple ⟨[.slice (some ⟨i1, 0, none⟩) (prtT T[t]).length (prtT T[t]).length, .slice (some ⟨i2, 0, none⟩) (offsT T T[t]).length (offsT T T[t]).length]⟩ ∧ RdH h' n' (some ⟨i1, 0, none⟩) (iv (prtT T[t])) ∧ RdH h' n' (some ⟨i2, 0, none⟩) (iv (offsT T T[t])) ∧ n6 ≤ n' ∧ ∀ b, b < n6 → h'.get b = h6.get b := fun hc h6 n6 hT6 => by
    have q : SQ k (d + 4 * f + 13) n 79 [.slice (some ⟨tid, toff, none⟩) T.length tc, .int .i64 t] h6 n6 (PartsV (prtT (T[t]'ho.lt)) (offsT T (T[t]'ho.lt)) h6 n6) := by
      rcases hc with h5 | h5
      · exact rpt_fld k (d + 4 * f + 8) n h6 n6 hk (some ⟨tid, toff, none⟩) T tc hT6 t ho h5
      · exact rpt_arr k (d + 4 * f + 7) n h6 n6 hk (some ⟨tid, toff, none⟩) T tc hT6 t ho h5
    refine q.mono fun v h' n' hp => ?_
    unfold PartsV at hp
    obtain ⟨e1, e2, e3⟩ := hp
    subst e2
    subst e3
    exact ⟨n6, n6 + 1, e1, RdH.ofRow (by rw [rowOf_ne _ _ (by omega)]; exact rowOf_same _ _ _ _ _) (by omega), RdH.ofRow (rowOf_same _ _ _ _ _) (by omega), by omega, fun b hb => by (repeat rw [Hp.get_ne _ _ (by omega)])⟩
  have eL := loadP_at (T := T) (L := L) (f := f) (dp := dp) (bs := bs) (List.getElem?_eq_getElem htl)
  obtain ⟨x, hx⟩ : ∃ x, T[t] = x := ⟨_, rfl⟩
  simp only [hx] at hfi hkd hpl hpi t0 c47 c4 cP eL
  obtain ⟨ps, hps⟩ : ∃ ps, prtT x = ps := ⟨_, rfl⟩
  obtain ⟨os, hos⟩ : ∃ os, offsT T x = os := ⟨_, rfl⟩
  simp only [hps] at hpl hpi cP eL
  simp only [hos] at hpl hpi cP eL
  have hck : x.kd = 1 ∨ x.kd = 2 ∨ x.kd = 3 ∨ x.kd = 4 ∨ x.kd = 7 ∨ x.kd = 5 ∨ x.kd = 6 := by omega
  obtain ⟨kd, el, ln, fs, FA, fc⟩ := x
  dsimp only at hck t0 c47 c4 cP eL
  rcases hck with rfl | rfl | rfl | rfl | rfl | hc56
  · have qf0 := c4 (by decide)
    clear c4 c47 cP eL
    obtain ⟨res, hres⟩ : ∃ res, loadP T L (f + 1) dp bs t = res := ⟨_, rfl⟩
    rw [hres] at qf0 ⊢
    cases res with
    | error e =>
      have qf := fun (h6 : Hp) (n6 : Nat) (hT6 : TabH h6 n6 (some ⟨tid, toff, none⟩) T) (hR6 : RgH h6 n6 A L) => (qf0 h6 n6 hT6 hR6).mono (Φ' := fun v h' n' => v = .tuple ⟨[.agg ⟨vcell 0 0 [] none 0 0 false⟩, .int .i64 e]⟩ ∧ e ≠ 0 ∧ h6 = h' ∧ n6 = n') fun _ _ _ hp => ⟨hp.1, hp.2.1, hp.2.2.1.symm, hp.2.2.2.symm⟩
      refine enter Try.func44 (by kernel_rfl) rfl (by kernel_rfl) rfl rfl rfl ?_
      (repeat' first | refine zcd ?_ | intro K' hK | (with_reducible refine zn hK ?_; clear hK) | ((with_reducible apply o_callF (g := 78) w_none); (case ha => exact ez0); (case hs => ((with_reducible apply qf); (all_goals first | exact ezT hT | exact ezG hR))); (case' hk => rintro _ h' n' ⟨rfl, he0, rfl, rfl⟩)) | ((with_reducible first | apply zo1 | apply zo2 | apply o_guard rfl | apply x_cond | apply k_e1 rfl | apply k_e2 rfl | apply k_e0 rfl | apply k_e3 rfl | apply k_e4 rfl); (case he => exact ez1 t0); (try case hok => exact ezO); all_goals try (intro hb; (try simp only [hbs, reduceCtorEq] at hb); try exact ezX)) | ((with_reducible apply o_undef rfl); (case hb => exact ez0)))
      all_goals exact sw_flat rfl rfl ⟨rfl, he0, rfl, rfl⟩
    | ok xv =>
      have qf := fun (h6 : Hp) (n6 : Nat) (hT6 : TabH h6 n6 (some ⟨tid, toff, none⟩) T) (hR6 : RgH h6 n6 A L) => (qf0 h6 n6 hT6 hR6).mono (Φ' := fun v h' n' => ∃ A1 cc1, v = .tuple ⟨[.agg ⟨vcell xv.kd xv.i xv.s A1 xv.l.length cc1 xv.c⟩, .int .i64 0]⟩ ∧ FH h' n6 n' xv (vcell xv.kd xv.i xv.s A1 xv.l.length cc1 xv.c) ∧ n6 ≤ n' ∧ ∀ b, b < n6 → h'.get b = h6.get b) fun v h' n' ⟨cs, e1, hf, a, b⟩ => by
        obtain ⟨A1, cc1, rfl⟩ := hf.cells
        exact ⟨A1, cc1, e1, hf, a, b⟩
      refine enter Try.func44 (by kernel_rfl) rfl (by kernel_rfl) rfl rfl rfl ?_
      (repeat' first | refine zcd ?_ | intro K' hK | (with_reducible refine zn hK ?_; clear hK) | ((with_reducible apply o_callF (g := 78) w_none); (case ha => exact ez0); (case hs => ((with_reducible apply qf); (all_goals first | exact ezT hT | exact ezG hR))); (case' hk => rintro _ h' n' ⟨A1, cc1, rfl, hfx, hn6, hk6⟩)) | ((with_reducible first | apply zo1 | apply zo2 | apply o_guard rfl | apply x_cond | apply k_e1 rfl | apply k_e2 rfl | apply k_e0 rfl | apply k_e3 rfl | apply k_e4 rfl); (case he => exact ez1 t0); (try case hok => exact ezO); all_goals try (intro hb; (try simp only [hbs, reduceCtorEq] at hb); try exact ezX)) | ((with_reducible apply o_undef rfl); (case hb => exact ez0)))
      have wV := rwOf_row (show rowOf h' n = some (32, false, vcell 0 0 [] none 0 0 false) from by
        rw [rowOf_keep (hk6 _ (by omega))]
        simp (disch := first | assumption | omega | rfl | decide) only [go_sem, seval, tys]
        try rfl)
      (repeat' first | refine zcd ?_ | intro K' hK | (with_reducible refine zn hK ?_; clear hK) | fail | ((with_reducible first | apply zo1 | apply zo2 | apply o_guard rfl | apply x_cond | apply k_e1 rfl | apply k_e2 rfl | apply k_e0 rfl | apply k_e3 rfl | apply k_e4 rfl); (case he => exact ez1 wV); (try case hok => exact ezO); all_goals try (intro hb; (try simp only [hbs, reduceCtorEq] at hb); try exact ezX)) | ((with_reducible apply o_undef rfl); (case hb => exact ez0)))
      refine sw_fh (hfx.keep (by omega) (Nat.le_refl _) fun b hb1 hb2 => by (repeat rw [Hp.get_ne _ _ (by omega)])) (by omega) (fun b hb => by (repeat rw [Hp.get_ne _ _ (by omega)]); rw [hk6 _ (by omega)]; (repeat rw [Hp.get_ne _ _ (by omega)])) fun cs2 h2 n2 a b c => ⟨cs2, rfl, a, b, c⟩
  · have qf0 := c4 (by decide)
    clear c4 c47 cP eL
    obtain ⟨res, hres⟩ : ∃ res, loadP T L (f + 1) dp bs t = res := ⟨_, rfl⟩
    rw [hres] at qf0 ⊢
    cases res with
    | error e =>
      have qf := fun (h6 : Hp) (n6 : Nat) (hT6 : TabH h6 n6 (some ⟨tid, toff, none⟩) T) (hR6 : RgH h6 n6 A L) => (qf0 h6 n6 hT6 hR6).mono (Φ' := fun v h' n' => v = .tuple ⟨[.agg ⟨vcell 0 0 [] none 0 0 false⟩, .int .i64 e]⟩ ∧ e ≠ 0 ∧ h6 = h' ∧ n6 = n') fun _ _ _ hp => ⟨hp.1, hp.2.1, hp.2.2.1.symm, hp.2.2.2.symm⟩
      refine enter Try.func44 (by kernel_rfl) rfl (by kernel_rfl) rfl rfl rfl ?_
      (repeat' first | refine zcd ?_ | intro K' hK | (with_reducible refine zn hK ?_; clear hK) | ((with_reducible apply o_callF (g := 78) w_none); (case ha => exact ez0); (case hs => ((with_reducible apply qf); (all_goals first | exact ezT hT | exact ezG hR))); (case' hk => rintro _ h' n' ⟨rfl, he0, rfl, rfl⟩)) | ((with_reducible first | apply zo1 | apply zo2 | apply o_guard rfl | apply x_cond | apply k_e1 rfl | apply k_e2 rfl | apply k_e0 rfl | apply k_e3 rfl | apply k_e4 rfl); (case he => exact ez1 t0); (try case hok => exact ezO); all_goals try (intro hb; (try simp only [hbs, reduceCtorEq] at hb); try exact ezX)) | ((with_reducible apply o_undef rfl); (case hb => exact ez0)))
      all_goals exact sw_flat rfl rfl ⟨rfl, he0, rfl, rfl⟩
    | ok xv =>
      have qf := fun (h6 : Hp) (n6 : Nat) (hT6 : TabH h6 n6 (some ⟨tid, toff, none⟩) T) (hR6 : RgH h6 n6 A L) => (qf0 h6 n6 hT6 hR6).mono (Φ' := fun v h' n' => ∃ A1 cc1, v = .tuple ⟨[.agg ⟨vcell xv.kd xv.i xv.s A1 xv.l.length cc1 xv.c⟩, .int .i64 0]⟩ ∧ FH h' n6 n' xv (vcell xv.kd xv.i xv.s A1 xv.l.length cc1 xv.c) ∧ n6 ≤ n' ∧ ∀ b, b < n6 → h'.get b = h6.get b) fun v h' n' ⟨cs, e1, hf, a, b⟩ => by
        obtain ⟨A1, cc1, rfl⟩ := hf.cells
        exact ⟨A1, cc1, e1, hf, a, b⟩
      refine enter Try.func44 (by kernel_rfl) rfl (by kernel_rfl) rfl rfl rfl ?_
      (repeat' first | refine zcd ?_ | intro K' hK | (with_reducible refine zn hK ?_; clear hK) | ((with_reducible apply o_callF (g := 78) w_none); (case ha => exact ez0); (case hs => ((with_reducible apply qf); (all_goals first | exact ezT hT | exact ezG hR))); (case' hk => rintro _ h' n' ⟨A1, cc1, rfl, hfx, hn6, hk6⟩)) | ((with_reducible first | apply zo1 | apply zo2 | apply o_guard rfl | apply x_cond | apply k_e1 rfl | apply k_e2 rfl | apply k_e0 rfl | apply k_e3 rfl | apply k_e4 rfl); (case he => exact ez1 t0); (try case hok => exact ezO); all_goals try (intro hb; (try simp only [hbs, reduceCtorEq] at hb); try exact ezX)) | ((with_reducible apply o_undef rfl); (case hb => exact ez0)))
      have wV := rwOf_row (show rowOf h' n = some (32, false, vcell 0 0 [] none 0 0 false) from by
        rw [rowOf_keep (hk6 _ (by omega))]
        simp (disch := first | assumption | omega | rfl | decide) only [go_sem, seval, tys]
        try rfl)
      (repeat' first | refine zcd ?_ | intro K' hK | (with_reducible refine zn hK ?_; clear hK) | fail | ((with_reducible first | apply zo1 | apply zo2 | apply o_guard rfl | apply x_cond | apply k_e1 rfl | apply k_e2 rfl | apply k_e0 rfl | apply k_e3 rfl | apply k_e4 rfl); (case he => exact ez1 wV); (try case hok => exact ezO); all_goals try (intro hb; (try simp only [hbs, reduceCtorEq] at hb); try exact ezX)) | ((with_reducible apply o_undef rfl); (case hb => exact ez0)))
      refine sw_fh (hfx.keep (by omega) (Nat.le_refl _) fun b hb1 hb2 => by (repeat rw [Hp.get_ne _ _ (by omega)])) (by omega) (fun b hb => by (repeat rw [Hp.get_ne _ _ (by omega)]); rw [hk6 _ (by omega)]; (repeat rw [Hp.get_ne _ _ (by omega)])) fun cs2 h2 n2 a b c => ⟨cs2, rfl, a, b, c⟩
  · have qf0 := c4 (by decide)
    clear c4 c47 cP eL
    obtain ⟨res, hres⟩ : ∃ res, loadP T L (f + 1) dp bs t = res := ⟨_, rfl⟩
    rw [hres] at qf0 ⊢
    cases res with
    | error e =>
      have qf := fun (h6 : Hp) (n6 : Nat) (hT6 : TabH h6 n6 (some ⟨tid, toff, none⟩) T) (hR6 : RgH h6 n6 A L) => (qf0 h6 n6 hT6 hR6).mono (Φ' := fun v h' n' => v = .tuple ⟨[.agg ⟨vcell 0 0 [] none 0 0 false⟩, .int .i64 e]⟩ ∧ e ≠ 0 ∧ h6 = h' ∧ n6 = n') fun _ _ _ hp => ⟨hp.1, hp.2.1, hp.2.2.1.symm, hp.2.2.2.symm⟩
      refine enter Try.func44 (by kernel_rfl) rfl (by kernel_rfl) rfl rfl rfl ?_
      (repeat' first | refine zcd ?_ | intro K' hK | (with_reducible refine zn hK ?_; clear hK) | ((with_reducible apply o_callF (g := 78) w_none); (case ha => exact ez0); (case hs => ((with_reducible apply qf); (all_goals first | exact ezT hT | exact ezG hR))); (case' hk => rintro _ h' n' ⟨rfl, he0, rfl, rfl⟩)) | ((with_reducible first | apply zo1 | apply zo2 | apply o_guard rfl | apply x_cond | apply k_e1 rfl | apply k_e2 rfl | apply k_e0 rfl | apply k_e3 rfl | apply k_e4 rfl); (case he => exact ez1 t0); (try case hok => exact ezO); all_goals try (intro hb; (try simp only [hbs, reduceCtorEq] at hb); try exact ezX)) | ((with_reducible apply o_undef rfl); (case hb => exact ez0)))
      all_goals exact sw_flat rfl rfl ⟨rfl, he0, rfl, rfl⟩
    | ok xv =>
      have qf := fun (h6 : Hp) (n6 : Nat) (hT6 : TabH h6 n6 (some ⟨tid, toff, none⟩) T) (hR6 : RgH h6 n6 A L) => (qf0 h6 n6 hT6 hR6).mono (Φ' := fun v h' n' => ∃ A1 cc1, v = .tuple ⟨[.agg ⟨vcell xv.kd xv.i xv.s A1 xv.l.length cc1 xv.c⟩, .int .i64 0]⟩ ∧ FH h' n6 n' xv (vcell xv.kd xv.i xv.s A1 xv.l.length cc1 xv.c) ∧ n6 ≤ n' ∧ ∀ b, b < n6 → h'.get b = h6.get b) fun v h' n' ⟨cs, e1, hf, a, b⟩ => by
        obtain ⟨A1, cc1, rfl⟩ := hf.cells
        exact ⟨A1, cc1, e1, hf, a, b⟩
      refine enter Try.func44 (by kernel_rfl) rfl (by kernel_rfl) rfl rfl rfl ?_
      (repeat' first | refine zcd ?_ | intro K' hK | (with_reducible refine zn hK ?_; clear hK) | ((with_reducible apply o_callF (g := 78) w_none); (case ha => exact ez0); (case hs => ((with_reducible apply qf); (all_goals first | exact ezT hT | exact ezG hR))); (case' hk => rintro _ h' n' ⟨A1, cc1, rfl, hfx, hn6, hk6⟩)) | ((with_reducible first | apply zo1 | apply zo2 | apply o_guard rfl | apply x_cond | apply k_e1 rfl | apply k_e2 rfl | apply k_e0 rfl | apply k_e3 rfl | apply k_e4 rfl); (case he => exact ez1 t0); (try case hok => exact ezO); all_goals try (intro hb; (try simp only [hbs, reduceCtorEq] at hb); try exact ezX)) | ((with_reducible apply o_undef rfl); (case hb => exact ez0)))
      have wV := rwOf_row (show rowOf h' n = some (32, false, vcell 0 0 [] none 0 0 false) from by
        rw [rowOf_keep (hk6 _ (by omega))]
        simp (disch := first | assumption | omega | rfl | decide) only [go_sem, seval, tys]
        try rfl)
      (repeat' first | refine zcd ?_ | intro K' hK | (with_reducible refine zn hK ?_; clear hK) | fail | ((with_reducible first | apply zo1 | apply zo2 | apply o_guard rfl | apply x_cond | apply k_e1 rfl | apply k_e2 rfl | apply k_e0 rfl | apply k_e3 rfl | apply k_e4 rfl); (case he => exact ez1 wV); (try case hok => exact ezO); all_goals try (intro hb; (try simp only [hbs, reduceCtorEq] at hb); try exact ezX)) | ((with_reducible apply o_undef rfl); (case hb => exact ez0)))
      refine sw_fh (hfx.keep (by omega) (Nat.le_refl _) fun b hb1 hb2 => by (repeat rw [Hp.get_ne _ _ (by omega)])) (by omega) (fun b hb => by (repeat rw [Hp.get_ne _ _ (by omega)]); rw [hk6 _ (by omega)]; (repeat rw [Hp.get_ne _ _ (by omega)])) fun cs2 h2 n2 a b c => ⟨cs2, rfl, a, b, c⟩
  · have qf0 := c47 (.inl rfl)
    clear c4 c47 cP eL
    obtain ⟨res, hres⟩ : ∃ res, loadP T L (f + 1) dp bs t = res := ⟨_, rfl⟩
    rw [hres] at qf0 ⊢
    cases res with
    | error e =>
      have qf := fun (h6 : Hp) (n6 : Nat) (hT6 : TabH h6 n6 (some ⟨tid, toff, none⟩) T) (hR6 : RgH h6 n6 A L) => (qf0 h6 n6 hT6 hR6).mono (Φ' := fun v h' n' => v = .tuple ⟨[.agg ⟨vcell 0 0 [] none 0 0 false⟩, .int .i64 e]⟩ ∧ e ≠ 0 ∧ h6 = h' ∧ n6 = n') fun _ _ _ hp => ⟨hp.1, hp.2.1, hp.2.2.1.symm, hp.2.2.2.symm⟩
      refine enter Try.func44 (by kernel_rfl) rfl (by kernel_rfl) rfl rfl rfl ?_
      (repeat' first | refine zcd ?_ | intro K' hK | (with_reducible refine zn hK ?_; clear hK) | ((with_reducible apply o_callF (g := 77) w_none); (case ha => exact ez0); (case hs => ((with_reducible apply qf); (all_goals first | exact ezT hT | exact ezG hR))); (case' hk => rintro _ h' n' ⟨rfl, he0, rfl, rfl⟩)) | ((with_reducible first | apply zo1 | apply zo2 | apply o_guard rfl | apply x_cond | apply k_e1 rfl | apply k_e2 rfl | apply k_e0 rfl | apply k_e3 rfl | apply k_e4 rfl); (case he => exact ez1 t0); (try case hok => exact ezO); all_goals try (intro hb; (try simp only [hbs, reduceCtorEq] at hb); try exact ezX)) | ((with_reducible apply o_undef rfl); (case hb => exact ez0)))
      all_goals exact sw_flat rfl rfl ⟨rfl, he0, rfl, rfl⟩
    | ok xv =>
      have qf := fun (h6 : Hp) (n6 : Nat) (hT6 : TabH h6 n6 (some ⟨tid, toff, none⟩) T) (hR6 : RgH h6 n6 A L) => (qf0 h6 n6 hT6 hR6).mono (Φ' := fun v h' n' => ∃ A1 cc1, v = .tuple ⟨[.agg ⟨vcell xv.kd xv.i xv.s A1 xv.l.length cc1 xv.c⟩, .int .i64 0]⟩ ∧ FH h' n6 n' xv (vcell xv.kd xv.i xv.s A1 xv.l.length cc1 xv.c) ∧ n6 ≤ n' ∧ ∀ b, b < n6 → h'.get b = h6.get b) fun v h' n' ⟨cs, e1, hf, a, b⟩ => by
        obtain ⟨A1, cc1, rfl⟩ := hf.cells
        exact ⟨A1, cc1, e1, hf, a, b⟩
      refine enter Try.func44 (by kernel_rfl) rfl (by kernel_rfl) rfl rfl rfl ?_
      (repeat' first | refine zcd ?_ | intro K' hK | (with_reducible refine zn hK ?_; clear hK) | ((with_reducible apply o_callF (g := 77) w_none); (case ha => exact ez0); (case hs => ((with_reducible apply qf); (all_goals first | exact ezT hT | exact ezG hR))); (case' hk => rintro _ h' n' ⟨A1, cc1, rfl, hfx, hn6, hk6⟩)) | ((with_reducible first | apply zo1 | apply zo2 | apply o_guard rfl | apply x_cond | apply k_e1 rfl | apply k_e2 rfl | apply k_e0 rfl | apply k_e3 rfl | apply k_e4 rfl); (case he => exact ez1 t0); (try case hok => exact ezO); all_goals try (intro hb; (try simp only [hbs, reduceCtorEq] at hb); try exact ezX)) | ((with_reducible apply o_undef rfl); (case hb => exact ez0)))
      have wV := rwOf_row (show rowOf h' n = some (32, false, vcell 0 0 [] none 0 0 false) from by
        rw [rowOf_keep (hk6 _ (by omega))]
        simp (disch := first | assumption | omega | rfl | decide) only [go_sem, seval, tys]
        try rfl)
      (repeat' first | refine zcd ?_ | intro K' hK | (with_reducible refine zn hK ?_; clear hK) | fail | ((with_reducible first | apply zo1 | apply zo2 | apply o_guard rfl | apply x_cond | apply k_e1 rfl | apply k_e2 rfl | apply k_e0 rfl | apply k_e3 rfl | apply k_e4 rfl); (case he => exact ez1 wV); (try case hok => exact ezO); all_goals try (intro hb; (try simp only [hbs, reduceCtorEq] at hb); try exact ezX)) | ((with_reducible apply o_undef rfl); (case hb => exact ez0)))
      refine sw_fh (hfx.keep (by omega) (Nat.le_refl _) fun b hb1 hb2 => by (repeat rw [Hp.get_ne _ _ (by omega)])) (by omega) (fun b hb => by (repeat rw [Hp.get_ne _ _ (by omega)]); rw [hk6 _ (by omega)]; (repeat rw [Hp.get_ne _ _ (by omega)])) fun cs2 h2 n2 a b c => ⟨cs2, rfl, a, b, c⟩
  · have qf0 := c47 (.inr rfl)
    clear c4 c47 cP eL
    obtain ⟨res, hres⟩ : ∃ res, loadP T L (f + 1) dp bs t = res := ⟨_, rfl⟩
    rw [hres] at qf0 ⊢
    cases res with
    | error e =>
      have qf := fun (h6 : Hp) (n6 : Nat) (hT6 : TabH h6 n6 (some ⟨tid, toff, none⟩) T) (hR6 : RgH h6 n6 A L) => (qf0 h6 n6 hT6 hR6).mono (Φ' := fun v h' n' => v = .tuple ⟨[.agg ⟨vcell 0 0 [] none 0 0 false⟩, .int .i64 e]⟩ ∧ e ≠ 0 ∧ h6 = h' ∧ n6 = n') fun _ _ _ hp => ⟨hp.1, hp.2.1, hp.2.2.1.symm, hp.2.2.2.symm⟩
      refine enter Try.func44 (by kernel_rfl) rfl (by kernel_rfl) rfl rfl rfl ?_
      (repeat' first | refine zcd ?_ | intro K' hK | (with_reducible refine zn hK ?_; clear hK) | ((with_reducible apply o_callF (g := 77) w_none); (case ha => exact ez0); (case hs => ((with_reducible apply qf); (all_goals first | exact ezT hT | exact ezG hR))); (case' hk => rintro _ h' n' ⟨rfl, he0, rfl, rfl⟩)) | ((with_reducible first | apply zo1 | apply zo2 | apply o_guard rfl | apply x_cond | apply k_e1 rfl | apply k_e2 rfl | apply k_e0 rfl | apply k_e3 rfl | apply k_e4 rfl); (case he => exact ez1 t0); (try case hok => exact ezO); all_goals try (intro hb; (try simp only [hbs, reduceCtorEq] at hb); try exact ezX)) | ((with_reducible apply o_undef rfl); (case hb => exact ez0)))
      all_goals exact sw_flat rfl rfl ⟨rfl, he0, rfl, rfl⟩
    | ok xv =>
      have qf := fun (h6 : Hp) (n6 : Nat) (hT6 : TabH h6 n6 (some ⟨tid, toff, none⟩) T) (hR6 : RgH h6 n6 A L) => (qf0 h6 n6 hT6 hR6).mono (Φ' := fun v h' n' => ∃ A1 cc1, v = .tuple ⟨[.agg ⟨vcell xv.kd xv.i xv.s A1 xv.l.length cc1 xv.c⟩, .int .i64 0]⟩ ∧ FH h' n6 n' xv (vcell xv.kd xv.i xv.s A1 xv.l.length cc1 xv.c) ∧ n6 ≤ n' ∧ ∀ b, b < n6 → h'.get b = h6.get b) fun v h' n' ⟨cs, e1, hf, a, b⟩ => by
        obtain ⟨A1, cc1, rfl⟩ := hf.cells
        exact ⟨A1, cc1, e1, hf, a, b⟩
      refine enter Try.func44 (by kernel_rfl) rfl (by kernel_rfl) rfl rfl rfl ?_
      (repeat' first | refine zcd ?_ | intro K' hK | (with_reducible refine zn hK ?_; clear hK) | ((with_reducible apply o_callF (g := 77) w_none); (case ha => exact ez0); (case hs => ((with_reducible apply qf); (all_goals first | exact ezT hT | exact ezG hR))); (case' hk => rintro _ h' n' ⟨A1, cc1, rfl, hfx, hn6, hk6⟩)) | ((with_reducible first | apply zo1 | apply zo2 | apply o_guard rfl | apply x_cond | apply k_e1 rfl | apply k_e2 rfl | apply k_e0 rfl | apply k_e3 rfl | apply k_e4 rfl); (case he => exact ez1 t0); (try case hok => exact ezO); all_goals try (intro hb; (try simp only [hbs, reduceCtorEq] at hb); try exact ezX)) | ((with_reducible apply o_undef rfl); (case hb => exact ez0)))
      have wV := rwOf_row (show rowOf h' n = some (32, false, vcell 0 0 [] none 0 0 false) from by
        rw [rowOf_keep (hk6 _ (by omega))]
        simp (disch := first | assumption | omega | rfl | decide) only [go_sem, seval, tys]
        try rfl)
      (repeat' first | refine zcd ?_ | intro K' hK | (with_reducible refine zn hK ?_; clear hK) | fail | ((with_reducible first | apply zo1 | apply zo2 | apply o_guard rfl | apply x_cond | apply k_e1 rfl | apply k_e2 rfl | apply k_e0 rfl | apply k_e3 rfl | apply k_e4 rfl); (case he => exact ez1 wV); (try case hok => exact ezO); all_goals try (intro hb; (try simp only [hbs, reduceCtorEq] at hb); try exact ezX)) | ((with_reducible apply o_undef rfl); (case hb => exact ez0)))
      refine sw_fh (hfx.keep (by omega) (Nat.le_refl _) fun b hb1 hb2 => by (repeat rw [Hp.get_ne _ _ (by omega)])) (by omega) (fun b hb => by (repeat rw [Hp.get_ne _ _ (by omega)]); rw [hk6 _ (by omega)]; (repeat rw [Hp.get_ne _ _ (by omega)])) fun cs2 h2 n2 a b c => ⟨cs2, rfl, a, b, c⟩
  · rw [if_neg (by omega), if_neg (by omega), if_neg (by omega), if_neg (by omega), if_neg (by omega)] at eL
    have qp0 := cP hc56
    rw [eL]
    clear c4 c47 cP eL
    obtain ⟨res, hres⟩ : ∃ res, asV kd (listP (loadP T L f dp) bs (ps.zip os)) = res := ⟨_, rfl⟩
    rw [hres]
    have qp : ∀ (h6 : Hp) (n6 : Nat), TabH h6 n6 (some ⟨tid, toff, none⟩) T → _ := fun h6 n6 hT6 => qp0 h6 n6 hT6
    have ql0 := fun (h6 : Hp) (n6 : Nat) (hT6 : TabH h6 n6 (some ⟨tid, toff, none⟩) T) (hR6 : RgH h6 n6 A L) (PA QA : Option Addr) (hP : RdH h6 n6 PA (iv ps)) (hQ : RdH h6 n6 QA (iv os)) (hxk : T[t].kd = kd) => rlisted_ev k (d + 4 * f + 12) n h6 n6 hk (some ⟨tid, toff, none⟩) A T L tc gc hT6 hm2 hE t htl kd hxk a bs hat (by omega) PA QA ps os ps.length os.length ps.length os.length dp (loadP T L f dp) hP hQ rfl rfl hpl.1 (by omega) (fun j hj => by
        obtain ⟨y, -, -, hoy, a, b⟩ := hpi j (by omega) hj
        have := hoy.bnd
        omega) (fun j hj hj2 cl h7 n7 hn7 hk7 => by
        obtain ⟨y, e1, hyt, hoy, a1, b1⟩ := hpi j hj hj2
        obtain ⟨o, ho'⟩ := Int.eq_ofNat_of_zero_le a1
        rw [e1, ho', Int.toNat_natCast, Int.toNat_natCast]
        rw [ho'] at b1
        have hb2 := hoy.bnd
        have e2 := ihf y dp hoy hdp (by omega) (d + 2) cl h7 n7 (a + o) (bs.drop o) ((hT6.keep (Nat.le_refl _) hk7).more hn7) ((hR6.keep (Nat.le_refl _) hk7).more hn7) (hat.drop (by omega)) (by rw [List.length_drop]; omega) (by rw [List.length_drop]; omega)
        rw [show d + 2 + 4 * f + 10 = d + 4 * f + 12 from by omega] at e2
        exact e2)
    rw [hres] at ql0
    have hxk : T[t].kd = kd := by rw [hx]
    clear hx hps hos hpi
    rcases hc56 with rfl | rfl
    · refine enter Try.func44 (by kernel_rfl) rfl (by kernel_rfl) rfl rfl rfl ?_
      (repeat' first | refine zcd ?_ | intro K' hK | (with_reducible refine zn hK ?_; clear hK) | ((with_reducible apply o_callF (g := 79) w_none); (case ha => exact ez0); (case hs => ((with_reducible apply qp); exact ezT hT)); (case' hk => rintro _ h' n' ⟨i1, i2, rfl, hrP, hrQ, hn2, hk2⟩)) | ((with_reducible first | apply zo1 | apply zo2 | apply o_guard rfl | apply x_cond | apply k_e1 rfl | apply k_e2 rfl | apply k_e0 rfl | apply k_e3 rfl | apply k_e4 rfl); (case he => exact ez1 t0); (try case hok => exact ezO); all_goals try (intro hb; (try simp only [hbs, reduceCtorEq] at hb); try exact ezX)) | ((with_reducible apply o_undef rfl); (case hb => exact ez0)))
      obtain ⟨h7, hh7⟩ : ∃ y, y = h' := ⟨_, rfl⟩
      obtain ⟨n7, hn7⟩ : ∃ y, y = n' := ⟨_, rfl⟩
      subst hh7
      subst hn7
      have rV : rowOf h7 n = some (32, false, vcell 0 0 [] none 0 0 false) := by
        rw [rowOf_keep (hk2 _ (by omega))]
        simp (disch := first | assumption | omega | rfl | decide) only [go_sem, seval, tys]
        try rfl
      have hkp : ∀ b, b < n → h7.get b = h.get b := fun b hb => by
        rw [hk2 _ (by omega)]
        (repeat rw [Hp.get_ne _ _ (by omega)])
      have ql1 := ql0 h7 n7 ((hT.keep (Nat.le_refl _) hkp).more (by omega)) ((hR.keep (Nat.le_refl _) hkp).more (by omega)) _ _ hrP hrQ hxk
      have wV := rwOf_row rV
      cases res with
      | error e =>
        have ql : SQ k (d + 4 * f + 13) n 80 [.slice (some ⟨tid, toff, none⟩) T.length tc, .slice A L.length gc, .int .u64 a, .int .i64 t, .slice (some ⟨i1, 0, none⟩) ps.length ps.length, .slice (some ⟨i2, 0, none⟩) os.length os.length, .int .i64 dp] h7 n7 fun v h' n' => v = .tuple ⟨[.agg ⟨vcell 0 0 [] none 0 0 false⟩, .int .i64 e]⟩ ∧ e ≠ 0 ∧ h7 = h' ∧ n7 = n' := ql1.mono fun _ _ _ hp => ⟨hp.1, hp.2.1, hp.2.2.1.symm, hp.2.2.2.symm⟩
        (repeat' first | refine zcd ?_ | intro K' hK | (with_reducible refine zn hK ?_; clear hK) | ((with_reducible apply o_callF (g := 80) w_none); (case ha => exact ez0); (case hs => (exact ql)); (case' hk => rintro _ h' n' ⟨rfl, he0, rfl, rfl⟩)) | ((with_reducible first | apply zo1 | apply zo2 | apply o_guard rfl | apply x_cond | apply k_e1 rfl | apply k_e2 rfl | apply k_e0 rfl | apply k_e3 rfl | apply k_e4 rfl); (case he => exact ez1 wV); (try case hok => exact ezO); all_goals try (intro hb; (try simp only [hbs, reduceCtorEq] at hb); try exact ezX)) | ((with_reducible apply o_undef rfl); (case hb => exact ez0)))
        all_goals exact sw_flat rfl rfl ⟨rfl, he0, rfl, rfl⟩
      | ok xv =>
        have ql : SQ k (d + 4 * f + 13) n 80 [.slice (some ⟨tid, toff, none⟩) T.length tc, .slice A L.length gc, .int .u64 a, .int .i64 t, .slice (some ⟨i1, 0, none⟩) ps.length ps.length, .slice (some ⟨i2, 0, none⟩) os.length os.length, .int .i64 dp] h7 n7 fun v h' n' => ∃ A1 cc1, v = .tuple ⟨[.agg ⟨vcell xv.kd xv.i xv.s A1 xv.l.length cc1 xv.c⟩, .int .i64 0]⟩ ∧ FH h' n7 n' xv (vcell xv.kd xv.i xv.s A1 xv.l.length cc1 xv.c) ∧ n7 ≤ n' ∧ ∀ b, b < n7 → h'.get b = h7.get b := ql1.mono fun v h' n' ⟨cs, e1, hf, a, b⟩ => by
          obtain ⟨A1, cc1, rfl⟩ := hf.cells
          exact ⟨A1, cc1, e1, hf, a, b⟩
        (repeat' first | refine zcd ?_ | intro K' hK | (with_reducible refine zn hK ?_; clear hK) | ((with_reducible apply o_callF (g := 80) w_none); (case ha => exact ez0); (case hs => (exact ql)); (case' hk => rintro _ h' n' ⟨A1, cc1, rfl, hfx, hn6, hk6⟩)) | ((with_reducible first | apply zo1 | apply zo2 | apply o_guard rfl | apply x_cond | apply k_e1 rfl | apply k_e2 rfl | apply k_e0 rfl | apply k_e3 rfl | apply k_e4 rfl); (case he => exact ez0); (try case hok => exact ezO); all_goals try (intro hb; (try simp only [hbs, reduceCtorEq] at hb); try exact ezX)) | ((with_reducible apply o_undef rfl); (case hb => exact ez0)))
        have wV := rwOf_row (show rowOf h' n = _ from by rw [rowOf_keep (hk6 _ (by omega))]; exact rV)
        (repeat' first | refine zcd ?_ | intro K' hK | (with_reducible refine zn hK ?_; clear hK) | fail | ((with_reducible first | apply zo1 | apply zo2 | apply o_guard rfl | apply x_cond | apply k_e1 rfl | apply k_e2 rfl | apply k_e0 rfl | apply k_e3 rfl | apply k_e4 rfl); (case he => exact ez1 wV); (try case hok => exact ezO); all_goals try (intro hb; (try simp only [hbs, reduceCtorEq] at hb); try exact ezX)) | ((with_reducible apply o_undef rfl); (case hb => exact ez0)))
        refine sw_fh (hfx.keep (by omega) (Nat.le_refl _) fun b hb1 hb2 => by (repeat rw [Hp.get_ne _ _ (by omega)])) (by omega) (ezC hk6 hkp) fun cs2 h2 n2 a b c => ⟨cs2, rfl, a, b, c⟩
    · refine enter Try.func44 (by kernel_rfl) rfl (by kernel_rfl) rfl rfl rfl ?_
      (repeat' first | refine zcd ?_ | intro K' hK | (with_reducible refine zn hK ?_; clear hK) | ((with_reducible apply o_callF (g := 79) w_none); (case ha => exact ez0); (case hs => ((with_reducible apply qp); exact ezT hT)); (case' hk => rintro _ h' n' ⟨i1, i2, rfl, hrP, hrQ, hn2, hk2⟩)) | ((with_reducible first | apply zo1 | apply zo2 | apply o_guard rfl | apply x_cond | apply k_e1 rfl | apply k_e2 rfl | apply k_e0 rfl | apply k_e3 rfl | apply k_e4 rfl); (case he => exact ez1 t0); (try case hok => exact ezO); all_goals try (intro hb; (try simp only [hbs, reduceCtorEq] at hb); try exact ezX)) | ((with_reducible apply o_undef rfl); (case hb => exact ez0)))
      obtain ⟨h7, hh7⟩ : ∃ y, y = h' := ⟨_, rfl⟩
      obtain ⟨n7, hn7⟩ : ∃ y, y = n' := ⟨_, rfl⟩
      subst hh7
      subst hn7
      have rV : rowOf h7 n = some (32, false, vcell 0 0 [] none 0 0 false) := by
        rw [rowOf_keep (hk2 _ (by omega))]
        simp (disch := first | assumption | omega | rfl | decide) only [go_sem, seval, tys]
        try rfl
      have hkp : ∀ b, b < n → h7.get b = h.get b := fun b hb => by
        rw [hk2 _ (by omega)]
        (repeat rw [Hp.get_ne _ _ (by omega)])
      have ql1 := ql0 h7 n7 ((hT.keep (Nat.le_refl _) hkp).more (by omega)) ((hR.keep (Nat.le_refl _) hkp).more (by omega)) _ _ hrP hrQ hxk
      have wV := rwOf_row rV
      cases res with
      | error e =>
        have ql : SQ k (d + 4 * f + 13) n 80 [.slice (some ⟨tid, toff, none⟩) T.length tc, .slice A L.length gc, .int .u64 a, .int .i64 t, .slice (some ⟨i1, 0, none⟩) ps.length ps.length, .slice (some ⟨i2, 0, none⟩) os.length os.length, .int .i64 dp] h7 n7 fun v h' n' => v = .tuple ⟨[.agg ⟨vcell 0 0 [] none 0 0 false⟩, .int .i64 e]⟩ ∧ e ≠ 0 ∧ h7 = h' ∧ n7 = n' := ql1.mono fun _ _ _ hp => ⟨hp.1, hp.2.1, hp.2.2.1.symm, hp.2.2.2.symm⟩
        (repeat' first | refine zcd ?_ | intro K' hK | (with_reducible refine zn hK ?_; clear hK) | ((with_reducible apply o_callF (g := 80) w_none); (case ha => exact ez0); (case hs => (exact ql)); (case' hk => rintro _ h' n' ⟨rfl, he0, rfl, rfl⟩)) | ((with_reducible first | apply zo1 | apply zo2 | apply o_guard rfl | apply x_cond | apply k_e1 rfl | apply k_e2 rfl | apply k_e0 rfl | apply k_e3 rfl | apply k_e4 rfl); (case he => exact ez1 wV); (try case hok => exact ezO); all_goals try (intro hb; (try simp only [hbs, reduceCtorEq] at hb); try exact ezX)) | ((with_reducible apply o_undef rfl); (case hb => exact ez0)))
        all_goals exact sw_flat rfl rfl ⟨rfl, he0, rfl, rfl⟩
      | ok xv =>
        have ql : SQ k (d + 4 * f + 13) n 80 [.slice (some ⟨tid, toff, none⟩) T.length tc, .slice A L.length gc, .int .u64 a, .int .i64 t, .slice (some ⟨i1, 0, none⟩) ps.length ps.length, .slice (some ⟨i2, 0, none⟩) os.length os.length, .int .i64 dp] h7 n7 fun v h' n' => ∃ A1 cc1, v = .tuple ⟨[.agg ⟨vcell xv.kd xv.i xv.s A1 xv.l.length cc1 xv.c⟩, .int .i64 0]⟩ ∧ FH h' n7 n' xv (vcell xv.kd xv.i xv.s A1 xv.l.length cc1 xv.c) ∧ n7 ≤ n' ∧ ∀ b, b < n7 → h'.get b = h7.get b := ql1.mono fun v h' n' ⟨cs, e1, hf, a, b⟩ => by
          obtain ⟨A1, cc1, rfl⟩ := hf.cells
          exact ⟨A1, cc1, e1, hf, a, b⟩
        (repeat' first | refine zcd ?_ | intro K' hK | (with_reducible refine zn hK ?_; clear hK) | ((with_reducible apply o_callF (g := 80) w_none); (case ha => exact ez0); (case hs => (exact ql)); (case' hk => rintro _ h' n' ⟨A1, cc1, rfl, hfx, hn6, hk6⟩)) | ((with_reducible first | apply zo1 | apply zo2 | apply o_guard rfl | apply x_cond | apply k_e1 rfl | apply k_e2 rfl | apply k_e0 rfl | apply k_e3 rfl | apply k_e4 rfl); (case he => exact ez0); (try case hok => exact ezO); all_goals try (intro hb; (try simp only [hbs, reduceCtorEq] at hb); try exact ezX)) | ((with_reducible apply o_undef rfl); (case hb => exact ez0)))
        have wV := rwOf_row (show rowOf h' n = _ from by rw [rowOf_keep (hk6 _ (by omega))]; exact rV)
        (repeat' first | refine zcd ?_ | intro K' hK | (with_reducible refine zn hK ?_; clear hK) | fail | ((with_reducible first | apply zo1 | apply zo2 | apply o_guard rfl | apply x_cond | apply k_e1 rfl | apply k_e2 rfl | apply k_e0 rfl | apply k_e3 rfl | apply k_e4 rfl); (case he => exact ez1 wV); (try case hok => exact ezO); all_goals try (intro hb; (try simp only [hbs, reduceCtorEq] at hb); try exact ezX)) | ((with_reducible apply o_undef rfl); (case hb => exact ez0)))
        refine sw_fh (hfx.keep (by omega) (Nat.le_refl _) fun b hb1 hb2 => by (repeat rw [Hp.get_ne _ _ (by omega)])) (by omega) (ezC hk6 hkp) fun cs2 h2 n2 a b c => ⟨cs2, rfl, a, b, c⟩
end Go.Proofs.Ytcpkdjikembpnaa.Ce
namespace Go.Proofs.Ytcpkdjikembpnaa.Ce
open Go.RowKit
structure Sub (F G : List Bool) : Prop where
  len : G.length = F.length
  mono : ∀ x : Nat, F[x]? = some true → G[x]? = some true
  cnt : G = F ∨ F.count true < G.count true
theorem Sub.rfl_ {F : List Bool} : Sub F F := ⟨rfl, fun _ h => h, .inl rfl⟩
theorem Sub.trans {F G H : List Bool} (a : Sub F G) (b : Sub G H) : Sub F H := by
  refine ⟨b.len.trans a.len, fun x h => b.mono x (a.mono x h), ?_⟩
  rcases a.cnt with h1 | h1 <;> rcases b.cnt with h2 | h2
  · exact .inl (h2.trans h1)
  · right; rw [h1] at h2; exact h2
  · right; rw [h2]; exact h1
  · right; omega
theorem set_true_same {F : List Bool} {y : Nat} (h : F[y]? = some true) : F.set y true = F := by
  refine List.ext_getElem? fun x => ?_
  rw [List.getElem?_set]
  by_cases e : y = x
  · subst e
    rw [if_pos rfl, h]
    have : y < F.length := by
      rcases Nat.lt_or_ge y F.length with h1 | h1
      · exact h1
      · rw [List.getElem?_eq_none h1] at h; cases h
    rw [if_pos this]
  · rw [if_neg e]
theorem Sub.set {F : List Bool} {y : Nat} (hy : y < F.length) : Sub F (F.set y true) := by
  refine ⟨List.length_set, fun x h => ?_, ?_⟩
  · rw [List.getElem?_set]
    by_cases e : y = x
    · rw [if_pos e, if_pos hy]
    · rw [if_neg e]; exact h
  · cases hb : F[y]
    · right
      rw [List.count_set hy, hb]
      simp
    · left
      exact set_true_same (by rw [List.getElem?_eq_getElem hy, hb])
theorem set_true_get {F : List Bool} {y : Nat} (hy : y < F.length) : (F.set y true)[y]? = some true := by rw [List.getElem?_set, if_pos rfl, if_pos hy]
def ClosedTo (T : List Tp) (F : List Bool) (k : Nat) : Prop := ∀ x (hx : x < T.length), x < k → F[x]? = some true → ∀ y : Nat, (y : Int) ∈ leadsT true T[x] → F[y]? = some true
def Snd (T : List Tp) (i : Nat) (F : List Bool) : Prop := ∀ x : Nat, F[x]? = some true → Rch T true i x
structure Out (T : List Tp) (i : Nat) (F : List Bool) (r : Nat) : Prop where
  len : F.length = T.length
  snd : Snd T i F
  st : F[i]? = some true
  ok : ClosedTo T F T.length ∨ r + 1 ≤ F.count true
structure Mid (T : List Tp) (i : Nat) (F G : List Bool) (r k : Nat) : Prop where
  out : Out T i F r
  sub : Sub F G
  snd : Snd T i G
  st : G[i]? = some true
  cl : G = F → ClosedTo T F k
  fx : ClosedTo T F T.length → G = F
structure Inn (T : List Tp) (i : Nat) (F G H : List Bool) (r k m : Nat) (ns : List Int) : Prop where
  mid : Mid T i F G r k
  sub : Sub G H
  snd : Snd T i H
  st : H[i]? = some true
  on : G[k]? = some true → ∀ y : Nat, (y : Int) ∈ ns.take m → H[y]? = some true
  off : G[k]? ≠ some true → H = G
  fx : ClosedTo T F T.length → H = F
theorem Out.init {T : List Tp} {i : Nat} (hi : i < T.length) : Out T i ((List.replicate T.length false).set i true) 0 := by
  have hl : i < (List.replicate T.length false).length := by rw [List.length_replicate]; exact hi
  refine ⟨by rw [List.length_set, List.length_replicate], fun x h => ?_, set_true_get hl, .inr ?_⟩
  · rw [List.getElem?_set] at h
    by_cases e : i = x
    · subst e; exact .refl
    · rw [if_neg e, List.getElem?_replicate] at h
      split at h <;> cases h
  · rw [List.count_set hl]
    simp
theorem Out.mid {T : List Tp} {i r : Nat} {F : List Bool} (h : Out T i F r) : Mid T i F F r 0 := ⟨h, Sub.rfl_, h.snd, h.st, fun _ x _ hx => absurd hx (by omega), fun _ => rfl⟩
theorem Mid.inn {T : List Tp} {i r k : Nat} {F G : List Bool} {ns : List Int} (h : Mid T i F G r k) : Inn T i F G G r k 0 ns := ⟨h, Sub.rfl_, h.snd, h.st, fun _ y hy => by simp at hy, fun _ => rfl, h.fx⟩
theorem Inn.len {T : List Tp} {i r k m : Nat} {F G H : List Bool} {ns : List Int} (h : Inn T i F G H r k m ns) : H.length = T.length := by rw [h.sub.len, h.mid.sub.len, h.mid.out.len]
theorem Inn.step {T : List Tp} {i r k m : Nat} {F G H : List Bool} {ns : List Int} (h : Inn T i F G H r k m ns) (hk : k < T.length) (hns : leadsT true T[k] = ns) (hm : m < ns.length) {y : Nat} (hy : ns[m] = (y : Int)) (hyl : y < T.length) (hHk : H[k]? = some true) : Inn T i F G (H.set y true) r k (m + 1) ns := by
  have hl := h.len
  have hyH : y < H.length := by omega
  have hs := Sub.set hyH
  have hG : G[k]? = some true := by
    rcases Classical.em (G[k]? = some true) with h1 | h1
    · exact h1
    · rw [h.off h1] at hHk; exact absurd hHk h1
  have hym : (y : Int) ∈ leadsT true T[k] := by rw [hns, ← hy]; exact List.getElem_mem _
  refine ⟨h.mid, h.sub.trans hs, fun x hx => ?_, hs.mono _ h.st, fun _ z hz => ?_, fun h1 => absurd hG h1, fun hc => ?_⟩
  · rw [List.getElem?_set] at hx
    by_cases e : y = x
    · subst e
      exact .step (h.snd k hHk) hk hym
    · rw [if_neg e] at hx; exact h.snd x hx
  · rw [List.take_succ_eq_append_getElem hm] at hz
    rcases List.mem_append.1 hz with hz | hz
    · exact hs.mono _ (h.on hG z hz)
    · have hz := List.mem_singleton.1 hz
      rw [hy] at hz
      obtain rfl : z = y := by omega
      exact set_true_get hyH
  · have he := h.fx hc
    subst he
    exact set_true_same (hc k hk hk hHk y hym)
theorem Inn.next {T : List Tp} {i r k m : Nat} {F G H : List Bool} {ns : List Int} (h : Inn T i F G H r k m ns) (hk : k < T.length) (hns : leadsT true T[k] = ns) (hm : m = ns.length ∨ H[k]? ≠ some true) : Mid T i F H r (k + 1) := by
  refine ⟨h.mid.out, h.mid.sub.trans h.sub, h.snd, h.st, fun e => ?_, h.fx⟩
  have hGF : G = F := by
    rcases h.mid.sub.cnt with h1 | h1
    · exact h1
    · rcases h.sub.cnt with h2 | h2
      · rw [← h2]; exact e
      · rw [e] at h2; omega
  have hHG : H = G := by rw [e, hGF]
  intro x hx hxk hF y hy
  by_cases hxe : x = k
  · subst hxe
    rcases hm with hm | hm
    · rw [← e]
      refine h.on (by rw [hGF]; exact hF) y ?_
      rw [hm, List.take_length, ← hns]
      exact hy
    · rw [e] at hm
      exact absurd hF hm
  · exact h.mid.cl hGF x hx (by omega) hF y hy
theorem Mid.next {T : List Tp} {i r : Nat} {F G : List Bool} (h : Mid T i F G r T.length) : Out T i G (r + 1) := by
  refine ⟨by rw [h.sub.len, h.out.len], h.snd, h.st, ?_⟩
  rcases h.sub.cnt with h1 | h1
  · left
    have := h.cl h1
    rw [h1]
    exact this
  · rcases h.out.ok with h2 | h2
    · rw [h.fx h2] at h1; exact absurd h1 (Nat.lt_irrefl _)
    · right; omega
theorem Out.done {T : List Tp} {i : Nat} {F : List Bool} (hF : Fine T) (hi : i < T.length) (h : Out T i F T.length) : F = rchF T true i := by
  have hc : ClosedTo T F T.length := by
    rcases h.ok with h1 | h1
    · exact h1
    · have := List.count_le_length (a := true) (l := F)
      rw [h.len] at this
      omega
  exact rchF_eq hF hi h.len h.st (fun x _ hx => h.snd x hx) fun x hx h1 y hy => hc x hx hx h1 y hy
end Go.Proofs.Ytcpkdjikembpnaa.Ce
