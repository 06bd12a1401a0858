/- Parts of the proof of ValueLoads: Hk, Hl. No condition of its own. -/
import Derived.Test.YtcpkdjikembpnaaVlbb
set_option linter.unusedVariables false
set_option linter.unusedSimpArgs false
set_option maxRecDepth 100000
set_option maxHeartbeats 4000000
namespace Go.Proofs.Ytcpkdjikembpnaa.Ce
open Go.RowKit
variable (k d cl : Nat) (h : Hp) (n : Nat)
theorem rpt_ev (hk : 30000 ≤ k) (A : Option Addr) (T : List Tp) (c : Nat) (hT : TabH h n A T) (t : Nat) (ho : OkV T t) (hc : (T[t]'ho.lt).kd = 5 ∨ (T[t]'ho.lt).kd = 6) :
    SQ k (d + 6) cl 79 [.slice A T.length c, .int .i64 t] h n fun v h' n' => ∃ i1 i2, v = .tuple ⟨[.slice (some ⟨i1, 0, none⟩) (prtT (T[t]'ho.lt)).length (prtT (T[t]'ho.lt)).length, .slice (some ⟨i2, 0, none⟩) (offsT T (T[t]'ho.lt)).length (offsT T (T[t]'ho.lt)).length]⟩ ∧ RdH h' n' (some ⟨i1, 0, none⟩) (iv (prtT (T[t]'ho.lt))) ∧ RdH h' n' (some ⟨i2, 0, none⟩) (iv (offsT T (T[t]'ho.lt))) ∧ n ≤ n' ∧ (∀ b, b < n → h'.get b = h.get b) ∧ i1 < n' ∧ i2 < n' ∧ n ≤ i1 ∧ n ≤ i2 := by
  have q : SQ k (d + 6) cl 79 [.slice A T.length c, .int .i64 t] h n (PartsV (prtT (T[t]'ho.lt)) (offsT T (T[t]'ho.lt)) h n) := by
    rcases hc with h5 | h5
    · exact rpt_fld k (d + 1) cl h n hk A T c hT t ho h5
    · exact rpt_arr k d cl h n hk A T c hT t ho h5
  refine q.mono fun v h' n' hp => ?_
  unfold PartsV at hp
  obtain ⟨e1, e2, e3⟩ := hp
  subst e2
  subst e3
  exact ⟨n, n + 1, e1, RdH.ofRow (by rw [rowOf_ne _ _ (by omega)]; exact rowOf_same _ _ _ _ _) (by omega), RdH.ofRow (rowOf_same _ _ _ _ _) (by omega), by omega, ezN, by omega, by omega, by omega, by omega⟩
theorem rnothing_ev (hk : 30000 ≤ k) (A : Option Addr) (T : List Tp) (c : Nat) (hm : T.length ≤ 32) :
    ∀ (f t : Nat), OkV T t → t < f → ∀ (d cl : Nat) (h : Hp) (n : Nat), TabH h n A T →
    SQ k (d + f + 7) cl 46 [.slice A T.length c, .int .i64 t] h n (FhV (zeroV T f t) h n) := by
  intro f
  induction f with
  | zero => intro t _ hlt; omega
  | succ f ihf =>
  intro t ho hlt d cl h n hT
  rw [show d + (f + 1) + 7 = d + f + 7 + 1 from by omega]
  have htl := ho.lt
  have hfi := ho.chk.2.1 t htl
  have hkd := fine_kd hfi
  obtain ⟨tid, toff, hTA, htid, hti, ht0, -⟩ := hT.at_ htl
  subst hTA
  have hpl := prt_len ho
  have hpi := fun q (a : q < (prtT T[t]).length) (b : q < (offsT T T[t]).length) => prt_in ho a b
  have hz : zeroV T (f + 1) t = .mk T[t].kd 0 [] ((prtT T[t]).map fun p => zeroV T f p.toNat) false := by
    rw [zeroV, List.getElem?_eq_getElem htl]
  have hnone : ∀ q (hq : q < (prtT T[t]).length), ∃ y : Nat, (prtT T[t])[q] = (y : Int) ∧ y < t ∧ OkV T y := fun q hq => by
    obtain ⟨y, e, a, b, -⟩ := hpi q hq (by omega)
    exact ⟨y, e, a, b⟩
  rw [hz]
  have qp := fun (hc : (T[t]'htl).kd = 5 ∨ (T[t]'htl).kd = 6) (cl : Nat) (h6 : Hp) (n6 : Nat) (hT6 : TabH h6 n6 (some ⟨tid, toff, none⟩) T) => rpt_ev k (d + f + 1) cl h6 n6 hk (some ⟨tid, toff, none⟩) T c hT6 t ho hc
  have hps0 : (T[t]'htl).kd ≠ 5 → (T[t]'htl).kd ≠ 6 → prtT T[t] = [] := fun a b => by
    unfold prtT
    rw [fine_nofs hfi (by omega), fine_ln hfi b]
    rfl
  obtain ⟨x, hx⟩ : ∃ x, T[t] = x := ⟨_, rfl⟩
  simp only [hx] at hfi hkd hti ht0 hpl hnone qp hps0 ⊢
  obtain ⟨kd, el, ln, fs, FA, fc⟩ := x
  dsimp only at hfi hkd hti ht0 qp hps0 ⊢
  obtain ⟨ps, hps⟩ : ∃ ps, prtT ⟨kd, el, ln, fs, FA, fc⟩ = ps := ⟨_, rfl⟩
  obtain ⟨os, hos⟩ : ∃ os, offsT T ⟨kd, el, ln, fs, FA, fc⟩ = os := ⟨_, rfl⟩
  simp only [hps] at qp hpl hnone hps0 ⊢
  simp only [hos] at qp hpl
  have hck : kd = 1 ∨ kd = 2 ∨ kd = 3 ∨ kd = 4 ∨ kd = 7 ∨ kd = 5 ∨ kd = 6 := by omega
  obtain ⟨zs, hzs⟩ : ∃ zs, ps.map (fun p => zeroV T f p.toNat) = zs := ⟨_, rfl⟩
  rw [hzs]
  rcases hck with rfl | rfl | rfl | rfl | rfl | hc56
  · obtain rfl := hps0 (by decide) (by decide)
    subst hzs
    refine enter Try.func46 (by kernel_rfl) rfl (by kernel_rfl) rfl rfl rfl ?_
    (repeat' first | refine zcd ?_ | intro K' hK | (with_reducible refine zn hK ?_; clear hK) | fail | ((with_reducible first | apply zo1 | apply zo2 | apply o_guard rfl | apply x_cond | apply k_e1 rfl | apply k_e2 rfl | apply k_e0 rfl | apply k_e3 rfl | apply k_e4 rfl); (case he => exact ez2 hti ht0); (try case hok => exact ezO); all_goals try (intro hb; (try simp only [hbs, reduceCtorEq] at hb); try exact ezX)) | ((with_reducible apply o_undef rfl); (case hb => exact ez0)))
    all_goals exact sw_flat rfl rfl ⟨_, rfl, .leaf 1 0 [] false, Nat.le_refl _, fun _ _ => rfl⟩
  · obtain rfl := hps0 (by decide) (by decide)
    subst hzs
    refine enter Try.func46 (by kernel_rfl) rfl (by kernel_rfl) rfl rfl rfl ?_
    (repeat' first | refine zcd ?_ | intro K' hK | (with_reducible refine zn hK ?_; clear hK) | fail | ((with_reducible first | apply zo1 | apply zo2 | apply o_guard rfl | apply x_cond | apply k_e1 rfl | apply k_e2 rfl | apply k_e0 rfl | apply k_e3 rfl | apply k_e4 rfl); (case he => exact ez2 hti ht0); (try case hok => exact ezO); all_goals try (intro hb; (try simp only [hbs, reduceCtorEq] at hb); try exact ezX)) | ((with_reducible apply o_undef rfl); (case hb => exact ez0)))
    all_goals exact sw_flat rfl rfl ⟨_, rfl, .leaf 2 0 [] false, Nat.le_refl _, fun _ _ => rfl⟩
  · obtain rfl := hps0 (by decide) (by decide)
    subst hzs
    refine enter Try.func46 (by kernel_rfl) rfl (by kernel_rfl) rfl rfl rfl ?_
    (repeat' first | refine zcd ?_ | intro K' hK | (with_reducible refine zn hK ?_; clear hK) | fail | ((with_reducible first | apply zo1 | apply zo2 | apply o_guard rfl | apply x_cond | apply k_e1 rfl | apply k_e2 rfl | apply k_e0 rfl | apply k_e3 rfl | apply k_e4 rfl); (case he => exact ez2 hti ht0); (try case hok => exact ezO); all_goals try (intro hb; (try simp only [hbs, reduceCtorEq] at hb); try exact ezX)) | ((with_reducible apply o_undef rfl); (case hb => exact ez0)))
    all_goals exact sw_flat rfl rfl ⟨_, rfl, .leaf 3 0 [] false, Nat.le_refl _, fun _ _ => rfl⟩
  · obtain rfl := hps0 (by decide) (by decide)
    subst hzs
    refine enter Try.func46 (by kernel_rfl) rfl (by kernel_rfl) rfl rfl rfl ?_
    (repeat' first | refine zcd ?_ | intro K' hK | (with_reducible refine zn hK ?_; clear hK) | fail | ((with_reducible first | apply zo1 | apply zo2 | apply o_guard rfl | apply x_cond | apply k_e1 rfl | apply k_e2 rfl | apply k_e0 rfl | apply k_e3 rfl | apply k_e4 rfl); (case he => exact ez2 hti ht0); (try case hok => exact ezO); all_goals try (intro hb; (try simp only [hbs, reduceCtorEq] at hb); try exact ezX)) | ((with_reducible apply o_undef rfl); (case hb => exact ez0)))
    all_goals exact sw_flat rfl rfl ⟨_, rfl, .leaf 4 0 [] false, Nat.le_refl _, fun _ _ => rfl⟩
  · obtain rfl := hps0 (by decide) (by decide)
    subst hzs
    refine enter Try.func46 (by kernel_rfl) rfl (by kernel_rfl) rfl rfl rfl ?_
    (repeat' first | refine zcd ?_ | intro K' hK | (with_reducible refine zn hK ?_; clear hK) | fail | ((with_reducible first | apply zo1 | apply zo2 | apply o_guard rfl | apply x_cond | apply k_e1 rfl | apply k_e2 rfl | apply k_e0 rfl | apply k_e3 rfl | apply k_e4 rfl); (case he => exact ez2 hti ht0); (try case hok => exact ezO); all_goals try (intro hb; (try simp only [hbs, reduceCtorEq] at hb); try exact ezX)) | ((with_reducible apply o_undef rfl); (case hb => exact ez0)))
    all_goals exact sw_flat rfl rfl ⟨_, rfl, .leaf 7 0 [] false, Nat.le_refl _, fun _ _ => rfl⟩
  · have qpp := qp hc56
    simp only [show d + f + 1 + 6 = d + f + 7 from rfl] at qpp
    clear qp
    rcases hc56 with rfl | rfl
    · refine enter Try.func46 (by kernel_rfl) rfl (by kernel_rfl) rfl rfl rfl ?_
      (repeat' first | refine zcd ?_ | intro K' hK | (with_reducible refine zn hK ?_; clear hK) | ((with_reducible apply o_callF (g := 79) w_none); (case ha => exact ez0); (case hs => ((with_reducible apply qpp); exact ezT hT)); (case' hk => rintro _ h' n' ⟨i1, i2, rfl, hrP, hrQ, hn2, hk2, hi1, hi2, hi3, hi4⟩)) | ((with_reducible first | apply zo1 | apply zo2 | apply o_guard rfl | apply x_cond | apply k_e1 rfl | apply k_e2 rfl | apply k_e0 rfl | apply k_e3 rfl | apply k_e4 rfl); (case he => exact ez2 hti ht0); (try case hok => exact ezO); all_goals try (intro hb; (try simp only [hbs, reduceCtorEq] at hb); try exact ezX)) | ((with_reducible apply o_undef rfl); (case hb => exact ez0)))
      obtain ⟨n1, rfl⟩ : ∃ y, y = n' := ⟨_, rfl⟩
      have r4 : rowOf h' n = some (32, false, vcell 0 0 [] none 0 0 false) := by
        rw [rowOf_keep (hk2 _ (by omega))]
        simp (disch := first | assumption | omega | rfl | decide) only [go_sem, seval, tys]
        try rfl
      have r5 : rowOf h' (n + 1) = some (32, false, vcell 5 0 [] none 0 0 false) := by
        rw [rowOf_keep (hk2 _ (by omega))]
        simp (disch := first | assumption | omega | rfl | decide) only [go_sem, seval, tys]
        try rfl
      have hkp : ∀ b, b < n → h'.get b = h.get b := fun b hb => by
        rw [hk2 _ (by omega)]
        (repeat rw [Hp.get_ne _ _ (by omega)])
      have hzl : zs.length = ps.length := by rw [← hzs, List.length_map]
      refine x_loopV [8, 35, 36, 37, 38, 39, 40, 41, 42, 43, 44, 45, 46, 47, 48, 49, 50, 51] [8] (fun r vs h5 n5 => ∃ (q : Nat) (acc : List V) (O : Value), r = ps.length - q ∧ q ≤ ps.length ∧ vs = [.int .i64 q] ∧ n1 ≤ n5 ∧ (∀ b, b < n → h5.get b = h.get b) ∧ RdH h5 n1 (some ⟨i1, 0, none⟩) (iv ps) ∧ rowOf h5 n = some (32, false, vcell 0 0 [] none 0 0 false) ∧ rowOf h5 (n + 1) = some (32, false, [.int .u8 5, .int .i64 0, .string ⟨⟨[]⟩⟩, O, .bool false]) ∧ acc.length = q ∧ OwnV acc O h5 n1 n5 ∧ acc = zs.take q) ps.length rfl (by omega) ?_ ?_
      · exact ⟨0, [], .slice none 0 0, rfl, by omega, ez0, Nat.le_refl _, hkp, hrP, r4, r5, rfl, .inl ⟨rfl, rfl⟩, by simp⟩
      · clear hkp r4 r5 hrP
        rintro r g1 _ h5 n5 ⟨q, acc, O, rfl, hq, rfl, hn5, hkp, hrP5, r4, r5, hal, hO, hacc⟩
        have f3 := cellAt_row (off := 3) r5
        by_cases hqp : q < ps.length
        · obtain ⟨pid, poff, hPA, hpid, cp⟩ := int_at hrP5 hqp
          injection hPA with hPA
          injection hPA with hp1 hp2
          subst hp1
          subst hp2
          obtain ⟨y, hy, hyt, hoy⟩ := hnone q hqp
          rw [hy] at cp
          have cp2 := cp
          rw [Nat.zero_add] at cp2
          have hT5 : TabH h5 n5 (some ⟨tid, toff, none⟩) T := (hT.keep (Nat.le_refl _) hkp).more (by omega)
          have hzq : zs.take (q + 1) = zs.take q ++ [zeroV T f y] := by
            rw [List.take_succ_eq_append_getElem (by omega)]
            congr 2
            rw [List.getElem_of_eq hzs.symm, List.getElem_map, hy, Int.toNat_natCast]
          obtain ⟨xv, hxv⟩ : ∃ xv, zeroV T f y = xv := ⟨_, rfl⟩
          rw [hxv] at hzq
          have q1 := fun (cl : Nat) (h6 : Hp) (n6 : Nat) (hT6 : TabH h6 n6 (some ⟨tid, toff, none⟩) T) => (ihf y hoy (by omega) d cl h6 n6 hT6).mono (Φ' := fun v h' n' => ∃ A1 cc1, v = .agg ⟨vcell xv.kd xv.i xv.s A1 xv.l.length cc1 xv.c⟩ ∧ FH h' n6 n' xv (vcell xv.kd xv.i xv.s A1 xv.l.length cc1 xv.c) ∧ n6 ≤ n' ∧ ∀ b, b < n6 → h'.get b = h6.get b) fun v h' n' ⟨cs, e1, hf, a, b⟩ => by
            rw [hxv] at hf
            obtain ⟨A1, cc1, rfl⟩ := hf.cells
            exact ⟨A1, cc1, e1, hf, a, b⟩
          rcases hO with ⟨rfl, rfl⟩ | ⟨hne, id, rows, j1, j2, rfl, q4, hrl, hkk⟩
          · (repeat' first | refine zcd ?_ | intro K' hK | (with_reducible refine zn hK ?_; clear hK) | (with_reducible refine x_drawnD (id := 7) [(1, 6), (1, 7)] (by kernel_rfl) fun K' hK => ?_) | ((with_reducible apply d_nil); (case hp => exact ezP); (case' hx => (refine hK _ _ _ ?_; clear hK))) | ((with_reducible apply d_pure w_none); (case hp => exact rfl); (case hc => exact rfl); (case he => exact ez3 f3 cp cp2)) | ((with_reducible apply d_eff w_none); (case hc => exact rfl); (case he => exact ez3 f3 cp cp2); (case hok => exact ezO)) | ((with_reducible apply d_guard rfl); (case hb => exact ez3 f3 cp cp2); (case' h1 => intro hb; (try simp only [hbs, reduceCtorEq] at hb); try exact ezX); (case' h2 => intro hb; (try simp only [hbs, reduceCtorEq] at hb); try exact ezX)) | ((with_reducible apply d_callN (g := 46) w_none); (case hs0 => exact rfl); (case ha => exact ez0); (case hs => ((with_reducible apply q1); (exact hT5))); (case' hk => rintro _ h' n' ⟨A1, cc1, rfl, hfx, hn6, hk6⟩)) | ((with_reducible first | apply zo1 | apply zo2 | apply o_guard rfl | apply x_cond | apply k_e1 rfl | apply k_e2 rfl | apply k_e0 rfl | apply k_e3 rfl | apply k_e4 rfl); (case he => exact ez3 f3 cp cp2); (try case hok => exact ezO); all_goals try (intro hb; (try simp only [hbs, reduceCtorEq] at hb); try exact ezX)) | ((with_reducible apply o_undef rfl); (case hb => exact ez0)))
            have r5n : rowOf h' (n + 1) = some (32, false, [.int .u8 5, .int .i64 0, .string ⟨⟨[]⟩⟩, .slice none 0 0, .bool false]) := by
              rw [rowOf_keep (hk6 _ (by omega))]
              exact r5
            have w5 := rwOf_row r5n
            have f5 := cellAt_row (off := 3) r5n
            (repeat' first | refine zcd ?_ | intro K' hK | (with_reducible refine zn hK ?_; clear hK) | ((with_reducible apply d_nil); (case hp => exact ezP); (case' hx => (refine hK _ _ _ ?_; clear hK))) | ((with_reducible apply d_pure w_none); (case hp => exact rfl); (case hc => exact rfl); (case he => exact ez2 w5 f5)) | ((with_reducible apply d_eff w_none); (case hc => exact rfl); (case he => exact ez2 w5 f5); (case hok => exact ezO)) | ((with_reducible apply d_guard rfl); (case hb => exact ez2 w5 f5); (case' h1 => intro hb; (try simp only [hbs, reduceCtorEq] at hb); try exact ezX); (case' h2 => intro hb; (try simp only [hbs, reduceCtorEq] at hb); try exact ezX)) | ((with_reducible apply d_ap0 (t := 30) apT30 w_none); (case hs => exact ez1 w5); (case hy => exact ez0); (case hsrc => exact src_row (rowOf_same _ _ _ _ _) rfl); (case hc => exact rfl); (case hm => omega); (case h0 => omega); (case' hx => intro rd)) | ((with_reducible first | apply zo1 | apply zo2 | apply o_guard rfl | apply x_cond | apply k_e1 rfl | apply k_e2 rfl | apply k_e0 rfl | apply k_e3 rfl | apply k_e4 rfl); (case he => exact ez2 w5 f5); (try case hok => exact ezO); all_goals try (intro hb; (try simp only [hbs, reduceCtorEq] at hb); try exact ezX)) | ((with_reducible apply o_undef rfl); (case hb => exact ez0)))
            have hq0 : q = 0 := hal.symm
            subst hq0
            refine k_round (ps.length - 1) (by omega) ⟨1, [xv], .slice (some ⟨n' + 1, 0, none⟩) 1 1, rfl, by omega, ez0, by omega, (ezC hk6 hkp), (by (repeat' (first | with_reducible exact (hrP5.keep (by omega) fun b hb => hk6 b (by omega)) | refine RdH.set ?_ (by omega) _ | refine RdH.kill ?_ (fun b o e => by injection e with e; injection e with e; omega) _))), (ezV hk6 r4), ez0, rfl, .inr ⟨by simp, n' + 1, vcell xv.kd xv.i xv.s A1 xv.l.length cc1 xv.c, by omega, by omega, rfl, (by (repeat rw [rowOf_ne _ _ (by omega)]); exact rowOf_same _ _ _ _ _), rfl, fun j hj => ?_⟩, ?_⟩
            · have hj0 : j = 0 := by simp at hj; omega
              subst hj0
              exact (hfx.keep (by omega) (by omega) fun b hb1 hb2 => by (repeat rw [Hp.get_ne _ _ (by omega)]))
            · simpa using hzq.symm
          · (repeat' first | refine zcd ?_ | intro K' hK | (with_reducible refine zn hK ?_; clear hK) | (with_reducible refine x_drawnD (id := 7) [(1, 6), (1, 7)] (by kernel_rfl) fun K' hK => ?_) | ((with_reducible apply d_nil); (case hp => exact ezP); (case' hx => (refine hK _ _ _ ?_; clear hK))) | ((with_reducible apply d_pure w_none); (case hp => exact rfl); (case hc => exact rfl); (case he => exact ez3 f3 cp cp2)) | ((with_reducible apply d_eff w_none); (case hc => exact rfl); (case he => exact ez3 f3 cp cp2); (case hok => exact ezO)) | ((with_reducible apply d_guard rfl); (case hb => exact ez3 f3 cp cp2); (case' h1 => intro hb; (try simp only [hbs, reduceCtorEq] at hb); try exact ezX); (case' h2 => intro hb; (try simp only [hbs, reduceCtorEq] at hb); try exact ezX)) | ((with_reducible apply d_callN (g := 46) w_none); (case hs0 => exact rfl); (case ha => exact ez0); (case hs => ((with_reducible apply q1); (exact hT5))); (case' hk => rintro _ h' n' ⟨A1, cc1, rfl, hfx, hn6, hk6⟩)) | ((with_reducible first | apply zo1 | apply zo2 | apply o_guard rfl | apply x_cond | apply k_e1 rfl | apply k_e2 rfl | apply k_e0 rfl | apply k_e3 rfl | apply k_e4 rfl); (case he => exact ez3 f3 cp cp2); (try case hok => exact ezO); all_goals try (intro hb; (try simp only [hbs, reduceCtorEq] at hb); try exact ezX)) | ((with_reducible apply o_undef rfl); (case hb => exact ez0)))
            have r5n : rowOf h' (n + 1) = some (32, false, [.int .u8 5, .int .i64 0, .string ⟨⟨[]⟩⟩, .slice (some ⟨id, 0, none⟩) acc.length acc.length, .bool false]) := by
              rw [rowOf_keep (hk6 _ (by omega))]
              exact r5
            have w5 := rwOf_row r5n
            have f5 := cellAt_row (off := 3) r5n
            have w4 := rwOf_row (show rowOf h' id = _ from by rw [rowOf_keep (hk6 _ j2)]; exact q4)
            have htw : rows.take (acc.length * 5) = rows := List.take_of_length_le (by omega)
            (repeat' first | refine zcd ?_ | intro K' hK | (with_reducible refine zn hK ?_; clear hK) | ((with_reducible apply d_nil); (case hp => exact ezP); (case' hx => (refine hK _ _ _ ?_; clear hK))) | ((with_reducible apply d_pure w_none); (case hp => exact rfl); (case hc => exact rfl); (case he => exact ez3 w5 f5 w4)) | ((with_reducible apply d_eff w_none); (case hc => exact rfl); (case he => exact ez3 w5 f5 w4); (case hok => exact ezO)) | ((with_reducible apply d_guard rfl); (case hb => exact ez3 w5 f5 w4); (case' h1 => intro hb; (try simp only [hbs, reduceCtorEq] at hb); try exact ezX); (case' h2 => intro hb; (try simp only [hbs, reduceCtorEq] at hb); try exact ezX)) | ((with_reducible apply d_apR (t := 30) apT30 w_none); (case hs => exact ez2 w5 w4); (case hy => exact ez2 w5 w4); (case hsrc => exact src_row (rowOf_same _ _ _ _ _) rfl); (case hr => exact ez2 w5 w4); (case hc => exact rfl); (case hm => omega); (case hli => omega); (case hln => omega); (case hcs => rw [hrl]; omega); (case' hx => intro rd)) | ((with_reducible first | apply zo1 | apply zo2 | apply o_guard rfl | apply x_cond | apply k_e1 rfl | apply k_e2 rfl | apply k_e0 rfl | apply k_e3 rfl | apply k_e4 rfl); (case he => exact ez3 w5 f5 w4); (try case hok => exact ezO); all_goals try (intro hb; (try simp only [hbs, reduceCtorEq] at hb); try exact ezX)) | ((with_reducible apply o_undef rfl); (case hb => exact ez0)))
            have hnew := fun (H : Hp) (e1 : ∀ b, n1 ≤ b → b < id → H.get b = h'.get b) (e2 : ∀ b, n5 ≤ b → b < n' → H.get b = h'.get b) => rows_snoc (h := H) (lo := n1) (hi := n' + 1) (x := xv) hrl (fun j hj => (hkk j hj).keep (Nat.le_refl _) (by omega) fun b hb1 hb2 => by rw [e1 b hb1 hb2]; exact hk6 _ (by omega)) (hfx.keep (by omega) (by omega) e2)
            refine k_round (ps.length - (q + 1)) (by omega) ⟨q + 1, acc ++ [xv], .slice (some ⟨n' + 1, 0, none⟩) (acc.length + 1) (acc.length + 1), rfl, by omega, ez0, by omega, (ezC hk6 hkp), (by (repeat' (first | with_reducible exact (hrP5.keep (by omega) fun b hb => hk6 b (by omega)) | refine RdH.set ?_ (by omega) _ | refine RdH.kill ?_ (fun b o e => by injection e with e; injection e with e; omega) _))), (ezV hk6 r4), ez0, by rw [List.length_append, hal]; rfl, .inr ⟨by simp, n' + 1, rows ++ vcell xv.kd xv.i xv.s A1 xv.l.length cc1 xv.c, by omega, by omega, by rw [List.length_append]; rfl, (ez1 htw), (hnew h' (fun _ _ _ => rfl) fun _ _ _ => rfl).1, (hnew _ ezN fun b hb1 hb2 => by (repeat rw [Hp.get_ne _ _ (by omega)])).2⟩, ?_⟩
            rw [hzq, ← hacc]
        · obtain rfl : q = ps.length := by omega
          obtain rfl : acc = zs := by rw [hacc]; exact List.take_of_length_le (by omega)
          have hf0 := fun H e => ((hO.fhs (h := h5)).keep (h' := H) (Nat.le_refl _) (Nat.le_refl _) e).val 5 0 [] false
          have f05 := cellsAt_row (off := 0) (k := 5) r5
          have w40 : rwOf h5 n = some (32, [.int .u8 0, .int .i64 0, .string ⟨⟨[]⟩⟩, .slice none 0 0, .bool false]) := rwOf_row r4
          have hsl : ∃ A l c, O = .slice A l c := by
            rcases hO with ⟨-, rfl⟩ | ⟨-, id, rows, -, -, rfl, -⟩ <;> exact ⟨_, _, _, rfl⟩
          obtain ⟨OA, ol, oc, rfl⟩ := hsl
          (repeat' first | refine zcd ?_ | intro K' hK | (with_reducible refine zn hK ?_; clear hK) | fail | ((with_reducible first | apply zo1 | apply zo2 | apply o_guard rfl | apply x_cond | apply k_e1 rfl | apply k_e2 rfl | apply k_e0 rfl | apply k_e3 rfl | apply k_e4 rfl); (case he => exact ez2 f05 w40); (try case hok => exact ezO); all_goals try (intro hb; (try simp only [hbs, reduceCtorEq] at hb); try exact ezX)) | ((with_reducible apply o_undef rfl); (case hb => exact ez0)))
          exact sw_fh1 ((hf0 _ fun b a c => Hp.get_ne _ _ (by omega)).more (by omega) (Nat.le_refl _)) (by omega) (ezB hkp) fun cs2 h2 n2 a b c => ⟨cs2, rfl, a, b, c⟩
    · refine enter Try.func46 (by kernel_rfl) rfl (by kernel_rfl) rfl rfl rfl ?_
      (repeat' first | refine zcd ?_ | intro K' hK | (with_reducible refine zn hK ?_; clear hK) | ((with_reducible apply o_callF (g := 79) w_none); (case ha => exact ez0); (case hs => ((with_reducible apply qpp); exact ezT hT)); (case' hk => rintro _ h' n' ⟨i1, i2, rfl, hrP, hrQ, hn2, hk2, hi1, hi2, hi3, hi4⟩)) | ((with_reducible first | apply zo1 | apply zo2 | apply o_guard rfl | apply x_cond | apply k_e1 rfl | apply k_e2 rfl | apply k_e0 rfl | apply k_e3 rfl | apply k_e4 rfl); (case he => exact ez2 hti ht0); (try case hok => exact ezO); all_goals try (intro hb; (try simp only [hbs, reduceCtorEq] at hb); try exact ezX)) | ((with_reducible apply o_undef rfl); (case hb => exact ez0)))
      obtain ⟨n1, rfl⟩ : ∃ y, y = n' := ⟨_, rfl⟩
      have r4 : rowOf h' n = some (32, false, vcell 0 0 [] none 0 0 false) := by
        rw [rowOf_keep (hk2 _ (by omega))]
        simp (disch := first | assumption | omega | rfl | decide) only [go_sem, seval, tys]
        try rfl
      have r5 : rowOf h' (n + 1) = some (32, false, vcell 6 0 [] none 0 0 false) := by
        rw [rowOf_keep (hk2 _ (by omega))]
        simp (disch := first | assumption | omega | rfl | decide) only [go_sem, seval, tys]
        try rfl
      have hkp : ∀ b, b < n → h'.get b = h.get b := fun b hb => by
        rw [hk2 _ (by omega)]
        (repeat rw [Hp.get_ne _ _ (by omega)])
      have hzl : zs.length = ps.length := by rw [← hzs, List.length_map]
      refine x_loopV [8, 35, 36, 37, 38, 39, 40, 41, 42, 43, 44, 45, 46, 47, 48, 49, 50, 51] [8] (fun r vs h5 n5 => ∃ (q : Nat) (acc : List V) (O : Value), r = ps.length - q ∧ q ≤ ps.length ∧ vs = [.int .i64 q] ∧ n1 ≤ n5 ∧ (∀ b, b < n → h5.get b = h.get b) ∧ RdH h5 n1 (some ⟨i1, 0, none⟩) (iv ps) ∧ rowOf h5 n = some (32, false, vcell 0 0 [] none 0 0 false) ∧ rowOf h5 (n + 1) = some (32, false, [.int .u8 6, .int .i64 0, .string ⟨⟨[]⟩⟩, O, .bool false]) ∧ acc.length = q ∧ OwnV acc O h5 n1 n5 ∧ acc = zs.take q) ps.length rfl (by omega) ?_ ?_
      · exact ⟨0, [], .slice none 0 0, rfl, by omega, ez0, Nat.le_refl _, hkp, hrP, r4, r5, rfl, .inl ⟨rfl, rfl⟩, by simp⟩
      · clear hkp r4 r5 hrP
        rintro r g1 _ h5 n5 ⟨q, acc, O, rfl, hq, rfl, hn5, hkp, hrP5, r4, r5, hal, hO, hacc⟩
        have f3 := cellAt_row (off := 3) r5
        by_cases hqp : q < ps.length
        · obtain ⟨pid, poff, hPA, hpid, cp⟩ := int_at hrP5 hqp
          injection hPA with hPA
          injection hPA with hp1 hp2
          subst hp1
          subst hp2
          obtain ⟨y, hy, hyt, hoy⟩ := hnone q hqp
          rw [hy] at cp
          have cp2 := cp
          rw [Nat.zero_add] at cp2
          have hT5 : TabH h5 n5 (some ⟨tid, toff, none⟩) T := (hT.keep (Nat.le_refl _) hkp).more (by omega)
          have hzq : zs.take (q + 1) = zs.take q ++ [zeroV T f y] := by
            rw [List.take_succ_eq_append_getElem (by omega)]
            congr 2
            rw [List.getElem_of_eq hzs.symm, List.getElem_map, hy, Int.toNat_natCast]
          obtain ⟨xv, hxv⟩ : ∃ xv, zeroV T f y = xv := ⟨_, rfl⟩
          rw [hxv] at hzq
          have q1 := fun (cl : Nat) (h6 : Hp) (n6 : Nat) (hT6 : TabH h6 n6 (some ⟨tid, toff, none⟩) T) => (ihf y hoy (by omega) d cl h6 n6 hT6).mono (Φ' := fun v h' n' => ∃ A1 cc1, v = .agg ⟨vcell xv.kd xv.i xv.s A1 xv.l.length cc1 xv.c⟩ ∧ FH h' n6 n' xv (vcell xv.kd xv.i xv.s A1 xv.l.length cc1 xv.c) ∧ n6 ≤ n' ∧ ∀ b, b < n6 → h'.get b = h6.get b) fun v h' n' ⟨cs, e1, hf, a, b⟩ => by
            rw [hxv] at hf
            obtain ⟨A1, cc1, rfl⟩ := hf.cells
            exact ⟨A1, cc1, e1, hf, a, b⟩
          rcases hO with ⟨rfl, rfl⟩ | ⟨hne, id, rows, j1, j2, rfl, q4, hrl, hkk⟩
          · (repeat' first | refine zcd ?_ | intro K' hK | (with_reducible refine zn hK ?_; clear hK) | (with_reducible refine x_drawnD (id := 7) [(1, 6), (1, 7)] (by kernel_rfl) fun K' hK => ?_) | ((with_reducible apply d_nil); (case hp => exact ezP); (case' hx => (refine hK _ _ _ ?_; clear hK))) | ((with_reducible apply d_pure w_none); (case hp => exact rfl); (case hc => exact rfl); (case he => exact ez3 f3 cp cp2)) | ((with_reducible apply d_eff w_none); (case hc => exact rfl); (case he => exact ez3 f3 cp cp2); (case hok => exact ezO)) | ((with_reducible apply d_guard rfl); (case hb => exact ez3 f3 cp cp2); (case' h1 => intro hb; (try simp only [hbs, reduceCtorEq] at hb); try exact ezX); (case' h2 => intro hb; (try simp only [hbs, reduceCtorEq] at hb); try exact ezX)) | ((with_reducible apply d_callN (g := 46) w_none); (case hs0 => exact rfl); (case ha => exact ez0); (case hs => ((with_reducible apply q1); (exact hT5))); (case' hk => rintro _ h' n' ⟨A1, cc1, rfl, hfx, hn6, hk6⟩)) | ((with_reducible first | apply zo1 | apply zo2 | apply o_guard rfl | apply x_cond | apply k_e1 rfl | apply k_e2 rfl | apply k_e0 rfl | apply k_e3 rfl | apply k_e4 rfl); (case he => exact ez3 f3 cp cp2); (try case hok => exact ezO); all_goals try (intro hb; (try simp only [hbs, reduceCtorEq] at hb); try exact ezX)) | ((with_reducible apply o_undef rfl); (case hb => exact ez0)))
            have r5n : rowOf h' (n + 1) = some (32, false, [.int .u8 6, .int .i64 0, .string ⟨⟨[]⟩⟩, .slice none 0 0, .bool false]) := by
              rw [rowOf_keep (hk6 _ (by omega))]
              exact r5
            have w5 := rwOf_row r5n
            have f5 := cellAt_row (off := 3) r5n
            (repeat' first | refine zcd ?_ | intro K' hK | (with_reducible refine zn hK ?_; clear hK) | ((with_reducible apply d_nil); (case hp => exact ezP); (case' hx => (refine hK _ _ _ ?_; clear hK))) | ((with_reducible apply d_pure w_none); (case hp => exact rfl); (case hc => exact rfl); (case he => exact ez2 w5 f5)) | ((with_reducible apply d_eff w_none); (case hc => exact rfl); (case he => exact ez2 w5 f5); (case hok => exact ezO)) | ((with_reducible apply d_guard rfl); (case hb => exact ez2 w5 f5); (case' h1 => intro hb; (try simp only [hbs, reduceCtorEq] at hb); try exact ezX); (case' h2 => intro hb; (try simp only [hbs, reduceCtorEq] at hb); try exact ezX)) | ((with_reducible apply d_ap0 (t := 30) apT30 w_none); (case hs => exact ez1 w5); (case hy => exact ez0); (case hsrc => exact src_row (rowOf_same _ _ _ _ _) rfl); (case hc => exact rfl); (case hm => omega); (case h0 => omega); (case' hx => intro rd)) | ((with_reducible first | apply zo1 | apply zo2 | apply o_guard rfl | apply x_cond | apply k_e1 rfl | apply k_e2 rfl | apply k_e0 rfl | apply k_e3 rfl | apply k_e4 rfl); (case he => exact ez2 w5 f5); (try case hok => exact ezO); all_goals try (intro hb; (try simp only [hbs, reduceCtorEq] at hb); try exact ezX)) | ((with_reducible apply o_undef rfl); (case hb => exact ez0)))
            have hq0 : q = 0 := hal.symm
            subst hq0
            refine k_round (ps.length - 1) (by omega) ⟨1, [xv], .slice (some ⟨n' + 1, 0, none⟩) 1 1, rfl, by omega, ez0, by omega, (ezC hk6 hkp), (by (repeat' (first | with_reducible exact (hrP5.keep (by omega) fun b hb => hk6 b (by omega)) | refine RdH.set ?_ (by omega) _ | refine RdH.kill ?_ (fun b o e => by injection e with e; injection e with e; omega) _))), (ezV hk6 r4), ez0, rfl, .inr ⟨by simp, n' + 1, vcell xv.kd xv.i xv.s A1 xv.l.length cc1 xv.c, by omega, by omega, rfl, (by (repeat rw [rowOf_ne _ _ (by omega)]); exact rowOf_same _ _ _ _ _), rfl, fun j hj => ?_⟩, ?_⟩
            · have hj0 : j = 0 := by simp at hj; omega
              subst hj0
              exact (hfx.keep (by omega) (by omega) fun b hb1 hb2 => by (repeat rw [Hp.get_ne _ _ (by omega)]))
            · simpa using hzq.symm
          · (repeat' first | refine zcd ?_ | intro K' hK | (with_reducible refine zn hK ?_; clear hK) | (with_reducible refine x_drawnD (id := 7) [(1, 6), (1, 7)] (by kernel_rfl) fun K' hK => ?_) | ((with_reducible apply d_nil); (case hp => exact ezP); (case' hx => (refine hK _ _ _ ?_; clear hK))) | ((with_reducible apply d_pure w_none); (case hp => exact rfl); (case hc => exact rfl); (case he => exact ez3 f3 cp cp2)) | ((with_reducible apply d_eff w_none); (case hc => exact rfl); (case he => exact ez3 f3 cp cp2); (case hok => exact ezO)) | ((with_reducible apply d_guard rfl); (case hb => exact ez3 f3 cp cp2); (case' h1 => intro hb; (try simp only [hbs, reduceCtorEq] at hb); try exact ezX); (case' h2 => intro hb; (try simp only [hbs, reduceCtorEq] at hb); try exact ezX)) | ((with_reducible apply d_callN (g := 46) w_none); (case hs0 => exact rfl); (case ha => exact ez0); (case hs => ((with_reducible apply q1); (exact hT5))); (case' hk => rintro _ h' n' ⟨A1, cc1, rfl, hfx, hn6, hk6⟩)) | ((with_reducible first | apply zo1 | apply zo2 | apply o_guard rfl | apply x_cond | apply k_e1 rfl | apply k_e2 rfl | apply k_e0 rfl | apply k_e3 rfl | apply k_e4 rfl); (case he => exact ez3 f3 cp cp2); (try case hok => exact ezO); all_goals try (intro hb; (try simp only [hbs, reduceCtorEq] at hb); try exact ezX)) | ((with_reducible apply o_undef rfl); (case hb => exact ez0)))
            have r5n : rowOf h' (n + 1) = some (32, false, [.int .u8 6, .int .i64 0, .string ⟨⟨[]⟩⟩, .slice (some ⟨id, 0, none⟩) acc.length acc.length, .bool false]) := by
              rw [rowOf_keep (hk6 _ (by omega))]
              exact r5
            have w5 := rwOf_row r5n
            have f5 := cellAt_row (off := 3) r5n
            have w4 := rwOf_row (show rowOf h' id = _ from by rw [rowOf_keep (hk6 _ j2)]; exact q4)
            have htw : rows.take (acc.length * 5) = rows := List.take_of_length_le (by omega)
            (repeat' first | refine zcd ?_ | intro K' hK | (with_reducible refine zn hK ?_; clear hK) | ((with_reducible apply d_nil); (case hp => exact ezP); (case' hx => (refine hK _ _ _ ?_; clear hK))) | ((with_reducible apply d_pure w_none); (case hp => exact rfl); (case hc => exact rfl); (case he => exact ez3 w5 f5 w4)) | ((with_reducible apply d_eff w_none); (case hc => exact rfl); (case he => exact ez3 w5 f5 w4); (case hok => exact ezO)) | ((with_reducible apply d_guard rfl); (case hb => exact ez3 w5 f5 w4); (case' h1 => intro hb; (try simp only [hbs, reduceCtorEq] at hb); try exact ezX); (case' h2 => intro hb; (try simp only [hbs, reduceCtorEq] at hb); try exact ezX)) | ((with_reducible apply d_apR (t := 30) apT30 w_none); (case hs => exact ez2 w5 w4); (case hy => exact ez2 w5 w4); (case hsrc => exact src_row (rowOf_same _ _ _ _ _) rfl); (case hr => exact ez2 w5 w4); (case hc => exact rfl); (case hm => omega); (case hli => omega); (case hln => omega); (case hcs => rw [hrl]; omega); (case' hx => intro rd)) | ((with_reducible first | apply zo1 | apply zo2 | apply o_guard rfl | apply x_cond | apply k_e1 rfl | apply k_e2 rfl | apply k_e0 rfl | apply k_e3 rfl | apply k_e4 rfl); (case he => exact ez3 w5 f5 w4); (try case hok => exact ezO); all_goals try (intro hb; (try simp only [hbs, reduceCtorEq] at hb); try exact ezX)) | ((with_reducible apply o_undef rfl); (case hb => exact ez0)))
            have hnew := fun (H : Hp) (e1 : ∀ b, n1 ≤ b → b < id → H.get b = h'.get b) (e2 : ∀ b, n5 ≤ b → b < n' → H.get b = h'.get b) => rows_snoc (h := H) (lo := n1) (hi := n' + 1) (x := xv) hrl (fun j hj => (hkk j hj).keep (Nat.le_refl _) (by omega) fun b hb1 hb2 => by rw [e1 b hb1 hb2]; exact hk6 _ (by omega)) (hfx.keep (by omega) (by omega) e2)
            refine k_round (ps.length - (q + 1)) (by omega) ⟨q + 1, acc ++ [xv], .slice (some ⟨n' + 1, 0, none⟩) (acc.length + 1) (acc.length + 1), rfl, by omega, ez0, by omega, (ezC hk6 hkp), (by (repeat' (first | with_reducible exact (hrP5.keep (by omega) fun b hb => hk6 b (by omega)) | refine RdH.set ?_ (by omega) _ | refine RdH.kill ?_ (fun b o e => by injection e with e; injection e with e; omega) _))), (ezV hk6 r4), ez0, by rw [List.length_append, hal]; rfl, .inr ⟨by simp, n' + 1, rows ++ vcell xv.kd xv.i xv.s A1 xv.l.length cc1 xv.c, by omega, by omega, by rw [List.length_append]; rfl, (ez1 htw), (hnew h' (fun _ _ _ => rfl) fun _ _ _ => rfl).1, (hnew _ ezN fun b hb1 hb2 => by (repeat rw [Hp.get_ne _ _ (by omega)])).2⟩, ?_⟩
            rw [hzq, ← hacc]
        · obtain rfl : q = ps.length := by omega
          obtain rfl : acc = zs := by rw [hacc]; exact List.take_of_length_le (by omega)
          have hf0 := fun H e => ((hO.fhs (h := h5)).keep (h' := H) (Nat.le_refl _) (Nat.le_refl _) e).val 6 0 [] false
          have f05 := cellsAt_row (off := 0) (k := 5) r5
          have w40 : rwOf h5 n = some (32, [.int .u8 0, .int .i64 0, .string ⟨⟨[]⟩⟩, .slice none 0 0, .bool false]) := rwOf_row r4
          have hsl : ∃ A l c, O = .slice A l c := by
            rcases hO with ⟨-, rfl⟩ | ⟨-, id, rows, -, -, rfl, -⟩ <;> exact ⟨_, _, _, rfl⟩
          obtain ⟨OA, ol, oc, rfl⟩ := hsl
          (repeat' first | refine zcd ?_ | intro K' hK | (with_reducible refine zn hK ?_; clear hK) | fail | ((with_reducible first | apply zo1 | apply zo2 | apply o_guard rfl | apply x_cond | apply k_e1 rfl | apply k_e2 rfl | apply k_e0 rfl | apply k_e3 rfl | apply k_e4 rfl); (case he => exact ez2 f05 w40); (try case hok => exact ezO); all_goals try (intro hb; (try simp only [hbs, reduceCtorEq] at hb); try exact ezX)) | ((with_reducible apply o_undef rfl); (case hb => exact ez0)))
          exact sw_fh1 ((hf0 _ fun b a c => Hp.get_ne _ _ (by omega)).more (by omega) (Nat.le_refl _)) (by omega) (ezB hkp) fun cs2 h2 n2 a b c => ⟨cs2, rfl, a, b, c⟩
theorem rzero0_ev (hk : 30000 ≤ k) (TA : Option Addr) (T : List Tp) (tc : Nat) (hT : TabH h n TA T) (hS : ∀ t ∈ T, t.fs.length ≤ 20000) (hm : T.length ≤ 9223372036854775807) (t : Int) :
    SQ k (d + 1100) cl 14 [.slice TA T.length tc, .int .i64 t] h n (LdV (ZeroR T t) h n) := by
  have qc0 := fun (h6 : Hp) (n6 : Nat) (hT6 : TabH h6 n6 TA T) => rasked15_ev k (d + 1087) n h6 n6 hk TA T tc hT6 hS hm t
  unfold ZeroR
  by_cases hE : okE T t = 0
  · obtain ⟨x, rfl, ho⟩ := okE_0 hE
    rw [if_neg (not_not_intro hE)]
    simp only [hE] at qc0
    rw [Int.toNat_natCast]
    obtain ⟨xv, hxv⟩ : ∃ xv, zeroV T 1000 x = xv := ⟨_, rfl⟩
    have qz := fun (h6 : Hp) (n6 : Nat) (hT6 : TabH h6 n6 TA T) => (rnothing_ev k hk TA T tc (by have := ho.chk.1; omega) 1000 x ho (by have := ho.lt; have := ho.chk.1; omega) (d + 92) n h6 n6 hT6).mono (Φ' := fun v h' n' => ∃ A1 cc1, v = .agg ⟨vcell xv.kd xv.i xv.s A1 xv.l.length cc1 xv.c⟩ ∧ FH h' n6 n' xv (vcell xv.kd xv.i xv.s A1 xv.l.length cc1 xv.c) ∧ n6 ≤ n' ∧ ∀ b, b < n6 → h'.get b = h6.get b) fun v h' n' ⟨cs, e1, hf, a, b⟩ => by
      rw [hxv] at hf
      obtain ⟨A1, cc1, rfl⟩ := hf.cells
      exact ⟨A1, cc1, e1, hf, a, b⟩
    rw [hxv]
    refine enter Try.func14 (by kernel_rfl) rfl (by kernel_rfl) rfl rfl rfl ?_
    (repeat' first | refine zcd ?_ | intro K' hK | (with_reducible refine zn hK ?_; clear hK) | ((with_reducible apply o_callF (g := 36) w_none); (case ha => exact ez0); (case hs => ((with_reducible apply qc0); exact ezT hT)); (case' hk => rintro _ h' n' ⟨rfl, rfl, rfl⟩)) | ((with_reducible apply o_callF (g := 46) w_none); (case ha => exact ez0); (case hs => ((with_reducible apply qz); exact ezT hT)); (case' hk => rintro _ h' n' ⟨A1, cc1, rfl, hfx, hn6, hk6⟩)) | ((with_reducible first | apply zo1 | apply zo2 | apply o_guard rfl | apply x_cond | apply k_e1 rfl | apply k_e2 rfl | apply k_e0 rfl | apply k_e3 rfl | apply k_e4 rfl); (case he => exact ez0); (try case hok => exact ezO); all_goals try (intro hb; (try simp only [hbs, reduceCtorEq] at hb); try exact ezX)) | ((with_reducible apply o_undef rfl); (case hb => exact ez0)))
    have r8 : rowOf h' n = some (32, false, vcell 0 0 [] none 0 0 false) := by
      rw [rowOf_keep (hk6 _ (by omega))]
      simp (disch := first | assumption | omega | rfl | decide) only [go_sem, seval, tys]
      try rfl
    have w8 : rwOf h' n = some (32, [.int .u8 0, .int .i64 0, .string ⟨⟨[]⟩⟩, .slice none 0 0, .bool false]) := rwOf_row r8
    (repeat' first | refine zcd ?_ | intro K' hK | (with_reducible refine zn hK ?_; clear hK) | fail | ((with_reducible first | apply zo1 | apply zo2 | apply o_guard rfl | apply x_cond | apply k_e1 rfl | apply k_e2 rfl | apply k_e0 rfl | apply k_e3 rfl | apply k_e4 rfl); (case he => exact ez1 w8); (try case hok => exact ezO); all_goals try (intro hb; (try simp only [hbs, reduceCtorEq] at hb); try exact ezX)) | ((with_reducible apply o_undef rfl); (case hb => exact ez0)))
    exact sw_fh (hfx.keep (by omega) (Nat.le_refl _) fun b hb1 hb2 => by (repeat rw [Hp.get_ne _ _ (by omega)])) (by omega) (fun b hb => by (repeat rw [Hp.get_ne _ _ (by omega)]); rw [hk6 _ (by omega)]; (repeat rw [Hp.get_ne _ _ (by omega)])) fun cs2 h2 n2 a b c => ⟨cs2, rfl, a, b, c⟩
  · rw [if_pos hE]
    obtain ⟨E, hEe⟩ : ∃ E, okE T t = E := ⟨_, rfl⟩
    simp only [hEe] at qc0 hE ⊢
    refine enter Try.func14 (by kernel_rfl) rfl (by kernel_rfl) rfl rfl rfl ?_
    (repeat' first | refine zcd ?_ | intro K' hK | (with_reducible refine zn hK ?_; clear hK) | ((with_reducible apply o_callF (g := 36) w_none); (case ha => exact ez0); (case hs => ((with_reducible apply qc0); exact ezT hT)); (case' hk => rintro _ h' n' ⟨rfl, rfl, rfl⟩)) | ((with_reducible first | apply zo1 | apply zo2 | apply o_guard rfl | apply x_cond | apply k_e1 rfl | apply k_e2 rfl | apply k_e0 rfl | apply k_e3 rfl | apply k_e4 rfl); (case he => exact ez0); (try case hok => exact ezO); all_goals try (intro hb; (try simp only [hbs, reduceCtorEq] at hb); try exact ezX)) | ((with_reducible apply o_undef rfl); (case hb => exact ez0)))
    all_goals exact sw_flat rfl rfl ⟨rfl, hE, rfl, rfl⟩
end Go.Proofs.Ytcpkdjikembpnaa.Ce
namespace Go.Proofs.Ytcpkdjikembpnaa.Ce
open Go.RowKit
theorem listP_mem {g : List UInt8 → Nat → Except Int V} {bs : List UInt8} : ∀ {l : List (Int × Int)} {vs : List V}, listP g bs l = .ok vs → ∀ w ∈ vs, ∃ p ∈ l, g (bs.drop p.2.toNat) p.1.toNat = .ok w
  | [], vs, h, w, hw => by unfold listP at h; injection h with h; subst h; cases hw
  | p :: l, vs, h, w, hw => by
    unfold listP at h
    cases hg : g (bs.drop p.2.toNat) p.1.toNat with
    | error e => rw [hg] at h; cases h
    | ok v =>
      rw [hg] at h
      dsimp only at h
      cases hl : listP g bs l with
      | error e => rw [hl] at h; cases h
      | ok l2 =>
        rw [hl] at h
        injection h with h
        subst h
        rcases List.mem_cons.1 hw with rfl | hw
        · exact ⟨p, List.mem_cons_self, hg⟩
        · obtain ⟨p2, h1, h2⟩ := listP_mem hl w hw
          exact ⟨p2, List.mem_cons_of_mem _ h1, h2⟩
theorem Bd.leaf (f : Nat) (kd i : Int) (s : List UInt8) (c : Bool) : Bd (f + 1) (.mk kd i s [] c) := ⟨by show 0 ≤ 20000; omega, fun w hw => by cases hw⟩
theorem asV_bd {kd : Int} {r : Except Int (List V)} {v : V} {f : Nat} (h : asV kd r = .ok v) (hr : ∀ l, r = .ok l → l.length ≤ 20000 ∧ ∀ w ∈ l, Bd f w) : Bd (f + 1) v := by
  cases r with
  | error e => cases h
  | ok l =>
    injection h with h
    subst h
    exact hr l rfl
theorem folP_bd {g : Nat → List UInt8 → Nat → Except Int V} {T : List Tp} {L : List Rg} {x : Tp} {a : Int} {n most dp : Nat} {v : V} {f : Nat} (hn : n ≤ 20000) (h : folP g T L x a n most dp = .ok v) (hg : ∀ dp bs w, g dp bs x.el.toNat = .ok w → Bd f w) : Bd (f + 1) v := by
  unfold folP at h
  split at h
  · cases h
  · split at h
    · injection h with h; subst h; exact Bd.leaf f x.kd 0 [] false
    · split at h
      · injection h with h; subst h; exact Bd.leaf f x.kd 0 [] true
      · refine asV_bd h fun l hl => ⟨?_, fun w hw => ?_⟩
        · have := listP_len _ _ _ _ hl
          rw [List.length_map, List.length_range] at this
          omega
        · obtain ⟨p, hp, e⟩ := listP_mem hl w hw
          obtain ⟨i, -, rfl⟩ := List.mem_map.1 hp
          exact hg _ _ _ e
theorem loadP_bd {T : List Tp} {L : List Rg} : ∀ (f t dp : Nat) (bs : List UInt8) (v : V), OkV T t → loadP T L f dp bs t = .ok v → Bd f v
  | 0, t, dp, bs, v, ho, h => by unfold loadP at h; cases h
  | f + 1, t, dp, bs, v, ho, h => by
    have htl := ho.lt
    rw [loadP_at (List.getElem?_eq_getElem htl)] at h
    have hpl := prt_len ho
    have hpi := fun q (a : q < (prtT T[t]).length) (b : q < (offsT T T[t]).length) => prt_in ho a b
    have hpt := fun e => ho.ptr e
    obtain ⟨x, hx⟩ : ∃ x, T[t] = x := ⟨_, rfl⟩
    simp only [hx] at hpl hpi hpt h
    have w2b := wordV_bnd bs 16
    have w1b := wordV_bnd bs 8
    by_cases k1 : x.kd = 1
    · rw [if_pos k1] at h
      split at h
      · cases h
      · injection h with h; subst h; exact Bd.leaf f _ _ _ _
    rw [if_neg k1] at h
    by_cases k2 : x.kd = 2
    · rw [if_pos k2] at h
      injection h with h; subst h; exact Bd.leaf f _ _ _ _
    rw [if_neg k2] at h
    by_cases k3 : x.kd = 3
    · rw [if_pos k3] at h
      split at h
      · injection h with h; subst h; exact Bd.leaf f _ _ _ _
      · cases h
    rw [if_neg k3] at h
    by_cases k4 : x.kd = 4
    · rw [if_pos k4] at h
      obtain ⟨y, hy, hoy⟩ := hpt (.inl k4)
      split at h
      · injection h with h; subst h; exact Bd.leaf f _ _ _ _
      · exact folP_bd (by omega) h fun dp bs w e => loadP_bd f y dp bs w hoy (by rw [hy, Int.toNat_natCast] at e; exact e)
    rw [if_neg k4] at h
    by_cases k7 : x.kd = 7
    · rw [if_pos k7] at h
      obtain ⟨y, hy, hoy⟩ := hpt (.inr k7)
      split at h
      · cases h
      · split at h
        · injection h with h; subst h; exact Bd.leaf f _ _ _ _
        · exact folP_bd (by omega) h fun dp bs w e => loadP_bd f y dp bs w hoy (by rw [hy, Int.toNat_natCast] at e; exact e)
    rw [if_neg k7] at h
    refine asV_bd h fun l hl => ⟨?_, fun w hw => ?_⟩
    · have := listP_len _ _ _ _ hl
      rw [List.length_zip] at this
      omega
    · obtain ⟨p, hp, e⟩ := listP_mem hl w hw
      obtain ⟨q, hq, rfl⟩ := List.getElem_of_mem hp
      rw [List.length_zip] at hq
      obtain ⟨y, hy, -, hoy, -⟩ := hpi q (by omega) (by omega)
      rw [List.getElem_zip] at e
      dsimp only at e
      rw [hy, Int.toNat_natCast] at e
      exact loadP_bd f y dp _ w hoy e
theorem zeroV_bd {T : List Tp} : ∀ (f t : Nat), OkV T t → Bd (f + 1) (zeroV T f t)
  | 0, t, ho => by rw [zeroV]; exact Bd.leaf 0 _ _ _ _
  | f + 1, t, ho => by
    have htl := ho.lt
    have hpl := prt_len ho
    have hpi := fun q (a : q < (prtT T[t]).length) (b : q < (offsT T T[t]).length) => prt_in ho a b
    rw [zeroV, List.getElem?_eq_getElem htl]
    obtain ⟨x, hx⟩ : ∃ x, T[t] = x := ⟨_, rfl⟩
    simp only [hx] at hpl hpi ⊢
    refine ⟨by show (List.map _ _).length ≤ _; rw [List.length_map]; omega, fun w hw => ?_⟩
    obtain ⟨p, hp, rfl⟩ := List.mem_map.1 (show w ∈ (prtT x).map fun p => zeroV T f p.toNat from hw)
    obtain ⟨q, hq, rfl⟩ := List.getElem_of_mem hp
    obtain ⟨y, hy, -, hoy, -⟩ := hpi q hq (by omega)
    rw [hy, Int.toNat_natCast]
    exact zeroV_bd f y hoy
def rvV : Except Int V → V
  | .error _ => .mk 0 0 [] [] false
  | .ok x => x
def rvE : Except Int V → Int
  | .error e => e
  | .ok _ => 0
theorem LoadR_bd {T : List Tp} {L : List Rg} {a t dp : Int} : Bd 1001 (rvV (LoadR T L a t dp)) := by
  unfold LoadR
  split
  · exact Bd.leaf 1000 _ _ _ _
  · rename_i hE
    obtain ⟨x, rfl, ho⟩ := okE_0 (Classical.not_not.1 hE)
    split
    · exact Bd.leaf 1000 _ _ _ _
    · split
      · exact Bd.leaf 1000 _ _ _ _
      · split
        · exact Bd.leaf 1000 _ _ _ _
        · split
          · exact Bd.leaf 1000 _ _ _ _
          · split
            · exact Bd.leaf 1000 _ _ _ _
            · rename_i g _
              rw [Int.toNat_natCast]
              cases h : loadP T L 1000 dp.toNat ((g.xs.drop (a - g.b).toNat).take (sizT T x).toNat) x with
              | error e => exact Bd.leaf 1000 _ _ _ _
              | ok v => exact (loadP_bd _ _ _ _ _ ho h).up (by omega)
theorem ZeroR_bd {T : List Tp} {t : Int} : Bd 1001 (rvV (ZeroR T t)) := by
  unfold ZeroR
  split
  · exact Bd.leaf 1000 _ _ _ _
  · rename_i hE
    obtain ⟨x, rfl, ho⟩ := okE_0 (Classical.not_not.1 hE)
    rw [Int.toNat_natCast]
    exact zeroV_bd 1000 x ho
def LdU (x : V) (e : Int) (h : Hp) (n : Nat) (v : Value) (h' : Hp) (n' : Nat) : Prop := ∃ A1 cc1, v = .tuple ⟨[.agg ⟨vcell x.kd x.i x.s A1 x.l.length cc1 x.c⟩, .int .i64 e]⟩ ∧ VH h' n' x (vcell x.kd x.i x.s A1 x.l.length cc1 x.c) ∧ n ≤ n' ∧ ∀ b, b < n → h'.get b = h.get b
theorem LdV.uni {r : Except Int V} {h h' : Hp} {n n' : Nat} {v : Value} (hh : LdV r h n v h' n') : LdU (rvV r) (rvE r) h n v h' n' := by
  cases r with
  | error e =>
    obtain ⟨e1, -, e2, e3⟩ := hh
    subst e2
    subst e3
    exact ⟨none, 0, e1, .leaf 0 0 [] false none 0 fun _ => rfl, Nat.le_refl _, fun _ _ => rfl⟩
  | ok x =>
    obtain ⟨cs, e1, hf, a, b⟩ := hh
    obtain ⟨A1, cc1, rfl⟩ := hf.cells
    exact ⟨A1, cc1, e1, hf.vh, a, b⟩
end Go.Proofs.Ytcpkdjikembpnaa.Ce
