/- Parts of the proof of TopCode: Nh, Zc, Jt, Js, Je. No condition of its own. -/
import Derived.Test.YtkngdfbibffdcaaTam
import Derived.Test.YtkngdfbibffdcaaTan
import Derived.Test.YtkngdfbibffdcaaTat
import Derived.Test.YtkngdfbibffdcaaTau
import Derived.Test.YtkngdfbibffdcaaTaw
set_option linter.unusedVariables false
set_option linter.unusedSimpArgs false
set_option maxRecDepth 100000
set_option maxHeartbeats 4000000
namespace Go.Proofs.Ytkngdfbibffdcaa.Ce
open Go.RowKit
def szT (C : Int) (T : List Tp) (t : Int) : Int := ((eRow C T).at_ t).1
def padT (T : List Tp) (j : Nat) : List Int := gaps (szT 1048576 T) 0 (cellsT T j ++ [(szT 1048576 T j, -1)])
theorem cellsT_bnd {T : List Tp} (hC : ChkT T) {j : Nat} (h1 : j < T.length) (hb : ((eRow 1048576 T).at_ (j : Int)).1 ≤ 256) : AscB (szT 1048576 T) 0 (szT 1048576 T j) (cellsT T j) ∧ (∀ p ∈ cellsT T j, 0 ≤ p.2 ∧ p.2 < T.length) ∧ (cellsT T j).length ≤ 256 := by
  have hl := hC.1
  have hce : cellsT T j = cellsR 1048576 T 32 j 0 := (cells_eq hC.2.1 32 j 0 (by omega) (by omega) hb).symm
  have := cells_asc (C := 1048576) (by decide) (by decide) hC.2.1 32 j 0 (by omega) (by omega) hb
  have h3 := cells_len (C := 1048576) (by decide) (by decide) hC.2.1 32 j 0 (by omega) (by omega) hb
  rw [hce]
  refine ⟨by rw [Int.zero_add] at this; exact this, fun p hp => ?_, by omega⟩
  obtain ⟨t, ht, e, -⟩ := cells_leaf (C := 1048576) hC.2.1 32 j 0 (by omega) (by omega) p hp
  omega
variable (k d cl : Nat) (h : Hp) (n : Nat)
theorem lpad_err (hk : 30000 ≤ k) (A : Option Addr) (T : List Tp) (c : Nat) (hT : TabH h n A T) (hS : ∀ t ∈ T, t.fs.length ≤ 20000) (hm : T.length ≤ 9223372036854775807) (i : Int) (he : (szR 1048576 T i).2.2 ≠ 0) :
    SQ k (d + 40) cl 25 [.slice A T.length c, .int .i64 i] h n fun v h' n' => v = .tuple ⟨[.slice none 0 0, .int .i64 (szR 1048576 T i).2.2]⟩ ∧ h' = h ∧ n' = n := by
  obtain ⟨e, hee⟩ : ∃ e, (szR 1048576 T i).2.2 = e := ⟨_, rfl⟩
  have hA := lasked_err k (d + 32) n h n hk A T c hT hS hm i he
  rw [hee] at he hA ⊢
  refine enter Try.func25 (by kernel_rfl) rfl (by kernel_rfl) rfl rfl rfl ?_
  (repeat' first | refine zcd ?_ | intro K' hK | (with_reducible refine zn hK ?_; clear hK) | ((with_reducible apply o_callF (g := 46) w_none); (case ha => exact ez0); (case hs => (exact hA)); (case' hk => rintro _ h' n' ⟨rfl, rfl, rfl⟩)) | ((with_reducible first | apply zo1 | apply zo2 | apply o_guard rfl | apply x_cond | apply k_e1 rfl | apply k_e2 rfl | apply k_e0 rfl | apply k_e3 rfl | apply k_e4 rfl); (case he => exact ez0); (try case hok => exact ezO); all_goals try (intro hb; (try simp only [hbs, reduceCtorEq] at hb); try exact ezX)) | ((with_reducible apply o_undef rfl); (case hb => exact ez0)))
  all_goals exact sw_flat rfl rfl ⟨rfl, rfl, rfl⟩
theorem lpad_ok (hk : 30000 ≤ k) (A : Option Addr) (T : List Tp) (c : Nat) (hT : TabH h n A T) (hS : ∀ t ∈ T, t.fs.length ≤ 20000) (hm : T.length ≤ 9223372036854775807) (j : Nat) (he : (szR 1048576 T j).2.2 = 0) :
    SQ k (d + 40) cl 25 [.slice A T.length c, .int .i64 j] h n fun v h' n' => ∃ V, v = .tuple ⟨[V, .int .i64 0]⟩ ∧ IntsV (padT T j) h n V h' n' := by
  obtain ⟨hC, h0, h1, hsz5, -⟩ := szR_0 he
  have hl := hC.1
  have hA := lasked_ok k (d + 32) n h n hk A T c hT hS hm j hC ⟨h0, h1⟩ (by omega)
  have hP := lparts_ev k d (n + 1) h n hk A T c hT hC j (by omega) hsz5 (Nat.le_refl _)
  have hge := (ev_get (E := eRow 1048576 T) (i := j) (by rw [eRow_length]; omega)).1
  rw [lget_eq] at hge
  obtain ⟨hasc, hty, hlen⟩ := cellsT_bnd hC (by omega) hsz5
  obtain ⟨ps, hps⟩ : ∃ ps, cellsT T j = ps := ⟨_, rfl⟩
  unfold padT
  rw [hps] at hP hasc hty hlen ⊢
  have hP2 := Sp.mono hP (Φ' := fun v h' n' => ∃ id, n + 1 ≤ id ∧ id < n' ∧ v = .slice (some ⟨id, 0, none⟩) ps.length ps.length ∧ rowOf h' id = some (77, false, pv ps) ∧ rwOf h' id = some (77, pv ps) ∧ RdH h' n' (some ⟨n, 0, none⟩) (ev (eRow 1048576 T)) ∧ cellAt h' n (j * 2) = some (.int .i64 ((eRow 1048576 T).at_ (j : Int)).1)) fun v h' n' hh => by
    obtain ⟨id, k1, k2, e, q4, hE2⟩ := hh
    exact ⟨id, k1, k2, e, q4, rwOf_row q4, hE2, hE2.cellk hge⟩
  refine enter Try.func25 (by kernel_rfl) rfl (by kernel_rfl) rfl rfl rfl ?_
  (repeat' first | refine zcd ?_ | intro K' hK | (with_reducible refine zn hK ?_; clear hK) | ((with_reducible apply o_callF (g := 46) w_none); (case ha => exact ez0); (case hs => (exact hA)); (case' hk => rintro _ h' n' ⟨rfl, rfl, rfl⟩)) | (with_reducible refine x_drawnD (id := 6) [(3, 8)] (by kernel_rfl) fun K' hK => ?_) | ((with_reducible apply d_nil); (case hp => exact ezP); (case' hx => (refine hK _ _ _ ?_; clear hK))) | ((with_reducible apply d_pure w_none); (case hp => exact rfl); (case hc => exact rfl); (case he => exact ez0)) | ((with_reducible apply d_eff w_none); (case hc => exact rfl); (case he => exact ez0); (case hok => exact ezO)) | ((with_reducible apply d_guard rfl); (case hb => exact ez0); (case' h1 => intro hb; (try simp only [hbs, reduceCtorEq] at hb); try exact ezX); (case' h2 => intro hb; (try simp only [hbs, reduceCtorEq] at hb); try exact ezX)) | ((with_reducible apply d_callN (g := 47) w_none); (case hs0 => exact rfl); (case ha => exact ez0); (case hs => (exact hP2)); (case' hk => rintro _ h' n' ⟨id, k1, k2, rfl, q4, w4, hE2, ce⟩)) | ((with_reducible apply d_apR (t := 69) apT69 w_none); (case hs => exact ez1 w4); (case hy => exact ez1 w4); (case hsrc => exact src_row (rowOf_same _ _ _ _ _) rfl); (case hr => exact ez1 w4); (case hc => exact rfl); (case hm => omega); (case hli => omega); (case hln => omega); (case hcs => rw [pv_length]; omega); (case' hx => intro rd)) | ((with_reducible apply d_nil); (case hp => exact ezP); (case' hx => (refine hK _ _ _ ?_; clear hK))) | ((with_reducible apply d_pure w_none); (case hp => exact rfl); (case hc => exact rfl); (case he => exact ez1 ce)) | ((with_reducible apply d_eff w_none); (case hc => exact rfl); (case he => exact ez1 ce); (case hok => exact ezO)) | ((with_reducible apply d_guard rfl); (case hb => exact ez1 ce); (case' h1 => intro hb; (try simp only [hbs, reduceCtorEq] at hb); try exact ezX); (case' h2 => intro hb; (try simp only [hbs, reduceCtorEq] at hb); try exact ezX)) | ((with_reducible first | apply zo1 | apply zo2 | apply o_guard rfl | apply x_cond | apply k_e1 rfl | apply k_e2 rfl | apply k_e0 rfl | apply k_e3 rfl | apply k_e4 rfl); (case he => exact ez0); (try case hok => exact ezO); all_goals try (intro hb; (try simp only [hbs, reduceCtorEq] at hb); try exact ezX)) | ((with_reducible apply o_undef rfl); (case hb => exact ez0)))
  have htk : (pv ps).take (ps.length * 2) = pv ps := List.take_of_length_le (by rw [pv_length]; omega)
  obtain ⟨all, hall⟩ : ∃ all, ps ++ [(szT 1048576 T j, -1)] = all := ⟨_, rfl⟩
  have hrw : pv ps ++ [Value.int .i64 ((eRow 1048576 T).at_ (j : Int)).1, Value.int .i64 (-1)] = pv all := by rw [← hall, pv_app]; rfl
  have hL : all.length = ps.length + 1 := by rw [← hall, List.length_append]; rfl
  have hmem : ∀ p ∈ all, 0 ≤ p.1 ∧ p.1 ≤ 256 ∧ (p.2 = -1 ∨ (0 ≤ p.2 ∧ p.2 < T.length ∧ 0 ≤ szT 1048576 T p.2 ∧ szT 1048576 T p.2 ≤ 256)) := fun p hp => by
    have hsz : szT 1048576 T j ≤ 256 := hsz5
    have hle := hasc.le
    rw [← hall] at hp
    rcases List.mem_append.1 hp with hp | hp
    · have h1 := hasc.mem p hp
      have h2 := hty p hp
      exact ⟨h1.1, by omega, .inr ⟨h2.1, h2.2, by omega, by omega⟩⟩
    · obtain rfl := List.mem_singleton.1 hp
      exact ⟨hle, hsz, .inl rfl⟩
  obtain ⟨S, hS⟩ : ∃ S, szT 1048576 T = S := ⟨_, rfl⟩
  rw [htk, hrw, hall, ← hL]
  rw [hS] at hmem ⊢
  obtain ⟨N, hN⟩ : ∃ N, n' + 1 + 1 = N := ⟨_, rfl⟩
  rw [hN]
  obtain ⟨R, hR⟩ : ∃ R, n' + 1 = R := ⟨_, rfl⟩
  rw [hR]
  refine x_loopV [8, 9, 11, 34, 35, 36, 37, 38, 39, 40, 41, 42, 43, 44, 45, 46, 47, 48, 49, 50, 51, 52, 53, 54, 55, 56, 57, 58, 59] [8, 9, 34] (fun m vs h2 n2 => ∃ (q : Nat) (O : Value) (a : Int) (acc : List Int), m = all.length - q ∧ q ≤ all.length ∧ vs = [O, .int .i64 a, .int .i64 q] ∧ N ≤ n2 ∧ 0 ≤ a ∧ a ≤ 600 * q ∧ RdH h2 n2 (some ⟨n, 0, none⟩) (ev (eRow 1048576 T)) ∧ rowOf h2 R = some (77, false, pv all) ∧ OwnI acc O h2 N n2 ∧ acc ++ gaps S a (all.drop q) = gaps S 0 all ∧ acc.length ≤ 600 * q) all.length rfl (by omega) ?_ ?_
  · refine ⟨0, .slice none 0 0, 0, [], rfl, by omega, ez0, by omega, by omega, by omega, ?_, rowOf_same _ _ _ _ _, .inl ⟨rfl, rfl⟩, rfl, by simp⟩
    exact (((hE2.ne (by omega) _).ne (by omega) _).ne (by omega) _).more (by omega)
  · rintro m fr _ h2 n2 ⟨q, O, a, acc, rfl, hq, rfl, hn2, ha0, ha1, hE3, qR, hO, hgap, hal⟩
    by_cases hql : q < all.length
    · obtain ⟨p, hp⟩ : ∃ p, all[q] = p := ⟨_, rfl⟩
      have hpm := hmem p (by rw [← hp]; exact List.getElem_mem _)
      have hdr : all.drop q = p :: all.drop (q + 1) := by rw [List.drop_eq_getElem_cons hql, hp]
      have c0 : cellsAt h2 R (q * 2) 2 = some [.int .i64 p.1, .int .i64 p.2] := by
        obtain ⟨i1, o1, hA1, -, e1, -, -⟩ := prt_at (RdH.ofRow (B := R + 1) qR (by omega)) hql
        injection hA1 with hA1
        injection hA1 with e2 e3
        subst e2; subst e3
        rw [hp, Nat.zero_add] at e1
        exact e1
      (repeat' first | refine zcd ?_ | intro K' hK | (with_reducible refine zn hK ?_; clear hK) | fail | ((with_reducible first | apply zo1 | apply zo2 | apply o_guard rfl | apply x_cond | apply k_e1 rfl | apply k_e2 rfl | apply k_e0 rfl | apply k_e3 rfl | apply k_e4 rfl); (case he => exact ez1 c0); (try case hok => exact ezO); all_goals try (intro hb; (try simp only [hbs, reduceCtorEq] at hb); try exact ezX)) | ((with_reducible apply o_undef rfl); (case hb => exact ez0)))
      refine x_loopV [8, 9, 38, 39, 40, 41, 42, 43, 44, 45, 46, 47] [8, 9] (fun m vs h4 n4 => ∃ (O4 : Value) (b : Int), m = (p.1 - b).toNat ∧ vs = [O4, .int .i64 b] ∧ n2 + 1 ≤ n4 ∧ a ≤ b ∧ (b ≤ p.1 ∨ b = a) ∧ RdH h4 n4 (some ⟨n, 0, none⟩) (ev (eRow 1048576 T)) ∧ rowOf h4 R = some (77, false, pv all) ∧ rowOf h4 n2 = some (77, false, [.int .i64 p.1, .int .i64 p.2]) ∧ Blk O4 n2 ∧ OwnI (acc ++ upto a b) O4 h4 N n4) (p.1 - a).toNat rfl (by omega) ?_ ?_
      · refine ⟨O, a, rfl, ez0, by omega, by omega, .inr rfl, (hE3.ne (by omega) _).more (by omega), by rw [rowOf_ne _ _ (by omega)]; exact qR, rowOf_same _ _ _ _ _, ?_, ?_⟩
        · rcases hO with ⟨-, rfl⟩ | ⟨-, id5, j1, j2, rfl, -⟩
          · intro len c hh; cases hh
          · intro len c hh
            injection hh with hh
            injection hh with hh
            injection hh with hh
            omega
        · rw [upto_nil (Int.le_refl a), List.append_nil]
          rcases hO with ⟨hp0, rfl⟩ | ⟨hp0, id5, j1, j2, rfl, j3⟩
          · exact .inl ⟨hp0, rfl⟩
          · exact .inr ⟨hp0, id5, j1, by omega, rfl, by rw [rowOf_ne _ _ (by omega)]; exact j3⟩
      · rintro m fr _ h4 n4 ⟨O4, b, rfl, rfl, hn4, hab, hbp, hE4, qR4, qt, hbl, hO4⟩
        have c1 := fun o => cellAt_row (off := o) qt
        have hll : ((upto a b).length : Int) ≤ 300 ∨ True := .inr trivial
        have hul : (upto a b).length = (b - a).toNat := upto_length a b
        by_cases hbl2 : b < p.1
        · rcases hO4 with ⟨hp0, rfl⟩ | ⟨hp0, id5, j1, j2, rfl, j3⟩
          · (repeat' first | refine zcd ?_ | intro K' hK | (with_reducible refine zn hK ?_; clear hK) | ((with_reducible apply o_ap0 (t := 36) apT36 w_none); (case hs => exact ez0); (case hy => exact ez0); (case hsrc => exact src_row (rowOf_same _ _ _ _ _) rfl); (case hc => exact rfl); (case hm => omega); (case h0 => omega)) | ((with_reducible first | apply zo1 | apply zo2 | apply o_guard rfl | apply x_cond | apply k_e1 rfl | apply k_e2 rfl | apply k_e0 rfl | apply k_e3 rfl | apply k_e4 rfl); (case he => exact ez1 c1); (try case hok => exact ezO); all_goals try (intro hb; (try simp only [hbs, reduceCtorEq] at hb); try exact ezX)) | ((with_reducible apply o_undef rfl); (case hb => exact ez0)))
            refine k_round (p.1 - (b + 1)).toNat (by omega) ⟨.slice (some ⟨n4 + 1, 0, none⟩) 1 1, b + 1, rfl, ez0, by omega, by omega, by omega, ((hE4.ne (by omega) _).ne (by omega) _).more (by omega), by rw [rowOf_ne _ _ (by omega), rowOf_ne _ _ (by omega)]; exact qR4, by rw [rowOf_ne _ _ (by omega), rowOf_ne _ _ (by omega)]; exact qt, blk_new (by omega), .inr ⟨?_, n4 + 1, by omega, by omega, ?_, ?_⟩⟩
            · rw [upto_succ hab, ← List.append_assoc, hp0]; simp
            · rw [upto_succ hab, ← List.append_assoc, hp0]; rfl
            · rw [upto_succ hab, ← List.append_assoc, hp0]; exact rowOf_same _ _ _ _ _
          · have w4 := rwOf_row j3
            have hne : id5 ≠ n2 := fun e => hbl _ _ (by rw [e])
            have hlen5 : (acc ++ upto a b).length = acc.length + (b - a).toNat := by rw [List.length_append, hul]
            have htk5 : (iv (acc ++ upto a b)).take ((acc ++ upto a b).length) = iv (acc ++ upto a b) := List.take_of_length_le (by rw [iv_length]; omega)
            (repeat' first | refine zcd ?_ | intro K' hK | (with_reducible refine zn hK ?_; clear hK) | ((with_reducible apply o_apR (t := 36) apT36 w_none); (case hs => exact ez1 w4); (case hy => exact ez1 w4); (case hsrc => exact src_row (rowOf_same _ _ _ _ _) rfl); (case hr => exact ez1 w4); (case hc => exact rfl); (case hm => omega); (case hli => omega); (case hln => omega); (case hcs => rw [iv_length]; omega)) | ((with_reducible first | apply zo1 | apply zo2 | apply o_guard rfl | apply x_cond | apply k_e1 rfl | apply k_e2 rfl | apply k_e0 rfl | apply k_e3 rfl | apply k_e4 rfl); (case he => exact ez2 c1 w4); (try case hok => exact ezO); all_goals try (intro hb; (try simp only [hbs, reduceCtorEq] at hb); try exact ezX)) | ((with_reducible apply o_undef rfl); (case hb => exact ez0)))
            refine k_round (p.1 - (b + 1)).toNat (by omega) ⟨.slice (some ⟨n4 + 1, 0, none⟩) ((acc ++ upto a b).length + 1) ((acc ++ upto a b).length + 1), b + 1, rfl, ez0, by omega, by omega, by omega, (((hE4.ne (by omega) _).ne (by omega) _).ne (by omega) _).more (by omega), by rw [rowOf_ne _ _ (by omega), rowOf_ne _ _ (by omega), rowOf_ne _ _ (by omega)]; exact qR4, by rw [rowOf_ne _ _ (by omega), rowOf_ne _ _ (by omega), rowOf_ne _ _ (by omega)]; exact qt, blk_new (by omega), .inr ⟨?_, n4 + 1, by omega, by omega, ?_, ?_⟩⟩
            · rw [upto_succ hab, ← List.append_assoc]; simp
            · rw [upto_succ hab, ← List.append_assoc, show (acc ++ upto a b ++ [b]).length = (acc ++ upto a b).length + 1 from by rw [List.length_append]; rfl]
            · rw [upto_succ hab, ← List.append_assoc, iv_app1]
              exact ez1 htk5
        · have hbm : b = max a p.1 := by omega
          have hup : upto a b = upto a p.1 := by
            rcases Int.le_total a p.1 with h1 | h1
            · rw [show b = p.1 from by omega]
            · rw [upto_nil (show b ≤ a by omega), upto_nil h1]
          rcases hpm.2.2 with hm1 | ⟨ht0, ht1, hs0, hs1⟩
          · rw [hm1] at c1
            (repeat' first | refine zcd ?_ | intro K' hK | (with_reducible refine zn hK ?_; clear hK) | fail | ((with_reducible first | apply zo1 | apply zo2 | apply o_guard rfl | apply x_cond | apply k_e1 rfl | apply k_e2 rfl | apply k_e0 rfl | apply k_e3 rfl | apply k_e4 rfl); (case he => exact ez1 c1); (try case hok => exact ezO); all_goals try (intro hb; (try simp only [hbs, reduceCtorEq] at hb); try exact ezX)) | ((with_reducible apply o_undef rfl); (case hb => exact ez0)))
            refine k_round (all.length - (q + 1)) (by omega) ⟨q + 1, O4, b, acc ++ upto a b, rfl, by omega, ez0, by omega, by omega, by omega, hE4, qR4, hO4, ?_, by rw [List.length_append, hul]; omega⟩
            rw [← hgap, hdr, hup, hbm, List.append_assoc]
            show _ = acc ++ (upto a p.1 ++ gaps S (max a p.1 + if 0 ≤ p.2 then S p.2 else 0) _)
            rw [hm1, if_neg (by decide), Int.add_zero]
          · obtain ⟨t, ht⟩ := Int.eq_ofNat_of_zero_le ht0
            rw [ht] at c1 ht1 hs0 hs1
            have ce := hE4.cellk (k := t * 2) (v := .int .i64 (S t)) (by rw [← lget_eq, ← hS]; exact (ev_get (E := eRow 1048576 T) (i := t) (by rw [eRow_length]; omega)).1)
            (repeat' first | refine zcd ?_ | intro K' hK | (with_reducible refine zn hK ?_; clear hK) | fail | ((with_reducible first | apply zo1 | apply zo2 | apply o_guard rfl | apply x_cond | apply k_e1 rfl | apply k_e2 rfl | apply k_e0 rfl | apply k_e3 rfl | apply k_e4 rfl); (case he => exact ez2 c1 ce); (try case hok => exact ezO); all_goals try (intro hb; (try simp only [hbs, reduceCtorEq] at hb); try exact ezX)) | ((with_reducible apply o_undef rfl); (case hb => exact ez0)))
            refine k_round (all.length - (q + 1)) (by omega) ⟨q + 1, O4, b + S t, acc ++ upto a b, rfl, by omega, ez0, by omega, by omega, by omega, hE4, qR4, hO4, ?_, by rw [List.length_append, hul]; omega⟩
            rw [← hgap, hdr, hup, hbm, List.append_assoc]
            show _ = acc ++ (upto a p.1 ++ gaps S (max a p.1 + if 0 ≤ p.2 then S p.2 else 0) _)
            rw [ht, if_pos (by omega)]
    · obtain rfl : q = all.length := by omega
      rw [List.drop_length] at hgap
      have hacc : acc = gaps S 0 all := by rw [← hgap]; exact (List.append_nil _).symm
      subst hacc
      rcases hO with ⟨hp0, rfl⟩ | ⟨hp0, id5, j1, j2, rfl, j3⟩
      · (repeat' first | refine zcd ?_ | intro K' hK | (with_reducible refine zn hK ?_; clear hK) | fail | ((with_reducible first | apply zo1 | apply zo2 | apply o_guard rfl | apply x_cond | apply k_e1 rfl | apply k_e2 rfl | apply k_e0 rfl | apply k_e3 rfl | apply k_e4 rfl); (case he => exact ez0); (try case hok => exact ezO); all_goals try (intro hb; (try simp only [hbs, reduceCtorEq] at hb); try exact ezX)) | ((with_reducible apply o_undef rfl); (case hb => exact ez0)))
        exact sw_flat rfl rfl ⟨_, rfl, .inl ⟨hp0, rfl, rfl, rfl⟩⟩
      · (repeat' first | refine zcd ?_ | intro K' hK | (with_reducible refine zn hK ?_; clear hK) | fail | ((with_reducible first | apply zo1 | apply zo2 | apply o_guard rfl | apply x_cond | apply k_e1 rfl | apply k_e2 rfl | apply k_e0 rfl | apply k_e3 rfl | apply k_e4 rfl); (case he => exact ez0); (try case hok => exact ezO); all_goals try (intro hb; (try simp only [hbs, reduceCtorEq] at hb); try exact ezX)) | ((with_reducible apply o_undef rfl); (case hb => exact ez0)))
        refine sw_row (m := id5) ezI rfl (by omega) j3 (iv_idA _ _) ezR ?_
        exact ⟨_, rfl, .inr ⟨hp0, rfl, rfl, rfl⟩⟩
end Go.Proofs.Ytkngdfbibffdcaa.Ce
namespace Go.Proofs.Ytkngdfbibffdcaa.Ce
open Go.RowKit
variable (k d cl : Nat) (h : Hp) (n : Nat)
end Go.Proofs.Ytkngdfbibffdcaa.Ce
namespace Go.Proofs.Ytkngdfbibffdcaa.Ce
open Go.RowKit
def usedS (S : Int → Int) : List (Int × Int) → Int
  | [] => 0
  | p :: ps => S p.2 + usedS S ps
theorem usedS_snoc (S : Int → Int) : ∀ (ps : List (Int × Int)) (p : Int × Int), usedS S (ps ++ [p]) = usedS S ps + S p.2
  | [], p => by simp [usedS]
  | q :: ps, p => by rw [List.cons_append, usedS, usedS, usedS_snoc S ps p]; omega
theorem usedS_take (S : Int → Int) {ps : List (Int × Int)} {q : Nat} (hq : q < ps.length) : usedS S (ps.take (q + 1)) = usedS S (ps.take q) + S (ps[q]).2 := by
  rw [List.take_succ_eq_append_getElem hq, usedS_snoc]
theorem gaps_len {S : Int → Int} : ∀ {ps : List (Int × Int)} {lo hi : Int}, AscB S lo hi ps → (∀ p ∈ ps, 0 ≤ p.2) → ((gaps S lo (ps ++ [(hi, -1)])).length : Int) = hi - lo - usedS S ps
  | [], lo, hi, h, _ => by
    have h : lo ≤ hi := h
    show ((upto lo hi ++ []).length : Int) = _
    rw [List.append_nil, upto_length, usedS]
    omega
  | p :: ps, lo, hi, h, h0 => by
    obtain ⟨h1, h2, h3⟩ := h
    have hp := h0 p (by simp)
    have ih := gaps_len h3 fun q hq => h0 q (by simp [hq])
    show ((upto lo p.1 ++ gaps S (max lo p.1 + if 0 ≤ p.2 then S p.2 else 0) (ps ++ [(hi, -1)])).length : Int) = _
    rw [if_pos hp, show max lo p.1 = p.1 from by omega, List.length_append, upto_length, usedS]
    omega
theorem usedS_le {S : Int → Int} : ∀ {ps : List (Int × Int)} {lo hi : Int}, AscB S lo hi ps → 0 ≤ usedS S ps ∧ usedS S ps ≤ hi - lo
  | [], lo, hi, h => by have h : lo ≤ hi := h; rw [usedS]; omega
  | p :: ps, lo, hi, h => by
    obtain ⟨h1, h2, h3⟩ := h
    have := usedS_le h3
    rw [usedS]
    omega
theorem cell_wid {T : List Tp} (hC : ChkT T) {j : Nat} (h1 : j < T.length) (hb : ((eRow 1048576 T).at_ (j : Int)).1 ≤ 256) : ∀ p ∈ cellsT T j, szT 1048576 T p.2 = 1 ∨ szT 1048576 T p.2 = 8 ∨ szT 1048576 T p.2 = 16 ∨ szT 1048576 T p.2 = 24 := by
  intro p hp
  have hl := hC.1
  have hce : cellsT T j = cellsR 1048576 T 32 j 0 := (cells_eq hC.2.1 32 j 0 (by omega) (by omega) hb).symm
  rw [hce] at hp
  obtain ⟨t, ht, e, h5, h6⟩ := cells_leaf (C := 1048576) hC.2.1 32 j 0 (by omega) (by omega) p hp
  have hk := fine_kd (hC.2.1 t ht)
  unfold szT
  rw [e, eRow_at 1048576 hC.2.1 ht]
  unfold eOne
  by_cases k1 : (T[t]).kd = 1
  · rw [if_pos k1]; exact .inl rfl
  · rw [if_neg k1]
    by_cases k2 : (T[t]).kd = 2 ∨ (T[t]).kd = 4
    · rw [if_pos k2]; exact .inr (.inl rfl)
    · rw [if_neg k2]
      by_cases k3 : (T[t]).kd = 3
      · rw [if_pos k3]; exact .inr (.inr (.inl rfl))
      · rw [if_neg k3]
        by_cases k7 : (T[t]).kd = 7
        · rw [if_pos k7]; exact .inr (.inr (.inr rfl))
        · omega
end Go.Proofs.Ytkngdfbibffdcaa.Ce
namespace Go.Proofs.Ytkngdfbibffdcaa.Ce
open Go.RowKit
def Shp (t u : Tp) : Prop := t.kd = u.kd ∧ t.ln = u.ln ∧ t.fs.map (·.1) = u.fs.map (·.1)
theorem Shp.len {far : Bool} {t u : Tp} (h : Shp t u) : (leadsT far t).length = (leadsT far u).length := by
  obtain ⟨h1, -, h3⟩ := h
  have h4 := congrArg List.length h3
  rw [List.length_map, List.length_map] at h4
  unfold leadsT
  rw [h1]
  split
  · rfl
  · rw [List.length_map, List.length_map, h4]
def pairsT (t u : Tp) : List (Int × Int) := (leadsT true t).zip (leadsT true u)
def pr (a b : Nat) : Int × Int := ((a : Int), (b : Int))
inductive Met (T : List Tp) (i k : Nat) : Nat → Nat → Prop
  | refl : Met T i k i k
  | step {a b x y : Nat} (h : Met T i k a b) (ha : a < T.length) (hb : b < T.length) (hs : Shp T[a] T[b]) (hp : pr x y ∈ pairsT T[a] T[b]) : Met T i k x y
def Alike (T : List Tp) (i k : Nat) : Prop := ∀ a b, Met T i k a b → ∀ (ha : a < T.length) (hb : b < T.length), Shp T[a] T[b]
theorem pairsT_in {T : List Tp} (hF : Fine T) {a b : Nat} (ha : a < T.length) (hb : b < T.length) {p : Int × Int} (hp : p ∈ pairsT T[a] T[b]) : ∃ x y : Nat, p = pr x y ∧ x < T.length ∧ y < T.length := by
  unfold pairsT at hp
  have h1 := leadsT_in (far := true) (hF a ha) (by omega) p.1 (List.of_mem_zip (a := p.1) (b := p.2) hp).1
  have h2 := leadsT_in (far := true) (hF b hb) (by omega) p.2 (List.of_mem_zip (a := p.1) (b := p.2) hp).2
  refine ⟨p.1.toNat, p.2.toNat, ?_, by omega, by omega⟩
  unfold pr
  rw [Int.toNat_of_nonneg h1.1, Int.toNat_of_nonneg h2.1]
structure Wrk (T : List Tp) (i k : Nat) (ps ops : List (Int × Int)) : Prop where
  st : pr i k ∈ ps ∨ pr i k ∈ ops
  met : ∀ p, p ∈ ps ∨ p ∈ ops → ∃ a b : Nat, p = pr a b ∧ a < T.length ∧ b < T.length ∧ Met T i k a b
  ok : ∀ a b : Nat, pr a b ∈ ps → ∀ (ha : a < T.length) (hb : b < T.length), Shp T[a] T[b] ∧ ∀ p ∈ pairsT T[a] T[b], p ∈ ps ∨ p ∈ ops
theorem pr_inj {a b x y : Nat} (h : pr a b = pr x y) : a = x ∧ b = y := by
  unfold pr at h
  injection h with h1 h2
  omega
theorem Wrk.init {T : List Tp} {i k : Nat} (hi : i < T.length) (hk : k < T.length) : Wrk T i k [] [pr i k] :=
  ⟨.inr (List.mem_singleton.2 rfl), fun p hp => by
    rcases hp with hp | hp
    · cases hp
    · obtain rfl := List.mem_singleton.1 hp
      exact ⟨i, k, rfl, hi, hk, .refl⟩, fun a b h => by cases h⟩
theorem Wrk.skip {T : List Tp} {i k : Nat} {ps ops : List (Int × Int)} {p : Int × Int} (h : Wrk T i k ps (ops ++ [p])) (hp : p ∈ ps) : Wrk T i k ps ops := by
  have key : ∀ q, q ∈ ps ∨ q ∈ ops ++ [p] → q ∈ ps ∨ q ∈ ops := fun q hq => by
    rcases hq with hq | hq
    · exact .inl hq
    · rcases List.mem_append.1 hq with hq | hq
      · exact .inr hq
      · obtain rfl := List.mem_singleton.1 hq
        exact .inl hp
  refine ⟨key _ h.st, fun q hq => h.met q ?_, fun a b hab ha hb => ⟨(h.ok a b hab ha hb).1, fun q hq => key q ((h.ok a b hab ha hb).2 q hq)⟩⟩
  rcases hq with hq | hq
  · exact .inl hq
  · exact .inr (List.mem_append_left _ hq)
theorem Wrk.next {T : List Tp} {i k a b : Nat} {ps ops : List (Int × Int)} (hF : Fine T) (h : Wrk T i k ps (ops ++ [pr a b])) (ha : a < T.length) (hb : b < T.length) (hs : Shp T[a] T[b]) : Wrk T i k (ps ++ [pr a b]) (ops ++ pairsT T[a] T[b]) := by
  have hm : Met T i k a b := by
    obtain ⟨x, y, e, -, -, hm⟩ := h.met (pr a b) (.inr (List.mem_append_right _ (List.mem_singleton.2 rfl)))
    obtain ⟨rfl, rfl⟩ := pr_inj e
    exact hm
  have key : ∀ q, q ∈ ps ∨ q ∈ ops ++ [pr a b] → q ∈ ps ++ [pr a b] ∨ q ∈ ops ++ pairsT T[a] T[b] := fun q hq => by
    rcases hq with hq | hq
    · exact .inl (List.mem_append_left _ hq)
    · rcases List.mem_append.1 hq with hq | hq
      · exact .inr (List.mem_append_left _ hq)
      · exact .inl (List.mem_append_right _ hq)
  refine ⟨key _ h.st, fun q hq => ?_, fun x y hxy hx hy => ?_⟩
  · rcases hq with hq | hq
    · rcases List.mem_append.1 hq with hq | hq
      · exact h.met q (.inl hq)
      · obtain rfl := List.mem_singleton.1 hq
        exact ⟨a, b, rfl, ha, hb, hm⟩
    · rcases List.mem_append.1 hq with hq | hq
      · exact h.met q (.inr (List.mem_append_left _ hq))
      · obtain ⟨x, y, rfl, hx, hy⟩ := pairsT_in hF ha hb hq
        exact ⟨x, y, rfl, hx, hy, .step hm ha hb hs hq⟩
  · rcases List.mem_append.1 hxy with hxy | hxy
    · exact ⟨(h.ok x y hxy hx hy).1, fun q hq => key q ((h.ok x y hxy hx hy).2 q hq)⟩
    · obtain ⟨rfl, rfl⟩ := pr_inj (List.mem_singleton.1 hxy)
      exact ⟨hs, fun q hq => .inr (List.mem_append_right _ hq)⟩
theorem Wrk.done {T : List Tp} {i k : Nat} {ps : List (Int × Int)} (h : Wrk T i k ps []) : Alike T i k := by
  have key : ∀ a b, Met T i k a b → pr a b ∈ ps := by
    intro a b hm
    induction hm with
    | refl => exact h.st.resolve_right (by simp)
    | step hm ha hb hs hp ih => exact ((h.ok _ _ ih ha hb).2 _ hp).resolve_right (by simp)
  exact fun a b hm ha hb => (h.ok a b (key a b hm) ha hb).1
theorem Wrk.bad {T : List Tp} {i k a b : Nat} {ps ops : List (Int × Int)} (h : Wrk T i k ps (ops ++ [pr a b])) (ha : a < T.length) (hb : b < T.length) (hs : ¬ Shp T[a] T[b]) : ¬ Alike T i k := by
  intro hal
  obtain ⟨x, y, e, -, -, hm⟩ := h.met (pr a b) (.inr (List.mem_append_right _ (List.mem_singleton.2 rfl)))
  obtain ⟨rfl, rfl⟩ := pr_inj e
  exact hs (hal a b hm ha hb)
def allP (L : Nat) : List (Int × Int) := (List.range L).flatMap fun (a : Nat) => (List.range L).map fun (b : Nat) => pr a b
def left_ (L : Nat) (ps : List (Int × Int)) : Nat := ((allP L).filter fun p => decide (p ∉ ps)).length
theorem filt_less {α : Type} {f g : α → Bool} : ∀ {l : List α}, (∀ x ∈ l, f x = true → g x = true) → (∃ x ∈ l, g x = true ∧ f x = false) → (l.filter f).length < (l.filter g).length
  | [], _, h => by obtain ⟨x, hx, -⟩ := h; cases hx
  | y :: l, h1, h2 => by
    have hle : ∀ {l : List α}, (∀ x ∈ l, f x = true → g x = true) → (l.filter f).length ≤ (l.filter g).length := by
      intro l
      induction l with
      | nil => intro _; exact Nat.le_refl _
      | cons z l ih =>
        intro h
        have := ih fun x hx => h x (List.mem_cons_of_mem _ hx)
        have hz := h z (List.mem_cons_self ..)
        cases hf : f z
        · rw [List.filter_cons_of_neg (by rw [hf]; decide)]
          cases hg : g z
          · rw [List.filter_cons_of_neg (by rw [hg]; decide)]; exact this
          · rw [List.filter_cons_of_pos hg, List.length_cons]; omega
        · rw [List.filter_cons_of_pos hf, List.filter_cons_of_pos (hz hf), List.length_cons, List.length_cons]; omega
    have hl := hle fun x hx => h1 x (List.mem_cons_of_mem _ hx)
    obtain ⟨x, hx, hg, hf⟩ := h2
    rcases List.mem_cons.1 hx with rfl | hx
    · rw [List.filter_cons_of_neg (by rw [hf]; decide), List.filter_cons_of_pos hg, List.length_cons]; omega
    · have := filt_less (fun x hx => h1 x (List.mem_cons_of_mem _ hx)) ⟨x, hx, hg, hf⟩
      have hy := h1 y (List.mem_cons_self ..)
      cases hf : f y
      · rw [List.filter_cons_of_neg (by rw [hf]; decide)]
        cases hg : g y
        · rw [List.filter_cons_of_neg (by rw [hg]; decide)]; exact this
        · rw [List.filter_cons_of_pos hg, List.length_cons]; omega
      · rw [List.filter_cons_of_pos hf, List.filter_cons_of_pos (hy hf), List.length_cons, List.length_cons]; omega
theorem allP_mem {L a b : Nat} (ha : a < L) (hb : b < L) : pr a b ∈ allP L := List.mem_flatMap.2 ⟨a, List.mem_range.2 ha, List.mem_map.2 ⟨b, List.mem_range.2 hb, rfl⟩⟩
theorem left_lt {L a b : Nat} {ps : List (Int × Int)} (ha : a < L) (hb : b < L) (hn : pr a b ∉ ps) : left_ L (ps ++ [pr a b]) < left_ L ps := by
  refine filt_less (fun x _ h => ?_) ⟨pr a b, allP_mem ha hb, decide_eq_true hn, decide_eq_false fun h => h (List.mem_append_right _ (List.mem_singleton.2 rfl))⟩
  rw [decide_eq_true_eq] at h ⊢
  exact fun h1 => h (List.mem_append_left _ h1)
theorem left_le {L : Nat} {ps : List (Int × Int)} (hL : L ≤ 32) : left_ L ps ≤ 32 * 32 := by
  unfold left_
  refine Nat.le_trans (List.length_filter_le _ _) ?_
  have : ∀ m, ((List.range m).flatMap fun (a : Nat) => (List.range L).map fun (b : Nat) => pr a b).length = m * L := by
    intro m
    induction m with
    | zero => simp
    | succ m ih => rw [List.range_succ, List.flatMap_append, List.length_append, ih, List.flatMap_cons, List.flatMap_nil, List.append_nil, List.length_map, List.length_range, Nat.succ_mul]
  unfold allP
  rw [this]
  exact Nat.mul_le_mul hL hL
end Go.Proofs.Ytkngdfbibffdcaa.Ce
namespace Go.Proofs.Ytkngdfbibffdcaa.Ce
open Go.RowKit
variable (k d cl : Nat) (h : Hp) (n : Nat)
theorem same1_ev (s u : List UInt8) (a b : Int) :
    SQ k (d + 1) cl 53 [.agg ⟨[.string ⟨⟨s⟩⟩, .int .i64 a]⟩, .agg ⟨[.string ⟨⟨u⟩⟩, .int .i64 b]⟩] h n fun v h' n' => v = .bool (decide (s = u)) ∧ h' = h ∧ n' = n := by
  refine enter Try.func53 (by kernel_rfl) rfl (by kernel_rfl) rfl rfl rfl ?_
  (repeat' first | refine zcd ?_ | intro K' hK | (with_reducible refine zn hK ?_; clear hK) | fail | ((with_reducible first | apply zo1 | apply zo2 | apply o_guard rfl | apply x_cond | apply k_e1 rfl | apply k_e2 rfl | apply k_e0 rfl | apply k_e3 rfl | apply k_e4 rfl); (case he => exact ez1 @b_strq); (try case hok => exact ezO); all_goals try (intro hb; (try simp only [hbs, reduceCtorEq] at hb); try exact ezX)) | ((with_reducible apply o_undef rfl); (case hb => exact ez0)))
  all_goals exact sw_flat rfl rfl ⟨rfl, rfl, rfl⟩
theorem eqfunc_ev (hk : 30000 ≤ k) (A1 A2 : Option Addr) (fs gs : List (List UInt8 × Int)) (c1 c2 : Nat) (h1 : RdH h n A1 (fv fs)) (h2 : RdH h n A2 (fv gs)) (hl : fs.length ≤ 20000) (hl2 : gs.length ≤ 20000) :
    SQ k (d + 2) cl 52 [.slice A1 fs.length c1, .slice A2 gs.length c2, .func (.func 53) ⟨[]⟩ ⟨[]⟩] h n fun v h' n' => v = .bool (decide (fs.map (·.1) = gs.map (·.1))) ∧ h' = h ∧ n' = n := by
  by_cases hlen : fs.length = gs.length
  · refine enter Try.func52 (by kernel_rfl) rfl (by kernel_rfl) rfl rfl rfl ?_
    (repeat' first | refine zcd ?_ | intro K' hK | (with_reducible refine zn hK ?_; clear hK) | fail | ((with_reducible first | apply zo1 | apply zo2 | apply o_guard rfl | apply x_cond | apply k_e1 rfl | apply k_e2 rfl | apply k_e0 rfl | apply k_e3 rfl | apply k_e4 rfl); (case he => exact ez0); (try case hok => exact ezO); all_goals try (intro hb; (try simp only [hbs, reduceCtorEq] at hb); try exact ezX)) | ((with_reducible apply o_undef rfl); (case hb => exact ez0)))
    refine x_loopV [6, 7, 8, 9, 17, 18, 19, 20, 21, 22, 23, 24, 25, 26, 27, 28, 29, 30, 31] [17] (fun m vs h4 n4 => ∃ q : Nat, m = fs.length - q ∧ q ≤ fs.length ∧ vs = [.int .i64 q] ∧ n ≤ n4 ∧ RdH h4 n A1 (fv fs) ∧ RdH h4 n A2 (fv gs) ∧ (fs.take q).map (·.1) = (gs.take q).map (·.1)) fs.length rfl (by omega) ?_ ?_
    · exact ⟨0, rfl, by omega, ez0, Nat.le_refl _, h1, h2, rfl⟩
    · rintro m fr _ h4 n4 ⟨q, rfl, hq, rfl, hn4, r1, r2, htk⟩
      by_cases hql : q < fs.length
      · have hqg : q < gs.length := by omega
        obtain ⟨i1, o1, hA1, hi1, e1, -, -⟩ := fld_at r1 hql
        obtain ⟨i2, o2, hA2, hi2, e2, -, -⟩ := fld_at r2 hqg
        subst hA1; subst hA2
        obtain ⟨a, ha⟩ : ∃ a, fs[q] = a := ⟨_, rfl⟩
        obtain ⟨b, hb5⟩ : ∃ b, gs[q] = b := ⟨_, rfl⟩
        rw [ha] at e1
        rw [hb5] at e2
        have ht1 : (fs.take (q + 1)).map (·.1) = (fs.take q).map (·.1) ++ [a.1] := by rw [List.take_succ_eq_append_getElem hql, List.map_append, ha]; rfl
        have ht2 : (gs.take (q + 1)).map (·.1) = (gs.take q).map (·.1) ++ [b.1] := by rw [List.take_succ_eq_append_getElem hqg, List.map_append, hb5]; rfl
        by_cases hab : a.1 = b.1
        · have hd : decide (a.1 = b.1) = true := decide_eq_true hab
          have p1 := same1_ev k d n ((h4.set n4 (.row 34 false [.string ⟨⟨a.1⟩⟩, .int .i64 a.2])).set (n4 + 1) (.row 34 false [.string ⟨⟨b.1⟩⟩, .int .i64 b.2])) (n4 + 1 + 1) a.1 b.1 a.2 b.2
          rw [hd] at p1
          (repeat' first | refine zcd ?_ | intro K' hK | (with_reducible refine zn hK ?_; clear hK) | ((with_reducible apply o_callV (g := 53) w_none); (case hx => exact ez0); (case ha => exact ez0); (case hs => (exact p1)); (case' hk => rintro _ h' n' ⟨rfl, rfl, rfl⟩)) | ((with_reducible first | apply zo1 | apply zo2 | apply o_guard rfl | apply x_cond | apply k_e1 rfl | apply k_e2 rfl | apply k_e0 rfl | apply k_e3 rfl | apply k_e4 rfl); (case he => exact ez2 e1 e2); (try case hok => exact ezO); all_goals try (intro hb; (try simp only [hbs, reduceCtorEq] at hb); try exact ezX)) | ((with_reducible apply o_undef rfl); (case hb => exact ez0)))
          refine k_round (fs.length - (q + 1)) (by omega) ⟨q + 1, rfl, by omega, ez0, by omega, (r1.set (by omega) _).set (by omega) _, (r2.set (by omega) _).set (by omega) _, by rw [ht1, ht2, htk, hab]⟩
        · have hd : decide (a.1 = b.1) = false := decide_eq_false hab
          have p1 := same1_ev k d n ((h4.set n4 (.row 34 false [.string ⟨⟨a.1⟩⟩, .int .i64 a.2])).set (n4 + 1) (.row 34 false [.string ⟨⟨b.1⟩⟩, .int .i64 b.2])) (n4 + 1 + 1) a.1 b.1 a.2 b.2
          rw [hd] at p1
          have hne : decide (fs.map (·.1) = gs.map (·.1)) = false := decide_eq_false fun e => hab (by
            have h5 := congrArg (fun l => l[q]?) e
            simp only [List.getElem?_map] at h5
            rw [List.getElem?_eq_getElem hql, List.getElem?_eq_getElem hqg, ha, hb5] at h5
            simpa using h5)
          rw [hne]
          (repeat' first | refine zcd ?_ | intro K' hK | (with_reducible refine zn hK ?_; clear hK) | ((with_reducible apply o_callV (g := 53) w_none); (case hx => exact ez0); (case ha => exact ez0); (case hs => (exact p1)); (case' hk => rintro _ h' n' ⟨rfl, rfl, rfl⟩)) | ((with_reducible first | apply zo1 | apply zo2 | apply o_guard rfl | apply x_cond | apply k_e1 rfl | apply k_e2 rfl | apply k_e0 rfl | apply k_e3 rfl | apply k_e4 rfl); (case he => exact ez2 e1 e2); (try case hok => exact ezO); all_goals try (intro hb; (try simp only [hbs, reduceCtorEq] at hb); try exact ezX)) | ((with_reducible apply o_undef rfl); (case hb => exact ez0)))
          all_goals exact sw_flat rfl rfl ⟨rfl, rfl, rfl⟩
      · obtain rfl : q = fs.length := by omega
        rw [List.take_length, hlen, List.take_length] at htk
        rw [decide_eq_true htk]
        (repeat' first | refine zcd ?_ | intro K' hK | (with_reducible refine zn hK ?_; clear hK) | fail | ((with_reducible first | apply zo1 | apply zo2 | apply o_guard rfl | apply x_cond | apply k_e1 rfl | apply k_e2 rfl | apply k_e0 rfl | apply k_e3 rfl | apply k_e4 rfl); (case he => exact ez0); (try case hok => exact ezO); all_goals try (intro hb; (try simp only [hbs, reduceCtorEq] at hb); try exact ezX)) | ((with_reducible apply o_undef rfl); (case hb => exact ez0)))
        all_goals exact sw_flat rfl rfl ⟨rfl, rfl, rfl⟩
  · have hne : decide (fs.map (·.1) = gs.map (·.1)) = false := decide_eq_false fun e => hlen (by have := congrArg List.length e; rwa [List.length_map, List.length_map] at this)
    rw [hne]
    refine enter Try.func52 (by kernel_rfl) rfl (by kernel_rfl) rfl rfl rfl ?_
    (repeat' first | refine zcd ?_ | intro K' hK | (with_reducible refine zn hK ?_; clear hK) | fail | ((with_reducible first | apply zo1 | apply zo2 | apply o_guard rfl | apply x_cond | apply k_e1 rfl | apply k_e2 rfl | apply k_e0 rfl | apply k_e3 rfl | apply k_e4 rfl); (case he => exact ez0); (try case hok => exact ezO); all_goals try (intro hb; (try simp only [hbs, reduceCtorEq] at hb); try exact ezX)) | ((with_reducible apply o_undef rfl); (case hb => exact ez0)))
    all_goals exact sw_flat rfl rfl ⟨rfl, rfl, rfl⟩
end Go.Proofs.Ytkngdfbibffdcaa.Ce
namespace Go.Proofs.Ytkngdfbibffdcaa.Ce
open Go.RowKit
theorem prun_arr2 {P : Program} {d : Nat} {t elem : TypeId} {xs ys : Array Value} {s : Nat} {x0 x1 y0 y1 : Value} {r0 r1 : Bool} (ht : P.underlying t = some (.array 2 elem)) (hs : prun P (sizeOf elem) = some s)
    (h0 : prun P (part elem xs 0) = some x0) (h1 : prun P (part elem xs s) = some x1) (k0 : prun P (part elem ys 0) = some y0) (k1 : prun P (part elem ys s) = some y1)
    (e0 : prun P (Op.equalIn d elem x0 y0) = some r0) (e1 : prun P (Op.equalIn d elem x1 y1) = some r1) : prun P (Op.equalIn (d + 1) t (.agg xs) (.agg ys)) = some (r0 && r1) := by
  simp only [Op.equalIn, prun_bd, prun_under ht, Option.bind_some, hs]
  rw [Std.Legacy.Range.forIn_eq_forIn_range']
  simp only [Std.Legacy.Range.size, List.range', List.forIn_cons, List.forIn_nil, prun_bd, Nat.zero_mul, h0, k0, e0, Option.bind_some]
  cases r0 <;> cases r1 <;> simp [prun_pu, prun_bd, h0, h1, k0, k1, e0, e1, Option.bind_some]
theorem eq_pair (a b c e : Int) : prun Try.prog (Op.equal 113 (.agg ⟨[.int .i64 a, .int .i64 b]⟩) (.agg ⟨[.int .i64 c, .int .i64 e]⟩)) = some (a == c && b == e) :=
  prun_arr2 (d := 9999) (s := 1) (x0 := .int .i64 a) (x1 := .int .i64 b) (y0 := .int .i64 c) (y1 := .int .i64 e) Try.underlying113 (by kernel_rfl) (by kernel_rfl) (by kernel_rfl) (by kernel_rfl) (by kernel_rfl) (prun_int Try.underlying3) (prun_int Try.underlying3)
theorem check_pair (e : Bool) (a b : Int) : prun Try.prog (Instr.checkKey e 10000 113 (.agg ⟨[.int .i64 a, .int .i64 b]⟩)) = some () := by
  have hi : ∀ (d : Nat) (x : Int), prun Try.prog (Instr.checkKey e (d + 1) 3 (.int .i64 x)) = some () := fun d x => by
    unfold Instr.checkKey
    rw [prun_bd, prun_under Try.underlying3]
    rfl
  have h0 : prun Try.prog (part 3 ⟨[.int .i64 a, .int .i64 b]⟩ 0) = some (.int .i64 a) := by kernel_rfl
  have h1 : prun Try.prog (part 3 ⟨[.int .i64 a, .int .i64 b]⟩ 1) = some (.int .i64 b) := by kernel_rfl
  have hs : prun Try.prog (sizeOf 3) = some 1 := by kernel_rfl
  show prun Try.prog (Instr.checkKey e (9999 + 1) _ _) = _
  unfold Instr.checkKey
  rw [prun_bd, prun_under Try.underlying113]
  simp only [Option.bind_some]
  rw [Std.Legacy.Range.forIn_eq_forIn_range']
  simp only [Std.Legacy.Range.size, List.range', List.forIn_cons, List.forIn_nil, prun_bd, hs, Option.bind_some, Nat.zero_mul, h0, hi 9998]
  simp [prun_bd, prun_pu, hs, h0, h1, hi 9998, Option.bind_some]
def pk (p : Int × Int) : Value := .agg ⟨[.int .i64 p.1, .int .i64 p.2]⟩
theorem eq_pk (p q : Int × Int) : prun Try.prog (Op.equal 113 (pk p) (pk q)) = some (decide (p = q)) := by
  unfold pk
  rw [eq_pair]
  congr 1
  rw [Bool.eq_iff_iff, Bool.and_eq_true, beq_iff_eq, beq_iff_eq, decide_eq_true_eq, Prod.ext_iff]
def Es2 (es : Array MapEntry) (ps : List (Int × Int)) : Prop := es.toList.map (fun e => (e.key, e.val)) = ps.map fun p => (pk p, Value.bool true)
theorem ask_in : ∀ (es : List MapEntry) (ps : List (Int × Int)) (p : Int × Int) (i : Nat), es.map (fun e => (e.key, e.val)) = ps.map (fun p => (pk p, Value.bool true)) → p ∈ ps → ∃ j, prun Try.prog (Instr.findAsking 113 (pk p) es i) = some (some (j, .bool true))
  | [], [], p, i, _, h => by cases h
  | [], _ :: _, p, i, he, _ => by cases he
  | _ :: _, [], p, i, he, _ => by cases he
  | e :: es, q :: ps, p, i, he, h => by
    rw [List.map_cons, List.map_cons] at he
    injection he with h1 h2
    injection h1 with h3 h4
    unfold Instr.findAsking
    rw [prun_bd, h3, eq_pk]
    simp only [Option.bind_some]
    by_cases hpq : p = q
    · rw [decide_eq_true hpq, if_pos rfl, h4]
      exact ⟨i, rfl⟩
    · rw [decide_eq_false hpq, if_neg (by decide)]
      exact ask_in es ps p (i + 1) h2 ((List.mem_cons.1 h).resolve_left hpq)
theorem ask_out : ∀ (es : List MapEntry) (ps : List (Int × Int)) (p : Int × Int) (i : Nat), es.map (fun e => (e.key, e.val)) = ps.map (fun p => (pk p, Value.bool true)) → p ∉ ps → prun Try.prog (Instr.findAsking 113 (pk p) es i) = some none
  | [], [], p, i, _, h => rfl
  | [], _ :: _, p, i, he, _ => by cases he
  | _ :: _, [], p, i, he, _ => by cases he
  | e :: es, q :: ps, p, i, he, h => by
    rw [List.map_cons, List.map_cons] at he
    injection he with h1 h2
    injection h1 with h3 h4
    unfold Instr.findAsking
    rw [prun_bd, h3, eq_pk]
    simp only [Option.bind_some]
    rw [decide_eq_false (fun e => h (by rw [e]; exact List.mem_cons_self)), if_neg (by decide)]
    exact ask_out es ps p (i + 1) h2 fun hm => h (List.mem_cons_of_mem _ hm)
theorem find_pk (es : List MapEntry) (p : Int × Int) (r : Option (Nat × Value)) (h : prun Try.prog (Instr.findAsking 113 (pk p) es 0) = some r) : prun Try.prog (Instr.findKey 113 (pk p) es) = some r := by
  unfold Instr.findKey
  rw [prun_bd, prun_under Try.underlying113]
  simp only [Option.bind_some]
  cases es with
  | nil => exact h
  | cons e es => exact h
variable {h : Hp} {n : Nat}
theorem m_look2 {id c : Nat} {es : Array MapEntry} {ps : List (Int × Int)} {p : Int × Int} (hm : mapOf h id = some (es, c)) (he : Es2 es ps) : mLookup Try.prog 112 (.map (some id)) (pk p) false h n = some ⟨.bool (decide (p ∈ ps)), h, n, [id], []⟩ := by
  have hg : prun Try.prog (Ce.mapGet 113 4 (pk p) es) = some (.bool (decide (p ∈ ps)), decide (p ∈ ps)) := by
    unfold Ce.mapGet
    rw [prun_bd, show prun Try.prog (Instr.checkKey es.isEmpty 10000 113 (pk p)) = some () from check_pair _ _ _]
    simp only [Option.bind_some]
    rw [prun_bd]
    by_cases hs : p ∈ ps
    · obtain ⟨j, hj⟩ := ask_in es.toList ps p 0 he hs
      rw [find_pk _ _ _ hj, decide_eq_true hs]
      rfl
    · rw [find_pk _ _ _ (ask_out es.toList ps p 0 he hs), decide_eq_false hs]
      simp only [Option.bind_some]
      rw [prun_bd, show prun Try.prog (zeroValue 4) = some (.bool false) from by kernel_rfl]
      rfl
  unfold mLookup
  dsimp only
  rw [hm]
  simp only [Option.bind_some]
  rw [show tyMap Try.prog 112 = some (113, 4) from by kernel_rfl]
  simp only [Option.bind_some]
  rw [hg]
  rfl
theorem m_put2 {lim id c : Nat} {es : Array MapEntry} {ps : List (Int × Int)} {p : Int × Int} (hl : lim ≤ id) (hm : mapOf h id = some (es, c)) (he : Es2 es ps) (hs : p ∉ ps) :
    mMapUpdate Try.prog lim 112 (.map (some id)) (pk p) (.bool true) h n = some ⟨undef, h.set id (.mp (es.push ⟨pk p, .bool true, c⟩) (c + 1)), n, [], [id]⟩ := by
  have hg : prun Try.prog (Ce.mapPut 113 (pk p) (.bool true) es c) = some (es.push ⟨pk p, .bool true, c⟩, c + 1) := by
    unfold Ce.mapPut
    rw [prun_bd, show prun Try.prog (Instr.checkKey false 10000 113 (pk p)) = some () from check_pair _ _ _]
    simp only [Option.bind_some]
    rw [prun_bd, find_pk _ _ _ (ask_out es.toList ps p 0 he hs)]
    rfl
  unfold mMapUpdate
  dsimp only
  rw [hm]
  simp only [Option.bind_some]
  rw [show tyMap Try.prog 112 = some (113, 4) from by kernel_rfl]
  simp only [Option.bind_some]
  rw [show (scal (pk p) && flat1 (.bool true) && Nat.ble lim id) = true from by rw [ble_t hl]; rfl]
  simp only [cond_true]
  rw [hg]
  rfl
theorem Es2.push {es : Array MapEntry} {ps : List (Int × Int)} {p : Int × Int} {c : Nat} (he : Es2 es ps) : Es2 (es.push ⟨pk p, .bool true, c⟩) (ps ++ [p]) := by
  unfold Es2 at *
  simp only [Array.toList_push, List.map_append, he, List.map_cons, List.map_nil]
section
variable {P : Program} {F : CallE} {lim : Nat} {ops l : List Oper} {f : Fm} {h : Hp} {n : Nat} {dst : Option Tmp} {ty : TypeId} {pos : String} {af : Array Edge} {KO : Fm → Hp → Nat → Prop}
theorem o_look2 {gd : Option (Nat × Bool)} {x y : Operand} {id c : Nat} {es : Array MapEntry} {ps : List (Int × Int)} {p : Int × Int} (hw : wantsF ops gd f = some true) (hx : lv f x = .map (some id)) (hy : lv f y = pk p) (hm : mapOf h id = some (es, c)) (he : Es2 es ps)
    (hk : XO Try.prog F lim ops l (fput f dst (.bool (decide (p ∈ ps)))) h n KO) : XO Try.prog F lim ops (⟨dst, .lookup 112 x y false, ty, pos, af, gd⟩ :: l) f h n KO :=
  o_eff hw (by rw [a_lookup, hx, hy]; exact m_look2 hm he) (by simp [memOp]) hk
theorem o_mput2 {gd : Option (Nat × Bool)} {x y z : Operand} {id c : Nat} {es : Array MapEntry} {ps : List (Int × Int)} {p : Int × Int} (hw : wantsF ops gd f = some true) (hx : lv f x = .map (some id)) (hy : lv f y = pk p) (hz : lv f z = .bool true) (hm : mapOf h id = some (es, c)) (he : Es2 es ps) (hs : p ∉ ps) (hl : lim ≤ id)
    (hk : XO Try.prog F lim ops l (fput f dst undef) (h.set id (.mp (es.push ⟨pk p, .bool true, c⟩) (c + 1))) n KO) : XO Try.prog F lim ops (⟨dst, .mapUpdate 112 x y z, ty, pos, af, gd⟩ :: l) f h n KO :=
  o_eff hw (by rw [a_mapUpdate, hx, hy, hz]; exact m_put2 hl hm he hs) (ok_w hl rfl) hk
end
end Go.Proofs.Ytkngdfbibffdcaa.Ce
namespace Go.Proofs.Ytkngdfbibffdcaa.Ce
open Go.RowKit
theorem if_min (a b : Int) : (if b < a then b else a) = min a b := by split <;> omega
theorem if_max (a b : Int) : (if a < b then b else a) = max a b := by split <;> omega
variable (k d cl : Nat) (h : Hp) (n : Nat)
theorem smin_1 (hk : 30000 ≤ k) (A : Option Addr) (a : Int) (c : Nat) (hr : RdH h n A (iv [a])) :
    SQ k (d + 1) cl 64 [.slice A 1 c] h n fun v h' n' => v = .int .i64 a ∧ h' = h ∧ n' = n := by
  obtain ⟨id, off, hA, -, c0⟩ := int_at hr (i := 0) (show 0 < 1 by decide)
  subst hA
  have c0 : cellAt h id off = some (.int .i64 a) := c0
  refine enter Try.func64 (by kernel_rfl) rfl (by kernel_rfl) rfl rfl rfl ?_
  (repeat' first | refine zcd ?_ | intro K' hK | (with_reducible refine zn hK ?_; clear hK) | (with_reducible refine x_turns ?_) | (with_reducible refine x_turn (by omega) ?_) | (with_reducible refine k_turn ?_) | ((with_reducible first | apply zo1 | apply zo2 | apply o_guard rfl | apply x_cond | apply k_e1 rfl | apply k_e2 rfl | apply k_e0 rfl | apply k_e3 rfl | apply k_e4 rfl); (case he => exact ez1 c0); (try case hok => exact ezO); all_goals try (intro hb; (try simp only [hbs, reduceCtorEq] at hb); try exact ezX)) | ((with_reducible apply o_undef rfl); (case hb => exact ez0)))
  all_goals exact sw_flat rfl rfl ⟨rfl, rfl, rfl⟩
theorem smin_2 (hk : 30000 ≤ k) (A : Option Addr) (a b : Int) (c : Nat) (hr : RdH h n A (iv [a, b])) :
    SQ k (d + 1) cl 64 [.slice A 2 c] h n fun v h' n' => v = .int .i64 (min a b) ∧ h' = h ∧ n' = n := by
  obtain ⟨id, off, hA, -, c0⟩ := int_at hr (i := 0) (show 0 < 2 by decide)
  subst hA
  have c0 : cellAt h id off = some (.int .i64 a) := c0
  obtain ⟨_, _, hA, -, c1⟩ := int_at hr (i := 1) (show 1 < 2 by decide)
  injection hA with hA
  injection hA with e1 e2
  subst e1; subst e2
  have c1 : cellAt h id (off + 1) = some (.int .i64 b) := c1
  refine enter Try.func64 (by kernel_rfl) rfl (by kernel_rfl) rfl rfl rfl ?_
  (repeat' first | refine zcd ?_ | intro K' hK | (with_reducible refine zn hK ?_; clear hK) | (with_reducible refine x_turns ?_) | (with_reducible refine x_turn (by omega) ?_) | (with_reducible refine k_turn ?_) | ((with_reducible first | apply zo1 | apply zo2 | apply o_guard rfl | apply x_cond | apply k_e1 rfl | apply k_e2 rfl | apply k_e0 rfl | apply k_e3 rfl | apply k_e4 rfl); (case he => exact ez2 c0 c1); (try case hok => exact ezO); all_goals try (intro hb; (try simp only [hbs, reduceCtorEq] at hb); try exact ezX)) | ((with_reducible apply o_undef rfl); (case hb => exact ez0)))
  all_goals exact sw_flat rfl rfl ⟨by rw [if_min], rfl, rfl⟩
theorem smax_1 (hk : 30000 ≤ k) (A : Option Addr) (a : Int) (c : Nat) (hr : RdH h n A (iv [a])) :
    SQ k (d + 1) cl 65 [.slice A 1 c] h n fun v h' n' => v = .int .i64 a ∧ h' = h ∧ n' = n := by
  obtain ⟨id, off, hA, -, c0⟩ := int_at hr (i := 0) (show 0 < 1 by decide)
  subst hA
  have c0 : cellAt h id off = some (.int .i64 a) := c0
  refine enter Try.func65 (by kernel_rfl) rfl (by kernel_rfl) rfl rfl rfl ?_
  (repeat' first | refine zcd ?_ | intro K' hK | (with_reducible refine zn hK ?_; clear hK) | (with_reducible refine x_turns ?_) | (with_reducible refine x_turn (by omega) ?_) | (with_reducible refine k_turn ?_) | ((with_reducible first | apply zo1 | apply zo2 | apply o_guard rfl | apply x_cond | apply k_e1 rfl | apply k_e2 rfl | apply k_e0 rfl | apply k_e3 rfl | apply k_e4 rfl); (case he => exact ez1 c0); (try case hok => exact ezO); all_goals try (intro hb; (try simp only [hbs, reduceCtorEq] at hb); try exact ezX)) | ((with_reducible apply o_undef rfl); (case hb => exact ez0)))
  all_goals exact sw_flat rfl rfl ⟨rfl, rfl, rfl⟩
theorem smax_2 (hk : 30000 ≤ k) (A : Option Addr) (a b : Int) (c : Nat) (hr : RdH h n A (iv [a, b])) :
    SQ k (d + 1) cl 65 [.slice A 2 c] h n fun v h' n' => v = .int .i64 (max a b) ∧ h' = h ∧ n' = n := by
  obtain ⟨id, off, hA, -, c0⟩ := int_at hr (i := 0) (show 0 < 2 by decide)
  subst hA
  have c0 : cellAt h id off = some (.int .i64 a) := c0
  obtain ⟨_, _, hA, -, c1⟩ := int_at hr (i := 1) (show 1 < 2 by decide)
  injection hA with hA
  injection hA with e1 e2
  subst e1; subst e2
  have c1 : cellAt h id (off + 1) = some (.int .i64 b) := c1
  refine enter Try.func65 (by kernel_rfl) rfl (by kernel_rfl) rfl rfl rfl ?_
  (repeat' first | refine zcd ?_ | intro K' hK | (with_reducible refine zn hK ?_; clear hK) | (with_reducible refine x_turns ?_) | (with_reducible refine x_turn (by omega) ?_) | (with_reducible refine k_turn ?_) | ((with_reducible first | apply zo1 | apply zo2 | apply o_guard rfl | apply x_cond | apply k_e1 rfl | apply k_e2 rfl | apply k_e0 rfl | apply k_e3 rfl | apply k_e4 rfl); (case he => exact ez2 c0 c1); (try case hok => exact ezO); all_goals try (intro hb; (try simp only [hbs, reduceCtorEq] at hb); try exact ezX)) | ((with_reducible apply o_undef rfl); (case hb => exact ez0)))
  all_goals exact sw_flat rfl rfl ⟨by rw [if_max], rfl, rfl⟩
theorem pasked_1 (hk : 30000 ≤ k) (A : Option Addr) (T : List Tp) (c : Nat) (hT : TabH h n A T) (hS : ∀ t ∈ T, t.fs.length ≤ 20000) (hm : T.length ≤ 9223372036854775807) (i : Int) (A2 : Option Addr) (c2 : Nat) (hr : RdH h n A2 (iv [i])) :
    SQ k (d + 7) cl 48 [.slice A T.length c, .slice A2 1 c2] h n fun v h' n' => v = .int .i64 (askE T i i) ∧ h' = h ∧ n' = n := by
  have q1 := smin_1 k (d + 5) n h n hk A2 i c2 hr
  have q2 := smax_1 k (d + 5) n h n hk A2 i c2 hr
  have q0 := pcheck_ev k d n h n hk A T c hT hS hm
  have q0 := q0.mono (Φ' := fun v2 h2 n2 => v2 = .int .i64 (errT T) ∧ h = h2 ∧ n = n2) fun _ _ _ hp => ⟨hp.1, hp.2.1.symm, hp.2.2.symm⟩
  have q1 := q1.mono (Φ' := fun v2 h2 n2 => v2 = .int .i64 i ∧ h = h2 ∧ n = n2) fun _ _ _ hp => ⟨hp.1, hp.2.1.symm, hp.2.2.symm⟩
  have q2 := q2.mono (Φ' := fun v2 h2 n2 => v2 = .int .i64 i ∧ h = h2 ∧ n = n2) fun _ _ _ hp => ⟨hp.1, hp.2.1.symm, hp.2.2.symm⟩
  by_cases hC : ChkT T
  · have he := errT_ok hC
    rw [he] at q0
    by_cases hi : (0 ≤ i ∧ i < T.length) ∧ 0 ≤ i ∧ i < T.length
    · have hz : askE T i i = 0 := by unfold askE; rw [if_pos hC, if_pos hi]
      rw [hz]
      refine enter Try.func48 (by kernel_rfl) rfl (by kernel_rfl) rfl rfl rfl ?_
      (repeat' first | refine zcd ?_ | intro K' hK | (with_reducible refine zn hK ?_; clear hK) | ((with_reducible apply o_callF (g := 61) w_none); (case ha => exact ez0); (case hs => (exact q0)); (case' hk => rintro _ h' n' ⟨rfl, rfl, rfl⟩)) | ((with_reducible apply o_callF (g := 64) w_none); (case ha => exact ez0); (case hs => (exact q1)); (case' hk => rintro _ h' n' ⟨rfl, rfl, rfl⟩)) | ((with_reducible apply o_callF (g := 65) w_none); (case ha => exact ez0); (case hs => (exact q2)); (case' hk => rintro _ h' n' ⟨rfl, rfl, rfl⟩)) | ((with_reducible first | apply zo1 | apply zo2 | apply o_guard rfl | apply x_cond | apply k_e1 rfl | apply k_e2 rfl | apply k_e0 rfl | apply k_e3 rfl | apply k_e4 rfl); (case he => exact ez0); (try case hok => exact ezO); all_goals try (intro hb; (try simp only [hbs, reduceCtorEq] at hb); try exact ezX)) | ((with_reducible apply o_undef rfl); (case hb => exact ez0)))
      all_goals exact sw_flat rfl rfl ⟨rfl, rfl, rfl⟩
    · have hz : askE T i i = 2 := by unfold askE; rw [if_pos hC, if_neg hi]
      rw [hz]
      refine enter Try.func48 (by kernel_rfl) rfl (by kernel_rfl) rfl rfl rfl ?_
      (repeat' first | refine zcd ?_ | intro K' hK | (with_reducible refine zn hK ?_; clear hK) | ((with_reducible apply o_callF (g := 61) w_none); (case ha => exact ez0); (case hs => (exact q0)); (case' hk => rintro _ h' n' ⟨rfl, rfl, rfl⟩)) | ((with_reducible apply o_callF (g := 64) w_none); (case ha => exact ez0); (case hs => (exact q1)); (case' hk => rintro _ h' n' ⟨rfl, rfl, rfl⟩)) | ((with_reducible apply o_callF (g := 65) w_none); (case ha => exact ez0); (case hs => (exact q2)); (case' hk => rintro _ h' n' ⟨rfl, rfl, rfl⟩)) | ((with_reducible first | apply zo1 | apply zo2 | apply o_guard rfl | apply x_cond | apply k_e1 rfl | apply k_e2 rfl | apply k_e0 rfl | apply k_e3 rfl | apply k_e4 rfl); (case he => exact ez0); (try case hok => exact ezO); all_goals try (intro hb; (try simp only [hbs, reduceCtorEq] at hb); try exact ezX)) | ((with_reducible apply o_undef rfl); (case hb => exact ez0)))
      all_goals exact sw_flat rfl rfl ⟨rfl, rfl, rfl⟩
  · have he := errT_no hC
    have hz : askE T i i = 8 := by unfold askE; rw [if_neg hC]
    rw [he] at q0
    rw [hz]
    refine enter Try.func48 (by kernel_rfl) rfl (by kernel_rfl) rfl rfl rfl ?_
    (repeat' first | refine zcd ?_ | intro K' hK | (with_reducible refine zn hK ?_; clear hK) | ((with_reducible apply o_callF (g := 61) w_none); (case ha => exact ez0); (case hs => (exact q0)); (case' hk => rintro _ h' n' ⟨rfl, rfl, rfl⟩)) | ((with_reducible first | apply zo1 | apply zo2 | apply o_guard rfl | apply x_cond | apply k_e1 rfl | apply k_e2 rfl | apply k_e0 rfl | apply k_e3 rfl | apply k_e4 rfl); (case he => exact ez0); (try case hok => exact ezO); all_goals try (intro hb; (try simp only [hbs, reduceCtorEq] at hb); try exact ezX)) | ((with_reducible apply o_undef rfl); (case hb => exact ez0)))
    all_goals exact sw_flat rfl rfl ⟨rfl, rfl, rfl⟩
theorem pasked_2 (hk : 30000 ≤ k) (A : Option Addr) (T : List Tp) (c : Nat) (hT : TabH h n A T) (hS : ∀ t ∈ T, t.fs.length ≤ 20000) (hm : T.length ≤ 9223372036854775807) (i j : Int) (A2 : Option Addr) (c2 : Nat) (hr : RdH h n A2 (iv [i, j])) :
    SQ k (d + 7) cl 48 [.slice A T.length c, .slice A2 2 c2] h n fun v h' n' => v = .int .i64 (askE T i j) ∧ h' = h ∧ n' = n := by
  have q1 := smin_2 k (d + 5) n h n hk A2 i j c2 hr
  have q2 := smax_2 k (d + 5) n h n hk A2 i j c2 hr
  have q0 := pcheck_ev k d n h n hk A T c hT hS hm
  have q0 := q0.mono (Φ' := fun v2 h2 n2 => v2 = .int .i64 (errT T) ∧ h = h2 ∧ n = n2) fun _ _ _ hp => ⟨hp.1, hp.2.1.symm, hp.2.2.symm⟩
  have q1 := q1.mono (Φ' := fun v2 h2 n2 => v2 = .int .i64 (min i j) ∧ h = h2 ∧ n = n2) fun _ _ _ hp => ⟨hp.1, hp.2.1.symm, hp.2.2.symm⟩
  have q2 := q2.mono (Φ' := fun v2 h2 n2 => v2 = .int .i64 (max i j) ∧ h = h2 ∧ n = n2) fun _ _ _ hp => ⟨hp.1, hp.2.1.symm, hp.2.2.symm⟩
  by_cases hC : ChkT T
  · have he := errT_ok hC
    rw [he] at q0
    by_cases hi : (0 ≤ i ∧ i < T.length) ∧ 0 ≤ j ∧ j < T.length
    · have hz : askE T i j = 0 := by unfold askE; rw [if_pos hC, if_pos hi]
      rw [hz]
      refine enter Try.func48 (by kernel_rfl) rfl (by kernel_rfl) rfl rfl rfl ?_
      (repeat' first | refine zcd ?_ | intro K' hK | (with_reducible refine zn hK ?_; clear hK) | ((with_reducible apply o_callF (g := 61) w_none); (case ha => exact ez0); (case hs => (exact q0)); (case' hk => rintro _ h' n' ⟨rfl, rfl, rfl⟩)) | ((with_reducible apply o_callF (g := 64) w_none); (case ha => exact ez0); (case hs => (exact q1)); (case' hk => rintro _ h' n' ⟨rfl, rfl, rfl⟩)) | ((with_reducible apply o_callF (g := 65) w_none); (case ha => exact ez0); (case hs => (exact q2)); (case' hk => rintro _ h' n' ⟨rfl, rfl, rfl⟩)) | ((with_reducible first | apply zo1 | apply zo2 | apply o_guard rfl | apply x_cond | apply k_e1 rfl | apply k_e2 rfl | apply k_e0 rfl | apply k_e3 rfl | apply k_e4 rfl); (case he => exact ez0); (try case hok => exact ezO); all_goals try (intro hb; (try simp only [hbs, reduceCtorEq] at hb); try exact ezX)) | ((with_reducible apply o_undef rfl); (case hb => exact ez0)))
      all_goals exact sw_flat rfl rfl ⟨rfl, rfl, rfl⟩
    · have hz : askE T i j = 2 := by unfold askE; rw [if_pos hC, if_neg hi]
      rw [hz]
      refine enter Try.func48 (by kernel_rfl) rfl (by kernel_rfl) rfl rfl rfl ?_
      (repeat' first | refine zcd ?_ | intro K' hK | (with_reducible refine zn hK ?_; clear hK) | ((with_reducible apply o_callF (g := 61) w_none); (case ha => exact ez0); (case hs => (exact q0)); (case' hk => rintro _ h' n' ⟨rfl, rfl, rfl⟩)) | ((with_reducible apply o_callF (g := 64) w_none); (case ha => exact ez0); (case hs => (exact q1)); (case' hk => rintro _ h' n' ⟨rfl, rfl, rfl⟩)) | ((with_reducible apply o_callF (g := 65) w_none); (case ha => exact ez0); (case hs => (exact q2)); (case' hk => rintro _ h' n' ⟨rfl, rfl, rfl⟩)) | ((with_reducible first | apply zo1 | apply zo2 | apply o_guard rfl | apply x_cond | apply k_e1 rfl | apply k_e2 rfl | apply k_e0 rfl | apply k_e3 rfl | apply k_e4 rfl); (case he => exact ez0); (try case hok => exact ezO); all_goals try (intro hb; (try simp only [hbs, reduceCtorEq] at hb); try exact ezX)) | ((with_reducible apply o_undef rfl); (case hb => exact ez0)))
      all_goals exact sw_flat rfl rfl ⟨rfl, rfl, rfl⟩
  · have he := errT_no hC
    have hz : askE T i j = 8 := by unfold askE; rw [if_neg hC]
    rw [he] at q0
    rw [hz]
    refine enter Try.func48 (by kernel_rfl) rfl (by kernel_rfl) rfl rfl rfl ?_
    (repeat' first | refine zcd ?_ | intro K' hK | (with_reducible refine zn hK ?_; clear hK) | ((with_reducible apply o_callF (g := 61) w_none); (case ha => exact ez0); (case hs => (exact q0)); (case' hk => rintro _ h' n' ⟨rfl, rfl, rfl⟩)) | ((with_reducible first | apply zo1 | apply zo2 | apply o_guard rfl | apply x_cond | apply k_e1 rfl | apply k_e2 rfl | apply k_e0 rfl | apply k_e3 rfl | apply k_e4 rfl); (case he => exact ez0); (try case hok => exact ezO); all_goals try (intro hb; (try simp only [hbs, reduceCtorEq] at hb); try exact ezX)) | ((with_reducible apply o_undef rfl); (case hb => exact ez0)))
    all_goals exact sw_flat rfl rfl ⟨rfl, rfl, rfl⟩
end Go.Proofs.Ytkngdfbibffdcaa.Ce
