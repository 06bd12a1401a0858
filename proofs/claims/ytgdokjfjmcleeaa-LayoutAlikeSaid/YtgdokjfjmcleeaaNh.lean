/- Padding: a symbolic run of package layout. Laws on valid tables: their condition; sizes, cells and padding by symbolic runs. -/
import Derived.Test.YtgdokjfjmcleeaaNe
import Derived.Test.YtgdokjfjmcleeaaJa
import Derived.Test.YtgdokjfjmcleeaaNb
import Derived.Test.YtgdokjfjmcleeaaMf
import Derived.Test.YtgdokjfjmcleeaaMz
namespace Go.Proofs.Ytgdokjfjmcleeaa.Ce
open Go.RowKit
set_option linter.unusedVariables false
set_option linter.unusedSimpArgs false


set_option maxRecDepth 100000
set_option maxHeartbeats 2000000

/-- the sizes of a table's types -/
def szT (C : Int) (T : List Tp) (t : Int) : Int := ((eRow C T).at_ t).1
/-- the padding of a type -/
def padT (T : List Tp) (j : Nat) : List Int := gaps (szT 1048576 T) 0 (cellsT T j ++ [(szT 1048576 T j, -1)])
theorem cellsT_bnd {T : List Tp} (hC : ChkT T) {j : Nat} (h1 : j < T.length) (hb : ((eRow 1048576 T).at_ (j : Int)).1 ≤ 256) : AscB (szT 1048576 T) 0 (szT 1048576 T j) (cellsT T j) ∧ (∀ p ∈ cellsT T j, 0 ≤ p.2 ∧ p.2 < T.length) ∧ (cellsT T j).length ≤ 256 := by
  have hl := hC.1
  have hce : cellsT T j = cellsR 1048576 T 32 j 0 := (cells_eq hC.2.1 32 j 0 (by omega) (by omega) hb).symm
  have := cells_asc (C := 1048576) (by decide) (by decide) hC.2.1 32 j 0 (by omega) (by omega) hb
  have h3 := cells_len (C := 1048576) (by decide) (by decide) hC.2.1 32 j 0 (by omega) (by omega) hb
  rw [hce]
  refine ⟨by rw [Int.zero_add] at this; exact this, fun p hp => ?_, by omega⟩
  obtain ⟨t, ht, e, -⟩ := cells_leaf (C := 1048576) hC.2.1 32 j 0 (by omega) (by omega) p hp
  omega
variable (k d cl : Nat) (h : Hp) (n : Nat)
theorem lpad_err (hk : 30000 ≤ k) (A : Option Addr) (T : List Tp) (c : Nat) (hT : TabH h n A T) (hS : ∀ t ∈ T, t.fs.length ≤ 20000) (hm : T.length ≤ 9223372036854775807) (i : Int) (he : (szR 1048576 T i).2.2 ≠ 0) :
    Sp Try.prog (acall Try.prog WW k (d + 40)) cl 29 [.slice A T.length c, .int .i64 i] h n fun v h' n' => v = .tuple ⟨[.slice none 0 0, .int .i64 (szR 1048576 T i).2.2]⟩ ∧ h' = h ∧ n' = n := by
  obtain ⟨e, hee⟩ : ∃ e, (szR 1048576 T i).2.2 = e := ⟨_, rfl⟩
  have hA := lasked_err k (d + 32) n h n hk A T c hT hS hm i he
  rw [hee] at he hA ⊢
  refine enter Try.func29 (by kernel_rfl) rfl (by kernel_rfl) rfl rfl rfl ?_
  (repeat' first | (with_reducible first | apply x_seq | apply k_then | apply x_block | apply x_skip | apply x_ret | apply x_exit | apply x_label | apply k_pass | apply k_hit | apply k_miss rfl | apply k_out | apply k_turned | refine x_text fun K' hK => ?_) | ((with_reducible apply o_nil); refine hK _ _ _ ?_; clear hK) | ((with_reducible apply o_callF (g := 56) w_none); (case ha => (simp (disch := first | assumption | omega | rfl | decide) only [go_sem, seval, tys] <;> rfl)); (case hs => (exact hA)); (case' hk => rintro _ h' n' ⟨rfl, rfl, rfl⟩)) | ((first | ((with_reducible apply o_pure w_none); (case hp => exact rfl); (case' he => intro h n)) | (with_reducible first | apply o_eff w_none | apply o_guard rfl | apply x_cond | apply k_e1 rfl | apply k_e2 rfl | apply k_e0 rfl | apply k_e3 rfl | apply k_e4 rfl)); (case he => (simp (disch := first | assumption | omega | rfl | decide) only [go_sem, seval, tys] <;> rfl)); (try (case hok => first | exact rfl | exact ok_w (by omega) rfl)); all_goals (try (intro hb; (try (simp only [hbs, reduceCtorEq] at hb)); try (exfalso; omega)))) | ((with_reducible apply o_undef rfl); (case hb => (simp (disch := first | assumption | omega | rfl | decide) only [go_sem, seval, tys]))))
  all_goals exact sw_flat rfl rfl ⟨rfl, rfl, rfl⟩
theorem lpad_ok (hk : 30000 ≤ k) (A : Option Addr) (T : List Tp) (c : Nat) (hT : TabH h n A T) (hS : ∀ t ∈ T, t.fs.length ≤ 20000) (hm : T.length ≤ 9223372036854775807) (j : Nat) (he : (szR 1048576 T j).2.2 = 0) :
    Sp Try.prog (acall Try.prog WW k (d + 40)) cl 29 [.slice A T.length c, .int .i64 j] h n fun v h' n' => ∃ V, v = .tuple ⟨[V, .int .i64 0]⟩ ∧ IntsV (padT T j) h n V h' n' := by
  obtain ⟨hC, h0, h1, hsz5, -⟩ := szR_0 he
  have hl := hC.1
  have hA := lasked_ok k (d + 32) n h n hk A T c hT hS hm j hC ⟨h0, h1⟩ (by omega)
  have hP := lparts_ev k d (n + 1) h n hk A T c hT hC j (by omega) hsz5 (Nat.le_refl _)
  have hge := (ev_get (E := eRow 1048576 T) (i := j) (by rw [eRow_length]; omega)).1
  rw [lget_eq] at hge
  obtain ⟨hasc, hty, hlen⟩ := cellsT_bnd hC (by omega) hsz5
  obtain ⟨ps, hps⟩ : ∃ ps, cellsT T j = ps := ⟨_, rfl⟩
  unfold padT
  rw [hps] at hP hasc hty hlen ⊢
  have hP2 := Sp.mono hP (Φ' := fun v h' n' => ∃ id, n + 1 ≤ id ∧ id < n' ∧ v = .slice (some ⟨id, 0, none⟩) ps.length ps.length ∧ rowOf h' id = some (57, false, pv ps) ∧ rwOf h' id = some (57, pv ps) ∧ RdH h' n' (some ⟨n, 0, none⟩) (ev (eRow 1048576 T)) ∧ cellAt h' n (j * 2) = some (.int .i64 ((eRow 1048576 T).at_ (j : Int)).1)) fun v h' n' hh => by
    obtain ⟨id, k1, k2, e, q4, hE2⟩ := hh
    exact ⟨id, k1, k2, e, q4, rwOf_row q4, hE2, hE2.cellk hge⟩
  refine enter Try.func29 (by kernel_rfl) rfl (by kernel_rfl) rfl rfl rfl ?_
  (repeat' first | (with_reducible first | apply x_seq | apply k_then | apply x_block | apply x_skip | apply x_ret | apply x_exit | apply x_label | apply k_pass | apply k_hit | apply k_miss rfl | apply k_out | apply k_turned | refine x_text fun K' hK => ?_) | ((with_reducible apply o_nil); refine hK _ _ _ ?_; clear hK) | ((with_reducible apply o_callF (g := 56) w_none); (case ha => (simp (disch := first | assumption | omega | rfl | decide) only [go_sem, seval, tys] <;> rfl)); (case hs => (exact hA)); (case' hk => rintro _ h' n' ⟨rfl, rfl, rfl⟩)) | (with_reducible refine x_drawnD (id := 6) [(3, 8)] (by kernel_rfl) fun K' hK => ?_) | ((with_reducible apply d_nil); (case hp => (simp (disch := omega) only [pairsOk, List.all_cons, List.all_nil, List.reverse_cons, List.reverse_nil, List.nil_append, List.cons_append, lget_zero, lget_succ, apartB, touches, made_mm, made_lt, made_ge, all_true, ble_t, ble_f, blt_t, blt_f, beq_f, List.contains_cons, List.contains_nil, Bool.and_true, Bool.true_and, Bool.and_false, Bool.false_and, Bool.or_false, Bool.false_or, Bool.not_false, Bool.not_true, beq_self_eq_true])); (case' hx => (refine hK _ _ _ ?_; clear hK))) | ((with_reducible apply d_pure w_none); (case hp => exact rfl); (case hc => exact rfl); (case he => (intro h n; simp (disch := first | assumption | omega | rfl | decide) only [go_sem, seval, tys] <;> rfl))) | ((with_reducible apply d_eff w_none); (case hc => exact rfl); (case he => (simp (disch := first | assumption | omega | rfl | decide) only [go_sem, seval, tys] <;> rfl)); (case hok => first | exact rfl | exact ok_w (by omega) rfl)) | ((with_reducible apply d_guard rfl); (case hb => (simp (disch := first | assumption | omega | rfl | decide) only [go_sem, seval, tys] <;> rfl)); (case' h1 => intro hb; (try (simp only [hbs, reduceCtorEq] at hb)); try (exfalso; omega)); (case' h2 => intro hb; (try (simp only [hbs, reduceCtorEq] at hb)); try (exfalso; omega))) | ((with_reducible apply d_callN (g := 64) w_none); (case hs0 => exact rfl); (case ha => (simp (disch := first | assumption | omega | rfl | decide) only [go_sem, seval, tys] <;> rfl)); (case hs => (exact hP2)); (case' hk => rintro _ h' n' ⟨id, k1, k2, rfl, q4, w4, hE2, ce⟩)) | ((with_reducible apply d_apR (t := 44) apT44 w_none); (case hs => (simp (disch := first | assumption | omega | rfl | decide) only [go_sem, seval, tys, w4] <;> rfl)); (case hy => (simp (disch := first | assumption | omega | rfl | decide) only [go_sem, seval, tys, w4] <;> rfl)); (case hsrc => exact src_row (rowOf_same _ _ _ _ _) rfl); (case hr => (simp (disch := first | assumption | omega | rfl | decide) only [go_sem, seval, tys, w4] <;> rfl)); (case hc => exact rfl); (case hm => omega); (case hli => omega); (case hln => omega); (case hcs => rw [pv_length]; omega); (case' hx => intro rd)) | ((with_reducible apply d_nil); (case hp => (simp (disch := omega) only [pairsOk, List.all_cons, List.all_nil, List.reverse_cons, List.reverse_nil, List.nil_append, List.cons_append, lget_zero, lget_succ, apartB, touches, made_mm, made_lt, made_ge, all_true, ble_t, ble_f, blt_t, blt_f, beq_f, List.contains_cons, List.contains_nil, Bool.and_true, Bool.true_and, Bool.and_false, Bool.false_and, Bool.or_false, Bool.false_or, Bool.not_false, Bool.not_true, beq_self_eq_true])); (case' hx => (refine hK _ _ _ ?_; clear hK))) | ((with_reducible apply d_pure w_none); (case hp => exact rfl); (case hc => exact rfl); (case he => (intro h n; simp (disch := first | assumption | omega | rfl | decide) only [go_sem, seval, tys, ce] <;> rfl))) | ((with_reducible apply d_eff w_none); (case hc => exact rfl); (case he => (simp (disch := first | assumption | omega | rfl | decide) only [go_sem, seval, tys, ce] <;> rfl)); (case hok => first | exact rfl | exact ok_w (by omega) rfl)) | ((with_reducible apply d_guard rfl); (case hb => (simp (disch := first | assumption | omega | rfl | decide) only [go_sem, seval, tys, ce] <;> rfl)); (case' h1 => intro hb; (try (simp only [hbs, reduceCtorEq] at hb)); try (exfalso; omega)); (case' h2 => intro hb; (try (simp only [hbs, reduceCtorEq] at hb)); try (exfalso; omega))) | ((first | ((with_reducible apply o_pure w_none); (case hp => exact rfl); (case' he => intro h n)) | (with_reducible first | apply o_eff w_none | apply o_guard rfl | apply x_cond | apply k_e1 rfl | apply k_e2 rfl | apply k_e0 rfl | apply k_e3 rfl | apply k_e4 rfl)); (case he => (simp (disch := first | assumption | omega | rfl | decide) only [go_sem, seval, tys] <;> rfl)); (try (case hok => first | exact rfl | exact ok_w (by omega) rfl)); all_goals (try (intro hb; (try (simp only [hbs, reduceCtorEq] at hb)); try (exfalso; omega)))) | ((with_reducible apply o_undef rfl); (case hb => (simp (disch := first | assumption | omega | rfl | decide) only [go_sem, seval, tys]))))
  have htk : (pv ps).take (ps.length * 2) = pv ps := List.take_of_length_le (by rw [pv_length]; omega)
  obtain ⟨all, hall⟩ : ∃ all, ps ++ [(szT 1048576 T j, -1)] = all := ⟨_, rfl⟩
  have hrw : pv ps ++ [Value.int .i64 ((eRow 1048576 T).at_ (j : Int)).1, Value.int .i64 (-1)] = pv all := by rw [← hall, pv_app]; rfl
  have hL : all.length = ps.length + 1 := by rw [← hall, List.length_append]; rfl
  have hmem : ∀ p ∈ all, 0 ≤ p.1 ∧ p.1 ≤ 256 ∧ (p.2 = -1 ∨ (0 ≤ p.2 ∧ p.2 < T.length ∧ 0 ≤ szT 1048576 T p.2 ∧ szT 1048576 T p.2 ≤ 256)) := fun p hp => by
    have hsz : szT 1048576 T j ≤ 256 := hsz5
    have hle := hasc.le
    rw [← hall] at hp
    rcases List.mem_append.1 hp with hp | hp
    · have h1 := hasc.mem p hp
      have h2 := hty p hp
      exact ⟨h1.1, by omega, .inr ⟨h2.1, h2.2, by omega, by omega⟩⟩
    · obtain rfl := List.mem_singleton.1 hp
      exact ⟨hle, hsz, .inl rfl⟩
  obtain ⟨S, hS⟩ : ∃ S, szT 1048576 T = S := ⟨_, rfl⟩
  rw [htk, hrw, hall, ← hL]
  rw [hS] at hmem ⊢
  obtain ⟨N, hN⟩ : ∃ N, n' + 1 + 1 = N := ⟨_, rfl⟩
  rw [hN]
  obtain ⟨R, hR⟩ : ∃ R, n' + 1 = R := ⟨_, rfl⟩
  rw [hR]
  refine x_loopV [8, 9, 11, 34, 35, 36, 37, 38, 39, 40, 41, 42, 43, 44, 45, 46, 47, 48, 49, 50, 51, 52, 53, 54, 55, 56, 57, 58, 59] [8, 9, 34] (fun m vs h2 n2 => ∃ (q : Nat) (O : Value) (a : Int) (acc : List Int), m = all.length - q ∧ q ≤ all.length ∧ vs = [O, .int .i64 a, .int .i64 q] ∧ N ≤ n2 ∧ 0 ≤ a ∧ a ≤ 600 * q ∧ RdH h2 n2 (some ⟨n, 0, none⟩) (ev (eRow 1048576 T)) ∧ rowOf h2 R = some (57, false, pv all) ∧ OwnI acc O h2 N n2 ∧ acc ++ gaps S a (all.drop q) = gaps S 0 all ∧ acc.length ≤ 600 * q) all.length rfl (by omega) ?_ ?_
  · refine ⟨0, .slice none 0 0, 0, [], rfl, by omega, (by simp (disch := first | assumption | omega | rfl | decide) only [go_sem, seval, tys] <;> rfl), by omega, by omega, by omega, ?_, rowOf_same _ _ _ _ _, .inl ⟨rfl, rfl⟩, rfl, by simp⟩
    exact (((hE2.ne (by omega) _).ne (by omega) _).ne (by omega) _).more (by omega)
  · rintro m fr _ h2 n2 ⟨q, O, a, acc, rfl, hq, rfl, hn2, ha0, ha1, hE3, qR, hO, hgap, hal⟩
    by_cases hql : q < all.length
    · obtain ⟨p, hp⟩ : ∃ p, all[q] = p := ⟨_, rfl⟩
      have hpm := hmem p (by rw [← hp]; exact List.getElem_mem _)
      have hdr : all.drop q = p :: all.drop (q + 1) := by rw [List.drop_eq_getElem_cons hql, hp]
      have c0 : cellsAt h2 R (q * 2) 2 = some [.int .i64 p.1, .int .i64 p.2] := by
        obtain ⟨i1, o1, hA1, -, e1, -, -⟩ := prt_at (RdH.ofRow (B := R + 1) qR (by omega)) hql
        injection hA1 with hA1
        injection hA1 with e2 e3
        subst e2; subst e3
        rw [hp, Nat.zero_add] at e1
        exact e1
      (repeat' first | (with_reducible first | apply x_seq | apply k_then | apply x_block | apply x_skip | apply x_ret | apply x_exit | apply x_label | apply k_pass | apply k_hit | apply k_miss rfl | apply k_out | apply k_turned | refine x_text fun K' hK => ?_) | ((with_reducible apply o_nil); refine hK _ _ _ ?_; clear hK) | fail | ((first | ((with_reducible apply o_pure w_none); (case hp => exact rfl); (case' he => intro h n)) | (with_reducible first | apply o_eff w_none | apply o_guard rfl | apply x_cond | apply k_e1 rfl | apply k_e2 rfl | apply k_e0 rfl | apply k_e3 rfl | apply k_e4 rfl)); (case he => (simp (disch := first | assumption | omega | rfl | decide) only [go_sem, seval, tys, c0] <;> rfl)); (try (case hok => first | exact rfl | exact ok_w (by omega) rfl)); all_goals (try (intro hb; (try (simp only [hbs, reduceCtorEq] at hb)); try (exfalso; omega)))) | ((with_reducible apply o_undef rfl); (case hb => (simp (disch := first | assumption | omega | rfl | decide) only [go_sem, seval, tys]))))
      refine x_loopV [8, 9, 38, 39, 40, 41, 42, 43, 44, 45, 46, 47] [8, 9] (fun m vs h4 n4 => ∃ (O4 : Value) (b : Int), m = (p.1 - b).toNat ∧ vs = [O4, .int .i64 b] ∧ n2 + 1 ≤ n4 ∧ a ≤ b ∧ (b ≤ p.1 ∨ b = a) ∧ RdH h4 n4 (some ⟨n, 0, none⟩) (ev (eRow 1048576 T)) ∧ rowOf h4 R = some (57, false, pv all) ∧ rowOf h4 n2 = some (57, false, [.int .i64 p.1, .int .i64 p.2]) ∧ Blk O4 n2 ∧ OwnI (acc ++ upto a b) O4 h4 N n4) (p.1 - a).toNat rfl (by omega) ?_ ?_
      · refine ⟨O, a, rfl, (by simp (disch := first | assumption | omega | rfl | decide) only [go_sem, seval, tys] <;> rfl), by omega, by omega, .inr rfl, (hE3.ne (by omega) _).more (by omega), by rw [rowOf_ne _ _ (by omega)]; exact qR, rowOf_same _ _ _ _ _, ?_, ?_⟩
        · rcases hO with ⟨-, rfl⟩ | ⟨-, id5, j1, j2, rfl, -⟩
          · intro len c hh; cases hh
          · intro len c hh
            injection hh with hh
            injection hh with hh
            injection hh with hh
            omega
        · rw [upto_nil (Int.le_refl a), List.append_nil]
          rcases hO with ⟨hp0, rfl⟩ | ⟨hp0, id5, j1, j2, rfl, j3⟩
          · exact .inl ⟨hp0, rfl⟩
          · exact .inr ⟨hp0, id5, j1, by omega, rfl, by rw [rowOf_ne _ _ (by omega)]; exact j3⟩
      · rintro m fr _ h4 n4 ⟨O4, b, rfl, rfl, hn4, hab, hbp, hE4, qR4, qt, hbl, hO4⟩
        have c1 := fun o => cellAt_row (off := o) qt
        have hll : ((upto a b).length : Int) ≤ 300 ∨ True := .inr trivial
        have hul : (upto a b).length = (b - a).toNat := upto_length a b
        by_cases hbl2 : b < p.1
        · rcases hO4 with ⟨hp0, rfl⟩ | ⟨hp0, id5, j1, j2, rfl, j3⟩
          · (repeat' first | (with_reducible first | apply x_seq | apply k_then | apply x_block | apply x_skip | apply x_ret | apply x_exit | apply x_label | apply k_pass | apply k_hit | apply k_miss rfl | apply k_out | apply k_turned | refine x_text fun K' hK => ?_) | ((with_reducible apply o_nil); refine hK _ _ _ ?_; clear hK) | ((with_reducible apply o_ap0 (t := 31) apT31 w_none); (case hs => (simp (disch := first | assumption | omega | rfl | decide) only [go_sem, seval, tys] <;> rfl)); (case hy => (simp (disch := first | assumption | omega | rfl | decide) only [go_sem, seval, tys] <;> rfl)); (case hsrc => exact src_row (rowOf_same _ _ _ _ _) rfl); (case hc => exact rfl); (case hm => omega); (case h0 => omega)) | ((first | ((with_reducible apply o_pure w_none); (case hp => exact rfl); (case' he => intro h n)) | (with_reducible first | apply o_eff w_none | apply o_guard rfl | apply x_cond | apply k_e1 rfl | apply k_e2 rfl | apply k_e0 rfl | apply k_e3 rfl | apply k_e4 rfl)); (case he => (simp (disch := first | assumption | omega | rfl | decide) only [go_sem, seval, tys, c1] <;> rfl)); (try (case hok => first | exact rfl | exact ok_w (by omega) rfl)); all_goals (try (intro hb; (try (simp only [hbs, reduceCtorEq] at hb)); try (exfalso; omega)))) | ((with_reducible apply o_undef rfl); (case hb => (simp (disch := first | assumption | omega | rfl | decide) only [go_sem, seval, tys]))))
            refine k_round (p.1 - (b + 1)).toNat (by omega) ⟨.slice (some ⟨n4 + 1, 0, none⟩) 1 1, b + 1, rfl, (by simp (disch := first | assumption | omega | rfl | decide) only [go_sem, seval, tys] <;> rfl), by omega, by omega, by omega, ((hE4.ne (by omega) _).ne (by omega) _).more (by omega), by rw [rowOf_ne _ _ (by omega), rowOf_ne _ _ (by omega)]; exact qR4, by rw [rowOf_ne _ _ (by omega), rowOf_ne _ _ (by omega)]; exact qt, blk_new (by omega), .inr ⟨?_, n4 + 1, by omega, by omega, ?_, ?_⟩⟩
            · rw [upto_succ hab, ← List.append_assoc, hp0]; simp
            · rw [upto_succ hab, ← List.append_assoc, hp0]; rfl
            · rw [upto_succ hab, ← List.append_assoc, hp0]; exact rowOf_same _ _ _ _ _
          · have w4 := rwOf_row j3
            have hne : id5 ≠ n2 := fun e => hbl _ _ (by rw [e])
            have hlen5 : (acc ++ upto a b).length = acc.length + (b - a).toNat := by rw [List.length_append, hul]
            have htk5 : (iv (acc ++ upto a b)).take ((acc ++ upto a b).length) = iv (acc ++ upto a b) := List.take_of_length_le (by rw [iv_length]; omega)
            (repeat' first | (with_reducible first | apply x_seq | apply k_then | apply x_block | apply x_skip | apply x_ret | apply x_exit | apply x_label | apply k_pass | apply k_hit | apply k_miss rfl | apply k_out | apply k_turned | refine x_text fun K' hK => ?_) | ((with_reducible apply o_nil); refine hK _ _ _ ?_; clear hK) | ((with_reducible apply o_apR (t := 31) apT31 w_none); (case hs => (simp (disch := first | assumption | omega | rfl | decide) only [go_sem, seval, tys, w4] <;> rfl)); (case hy => (simp (disch := first | assumption | omega | rfl | decide) only [go_sem, seval, tys, w4] <;> rfl)); (case hsrc => exact src_row (rowOf_same _ _ _ _ _) rfl); (case hr => (simp (disch := first | assumption | omega | rfl | decide) only [go_sem, seval, tys, w4] <;> rfl)); (case hc => exact rfl); (case hm => omega); (case hli => omega); (case hln => omega); (case hcs => rw [iv_length]; omega)) | ((first | ((with_reducible apply o_pure w_none); (case hp => exact rfl); (case' he => intro h n)) | (with_reducible first | apply o_eff w_none | apply o_guard rfl | apply x_cond | apply k_e1 rfl | apply k_e2 rfl | apply k_e0 rfl | apply k_e3 rfl | apply k_e4 rfl)); (case he => (simp (disch := first | assumption | omega | rfl | decide) only [go_sem, seval, tys, c1, w4] <;> rfl)); (try (case hok => first | exact rfl | exact ok_w (by omega) rfl)); all_goals (try (intro hb; (try (simp only [hbs, reduceCtorEq] at hb)); try (exfalso; omega)))) | ((with_reducible apply o_undef rfl); (case hb => (simp (disch := first | assumption | omega | rfl | decide) only [go_sem, seval, tys]))))
            refine k_round (p.1 - (b + 1)).toNat (by omega) ⟨.slice (some ⟨n4 + 1, 0, none⟩) ((acc ++ upto a b).length + 1) ((acc ++ upto a b).length + 1), b + 1, rfl, (by simp (disch := first | assumption | omega | rfl | decide) only [go_sem, seval, tys] <;> rfl), by omega, by omega, by omega, (((hE4.ne (by omega) _).ne (by omega) _).ne (by omega) _).more (by omega), by rw [rowOf_ne _ _ (by omega), rowOf_ne _ _ (by omega), rowOf_ne _ _ (by omega)]; exact qR4, by rw [rowOf_ne _ _ (by omega), rowOf_ne _ _ (by omega), rowOf_ne _ _ (by omega)]; exact qt, blk_new (by omega), .inr ⟨?_, n4 + 1, by omega, by omega, ?_, ?_⟩⟩
            · rw [upto_succ hab, ← List.append_assoc]; simp
            · rw [upto_succ hab, ← List.append_assoc, show (acc ++ upto a b ++ [b]).length = (acc ++ upto a b).length + 1 from by rw [List.length_append]; rfl]
            · rw [upto_succ hab, ← List.append_assoc, iv_app1]
              first | (simp (disch := first | assumption | omega | rfl | decide) only [go_sem, seval, tys, htk5]; done) | (simp (disch := first | assumption | omega | rfl | decide) only [go_sem, seval, tys, htk5]; exact rfl)
        · have hbm : b = max a p.1 := by omega
          have hup : upto a b = upto a p.1 := by
            rcases Int.le_total a p.1 with h1 | h1
            · rw [show b = p.1 from by omega]
            · rw [upto_nil (show b ≤ a by omega), upto_nil h1]
          rcases hpm.2.2 with hm1 | ⟨ht0, ht1, hs0, hs1⟩
          · rw [hm1] at c1
            (repeat' first | (with_reducible first | apply x_seq | apply k_then | apply x_block | apply x_skip | apply x_ret | apply x_exit | apply x_label | apply k_pass | apply k_hit | apply k_miss rfl | apply k_out | apply k_turned | refine x_text fun K' hK => ?_) | ((with_reducible apply o_nil); refine hK _ _ _ ?_; clear hK) | fail | ((first | ((with_reducible apply o_pure w_none); (case hp => exact rfl); (case' he => intro h n)) | (with_reducible first | apply o_eff w_none | apply o_guard rfl | apply x_cond | apply k_e1 rfl | apply k_e2 rfl | apply k_e0 rfl | apply k_e3 rfl | apply k_e4 rfl)); (case he => (simp (disch := first | assumption | omega | rfl | decide) only [go_sem, seval, tys, c1] <;> rfl)); (try (case hok => first | exact rfl | exact ok_w (by omega) rfl)); all_goals (try (intro hb; (try (simp only [hbs, reduceCtorEq] at hb)); try (exfalso; omega)))) | ((with_reducible apply o_undef rfl); (case hb => (simp (disch := first | assumption | omega | rfl | decide) only [go_sem, seval, tys]))))
            refine k_round (all.length - (q + 1)) (by omega) ⟨q + 1, O4, b, acc ++ upto a b, rfl, by omega, (by simp (disch := first | assumption | omega | rfl | decide) only [go_sem, seval, tys] <;> rfl), by omega, by omega, by omega, hE4, qR4, hO4, ?_, by rw [List.length_append, hul]; omega⟩
            rw [← hgap, hdr, hup, hbm, List.append_assoc]
            show _ = acc ++ (upto a p.1 ++ gaps S (max a p.1 + if 0 ≤ p.2 then S p.2 else 0) _)
            rw [hm1, if_neg (by decide), Int.add_zero]
          · obtain ⟨t, ht⟩ := Int.eq_ofNat_of_zero_le ht0
            rw [ht] at c1 ht1 hs0 hs1
            have ce := hE4.cellk (k := t * 2) (v := .int .i64 (S t)) (by rw [← lget_eq, ← hS]; exact (ev_get (E := eRow 1048576 T) (i := t) (by rw [eRow_length]; omega)).1)
            (repeat' first | (with_reducible first | apply x_seq | apply k_then | apply x_block | apply x_skip | apply x_ret | apply x_exit | apply x_label | apply k_pass | apply k_hit | apply k_miss rfl | apply k_out | apply k_turned | refine x_text fun K' hK => ?_) | ((with_reducible apply o_nil); refine hK _ _ _ ?_; clear hK) | fail | ((first | ((with_reducible apply o_pure w_none); (case hp => exact rfl); (case' he => intro h n)) | (with_reducible first | apply o_eff w_none | apply o_guard rfl | apply x_cond | apply k_e1 rfl | apply k_e2 rfl | apply k_e0 rfl | apply k_e3 rfl | apply k_e4 rfl)); (case he => (simp (disch := first | assumption | omega | rfl | decide) only [go_sem, seval, tys, c1, ce] <;> rfl)); (try (case hok => first | exact rfl | exact ok_w (by omega) rfl)); all_goals (try (intro hb; (try (simp only [hbs, reduceCtorEq] at hb)); try (exfalso; omega)))) | ((with_reducible apply o_undef rfl); (case hb => (simp (disch := first | assumption | omega | rfl | decide) only [go_sem, seval, tys]))))
            refine k_round (all.length - (q + 1)) (by omega) ⟨q + 1, O4, b + S t, acc ++ upto a b, rfl, by omega, (by simp (disch := first | assumption | omega | rfl | decide) only [go_sem, seval, tys] <;> rfl), by omega, by omega, by omega, hE4, qR4, hO4, ?_, by rw [List.length_append, hul]; omega⟩
            rw [← hgap, hdr, hup, hbm, List.append_assoc]
            show _ = acc ++ (upto a p.1 ++ gaps S (max a p.1 + if 0 ≤ p.2 then S p.2 else 0) _)
            rw [ht, if_pos (by omega)]
    · obtain rfl : q = all.length := by omega
      rw [List.drop_length] at hgap
      have hacc : acc = gaps S 0 all := by rw [← hgap]; exact (List.append_nil _).symm
      subst hacc
      rcases hO with ⟨hp0, rfl⟩ | ⟨hp0, id5, j1, j2, rfl, j3⟩
      · (repeat' first | (with_reducible first | apply x_seq | apply k_then | apply x_block | apply x_skip | apply x_ret | apply x_exit | apply x_label | apply k_pass | apply k_hit | apply k_miss rfl | apply k_out | apply k_turned | refine x_text fun K' hK => ?_) | ((with_reducible apply o_nil); refine hK _ _ _ ?_; clear hK) | fail | ((first | ((with_reducible apply o_pure w_none); (case hp => exact rfl); (case' he => intro h n)) | (with_reducible first | apply o_eff w_none | apply o_guard rfl | apply x_cond | apply k_e1 rfl | apply k_e2 rfl | apply k_e0 rfl | apply k_e3 rfl | apply k_e4 rfl)); (case he => (simp (disch := first | assumption | omega | rfl | decide) only [go_sem, seval, tys] <;> rfl)); (try (case hok => first | exact rfl | exact ok_w (by omega) rfl)); all_goals (try (intro hb; (try (simp only [hbs, reduceCtorEq] at hb)); try (exfalso; omega)))) | ((with_reducible apply o_undef rfl); (case hb => (simp (disch := first | assumption | omega | rfl | decide) only [go_sem, seval, tys]))))
        exact sw_flat rfl rfl ⟨_, rfl, .inl ⟨hp0, rfl, rfl, rfl⟩⟩
      · (repeat' first | (with_reducible first | apply x_seq | apply k_then | apply x_block | apply x_skip | apply x_ret | apply x_exit | apply x_label | apply k_pass | apply k_hit | apply k_miss rfl | apply k_out | apply k_turned | refine x_text fun K' hK => ?_) | ((with_reducible apply o_nil); refine hK _ _ _ ?_; clear hK) | fail | ((first | ((with_reducible apply o_pure w_none); (case hp => exact rfl); (case' he => intro h n)) | (with_reducible first | apply o_eff w_none | apply o_guard rfl | apply x_cond | apply k_e1 rfl | apply k_e2 rfl | apply k_e0 rfl | apply k_e3 rfl | apply k_e4 rfl)); (case he => (simp (disch := first | assumption | omega | rfl | decide) only [go_sem, seval, tys] <;> rfl)); (try (case hok => first | exact rfl | exact ok_w (by omega) rfl)); all_goals (try (intro hb; (try (simp only [hbs, reduceCtorEq] at hb)); try (exfalso; omega)))) | ((with_reducible apply o_undef rfl); (case hb => (simp (disch := first | assumption | omega | rfl | decide) only [go_sem, seval, tys]))))
        refine sw_row (m := id5) (by simp (disch := first | assumption | omega) only [idV_tuple, idV_agg, idV_int, idV_bool, idV_str, idV_slice, idV_nil, idV1_agg, idV1_int, idV1_bool, idV1_str, idV1_slice, idV1_nil, idA_int, idA_bool, idA_str, idA_slice, idA_nil, idA_old, idV_old, idV1_old, ble_t, ble_f, cond_true, cond_false, List.flatMap_cons, List.flatMap_nil, List.append_nil, List.nil_append, List.cons_append] <;> rfl) rfl (by omega) j3 (iv_idA _ _) (by simp only [reV_tuple, reV_agg, reV_slice, reV1_agg, reV1_int, reV1_bool, reV1_str, reV1_slice, reV1_snil, reA_int, reA_bool, reA_str, reA_slice, reA_snil, reN_hit, List.map_cons, List.map_nil] <;> rfl) ?_
        exact ⟨_, rfl, .inr ⟨hp0, rfl, rfl, rfl⟩⟩
end Go.Proofs.Ytgdokjfjmcleeaa.Ce
namespace Go.Proofs.Ytgdokjfjmcleeaa.Ce
open Go.RowKit
set_option linter.unusedVariables false
set_option linter.unusedSimpArgs false


set_option maxRecDepth 100000
set_option maxHeartbeats 2000000

theorem upto_sorted (a b : Int) : (upto a b).Pairwise (· < ·) := by
  unfold upto
  rw [List.pairwise_map]
  exact List.pairwise_lt_range.imp fun h => by omega
theorem upto_iff {a b x : Int} : x ∈ upto a b ↔ a ≤ x ∧ x < b := by
  refine ⟨upto_mem, fun hx => ?_⟩
  unfold upto
  exact List.mem_map.2 ⟨(x - a).toNat, List.mem_range.2 (by omega), by omega⟩
/-- padding: what lies in no cell -/
theorem padT_eq {T : List Tp} (hC : ChkT T) {j : Nat} (h1 : j < T.length) (hb : ((eRow 1048576 T).at_ (j : Int)).1 ≤ 256) : padT T j = (upto 0 (szT 1048576 T j)).filter fun x => !inC (szT 1048576 T) (cellsT T j) x := by
  obtain ⟨hasc, hty, -⟩ := cellsT_bnd hC h1 hb
  unfold padT
  rw [gaps_eq hasc fun p hp => (hty p hp).1]
theorem inC_tk {S : Int → Int} {ps : List (Int × Int)} {q : Nat} (hq : q < ps.length) (x : Int) : inC S (ps.take (q + 1)) x = (inC S (ps.take q) x || (decide ((ps[q]).1 ≤ x) && decide (x < (ps[q]).1 + S (ps[q]).2))) := by
  unfold inC
  rw [List.take_succ_eq_append_getElem hq, List.any_append, List.any_cons, List.any_nil, Bool.or_false]
/-- 1 or 0 -/
def b2i (b : Bool) : Int := bif b then 1 else 0
variable (k d cl : Nat) (h : Hp) (n : Nat)
theorem fit_ev (hk : 30000 ≤ k) (A : Option Addr) (T : List Tp) (c : Nat) (hT : TabH h n A T) (i : Int) (hm : T.length ≤ 9223372036854775807) (hS0 : ∀ t ∈ T, t.fs.length ≤ 9223372036854775807) :
    Sp Try.prog (acall Try.prog WW k (d + 9)) cl 32 [.slice A T.length c, .int .i64 i] h n fun v h' n' => ∃ B : Bool, v = .bool B ∧ (B = true → (∀ t ∈ T, t.fs.length ≤ 20) ∧ (szR 1000000 T i).2.2 = 0) ∧ h' = h ∧ n' = n := by
  obtain ⟨v, h2, n2, ⟨B, rfl, hg, rfl, rfl⟩, hB⟩ := sp_fix (tgreat_ev k (d + 7) n h n hk A T c hT hm hS0)
  have hB2 : Sp Try.prog (acall Try.prog WW k (d + 8)) n2 16 [.slice A T.length c] h2 n2 fun v3 h3 n3 => v3 = .bool B ∧ h2 = h3 ∧ n2 = n3 := hB.mono fun _ _ _ hp => ⟨hp.1, hp.2.1.symm, hp.2.2.symm⟩
  rcases B with _ | _
  · have hS : ∀ t ∈ T, t.fs.length ≤ 20000 := fun t ht => by have := (hg rfl).2 t ht; omega
    have hA := rask5_ev k d n2 h2 n2 hk A T c hT hS hm i
    obtain ⟨e, hee⟩ : ∃ e, (szR 1000000 T i).2.2 = e := ⟨_, rfl⟩
    rw [hee] at hA ⊢
    refine enter Try.func32 (by kernel_rfl) rfl (by kernel_rfl) rfl rfl rfl ?_
    by_cases he : e = 0
    · subst he
      (repeat' first | (with_reducible first | apply x_seq | apply k_then | apply x_block | apply x_skip | apply x_ret | apply x_exit | apply x_label | apply k_pass | apply k_hit | apply k_miss rfl | apply k_out | apply k_turned | refine x_text fun K' hK => ?_) | ((with_reducible apply o_nil); refine hK _ _ _ ?_; clear hK) | ((with_reducible apply o_callF (g := 16) w_none); (case ha => (simp (disch := first | assumption | omega | rfl | decide) only [go_sem, seval, tys] <;> rfl)); (case hs => (exact hB2)); (case' hk => rintro _ h' n' ⟨rfl, rfl, rfl⟩)) | ((with_reducible apply o_callF (g := 57) w_none); (case ha => (simp (disch := first | assumption | omega | rfl | decide) only [go_sem, seval, tys] <;> rfl)); (case hs => (exact hA)); (case' hk => rintro _ h' n' ⟨rfl, rfl, rfl⟩)) | ((first | ((with_reducible apply o_pure w_none); (case hp => exact rfl); (case' he => intro h n)) | (with_reducible first | apply o_eff w_none | apply o_guard rfl | apply x_cond | apply k_e1 rfl | apply k_e2 rfl | apply k_e0 rfl | apply k_e3 rfl | apply k_e4 rfl)); (case he => (simp (disch := first | assumption | omega | rfl | decide) only [go_sem, seval, tys] <;> rfl)); (try (case hok => first | exact rfl | exact ok_w (by omega) rfl)); all_goals (try (intro hb; (try (simp only [hbs, reduceCtorEq] at hb)); try (exfalso; omega)))) | ((with_reducible apply o_undef rfl); (case hb => (simp (disch := first | assumption | omega | rfl | decide) only [go_sem, seval, tys]))))
      all_goals exact sw_flat rfl rfl ⟨true, rfl, fun _ => ⟨(hg rfl).2, rfl⟩, rfl, rfl⟩
    · have hbe : (e == 0) = false := by rw [beq_eq_false_iff_ne]; exact he
      (repeat' first | (with_reducible first | apply x_seq | apply k_then | apply x_block | apply x_skip | apply x_ret | apply x_exit | apply x_label | apply k_pass | apply k_hit | apply k_miss rfl | apply k_out | apply k_turned | refine x_text fun K' hK => ?_) | ((with_reducible apply o_nil); refine hK _ _ _ ?_; clear hK) | ((with_reducible apply o_callF (g := 16) w_none); (case ha => (simp (disch := first | assumption | omega | rfl | decide) only [go_sem, seval, tys] <;> rfl)); (case hs => (exact hB2)); (case' hk => rintro _ h' n' ⟨rfl, rfl, rfl⟩)) | ((with_reducible apply o_callF (g := 57) w_none); (case ha => (simp (disch := first | assumption | omega | rfl | decide) only [go_sem, seval, tys] <;> rfl)); (case hs => (exact hA)); (case' hk => rintro _ h' n' ⟨rfl, rfl, rfl⟩)) | ((first | ((with_reducible apply o_pure w_none); (case hp => exact rfl); (case' he => intro h n)) | (with_reducible first | apply o_eff w_none | apply o_guard rfl | apply x_cond | apply k_e1 rfl | apply k_e2 rfl | apply k_e0 rfl | apply k_e3 rfl | apply k_e4 rfl)); (case he => (simp (disch := first | assumption | omega | rfl | decide) only [go_sem, seval, tys, hbe] <;> rfl)); (try (case hok => first | exact rfl | exact ok_w (by omega) rfl)); all_goals (try (intro hb; (try (simp only [hbs, reduceCtorEq] at hb)); try (exfalso; omega)))) | ((with_reducible apply o_undef rfl); (case hb => (simp (disch := first | assumption | omega | rfl | decide) only [go_sem, seval, tys]))))
      all_goals exact sw_flat rfl rfl ⟨false, rfl, fun hh => (by cases hh), rfl, rfl⟩
  · refine enter Try.func32 (by kernel_rfl) rfl (by kernel_rfl) rfl rfl rfl ?_
    (repeat' first | (with_reducible first | apply x_seq | apply k_then | apply x_block | apply x_skip | apply x_ret | apply x_exit | apply x_label | apply k_pass | apply k_hit | apply k_miss rfl | apply k_out | apply k_turned | refine x_text fun K' hK => ?_) | ((with_reducible apply o_nil); refine hK _ _ _ ?_; clear hK) | ((with_reducible apply o_callF (g := 16) w_none); (case ha => (simp (disch := first | assumption | omega | rfl | decide) only [go_sem, seval, tys] <;> rfl)); (case hs => (exact hB2)); (case' hk => rintro _ h' n' ⟨rfl, rfl, rfl⟩)) | ((first | ((with_reducible apply o_pure w_none); (case hp => exact rfl); (case' he => intro h n)) | (with_reducible first | apply o_eff w_none | apply o_guard rfl | apply x_cond | apply k_e1 rfl | apply k_e2 rfl | apply k_e0 rfl | apply k_e3 rfl | apply k_e4 rfl)); (case he => (simp (disch := first | assumption | omega | rfl | decide) only [go_sem, seval, tys] <;> rfl)); (try (case hok => first | exact rfl | exact ok_w (by omega) rfl)); all_goals (try (intro hb; (try (simp only [hbs, reduceCtorEq] at hb)); try (exfalso; omega)))) | ((with_reducible apply o_undef rfl); (case hb => (simp (disch := first | assumption | omega | rfl | decide) only [go_sem, seval, tys]))))
    all_goals exact sw_flat rfl rfl ⟨false, rfl, fun hh => (by cases hh), rfl, rfl⟩
end Go.Proofs.Ytgdokjfjmcleeaa.Ce
