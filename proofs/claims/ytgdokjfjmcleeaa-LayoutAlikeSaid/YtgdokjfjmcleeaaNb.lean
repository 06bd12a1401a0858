/- Lists of parts: symbolic runs. The cells of a type, in plain Lean. The cells of a type by two limits, in plain Lean. Cells ascend and do not overlap; the gaps between them; in plain Lean. Lists of cells under way. -/
import Derived.Test.YtgdokjfjmcleeaaMg
import Derived.Test.YtgdokjfjmcleeaaMb
import Derived.Test.YtgdokjfjmcleeaaMf
namespace Go.Proofs.Ytgdokjfjmcleeaa.Ce
open Go.RowKit
set_option linter.unusedVariables false
set_option linter.unusedSimpArgs false


set_option maxRecDepth 100000
set_option maxHeartbeats 2000000

/-- a part: where it lies, its type -/
def pcell (p : Int × Int) : List Value := [.int .i64 p.1, .int .i64 p.2]
def pv (ps : List (Int × Int)) : List Value := ps.flatMap pcell
theorem pcell_length (p : Int × Int) : (pcell p).length = 2 := rfl
theorem pv_length (ps : List (Int × Int)) : (pv ps).length = ps.length * 2 := rows_length pcell pcell_length ps
theorem pv_app (ps qs : List (Int × Int)) : pv (ps ++ qs) = pv ps ++ pv qs := by simp [pv]
theorem pv_idA (n : Nat) (ps : List (Int × Int)) : ∀ v ∈ pv ps, idA n v = [] := by
  intro v hv
  obtain ⟨a, -, h⟩ := List.mem_flatMap.1 hv
  unfold pcell at h
  simp only [List.mem_cons, List.not_mem_nil, or_false] at h
  rcases h with rfl | rfl <;> rfl
theorem pv_cok (ps : List (Int × Int)) : (pv ps).all cok = true := by
  rw [List.all_eq_true]
  intro v hv
  obtain ⟨a, -, h⟩ := List.mem_flatMap.1 hv
  unfold pcell at h
  simp only [List.mem_cons, List.not_mem_nil, or_false] at h
  rcases h with rfl | rfl <;> rfl
theorem prt_at {h : Hp} {B : Nat} {A : Option Addr} {ps : List (Int × Int)} (hr : RdH h B A (pv ps)) {i : Nat} (hi : i < ps.length) : ∃ id off, A = some ⟨id, off, none⟩ ∧ id < B ∧ cellsAt h id (off + i * 2) 2 = some [.int .i64 ps[i].1, .int .i64 ps[i].2] ∧
    cellAt h id (off + i * 2) = some (.int .i64 ps[i].1) ∧ cellAt h id (off + i * 2 + 1) = some (.int .i64 ps[i].2) := by
  obtain ⟨id, off, e, hid, h1, h2⟩ := RdH.rows pcell_length (by omega) hr (by omega)
  exact ⟨id, off, e, hid, h1 i hi, h2 i 0 hi (by omega), h2 i 1 hi (by omega)⟩
theorem ne_pself {h : Hp} {n : Nat} {b a : Int} : mBin Try.prog .neq 57 (.agg ⟨[.int .i64 b, .int .i64 a]⟩) (.agg ⟨[.int .i64 b, .int .i64 a]⟩) h n = some ⟨.bool false, h, n, [], []⟩ := by
  have hs : prun Try.prog (Op.equal 57 (.agg ⟨[.int .i64 b, .int .i64 a]⟩) (.agg ⟨[.int .i64 b, .int .i64 a]⟩)) = some true := by
    show prun Try.prog (Op.equalIn (9999 + 1) _ _ _) = _
    rw [prun_struct 9999 _ _ _ _ Try.underlying57 (by kernel_rfl)]
    refine Eq.trans (b := some (b == b && (a == a && true))) (eqF_cons (by decide) (by kernel_rfl) (by kernel_rfl) (prun_int (d := 9998) (k := .i64) Try.underlying3) (eqF_cons (by decide) (by kernel_rfl) (by kernel_rfl) (prun_int (d := 9998) (k := .i64) Try.underlying3) eqF_nil)) ?_
    simp only [beq_self_eq_true, Bool.and_self, Bool.and_true]
  unfold mBin
  have ha : abin Try.prog .neq 57 (.agg ⟨[.int .i64 b, .int .i64 a]⟩) (.agg ⟨[.int .i64 b, .int .i64 a]⟩) = some (.bool false) := by
    rw [abin_aggn, if_neg (by rw [show (Program.eqGuardType Try.prog (Program.depth Try.prog) 57) = false from by kernel_rfl]; exact Bool.false_ne_true), hs]
    rfl
  rw [ha]
  rfl
variable (k d cl : Nat) (h : Hp) (n : Nat)
theorem sameparts_ev (hk : 30000 ≤ k) (A1 A2 : Option Addr) (ps : List (Int × Int)) (m m2 c1 c2 : Nat) (hm : m = ps.length) (hm2 : m2 = ps.length) (h1 : RdH h n A1 (pv ps)) (h2 : RdH h n A2 (pv ps)) (hl : ps.length ≤ 20000) :
    Sp Try.prog (acall Try.prog WW k (d + 1)) cl 31 [.slice A1 m c1, .slice A2 m2 c2] h n fun v h' n' => v = .bool true ∧ h' = h ∧ n' = n := by
  subst hm; subst hm2
  refine enter Try.func31 (by kernel_rfl) rfl (by kernel_rfl) rfl rfl rfl ?_
  (repeat' first | (with_reducible first | apply x_seq | apply k_then | apply x_block | apply x_skip | apply x_ret | apply x_exit | apply x_label | apply k_pass | apply k_hit | apply k_miss rfl | apply k_out | apply k_turned | refine x_text fun K' hK => ?_) | ((with_reducible apply o_nil); refine hK _ _ _ ?_; clear hK) | fail | ((first | ((with_reducible apply o_pure w_none); (case hp => exact rfl); (case' he => intro h n)) | (with_reducible first | apply o_eff w_none | apply o_guard rfl | apply x_cond | apply k_e1 rfl | apply k_e2 rfl | apply k_e0 rfl | apply k_e3 rfl | apply k_e4 rfl)); (case he => (simp (disch := first | assumption | omega | rfl | decide) only [go_sem, seval, tys] <;> rfl)); (try (case hok => first | exact rfl | exact ok_w (by omega) rfl)); all_goals (try (intro hb; (try (simp only [hbs, reduceCtorEq] at hb)); try (exfalso; omega)))) | ((with_reducible apply o_undef rfl); (case hb => (simp (disch := first | assumption | omega | rfl | decide) only [go_sem, seval, tys]))))
  all_goals try omega
  refine x_loopF [4, 5, 11, 12, 13, 14, 15, 16, 17, 18, 19, 20, 21, 22, 23, 24, 25] [5] (fun m vs => ∃ q : Nat, m = ps.length - q ∧ q ≤ ps.length ∧ vs = [.int .i64 q]) ps.length rfl (by omega) ⟨0, rfl, by omega, by simp (disch := first | assumption | omega | rfl | decide) only [go_sem, seval, tys] <;> rfl⟩ ?_
  rintro m g _ ⟨q, rfl, hq, rfl⟩
  by_cases hql : q < ps.length
  · obtain ⟨i1, o1, hA1, hi1, e1, -, -⟩ := prt_at h1 hql
    obtain ⟨i2, o2, hA2, hi2, e2, -, -⟩ := prt_at h2 hql
    subst hA1; subst hA2
    (repeat' first | (with_reducible first | apply x_seq | apply k_then | apply x_block | apply x_skip | apply x_ret | apply x_exit | apply x_label | apply k_pass | apply k_hit | apply k_miss rfl | apply k_out | apply k_turned | refine x_text fun K' hK => ?_) | ((with_reducible apply o_nil); refine hK _ _ _ ?_; clear hK) | (with_reducible refine x_drawnD (id := 6) [(3, 7)] (by kernel_rfl) fun K' hK => ?_) | ((with_reducible apply d_nil); (case hp => (simp (disch := omega) only [pairsOk, List.all_cons, List.all_nil, List.reverse_cons, List.reverse_nil, List.nil_append, List.cons_append, lget_zero, lget_succ, apartB, touches, made_mm, made_lt, made_ge, all_true, ble_t, ble_f, blt_t, blt_f, beq_f, List.contains_cons, List.contains_nil, Bool.and_true, Bool.true_and, Bool.and_false, Bool.false_and, Bool.or_false, Bool.false_or, Bool.not_false, Bool.not_true, beq_self_eq_true])); (case' hx => (refine hK _ _ _ ?_; clear hK))) | ((with_reducible apply d_pure w_none); (case hp => exact rfl); (case hc => exact rfl); (case he => (intro h n; simp (disch := first | assumption | omega | rfl | decide) only [go_sem, seval, tys, e1, e2, ne_pself] <;> rfl))) | ((with_reducible apply d_eff w_none); (case hc => exact rfl); (case he => (simp (disch := first | assumption | omega | rfl | decide) only [go_sem, seval, tys, e1, e2, ne_pself] <;> rfl)); (case hok => first | exact rfl | exact ok_w (by omega) rfl)) | ((with_reducible apply d_guard rfl); (case hb => (simp (disch := first | assumption | omega | rfl | decide) only [go_sem, seval, tys, e1, e2, ne_pself] <;> rfl)); (case' h1 => intro hb; (try (simp only [hbs, reduceCtorEq] at hb)); try (exfalso; omega)); (case' h2 => intro hb; (try (simp only [hbs, reduceCtorEq] at hb)); try (exfalso; omega))) | ((first | ((with_reducible apply o_pure w_none); (case hp => exact rfl); (case' he => intro h n)) | (with_reducible first | apply o_eff w_none | apply o_guard rfl | apply x_cond | apply k_e1 rfl | apply k_e2 rfl | apply k_e0 rfl | apply k_e3 rfl | apply k_e4 rfl)); (case he => (simp (disch := first | assumption | omega | rfl | decide) only [go_sem, seval, tys, e1, e2, ne_pself] <;> rfl)); (try (case hok => first | exact rfl | exact ok_w (by omega) rfl)); all_goals (try (intro hb; (try (simp only [hbs, reduceCtorEq] at hb)); try (exfalso; omega)))) | ((with_reducible apply o_undef rfl); (case hb => (simp (disch := first | assumption | omega | rfl | decide) only [go_sem, seval, tys]))))
    refine k_round (ps.length - (q + 1)) (by omega) ⟨⟨rfl, rfl⟩, q + 1, rfl, by omega, by simp (disch := first | assumption | omega | rfl | decide) only [go_sem, seval, tys] <;> rfl⟩
  · obtain rfl : q = ps.length := by omega
    (repeat' first | (with_reducible first | apply x_seq | apply k_then | apply x_block | apply x_skip | apply x_ret | apply x_exit | apply x_label | apply k_pass | apply k_hit | apply k_miss rfl | apply k_out | apply k_turned | refine x_text fun K' hK => ?_) | ((with_reducible apply o_nil); refine hK _ _ _ ?_; clear hK) | fail | ((first | ((with_reducible apply o_pure w_none); (case hp => exact rfl); (case' he => intro h n)) | (with_reducible first | apply o_eff w_none | apply o_guard rfl | apply x_cond | apply k_e1 rfl | apply k_e2 rfl | apply k_e0 rfl | apply k_e3 rfl | apply k_e4 rfl)); (case he => (simp (disch := first | assumption | omega | rfl | decide) only [go_sem, seval, tys] <;> rfl)); (try (case hok => first | exact rfl | exact ok_w (by omega) rfl)); all_goals (try (intro hb; (try (simp only [hbs, reduceCtorEq] at hb)); try (exfalso; omega)))) | ((with_reducible apply o_undef rfl); (case hb => (simp (disch := first | assumption | omega | rfl | decide) only [go_sem, seval, tys]))))
    all_goals exact sw_flat rfl rfl ⟨rfl, rfl, rfl⟩
theorem sized_ev (hk : 30000 ≤ k) (A : Option Addr) (T : List Tp) (c : Nat) (hT : TabH h n A T) (hl : T.length ≤ 32) (hF : Fine T) (i : Int) (h0 : 0 ≤ i) (hi : i < T.length) :
    Sp Try.prog (acall Try.prog WW k (d + 4)) cl 84 [.slice A T.length c, .int .i64 i] h n fun v h' n' => v = .int .i64 ((eRow 1000000 T).at_ i).1 ∧ h' = h ∧ n' = n := by
  obtain ⟨j, rfl⟩ := Int.eq_ofNat_of_zero_le h0
  have hg := (sz_get (E := eRow 1000000 T) (j := j) (by rw [eRow_length]; omega)).1
  refine enter Try.func84 (by kernel_rfl) rfl (by kernel_rfl) rfl rfl rfl ?_
  (repeat' first | (with_reducible first | apply x_seq | apply k_then | apply x_block | apply x_skip | apply x_ret | apply x_exit | apply x_label | apply k_pass | apply k_hit | apply k_miss rfl | apply k_out | apply k_turned | refine x_text fun K' hK => ?_) | ((with_reducible apply o_nil); refine hK _ _ _ ?_; clear hK) | ((with_reducible apply o_callF (g := 58) w_none); (case ha => (simp (disch := first | assumption | omega | rfl | decide) only [go_sem, seval, tys] <;> rfl)); (case hs => ((with_reducible apply rsizes_ev (T := T)); (case hT => exact hT); (case hF => exact hF); (all_goals first | exact hk | omega))); (case' hk => rintro _ h' n' ⟨rfl, rfl, rfl⟩)) | ((first | ((with_reducible apply o_pure w_none); (case hp => exact rfl); (case' he => intro h n)) | (with_reducible first | apply o_eff w_none | apply o_guard rfl | apply x_cond | apply k_e1 rfl | apply k_e2 rfl | apply k_e0 rfl | apply k_e3 rfl | apply k_e4 rfl)); (case he => (simp (disch := first | assumption | omega | rfl | decide) only [go_sem, seval, tys, hg] <;> rfl)); (try (case hok => first | exact rfl | exact ok_w (by omega) rfl)); all_goals (try (intro hb; (try (simp only [hbs, reduceCtorEq] at hb)); try (exfalso; omega)))) | ((with_reducible apply o_undef rfl); (case hb => (simp (disch := first | assumption | omega | rfl | decide) only [go_sem, seval, tys]))))
  all_goals exact sw_flat rfl rfl ⟨rfl, rfl, rfl⟩
end Go.Proofs.Ytgdokjfjmcleeaa.Ce
namespace Go.Proofs.Ytgdokjfjmcleeaa.Ce
open Go.RowKit
set_option linter.unusedVariables false
set_option linter.unusedSimpArgs false
set_option maxHeartbeats 1000000

theorem eRow_pre (C : Int) {T : List Tp} {i : Nat} {j : Int} (h0 : 0 ≤ j) (h1 : j < i) : ∀ m, i + m ≤ T.length → (eRow C (T.take (i + m))).at_ j = (eRow C (T.take i)).at_ j
  | 0, _ => rfl
  | m + 1, hm => by
    rw [← Nat.add_assoc, eRow_take C (by omega), at_snoc_lt h0 (by rw [eRow_tlen C (by omega)]; omega)]
    exact eRow_pre C h0 h1 m (by omega)
theorem eRow_all (C : Int) {T : List Tp} {i : Nat} (hi : i ≤ T.length) {j : Int} (h0 : 0 ≤ j) (h1 : j < i) : (eRow C T).at_ j = (eRow C (T.take i)).at_ j := by
  have := eRow_pre C (T := T) h0 h1 (T.length - i) (by omega)
  rwa [show i + (T.length - i) = T.length from by omega, List.take_length] at this
theorem eOne_congr {C : Int} {E G : Ext} {m i : Nat} {t : Tp} (h : fineB m i t = true) (he : ∀ j : Int, 0 ≤ j → j < i → E.at_ j = G.at_ j) : eOne C E t = eOne C G t := by
  have hl : layR C E t.fs = layR C G t.fs := layR_congr t.fs fun f hf => by
    obtain ⟨q, hq, rfl⟩ := List.getElem_of_mem hf
    have := fine_fld h hq
    exact he _ this.1 this.2
  by_cases h6 : t.kd = 6
  · have ha := fine_arr h h6
    rw [eOne_6 h6, eOne_6 h6, he _ ha.1 ha.2.1]
  · unfold eOne
    rw [hl, if_neg h6, if_neg h6]
/-- a type's size and alignment, by the whole table -/
theorem eRow_at (C : Int) {T : List Tp} (hF : Fine T) {i : Nat} (hi : i < T.length) : (eRow C T).at_ (i : Int) = eOne C (eRow C T) T[i] := by
  have hl := eRow_tlen C (T := T) (i := i) (by omega)
  have e1 : (eRow C T).at_ (i : Int) = (eRow C (T.take (i + 1))).at_ (i : Int) := eRow_all C (by omega) (by omega) (by omega)
  have e2 : (i : Int) = ((eRow C (T.take i)).length : Int) := by omega
  rw [e1, eRow_take C hi]
  conv => lhs; arg 2; rw [e2]
  rw [at_snoc_eq]
  exact eOne_congr (hF i hi) fun j h0 h1 => (eRow_all C (by omega) h0 h1).symm
/-- the cells of type i at an offset -/
def cellsR (C : Int) (T : List Tp) : Nat → Int → Int → List (Int × Int)
  | 0, _, _ => []
  | f + 1, i, off =>
    match T[i.toNat]? with
    | none => []
    | some t =>
      if t.kd = 6 then (List.range t.ln.toNat).flatMap fun (j : Nat) => cellsR C T f t.el (off + j * ((eRow C T).at_ t.el).1)
      else if t.kd = 5 then (List.range t.fs.length).flatMap fun (j : Nat) => cellsR C T f (t.fs.getD j ([], 0)).2 (off + (layR C (eRow C T) t.fs).1.getD j 0)
      else [(off, i)]
theorem cellsR_at {C : Int} {T : List Tp} {f i : Nat} {off : Int} (hi : i < T.length) : cellsR C T (f + 1) i off =
      if (T[i]).kd = 6 then (List.range (T[i]).ln.toNat).flatMap fun (j : Nat) => cellsR C T f (T[i]).el (off + j * ((eRow C T).at_ (T[i]).el).1)
      else if (T[i]).kd = 5 then (List.range (T[i]).fs.length).flatMap fun (j : Nat) => cellsR C T f ((T[i]).fs.getD j ([], 0)).2 (off + (layR C (eRow C T) (T[i]).fs).1.getD j 0)
      else [(off, (i : Int))] := by
  conv => lhs; unfold cellsR
  rw [Int.toNat_natCast, List.getElem?_eq_getElem hi]
theorem flat_le {α : Type} {g : Nat → List α} {B : Nat} : ∀ m, (∀ j, j < m → (g j).length ≤ B) → ((List.range m).flatMap g).length ≤ m * B
  | 0, _ => by simp
  | m + 1, h => by
    have ih := flat_le m fun j hj => h j (by omega)
    have := h m (by omega)
    rw [List.range_succ, List.flatMap_append, List.length_append, List.flatMap_cons, List.flatMap_nil, List.append_nil, Nat.succ_mul]
    omega
theorem fields_le {α : Type} {C : Int} (hC : 256 < C) {E : Ext} {fs : List (List UInt8 × Int)} {g : Nat → List α} (ho : ∀ f ∈ fs, 0 ≤ (E.at_ f.2).1 ∧ Al (E.at_ f.2).2)
    (hg : ∀ q (hq : q < fs.length), (E.at_ (fs[q]).2).1 ≤ 256 → ((g q).length : Int) ≤ (E.at_ (fs[q]).2).1) : ∀ q, q ≤ fs.length → 0 ≤ (layR C E (fs.take q)).2.1 ∧ (256 < (layR C E (fs.take q)).2.1 ∨ (((List.range q).flatMap g).length : Int) ≤ (layR C E (fs.take q)).2.1)
  | 0, _ => ⟨Int.le_refl _, .inr (by simp [layR])⟩
  | q + 1, h => by
    obtain ⟨i0, ih⟩ := fields_le hC ho hg q (by omega)
    obtain ⟨o1, o2⟩ := ho fs[q] (List.getElem_mem _)
    have hb := upI_bnd o2 i0
    have hq := hg q (by omega)
    rw [layR_take C E (by omega), List.range_succ, List.flatMap_append, List.length_append, List.flatMap_cons, List.flatMap_nil, List.append_nil]
    unfold lStep
    dsimp only
    refine ⟨by omega, ?_⟩
    rcases ih with ih | ih
    · left; omega
    · by_cases hs : (E.at_ (fs[q]).2).1 ≤ 256
      · have := hq hs
        by_cases hcap : upI (layR C E (fs.take q)).2.1 (E.at_ (fs[q]).2).2 + (E.at_ (fs[q]).2).1 ≤ C
        · right; omega
        · left; omega
      · left; omega
/-- fewer cells than bytes -/
theorem cells_len {C : Int} (hC : 256 < C) (hC8 : C % 8 = 0) {T : List Tp} (hF : Fine T) : ∀ (f i : Nat) (off : Int), i < T.length → i < f → ((eRow C T).at_ (i : Int)).1 ≤ 256 → ((cellsR C T f i off).length : Int) ≤ ((eRow C T).at_ (i : Int)).1
  | 0, _, _, _, h, _ => absurd h (by omega)
  | f + 1, i, off, hi, hf, hs => by
    have hEok : ∀ p ∈ eRow C T, EOk C p := by have := eRow_ok (C := C) (by omega) hC8 hF T.length (Nat.le_refl _); rwa [List.take_length] at this
    have hfi := hF i hi
    have hk := fine_kd hfi
    have e := eRow_at C hF hi
    rw [cellsR_at hi]
    by_cases h6 : (T[i]).kd = 6
    · have ha := fine_arr hfi h6
      rw [if_pos h6]
      rw [eOne_6 h6] at e
      rw [e] at hs ⊢
      dsimp only at hs ⊢
      obtain ⟨x, hx⟩ := Int.eq_ofNat_of_zero_le ha.1
      have hxi : x < i := by omega
      have h0 := (Ext.at_mem hEok ha.1 (by rw [eRow_length]; omega)).1
      rw [hx] at hs h0 ⊢
      obtain ⟨s, hs2⟩ := Int.eq_ofNat_of_zero_le h0
      obtain ⟨l, hl⟩ := Int.eq_ofNat_of_zero_le (show 0 ≤ (T[i]).ln by omega)
      have hl1 : 1 ≤ l := by omega
      have hm : s ≤ l * s := Nat.le_mul_of_pos_left s (by omega)
      rw [hl, hs2, ← Int.natCast_mul] at hs ⊢
      have ih := fun off => cells_len hC hC8 hF f x off (by omega) (by omega) (by omega)
      have := flat_le (g := fun (j : Nat) => cellsR C T f (x : Int) (off + j * (s : Int))) (B := s) l fun j _ => by have := ih (off + j * (s : Int)); omega
      rw [Int.toNat_natCast]
      omega
    · rw [if_neg h6]
      by_cases h5 : (T[i]).kd = 5
      · rw [if_pos h5]
        rw [eOne_5 h5] at e
        rw [e] at hs ⊢
        dsimp only at hs ⊢
        have hfo : FOk C (eRow C T) (T[i]).fs := fun f hf => by
          obtain ⟨q, hq, rfl⟩ := List.getElem_of_mem hf
          have := fine_fld hfi hq
          exact Ext.at_mem hEok this.1 (by rw [eRow_length]; omega)
        have hok := layR_ok (by omega) hfo (T[i]).fs.length (Nat.le_refl _)
        rw [List.take_length] at hok
        have hb := upI_bnd hok.2.2 hok.1
        have := (fields_le (g := fun (j : Nat) => cellsR C T f ((T[i]).fs.getD j ([], 0)).2 (off + (layR C (eRow C T) (T[i]).fs).1.getD j 0)) hC (E := eRow C T) (fs := (T[i]).fs) (fun f hf => ⟨(hfo f hf).1, (hfo f hf).2.2⟩) (fun q hq hs => by
          have hx := fine_fld hfi hq
          obtain ⟨x, hx2⟩ := Int.eq_ofNat_of_zero_le hx.1
          rw [List.getD_eq_getElem?_getD, List.getElem?_eq_getElem hq, Option.getD_some]
          rw [hx2] at hs ⊢
          exact cells_len hC hC8 hF f x _ (by omega) (by omega) hs) (T[i]).fs.length (Nat.le_refl _)).2
        rw [List.take_length] at this
        omega
      · rw [if_neg h5]
        have h1 : 1 ≤ ((eRow C T).at_ (i : Int)).1 := by
          rw [e]
          by_cases h1 : (T[i]).kd = 1
          · rw [eOne_1 h1]; decide
          by_cases h2 : (T[i]).kd = 2 ∨ (T[i]).kd = 4
          · rw [eOne_24 h2]; decide
          by_cases h3 : (T[i]).kd = 3
          · rw [eOne_3 h3]; decide
          · rw [eOne_7 (by omega)]; decide
        simpa using h1
/-- each field lies within -/
theorem lay_in {C : Int} (hC : 256 < C) {E : Ext} {fs : List (List UInt8 × Int)} (hf : FOk C E fs) : ∀ p (hp : p ≤ fs.length), (layR C E (fs.take p)).2.1 ≤ 256 → ∀ q (hq : q < p), 0 ≤ (layR C E (fs.take p)).1.getD q 0 ∧ (layR C E (fs.take p)).1.getD q 0 + (E.at_ (fs[q]'(by omega)).2).1 ≤ (layR C E (fs.take p)).2.1
  | 0, _, _, q, hq => absurd hq (by omega)
  | p + 1, hp, hs, q, hq => by
    have hfp := hf fs[p] (List.getElem_mem _)
    have hok := layR_ok (by omega) hf p (by omega)
    have hb := upI_bnd hfp.2.2 hok.1
    have hlen := layR_len C E fs p (by omega)
    have h0 := hfp.1
    rw [layR_take C E (by omega)] at hs ⊢
    unfold lStep at hs ⊢
    dsimp only at hs ⊢
    rw [List.getD_eq_getElem?_getD]
    by_cases hqp : q < p
    · obtain ⟨i1, i2⟩ := lay_in hC hf p (by omega) (by omega) q hqp
      rw [List.getD_eq_getElem?_getD] at i1 i2
      rw [List.getElem?_append_left (by omega)]
      exact ⟨i1, by omega⟩
    · obtain rfl : q = p := by omega
      rw [List.getElem?_append_right (by omega), hlen, Nat.sub_self]
      show 0 ≤ upI (layR C E (fs.take q)).2.1 (E.at_ (fs[q]).2).2 ∧ upI (layR C E (fs.take q)).2.1 (E.at_ (fs[q]).2).2 + (E.at_ (fs[q]).2).1 ≤ _
      omega
end Go.Proofs.Ytgdokjfjmcleeaa.Ce
namespace Go.Proofs.Ytgdokjfjmcleeaa.Ce
open Go.RowKit
set_option linter.unusedVariables false
set_option linter.unusedSimpArgs false
set_option maxHeartbeats 1000000

theorem flat_congr {α : Type} {g k : Nat → List α} : ∀ m, (∀ j, j < m → g j = k j) → (List.range m).flatMap g = (List.range m).flatMap k
  | 0, _ => rfl
  | m + 1, h => by rw [List.range_succ, List.flatMap_append, List.flatMap_append, flat_congr m fun j hj => h j (by omega), List.flatMap_cons, List.flatMap_cons, h m (by omega)]; rfl
theorem cells_eq {T : List Tp} (hF : Fine T) : ∀ (f i : Nat) (off : Int), i < T.length → i < f → ((eRow 1048576 T).at_ (i : Int)).1 ≤ 256 → cellsR 1048576 T f i off = cellsR 1000000 T f i off
  | 0, _, _, _, h, _ => absurd h (by omega)
  | f + 1, i, off, hi, hf, hs => by
    have hEok : ∀ p ∈ eRow 1048576 T, EOk 1048576 p := by have := eRow_ok (C := 1048576) (by omega) (by decide) hF T.length (Nat.le_refl _); rwa [List.take_length] at this
    have hfi := hF i hi
    have e := eRow_at 1048576 hF hi
    have hat : ∀ j : Int, 0 ≤ j → j < T.length → ((eRow 1048576 T).at_ j).1 ≤ 256 → (eRow 1048576 T).at_ j = (eRow 1000000 T).at_ j := fun j h0 h1 => ((ext_rel hF).2 j h0 (by rw [eRow_length]; exact h1)).big.2
    rw [cellsR_at hi, cellsR_at hi]
    by_cases h6 : (T[i]).kd = 6
    · have ha := fine_arr hfi h6
      rw [if_pos h6, if_pos h6]
      rw [eOne_6 h6] at e
      rw [e] at hs
      dsimp only at hs
      have h0 := (Ext.at_mem hEok ha.1 (by rw [eRow_length]; omega)).1
      have hm : ((eRow 1048576 T).at_ (T[i]).el).1 ≤ (T[i]).ln * ((eRow 1048576 T).at_ (T[i]).el).1 := by
        have := Int.mul_le_mul_of_nonneg_right (show 1 ≤ (T[i]).ln by omega) h0
        rwa [Int.one_mul] at this
      rw [← hat _ ha.1 (by omega) (by omega)]
      obtain ⟨x, hx⟩ := Int.eq_ofNat_of_zero_le ha.1
      rw [hx] at hm ⊢
      congr 1
      funext j
      exact cells_eq hF f x _ (by omega) (by omega) (by rw [hx] at hs; omega)
    · rw [if_neg h6, if_neg h6]
      by_cases h5 : (T[i]).kd = 5
      · rw [if_pos h5, if_pos h5]
        rw [eOne_5 h5] at e
        rw [e] at hs
        dsimp only at hs
        have hall : ∀ x ∈ (T[i]).fs, 0 ≤ x.2 ∧ x.2 < T.length := fun x hx => by
          obtain ⟨q, hq, rfl⟩ := List.getElem_of_mem hx
          have := fine_fld hfi hq
          omega
        have hfo : FOk 1048576 (eRow 1048576 T) (T[i]).fs := fun x hx => Ext.at_mem hEok (hall x hx).1 (by rw [eRow_length]; exact (hall x hx).2)
        have hok := layR_ok (by omega) hfo (T[i]).fs.length (Nat.le_refl _)
        rw [List.take_length] at hok
        have hb := upI_bnd hok.2.2 hok.1
        have hli := lay_in (C := 1048576) (by omega) hfo (T[i]).fs.length (Nat.le_refl _) (by rw [List.take_length]; omega)
        rw [List.take_length] at hli
        have hsz : ∀ x ∈ (T[i]).fs, ((eRow 1048576 T).at_ x.2).1 ≤ 256 := fun x hx => by
          obtain ⟨q, hq, rfl⟩ := List.getElem_of_mem hx
          have := hli q hq
          omega
        have hls := (lay_same (E := eRow 1048576 T) (G := eRow 1000000 T) (fs := (T[i]).fs) (fun x hx => hat _ (hall x hx).1 (hall x hx).2 (hsz x hx)) (fun x hx => ⟨(hfo x hx).1, hsz x hx, (hfo x hx).2.2⟩) (by have := fine_len hfi; omega) (T[i]).fs.length (Nat.le_refl _)).1
        rw [List.take_length] at hls
        rw [hls]
        refine flat_congr _ fun j hj' => ?_
        have hx := fine_fld hfi hj'
        obtain ⟨x, hx2⟩ := Int.eq_ofNat_of_zero_le hx.1
        have hz := hsz _ (List.getElem_mem hj')
        rw [List.getD_eq_getElem?_getD (l := (T[i]).fs), List.getElem?_eq_getElem hj', Option.getD_some, hx2]
        rw [hx2] at hz
        exact cells_eq hF f x _ (by omega) (by omega) hz
      · rw [if_neg h5, if_neg h5]
end Go.Proofs.Ytgdokjfjmcleeaa.Ce
namespace Go.Proofs.Ytgdokjfjmcleeaa.Ce
open Go.RowKit
set_option linter.unusedVariables false
set_option linter.unusedSimpArgs false
set_option maxHeartbeats 1000000

/-- cells that ascend, within bounds -/
def AscB (S : Int → Int) : Int → Int → List (Int × Int) → Prop
  | lo, hi, [] => lo ≤ hi
  | lo, hi, p :: ps => lo ≤ p.1 ∧ 1 ≤ S p.2 ∧ AscB S (p.1 + S p.2) hi ps
theorem AscB.le {S : Int → Int} : ∀ {ps : List (Int × Int)} {lo hi : Int}, AscB S lo hi ps → lo ≤ hi
  | [], _, _, h => h
  | p :: ps, _, _, h => by have := AscB.le h.2.2; have := h.1; have := h.2.1; omega
theorem AscB.lo {S : Int → Int} {ps : List (Int × Int)} {l lo hi : Int} (hl : l ≤ lo) (h : AscB S lo hi ps) : AscB S l hi ps := by
  cases ps with
  | nil => exact Int.le_trans hl h
  | cons p ps => exact ⟨Int.le_trans hl h.1, h.2.1, h.2.2⟩
theorem AscB.up {S : Int → Int} {m hi : Int} (hm : hi ≤ m) : ∀ {ps : List (Int × Int)} {lo : Int}, AscB S lo hi ps → AscB S lo m ps
  | [], _, h => Int.le_trans h hm
  | p :: ps, _, h => ⟨h.1, h.2.1, AscB.up hm h.2.2⟩
theorem AscB.app {S : Int → Int} {m hi : Int} {qs : List (Int × Int)} (hq : AscB S m hi qs) : ∀ {ps : List (Int × Int)} {lo : Int}, AscB S lo m ps → AscB S lo hi (ps ++ qs)
  | [], _, h => AscB.lo h hq
  | p :: ps, _, h => ⟨h.1, h.2.1, AscB.app hq h.2.2⟩
theorem AscB.flat {S : Int → Int} {g : Nat → List (Int × Int)} {b : Nat → Int} : ∀ m, (∀ j, j < m → AscB S (b j) (b (j + 1)) (g j)) → AscB S (b 0) (b m) ((List.range m).flatMap g)
  | 0, _ => Int.le_refl _
  | m + 1, h => by
    rw [List.range_succ, List.flatMap_append, List.flatMap_cons, List.flatMap_nil, List.append_nil]
    exact AscB.app (h m (by omega)) (AscB.flat m fun j hj => h j (by omega))
theorem AscB.mem {S : Int → Int} : ∀ {ps : List (Int × Int)} {lo hi : Int}, AscB S lo hi ps → ∀ p ∈ ps, lo ≤ p.1 ∧ 1 ≤ S p.2 ∧ p.1 + S p.2 ≤ hi
  | q :: qs, lo, hi, h, p, hp => by
    rcases List.mem_cons.1 hp with rfl | hp
    · exact ⟨h.1, h.2.1, h.2.2.le⟩
    · have := AscB.mem h.2.2 p hp
      have := h.1
      have := h.2.1
      omega
/-- the offsets of all fields begin with those of the first -/
theorem layR_pre (C : Int) (E : Ext) {fs : List (List UInt8 × Int)} {j : Nat} : ∀ m, j + 1 + m ≤ fs.length → (layR C E (fs.take (j + 1 + m))).1.getD j 0 = upI (layR C E (fs.take j)).2.1 (E.at_ (fs.getD j ([], 0)).2).2
  | 0, h => by
    have hl := layR_len C E fs j (by omega)
    rw [Nat.add_zero, layR_take C E (by omega)]
    unfold lStep
    dsimp only
    rw [List.getD_eq_getElem?_getD (l := _ ++ _), List.getElem?_append_right (Nat.le_of_eq hl), hl, Nat.sub_self, List.getD_eq_getElem?_getD (l := fs), List.getElem?_eq_getElem (show j < fs.length by omega)]
    rfl
  | m + 1, h => by
    have hl := layR_len C E fs (j + 1 + m) (by omega)
    rw [← Nat.add_assoc, layR_take C E (by omega)]
    unfold lStep
    dsimp only
    rw [List.getD_eq_getElem?_getD (l := _ ++ _), List.getElem?_append_left (by omega), ← List.getD_eq_getElem?_getD]
    exact layR_pre C E m (by omega)
theorem layR_off (C : Int) (E : Ext) {fs : List (List UInt8 × Int)} {j : Nat} (hj : j < fs.length) : (layR C E fs).1.getD j 0 = upI (layR C E (fs.take j)).2.1 (E.at_ (fs[j]).2).2 := by
  have := layR_pre C E (fs := fs) (j := j) (fs.length - (j + 1)) (by omega)
  rw [show j + 1 + (fs.length - (j + 1)) = fs.length from by omega, List.take_length, List.getD_eq_getElem?_getD (l := fs), List.getElem?_eq_getElem hj] at this
  exact this
/-- the ends of more fields are not less -/
theorem layR_mono {C : Int} (hC : 256 < C) {E : Ext} {fs : List (List UInt8 × Int)} (hf : FOk C E fs) {p : Nat} : ∀ m, p + m ≤ fs.length → (layR C E (fs.take (p + m))).2.1 ≤ 256 → (layR C E (fs.take p)).2.1 ≤ (layR C E (fs.take (p + m))).2.1
  | 0, _, _ => Int.le_refl _
  | m + 1, hp, hs => by
    have hfp := hf fs[p + m] (List.getElem_mem _)
    have hok := layR_ok (by omega) hf (p + m) (by omega)
    have hb := upI_bnd hfp.2.2 hok.1
    have h0 := hfp.1
    rw [← Nat.add_assoc, layR_take C E (by omega)] at hs ⊢
    unfold lStep at hs ⊢
    dsimp only at hs ⊢
    have := layR_mono hC hf (p := p) m (by omega) (by omega)
    omega
theorem cells_asc {C : Int} (hC : 256 < C) (hC8 : C % 8 = 0) {T : List Tp} (hF : Fine T) : ∀ (f i : Nat) (off : Int), i < T.length → i < f → ((eRow C T).at_ (i : Int)).1 ≤ 256 → AscB (fun t => ((eRow C T).at_ t).1) off (off + ((eRow C T).at_ (i : Int)).1) (cellsR C T f i off)
  | 0, _, _, _, h, _ => absurd h (by omega)
  | f + 1, i, off, hi, hf, hs => by
    have hEok : ∀ p ∈ eRow C T, EOk C p := by have := eRow_ok (C := C) (by omega) hC8 hF T.length (Nat.le_refl _); rwa [List.take_length] at this
    have hfi := hF i hi
    have hk := fine_kd hfi
    have e := eRow_at C hF hi
    rw [cellsR_at hi]
    by_cases h6 : (T[i]).kd = 6
    · have ha := fine_arr hfi h6
      rw [if_pos h6]
      rw [eOne_6 h6] at e
      rw [e] at hs ⊢
      dsimp only at hs ⊢
      obtain ⟨x, hx⟩ := Int.eq_ofNat_of_zero_le ha.1
      have hxi : x < i := by omega
      have h0 := (Ext.at_mem hEok ha.1 (by rw [eRow_length]; omega)).1
      rw [hx] at hs h0 ⊢
      obtain ⟨l, hl⟩ := Int.eq_ofNat_of_zero_le (show 0 ≤ (T[i]).ln by omega)
      obtain ⟨S, hS⟩ : ∃ S, ((eRow C T).at_ (x : Int)).1 = S := ⟨_, rfl⟩
      have hm : S ≤ (T[i]).ln * S := by
        have := Int.mul_le_mul_of_nonneg_right (show 1 ≤ (T[i]).ln by omega) (by rwa [hS] at h0)
        rwa [Int.one_mul] at this
      have ih := fun off => cells_asc hC hC8 hF f x off (by omega) (by omega) (by rw [hS] at hs ⊢; omega)
      rw [hS] at hs ih ⊢
      have := AscB.flat (S := fun t => ((eRow C T).at_ t).1) (g := fun (j : Nat) => cellsR C T f (x : Int) (off + j * S)) (b := fun (j : Nat) => off + j * S) l fun j _ => by
        have := ih (off + j * S)
        have e2 : off + ((j + 1 : Nat) : Int) * S = off + (j : Int) * S + S := by rw [Int.natCast_add, Int.add_mul]; omega
        show AscB _ (off + (j : Int) * S) (off + ((j + 1 : Nat) : Int) * S) _
        rw [e2]
        exact this
      rw [hl, Int.toNat_natCast]
      rw [hl] at hs
      have e3 : min C ((l : Int) * S) = l * S := by omega
      rw [e3]
      have e0 : off = off + ((0 : Nat) : Int) * S := by omega
      exact AscB.lo (Int.le_of_eq e0) this
    · rw [if_neg h6]
      by_cases h5 : (T[i]).kd = 5
      · rw [if_pos h5]
        rw [eOne_5 h5] at e
        rw [e] at hs ⊢
        dsimp only at hs ⊢
        have hfo : FOk C (eRow C T) (T[i]).fs := fun f hf => by
          obtain ⟨q, hq, rfl⟩ := List.getElem_of_mem hf
          have := fine_fld hfi hq
          exact Ext.at_mem hEok this.1 (by rw [eRow_length]; omega)
        have hok := layR_ok (by omega) hfo (T[i]).fs.length (Nat.le_refl _)
        have hb := upI_bnd hok.2.2 hok.1
        have hli := lay_in (by omega) hfo (T[i]).fs.length (Nat.le_refl _) (by rw [List.take_length] at hb ⊢; omega)
        have hmo := fun p (hp : p ≤ (T[i]).fs.length) => layR_mono hC hfo (p := p) ((T[i]).fs.length - p) (by omega) (by rw [show p + ((T[i]).fs.length - p) = (T[i]).fs.length from by omega]; rw [List.take_length] at hb ⊢; omega)
        have hst : ∀ j, j < (T[i]).fs.length → AscB (fun t => ((eRow C T).at_ t).1) (off + (layR C (eRow C T) ((T[i]).fs.take j)).2.1) (off + (layR C (eRow C T) ((T[i]).fs.take (j + 1))).2.1) (cellsR C T f ((T[i]).fs.getD j ([], 0)).2 (off + (layR C (eRow C T) (T[i]).fs).1.getD j 0)) := fun j hj => by
          have hx := fine_fld hfi hj
          have hli2 := hli j hj
          have hmo1 := hmo (j + 1) (by omega)
          have hok2 := layR_ok (by omega) hfo j (by omega)
          have hfj := hfo _ (List.getElem_mem hj)
          have hbj := upI_bnd hfj.2.2 hok2.1
          have ho := layR_off C (eRow C T) hj
          rw [show j + 1 + ((T[i]).fs.length - (j + 1)) = (T[i]).fs.length from by omega] at hmo1
          rw [List.take_length] at hli2 hmo1 hb
          have e1 : (layR C (eRow C T) ((T[i]).fs.take (j + 1))).2.1 = min C (upI (layR C (eRow C T) ((T[i]).fs.take j)).2.1 ((eRow C T).at_ ((T[i]).fs[j]).2).2 + ((eRow C T).at_ ((T[i]).fs[j]).2).1) := by rw [layR_take C (eRow C T) hj]; rfl
          obtain ⟨x, hx2⟩ := Int.eq_ofNat_of_zero_le hx.1
          rw [List.getD_eq_getElem?_getD (l := (T[i]).fs), List.getElem?_eq_getElem hj, Option.getD_some]
          rw [ho] at hli2 ⊢
          have hfj0 := hfj.1
          rw [hx2] at hli2 e1 hbj hfj0 ⊢
          have := cells_asc hC hC8 hF f x (off + upI (layR C (eRow C T) ((T[i]).fs.take j)).2.1 ((eRow C T).at_ (x : Int)).2) (by omega) (by omega) (by omega)
          exact (AscB.lo (by omega) this).up (by omega)
        have := AscB.flat (S := fun t => ((eRow C T).at_ t).1) (b := fun (j : Nat) => off + (layR C (eRow C T) ((T[i]).fs.take j)).2.1) (T[i]).fs.length hst
        refine AscB.up (show off + (layR C (eRow C T) ((T[i]).fs.take (T[i]).fs.length)).2.1 ≤ _ by rw [List.take_length] at hb ⊢; omega) (AscB.lo (show off ≤ off + (layR C (eRow C T) ((T[i]).fs.take 0)).2.1 by show off ≤ off + 0; omega) this)
      · rw [if_neg h5]
        have h1 : 1 ≤ ((eRow C T).at_ (i : Int)).1 := by
          rw [e]
          by_cases h1 : (T[i]).kd = 1
          · rw [eOne_1 h1]; decide
          by_cases h2 : (T[i]).kd = 2 ∨ (T[i]).kd = 4
          · rw [eOne_24 h2]; decide
          by_cases h3 : (T[i]).kd = 3
          · rw [eOne_3 h3]; decide
          · rw [eOne_7 (by omega)]; decide
        exact ⟨Int.le_refl _, h1, Int.le_refl _⟩
/-- a cell is of a type of the table that has no parts -/
theorem cells_leaf {C : Int} {T : List Tp} (hF : Fine T) : ∀ (f i : Nat) (off : Int), i < T.length → i < f → ∀ p ∈ cellsR C T f i off, ∃ (t : Nat) (ht : t < T.length), p.2 = t ∧ (T[t]).kd ≠ 5 ∧ (T[t]).kd ≠ 6
  | 0, _, _, _, h => absurd h (by omega)
  | f + 1, i, off, hi, hf => by
    have hfi := hF i hi
    rw [cellsR_at hi]
    intro p hp
    by_cases h6 : (T[i]).kd = 6
    · have ha := fine_arr hfi h6
      obtain ⟨x, hx⟩ := Int.eq_ofNat_of_zero_le ha.1
      rw [if_pos h6] at hp
      obtain ⟨j, -, hj⟩ := List.mem_flatMap.1 hp
      rw [hx] at hj
      exact cells_leaf hF f x _ (by omega) (by omega) p hj
    · rw [if_neg h6] at hp
      by_cases h5 : (T[i]).kd = 5
      · rw [if_pos h5] at hp
        obtain ⟨j, hj, hp⟩ := List.mem_flatMap.1 hp
        have hj := List.mem_range.1 hj
        have hx := fine_fld hfi hj
        obtain ⟨x, hx2⟩ := Int.eq_ofNat_of_zero_le hx.1
        rw [List.getD_eq_getElem?_getD (l := (T[i]).fs), List.getElem?_eq_getElem hj, Option.getD_some, hx2] at hp
        exact cells_leaf hF f x _ (by omega) (by omega) p hp
      · rw [if_neg h5] at hp
        obtain rfl := List.mem_singleton.1 hp
        exact ⟨i, hi, rfl, h5, h6⟩
/-- the numbers from a up to b -/
def upto (a b : Int) : List Int := (List.range (b - a).toNat).map fun (j : Nat) => a + j
theorem upto_nil {a b : Int} (h : b ≤ a) : upto a b = [] := by unfold upto; rw [show (b - a).toNat = 0 from by omega]; rfl
theorem upto_succ {a b : Int} (h : a ≤ b) : upto a (b + 1) = upto a b ++ [b] := by
  unfold upto
  rw [show (b + 1 - a).toNat = (b - a).toNat + 1 from by omega, List.range_succ, List.map_append, List.map_cons, List.map_nil]
  congr 2
  omega
theorem upto_app {a b : Int} (h : a ≤ b) : ∀ m : Nat, upto a (b + m) = upto a b ++ upto b (b + m)
  | 0 => by rw [show b + ((0 : Nat) : Int) = b from by omega, upto_nil (Int.le_refl b), List.append_nil]
  | m + 1 => by rw [show b + ((m + 1 : Nat) : Int) = b + m + 1 from by omega, upto_succ (by omega), upto_app h m, upto_succ (by omega), List.append_assoc]
theorem upto_split {a b c : Int} (h : a ≤ b) (h2 : b ≤ c) : upto a c = upto a b ++ upto b c := by
  have := upto_app h (c - b).toNat
  rwa [show b + ((c - b).toNat : Int) = c from by omega] at this
theorem upto_mem {a b x : Int} (h : x ∈ upto a b) : a ≤ x ∧ x < b := by
  unfold upto at h
  obtain ⟨j, hj, rfl⟩ := List.mem_map.1 h
  have := List.mem_range.1 hj
  omega
theorem upto_length (a b : Int) : (upto a b).length = (b - a).toNat := by unfold upto; rw [List.length_map, List.length_range]
/-- the gaps: what is left between cells -/
def gaps (S : Int → Int) : Int → List (Int × Int) → List Int
  | _, [] => []
  | x, p :: ps => upto x p.1 ++ gaps S (max x p.1 + if 0 ≤ p.2 then S p.2 else 0) ps
/-- is a number within a cell? -/
def inC (S : Int → Int) (ps : List (Int × Int)) (x : Int) : Bool := ps.any fun p => decide (p.1 ≤ x) && decide (x < p.1 + S p.2)
theorem gaps_eq {S : Int → Int} : ∀ {ps : List (Int × Int)} {lo hi : Int}, AscB S lo hi ps → (∀ p ∈ ps, 0 ≤ p.2) → gaps S lo (ps ++ [(hi, -1)]) = (upto lo hi).filter fun x => !inC S ps x
  | [], lo, hi, h, _ => by
    show upto lo hi ++ [] = _
    rw [List.append_nil, eq_comm, List.filter_eq_self]
    intro x _
    rfl
  | p :: ps, lo, hi, h, hp => by
    have h1 := h.1
    have h2 := h.2.1
    have h3 := h.2.2.le
    have hp0 := hp p (List.mem_cons_self ..)
    have ih := gaps_eq h.2.2 fun q hq => hp q (List.mem_cons_of_mem _ hq)
    have hlow : ∀ x, x < p.1 + S p.2 → inC S ps x = false := fun x hx => by
      unfold inC
      rw [List.any_eq_false]
      intro q hq
      have := (h.2.2.mem q hq).1
      simp only [Bool.and_eq_true, decide_eq_true_eq, not_and]
      omega
    have hw : ∀ x, inC S (p :: ps) x = (decide (p.1 ≤ x) && decide (x < p.1 + S p.2) || inC S ps x) := fun x => by unfold inC; rw [List.any_cons]
    show upto lo p.1 ++ gaps S (max lo p.1 + if 0 ≤ p.2 then S p.2 else 0) (ps ++ [(hi, -1)]) = _
    rw [if_pos hp0, show max lo p.1 = p.1 from by omega, ih, upto_split (a := lo) (b := p.1) (c := hi) h1 (by omega), upto_split (a := p.1) (b := p.1 + S p.2) (c := hi) (by omega) h3, List.filter_append, List.filter_append]
    have f1 : (upto lo p.1).filter (fun x => !inC S (p :: ps) x) = upto lo p.1 := by
      rw [List.filter_eq_self]
      intro x hx
      have := upto_mem hx
      rw [hw, hlow x (by omega), Bool.or_false, Bool.not_eq_true', Bool.and_eq_false_iff]
      left
      rw [decide_eq_false_iff_not]
      omega
    have f2 : (upto p.1 (p.1 + S p.2)).filter (fun x => !inC S (p :: ps) x) = [] := by
      rw [List.filter_eq_nil_iff]
      intro x hx
      have := upto_mem hx
      rw [hw, decide_eq_true (show p.1 ≤ x by omega), decide_eq_true (show x < p.1 + S p.2 by omega)]
      simp
    have f3 : (upto (p.1 + S p.2) hi).filter (fun x => !inC S (p :: ps) x) = (upto (p.1 + S p.2) hi).filter (fun x => !inC S ps x) := by
      refine List.filter_congr fun x hx => ?_
      have := upto_mem hx
      rw [hw, decide_eq_false (show ¬ x < p.1 + S p.2 by omega), Bool.and_false, Bool.false_or]
    rw [f1, f2, f3, List.nil_append]
end Go.Proofs.Ytgdokjfjmcleeaa.Ce
namespace Go.Proofs.Ytgdokjfjmcleeaa.Ce
open Go.RowKit
set_option linter.unusedVariables false
set_option linter.unusedSimpArgs false


set_option maxRecDepth 100000
set_option maxHeartbeats 2000000

theorem d_apE {P : Program} {F : CallE} {lim : Nat} {h : Hp} {n : Nat} {f : Fm} {ops l : List Oper} {dst : Option Tmp} {ty : TypeId} {pos : String} {af : Array Edge} {gd : Option (Nat × Bool)} {KO : Fm → Hp → Nat → Prop} {x y : Operand} {t : TypeId} {e s : Nat} {v : Value} {news : List Value}
    {us : List (Nat × Nat)} {i : Nat} {acc : List Fp} (hT : ApT P t e s) (hw : wantsF ops gd f = some true) (hs : lv f x = .slice none 0 0) (hy : lv f y = v) (hsrc : SrcIs s h v 0 news) (hc : news.all cok = true)
    (hx : XD P F lim us ops l (i + 1) (fput f dst (.slice none 0 0)) h n (⟨[], [], false, n, n⟩ :: acc) KO) : XD P F lim us ops (⟨dst, .call ⟨.builtin .append, #[x, y], #[t, t]⟩, ty, pos, af, gd⟩ :: l) i f h n acc KO := by
  obtain ⟨rd, hsrc⟩ := hsrc
  obtain ⟨h1, ⟨z, h2, h3⟩, h4, h5, h6⟩ := hT
  exact d_eff hw rfl (by rw [a_append, hs, hy]; exact m_apE h1 h2 h4 h3 h5 h6 hsrc hc) (by simp) hx
/-- a list of cells: nothing, or a row of its own -/
def CellsV (ps : List (Int × Int)) (h : Hp) (n : Nat) (v : Value) (h' : Hp) (n' : Nat) : Prop :=
  (ps = [] ∧ v = .slice none 0 0 ∧ h' = h ∧ n' = n) ∨ (ps ≠ [] ∧ v = .slice (some ⟨n, 0, none⟩) ps.length ps.length ∧ h' = h.set n (.row 57 false (pv ps)) ∧ n' = n + 1)
/-- a list of cells under way -/
def OwnC (ps : List (Int × Int)) (O : Value) (h' : Hp) (lo n' : Nat) : Prop :=
  (ps = [] ∧ O = .slice none 0 0) ∨ (ps ≠ [] ∧ ∃ id, lo ≤ id ∧ id < n' ∧ O = .slice (some ⟨id, 0, none⟩) ps.length ps.length ∧ rowOf h' id = some (57, false, pv ps))
end Go.Proofs.Ytgdokjfjmcleeaa.Ce
