/- What a type holds, how deep it is: package kinds by symbolic runs. -/
import Derived.Test.YtgdokjfjmcleeaaJe
import Derived.Test.YtgdokjfjmcleeaaJd
import Derived.Test.YtgdokjfjmcleeaaMz
namespace Go.Proofs.Ytgdokjfjmcleeaa.Ce
open Go.RowKit
set_option linter.unusedVariables false
set_option linter.unusedSimpArgs false


set_option maxRecDepth 100000
set_option maxHeartbeats 2000000

/-- does a type hold another one? -/
noncomputable def holdsB (T : List Tp) (i k : Nat) : Bool := (rchF T false i).getD k false
theorem holdsB_iff {T : List Tp} {i k : Nat} (hk : k < T.length) : holdsB T i k = true ↔ Rch T false i k := by
  rw [← rchF_get hk]
  unfold holdsB
  rw [List.getD_eq_getElem?_getD, List.getElem?_eq_getElem (by rw [rchF_length]; exact hk)]
  simp
theorem rchF_lget {T : List Tp} {far : Bool} {i k : Nat} (hk : k < T.length) : lget (bw (rchF T far i)) k = some (.bool ((rchF T far i).getD k false)) :=
  bw_lget (by rw [List.getD_eq_getElem?_getD, List.getElem?_eq_getElem (by rw [rchF_length]; exact hk)]; rfl)
/-- the depth of a type, by those of the types before -/
def depOne (D : List Int) (t : Tp) : Int := (leadsT false t).foldl (fun m x => max m (D.getD x.toNat 0)) 0 + 1
def depR (T : List Tp) : List Int := T.foldl (fun D t => D ++ [depOne D t]) []
theorem depR_take {T : List Tp} {i : Nat} (hi : i < T.length) : depR (T.take (i + 1)) = depR (T.take i) ++ [depOne (depR (T.take i)) T[i]] := by
  rw [List.take_succ_eq_append_getElem hi]
  unfold depR
  rw [List.foldl_append]
  rfl
theorem depR_len {T : List Tp} : ∀ i, i ≤ T.length → (depR (T.take i)).length = i
  | 0, _ => rfl
  | i + 1, h => by rw [depR_take (by omega), List.length_append, depR_len i (by omega)]; rfl
theorem max_fold (f : Int → Int) (b : Int) : ∀ (l : List Int) (m : Int), (∀ x ∈ l, f x ≤ b) → m ≤ b → m ≤ l.foldl (fun m x => max m (f x)) m ∧ l.foldl (fun m x => max m (f x)) m ≤ b
  | [], m, _, h => ⟨Int.le_refl _, h⟩
  | x :: l, m, h1, h => by
    have h2 := h1 x (List.mem_cons_self ..)
    have := max_fold f b l (max m (f x)) (fun y hy => h1 y (List.mem_cons_of_mem _ hy)) (by omega)
    rw [List.foldl_cons]
    omega
theorem max_mem (f : Int → Int) : ∀ (l : List Int) (m : Int), m ≤ l.foldl (fun m x => max m (f x)) m ∧ ∀ x ∈ l, f x ≤ l.foldl (fun m x => max m (f x)) m
  | [], m => ⟨Int.le_refl _, fun x hx => by simp at hx⟩
  | x :: l, m => by
    have h1 := max_mem f l (max m (f x))
    rw [List.foldl_cons]
    refine ⟨by omega, fun y hy => ?_⟩
    rcases List.mem_cons.1 hy with rfl | hy
    · omega
    · exact h1.2 y hy
theorem depR_bnd {T : List Tp} (hF : Fine T) : ∀ i, i ≤ T.length → ∀ x ∈ depR (T.take i), 1 ≤ x ∧ x ≤ i
  | 0, _ => fun x hx => by simp [depR] at hx
  | i + 1, h => fun x hx => by
    rw [depR_take (by omega)] at hx
    rcases List.mem_append.1 hx with hx | hx
    · have := depR_bnd hF i (by omega) x hx; omega
    · obtain rfl := List.mem_singleton.1 hx
      unfold depOne
      have := max_fold (fun x => (depR (T.take i)).getD x.toNat 0) i (leadsT false T[i]) 0 (fun x hx => by
        have h1 := leadsT_near (hF i (by omega)) x hx
        show (depR (T.take i)).getD x.toNat 0 ≤ i
        rw [List.getD_eq_getElem?_getD, List.getElem?_eq_getElem (by rw [depR_len i (by omega)]; omega), Option.getD_some]
        exact (depR_bnd hF i (by omega) _ (List.getElem_mem _)).2) (by omega)
      omega
theorem depR_pre {T : List Tp} {i j : Nat} (hj : j < i) : ∀ m, i + m ≤ T.length → (depR (T.take (i + m))).getD j 0 = (depR (T.take i)).getD j 0
  | 0, _ => rfl
  | m + 1, h => by
    rw [← Nat.add_assoc, depR_take (by omega), List.getD_eq_getElem?_getD, List.getElem?_append_left (by rw [depR_len _ (by omega)]; omega), ← List.getD_eq_getElem?_getD]
    exact depR_pre hj m (by omega)
/-- the depth of a type -/
def depT (T : List Tp) (i : Nat) : Int := (depR T).getD i 0
theorem depT_take {T : List Tp} {i j : Nat} (hj : j < i) (hi : i ≤ T.length) : (depR (T.take i)).getD j 0 = depT T j := by
  have := depR_pre (T := T) hj (T.length - i) (by omega)
  rw [show i + (T.length - i) = T.length from by omega, List.take_length] at this
  exact this.symm
theorem depOne_eq {T : List Tp} {i : Nat} (hi : i < T.length) : depOne (depR (T.take i)) T[i] = depT T i := by
  rw [← depT_take (show i < i + 1 by omega) (by omega), depR_take hi, List.getD_eq_getElem?_getD, List.getElem?_append_right (by rw [depR_len i (by omega)]; omega), depR_len i (by omega), Nat.sub_self]
  rfl
theorem depT_eq {T : List Tp} (hF : Fine T) {i : Nat} (hi : i < T.length) : depT T i = (leadsT false T[i]).foldl (fun m x => max m (depT T x.toNat)) 0 + 1 := by
  rw [← depT_take (show i < i + 1 by omega) (by omega), depR_take hi, List.getD_eq_getElem?_getD, List.getElem?_append_right (by rw [depR_len i (by omega)]; omega), depR_len i (by omega), Nat.sub_self]
  show depOne (depR (T.take i)) T[i] = _
  unfold depOne
  congr 1
  have key : ∀ (l : List Int) (m : Int), (∀ x ∈ l, 0 ≤ x ∧ x < i) → l.foldl (fun m x => max m ((depR (T.take i)).getD x.toNat 0)) m = l.foldl (fun m x => max m (depT T x.toNat)) m := by
    intro l
    induction l with
    | nil => intro m _; rfl
    | cons x l ih =>
      intro m h
      have h1 := h x (List.mem_cons_self ..)
      rw [List.foldl_cons, List.foldl_cons, depT_take (show x.toNat < i by omega) (by omega)]
      exact ih _ fun y hy => h y (List.mem_cons_of_mem _ hy)
  exact key _ _ fun x hx => leadsT_near (hF i hi) x hx
theorem depT_bnd {T : List Tp} (hF : Fine T) {i : Nat} (hi : i < T.length) : 1 ≤ depT T i ∧ depT T i ≤ T.length := by
  have := depR_bnd hF T.length (Nat.le_refl _)
  rw [List.take_length] at this
  have hl := depR_len (T := T) T.length (Nat.le_refl _)
  rw [List.take_length] at hl
  unfold depT
  rw [List.getD_eq_getElem?_getD, List.getElem?_eq_getElem (by omega), Option.getD_some]
  exact this _ (List.getElem_mem _)
/-- the row of depths under way -/
def dPad (T : List Tp) (i q : Nat) (m : Int) : List Int := depR (T.take q) ++ m :: zeros (i - q)
theorem dPad_len {T : List Tp} {i q : Nat} (m : Int) (hq : q ≤ i) (hi : i < T.length) : (dPad T i q m).length = i + 1 := by
  unfold dPad
  rw [List.length_append, depR_len q (by omega), List.length_cons]
  unfold zeros
  rw [List.length_replicate]
  omega
theorem dPad_here {T : List Tp} {i q : Nat} {m : Int} (hq : q ≤ T.length) : (dPad T i q m).getD q 0 = m := by
  unfold dPad
  rw [List.getD_eq_getElem?_getD, List.getElem?_append_right (by rw [depR_len q hq]; omega), depR_len q hq, Nat.sub_self]
  rfl
theorem dPad_low {T : List Tp} {i q x : Nat} {m : Int} (hq : q ≤ T.length) (hx : x < q) : (dPad T i q m).getD x 0 = depT T x := by
  unfold dPad
  rw [List.getD_eq_getElem?_getD, List.getElem?_append_left (by rw [depR_len q hq]; omega), ← List.getD_eq_getElem?_getD]
  exact depT_take hx hq
theorem dPad_set {T : List Tp} {i q : Nat} {m m' : Int} (hq : q ≤ i) (hi : i < T.length) : overAt q [Value.int .i64 m'] (iv (dPad T i q m)) = some (iv (dPad T i q m')) := by
  rw [overAt_one (by rw [iv_length, dPad_len m hq hi]; omega)]
  unfold dPad
  rw [iv_app, iv_app]
  have hl : (iv (depR (T.take q))).length = q := by rw [iv_length, depR_len q (by omega)]
  congr 1
  rw [List.set_append_right q _ (by omega), hl, Nat.sub_self]
  rfl
theorem dPad_zero (T : List Tp) (i : Nat) : iv (zeros (i + 1)) = iv (dPad T i 0 0) := rfl
theorem dPad_next {T : List Tp} {i q : Nat} (hq : q < i) (hi : i < T.length) : dPad T i q (depOne (depR (T.take q)) (T[q]'(by omega))) = dPad T i (q + 1) 0 := by
  unfold dPad
  rw [depR_take (by omega), List.append_assoc]
  congr 1
  show _ :: zeros (i - q) = _ :: (0 :: zeros (i - (q + 1)))
  rw [show i - q = (i - (q + 1)) + 1 from by omega]
  rfl
variable (k d cl : Nat) (h : Hp) (n : Nat)
theorem pholds_ok (hk : 30000 ≤ k) (A : Option Addr) (T : List Tp) (c : Nat) (hT : TabH h n A T) (hS : ∀ t ∈ T, t.fs.length ≤ 20000) (hm : T.length ≤ 9223372036854775807) (hC : ChkT T) (i j : Nat) (hi : i < T.length) (hj : j < T.length) :
    Sp Try.prog (acall Try.prog WW k (d + 8)) cl 40 [.slice A T.length c, .int .i64 i, .int .i64 j] h n fun v h' n' => v = .tuple ⟨[.bool (holdsB T i j), .int .i64 0]⟩ ∧ h' = h ∧ n' = n := by
  have hl := hC.1
  have ha : askE T i j = 0 := by unfold askE; rw [if_pos hC, if_pos ⟨⟨by omega, by omega⟩, by omega, by omega⟩]
  have q1 := pasked_2 k d n (h.set n (.row 3 false (iv [(i : Int), (j : Int)]))) (n + 1) hk A T c ((hT.set (Nat.le_refl _) _).more (by omega)) hS hm i j (some ⟨n, 0, none⟩) 2 (RdH.row (by omega))
  rw [ha] at q1
  have q2 := closure_ev k (d + 5) n (h.set n (.row 3 false (iv [(i : Int), (j : Int)]))) (n + 1) hk false A T c ((hT.set (Nat.le_refl _) _).more (by omega)) hl hC.2.1 i hi
  have hg := rchF_lget (T := T) (far := false) (i := i) hj
  refine enter Try.func40 (by kernel_rfl) rfl (by kernel_rfl) rfl rfl rfl ?_
  (repeat' first | (with_reducible first | apply x_seq | apply k_then | apply x_block | apply x_skip | apply x_ret | apply x_exit | apply x_label | apply k_pass | apply k_hit | apply k_miss rfl | apply k_out | apply k_turned | refine x_text fun K' hK => ?_) | ((with_reducible apply o_nil); refine hK _ _ _ ?_; clear hK) | ((with_reducible apply o_callF (g := 67) w_none); (case ha => (simp (disch := first | assumption | omega | rfl | decide) only [go_sem, seval, tys] <;> rfl)); (case hs => (exact q1)); (case' hk => rintro _ h' n' ⟨rfl, rfl, rfl⟩)) | ((with_reducible apply o_callF (g := 69) w_none); (case ha => (simp (disch := first | assumption | omega | rfl | decide) only [go_sem, seval, tys] <;> rfl)); (case hs => (exact q2)); (case' hk => rintro _ h' n' ⟨rfl, rfl, rfl⟩)) | ((first | ((with_reducible apply o_pure w_none); (case hp => exact rfl); (case' he => intro h n)) | (with_reducible first | apply o_eff w_none | apply o_guard rfl | apply x_cond | apply k_e1 rfl | apply k_e2 rfl | apply k_e0 rfl | apply k_e3 rfl | apply k_e4 rfl)); (case he => (simp (disch := first | assumption | omega | rfl | decide) only [go_sem, seval, tys, hg] <;> rfl)); (try (case hok => first | exact rfl | exact ok_w (by omega) rfl)); all_goals (try (intro hb; (try (simp only [hbs, reduceCtorEq] at hb)); try (exfalso; omega)))) | ((with_reducible apply o_undef rfl); (case hb => (simp (disch := first | assumption | omega | rfl | decide) only [go_sem, seval, tys]))))
  all_goals exact sw_flat rfl rfl ⟨rfl, rfl, rfl⟩
theorem fit4_ev (hk : 30000 ≤ k) (A : Option Addr) (T : List Tp) (c : Nat) (hT : TabH h n A T) (i j : Int) (hm : T.length ≤ 9223372036854775807) (hS0 : ∀ t ∈ T, t.fs.length ≤ 9223372036854775807) :
    Sp Try.prog (acall Try.prog WW k (d + 9)) cl 53 [.slice A T.length c, .int .i64 i, .int .i64 j] h n fun v h' n' => ∃ B : Bool, v = .bool B ∧ (B = true → (∀ t ∈ T, t.fs.length ≤ 20) ∧ askE T i j = 0) ∧ h' = h ∧ n' = n := by
  obtain ⟨v, h2, n2, ⟨B, rfl, hg, rfl, rfl⟩, hB⟩ := sp_fix (tgreat_ev k (d + 7) n h n hk A T c hT hm hS0)
  have hB2 : Sp Try.prog (acall Try.prog WW k (d + 8)) n2 16 [.slice A T.length c] h2 n2 fun v3 h3 n3 => v3 = .bool B ∧ h2 = h3 ∧ n2 = n3 := hB.mono fun _ _ _ hp => ⟨hp.1, hp.2.1.symm, hp.2.2.symm⟩
  rcases B with _ | _
  · have hS : ∀ t ∈ T, t.fs.length ≤ 20000 := fun t ht => by have := (hg rfl).2 t ht; omega
    have hA := rasked_ev k (d + 1) n2 h2 n2 hk A T c hT hS hm i j
    obtain ⟨e, hee⟩ : ∃ e, askE T i j = e := ⟨_, rfl⟩
    rw [hee] at hA ⊢
    refine enter Try.func53 (by kernel_rfl) rfl (by kernel_rfl) rfl rfl rfl ?_
    by_cases he : e = 0
    · subst he
      (repeat' first | (with_reducible first | apply x_seq | apply k_then | apply x_block | apply x_skip | apply x_ret | apply x_exit | apply x_label | apply k_pass | apply k_hit | apply k_miss rfl | apply k_out | apply k_turned | refine x_text fun K' hK => ?_) | ((with_reducible apply o_nil); refine hK _ _ _ ?_; clear hK) | ((with_reducible apply o_callF (g := 16) w_none); (case ha => (simp (disch := first | assumption | omega | rfl | decide) only [go_sem, seval, tys] <;> rfl)); (case hs => (exact hB2)); (case' hk => rintro _ h' n' ⟨rfl, rfl, rfl⟩)) | ((with_reducible apply o_callF (g := 75) w_none); (case ha => (simp (disch := first | assumption | omega | rfl | decide) only [go_sem, seval, tys] <;> rfl)); (case hs => (exact hA)); (case' hk => rintro _ h' n' ⟨rfl, rfl, rfl⟩)) | ((first | ((with_reducible apply o_pure w_none); (case hp => exact rfl); (case' he => intro h n)) | (with_reducible first | apply o_eff w_none | apply o_guard rfl | apply x_cond | apply k_e1 rfl | apply k_e2 rfl | apply k_e0 rfl | apply k_e3 rfl | apply k_e4 rfl)); (case he => (simp (disch := first | assumption | omega | rfl | decide) only [go_sem, seval, tys] <;> rfl)); (try (case hok => first | exact rfl | exact ok_w (by omega) rfl)); all_goals (try (intro hb; (try (simp only [hbs, reduceCtorEq] at hb)); try (exfalso; omega)))) | ((with_reducible apply o_undef rfl); (case hb => (simp (disch := first | assumption | omega | rfl | decide) only [go_sem, seval, tys]))))
      all_goals exact sw_flat rfl rfl ⟨true, rfl, fun _ => ⟨(hg rfl).2, rfl⟩, rfl, rfl⟩
    · have hbe : (e == 0) = false := by rw [beq_eq_false_iff_ne]; exact he
      (repeat' first | (with_reducible first | apply x_seq | apply k_then | apply x_block | apply x_skip | apply x_ret | apply x_exit | apply x_label | apply k_pass | apply k_hit | apply k_miss rfl | apply k_out | apply k_turned | refine x_text fun K' hK => ?_) | ((with_reducible apply o_nil); refine hK _ _ _ ?_; clear hK) | ((with_reducible apply o_callF (g := 16) w_none); (case ha => (simp (disch := first | assumption | omega | rfl | decide) only [go_sem, seval, tys] <;> rfl)); (case hs => (exact hB2)); (case' hk => rintro _ h' n' ⟨rfl, rfl, rfl⟩)) | ((with_reducible apply o_callF (g := 75) w_none); (case ha => (simp (disch := first | assumption | omega | rfl | decide) only [go_sem, seval, tys] <;> rfl)); (case hs => (exact hA)); (case' hk => rintro _ h' n' ⟨rfl, rfl, rfl⟩)) | ((first | ((with_reducible apply o_pure w_none); (case hp => exact rfl); (case' he => intro h n)) | (with_reducible first | apply o_eff w_none | apply o_guard rfl | apply x_cond | apply k_e1 rfl | apply k_e2 rfl | apply k_e0 rfl | apply k_e3 rfl | apply k_e4 rfl)); (case he => (simp (disch := first | assumption | omega | rfl | decide) only [go_sem, seval, tys, hbe] <;> rfl)); (try (case hok => first | exact rfl | exact ok_w (by omega) rfl)); all_goals (try (intro hb; (try (simp only [hbs, reduceCtorEq] at hb)); try (exfalso; omega)))) | ((with_reducible apply o_undef rfl); (case hb => (simp (disch := first | assumption | omega | rfl | decide) only [go_sem, seval, tys]))))
      all_goals exact sw_flat rfl rfl ⟨false, rfl, fun hh => (by cases hh), rfl, rfl⟩
  · refine enter Try.func53 (by kernel_rfl) rfl (by kernel_rfl) rfl rfl rfl ?_
    (repeat' first | (with_reducible first | apply x_seq | apply k_then | apply x_block | apply x_skip | apply x_ret | apply x_exit | apply x_label | apply k_pass | apply k_hit | apply k_miss rfl | apply k_out | apply k_turned | refine x_text fun K' hK => ?_) | ((with_reducible apply o_nil); refine hK _ _ _ ?_; clear hK) | ((with_reducible apply o_callF (g := 16) w_none); (case ha => (simp (disch := first | assumption | omega | rfl | decide) only [go_sem, seval, tys] <;> rfl)); (case hs => (exact hB2)); (case' hk => rintro _ h' n' ⟨rfl, rfl, rfl⟩)) | ((first | ((with_reducible apply o_pure w_none); (case hp => exact rfl); (case' he => intro h n)) | (with_reducible first | apply o_eff w_none | apply o_guard rfl | apply x_cond | apply k_e1 rfl | apply k_e2 rfl | apply k_e0 rfl | apply k_e3 rfl | apply k_e4 rfl)); (case he => (simp (disch := first | assumption | omega | rfl | decide) only [go_sem, seval, tys] <;> rfl)); (try (case hok => first | exact rfl | exact ok_w (by omega) rfl)); all_goals (try (intro hb; (try (simp only [hbs, reduceCtorEq] at hb)); try (exfalso; omega)))) | ((with_reducible apply o_undef rfl); (case hb => (simp (disch := first | assumption | omega | rfl | decide) only [go_sem, seval, tys]))))
    all_goals exact sw_flat rfl rfl ⟨false, rfl, fun hh => (by cases hh), rfl, rfl⟩
theorem pdepth_ok (hk : 30000 ≤ k) (A : Option Addr) (T : List Tp) (c : Nat) (hT : TabH h n A T) (hS : ∀ t ∈ T, t.fs.length ≤ 20000) (hm : T.length ≤ 9223372036854775807) (hC : ChkT T) (i : Nat) (hi : i < T.length) :
    Sp Try.prog (acall Try.prog WW k (d + 8)) cl 41 [.slice A T.length c, .int .i64 i] h n fun v h' n' => v = .tuple ⟨[.int .i64 (depT T i), .int .i64 0]⟩ ∧ h' = h ∧ n' = n := by
  have hl := hC.1
  have hF := hC.2.1
  have ha : askE T i i = 0 := by unfold askE; rw [if_pos hC, if_pos ⟨⟨by omega, by omega⟩, by omega, by omega⟩]
  have q1 := pasked_1 k d n (h.set n (.row 3 false (iv [(i : Int)]))) (n + 1) hk A T c ((hT.set (Nat.le_refl _) _).more (by omega)) hS hm i (some ⟨n, 0, none⟩) 1 (RdH.row (by omega))
  rw [ha] at q1
  have hnat : ((i : Int) + 1).toNat = i + 1 := by omega
  refine enter Try.func41 (by kernel_rfl) rfl (by kernel_rfl) rfl rfl rfl ?_
  (repeat' first | (with_reducible first | apply x_seq | apply k_then | apply x_block | apply x_skip | apply x_ret | apply x_exit | apply x_label | apply k_pass | apply k_hit | apply k_miss rfl | apply k_out | apply k_turned | refine x_text fun K' hK => ?_) | ((with_reducible apply o_nil); refine hK _ _ _ ?_; clear hK) | ((with_reducible apply o_callF (g := 67) w_none); (case ha => (simp (disch := first | assumption | omega | rfl | decide) only [go_sem, seval, tys] <;> rfl)); (case hs => (exact q1)); (case' hk => rintro _ h' n' ⟨rfl, rfl, rfl⟩)) | ((first | ((with_reducible apply o_pure w_none); (case hp => exact rfl); (case' he => intro h n)) | (with_reducible first | apply o_eff w_none | apply o_guard rfl | apply x_cond | apply k_e1 rfl | apply k_e2 rfl | apply k_e0 rfl | apply k_e3 rfl | apply k_e4 rfl)); (case he => (simp (disch := first | assumption | omega | rfl | decide) only [go_sem, seval, tys, hnat, mk_zeros] <;> rfl)); (try (case hok => first | exact rfl | exact ok_w (by omega) rfl)); all_goals (try (intro hb; (try (simp only [hbs, reduceCtorEq] at hb)); try (exfalso; omega)))) | ((with_reducible apply o_undef rfl); (case hb => (simp (disch := first | assumption | omega | rfl | decide) only [go_sem, seval, tys]))))
  refine x_loopV [8, 10, 23, 24, 25, 26, 27, 28, 29, 30, 31, 32, 33, 34, 35, 36, 37, 38, 39, 40, 41, 42, 43, 44, 45, 46, 47, 48, 49, 50, 51, 52, 53, 54, 55] [23] (fun m vs h' n' => ∃ (q : Nat), m = i + 1 - q ∧ q ≤ i + 1 ∧ vs = [.int .i64 q] ∧ n + 1 + 1 ≤ n' ∧ TabH h' n A T ∧ (q ≤ i → rowOf h' (n + 1) = some (3, false, iv (dPad T i q 0))) ∧ (q = i + 1 → rowOf h' (n + 1) = some (3, false, iv (dPad T i i (depT T i))))) (i + 1) rfl (by omega) ?_ ?_
  · exact ⟨0, rfl, by omega, (by simp (disch := first | assumption | omega | rfl | decide) only [go_sem, seval, tys] <;> rfl), Nat.le_refl _, (hT.set (Nat.le_refl _) _).set (by omega) _, fun _ => rowOf_same _ _ _ _ _, fun e => absurd e (by omega)⟩
  · rintro m fr _ hz na ⟨q, rfl, hq, rfl, hn, hT2, qr, qe⟩
    by_cases hqi : q ≤ i
    · have hq1 := qr hqi
      have hqT : q < T.length := by omega
      obtain ⟨tid, toff, hAA, htid, ht4, -⟩ := hT2.at_ hqT
      subst hAA
      have hfd := (hT2.fd _ (List.getElem_mem hqT)).more (show n ≤ na by omega)
      have hfq := hF q hqT
      have p1 := (pleads_ev k (d + 6) n hz na hk false hfq hfd).mono fun _ _ _ hh => IntsV.rd hh
      have hns := leadsT_near hfq
      have hnl := leadsT_len (far := false) hfq
      have hde := depT_eq hF hqT
      have hdb := depT_bnd hF hqT
      have hone := depOne_eq hqT
      obtain ⟨ns, hnse⟩ : ∃ ns, leadsT false T[q] = ns := ⟨_, rfl⟩
      rw [hnse] at p1 hns hnl hde
      obtain ⟨M, hM⟩ : ∃ M : Nat → Int, M = fun r => (ns.take r).foldl (fun m x => max m (depT T x.toNat)) 0 := ⟨_, rfl⟩
      have hMb : ∀ r, 0 ≤ M r ∧ M r ≤ 32 := fun r => by
        have := max_fold (fun x => depT T x.toNat) 32 (ns.take r) 0 (fun x hx => by
          have h1 := hns x (List.mem_of_mem_take hx)
          have := depT_bnd hF (i := x.toNat) (by omega)
          show depT T x.toNat ≤ 32
          omega) (by omega)
        rw [hM]
        exact this
      have hMe : M ns.length + 1 = depT T q := by rw [hde, hM]; show (ns.take ns.length).foldl _ 0 + 1 = _; rw [List.take_length]
      (repeat' first | (with_reducible first | apply x_seq | apply k_then | apply x_block | apply x_skip | apply x_ret | apply x_exit | apply x_label | apply k_pass | apply k_hit | apply k_miss rfl | apply k_out | apply k_turned | refine x_text fun K' hK => ?_) | ((with_reducible apply o_nil); refine hK _ _ _ ?_; clear hK) | ((with_reducible apply o_callF (g := 70) w_none); (case ha => (simp (disch := first | assumption | omega | rfl | decide) only [go_sem, seval, tys] <;> rfl)); (case hs => (exact p1)); (case' hk => rintro _ h' n' ⟨LA, lc, rfl, hrL, hLn, hn2, hkp⟩)) | ((first | ((with_reducible apply o_pure w_none); (case hp => exact rfl); (case' he => intro h n)) | (with_reducible first | apply o_eff w_none | apply o_guard rfl | apply x_cond | apply k_e1 rfl | apply k_e2 rfl | apply k_e0 rfl | apply k_e3 rfl | apply k_e4 rfl)); (case he => (simp (disch := first | assumption | omega | rfl | decide) only [go_sem, seval, tys, ht4] <;> rfl)); (try (case hok => first | exact rfl | exact ok_w (by omega) rfl)); all_goals (try (intro hb; (try (simp only [hbs, reduceCtorEq] at hb)); try (exfalso; omega)))) | ((with_reducible apply o_undef rfl); (case hb => (simp (disch := first | assumption | omega | rfl | decide) only [go_sem, seval, tys]))))
      refine x_loopV [10, 32, 33, 34, 35, 36, 37, 38, 39, 40, 41, 42, 43, 44, 45, 46, 47, 48] [32] (fun m vs h4 n4 => ∃ (r : Nat), m = ns.length - r ∧ r ≤ ns.length ∧ vs = [.int .i64 r] ∧ n4 = n' ∧ TabH h4 n (some ⟨tid, toff, none⟩) T ∧ RdH h4 n' LA (iv ns) ∧ rowOf h4 (n + 1) = some (3, false, iv (dPad T i q (M r)))) ns.length rfl (by omega) ?_ ?_
      · refine ⟨0, rfl, by omega, (by simp (disch := first | assumption | omega | rfl | decide) only [go_sem, seval, tys] <;> rfl), rfl, hT2.keep (by omega) hkp, hrL, ?_⟩
        rw [rowOf_keep (hkp _ (by omega)), hq1, hM]
        rfl
      · rintro mm fr2 _ h4 n4 ⟨r, rfl, hr, rfl, rfl, hT4, hrL4, q4⟩
        have w4 := rwOf_row q4
        by_cases hrl : r < ns.length
        · obtain ⟨lid, lof, hLA, -, cz⟩ := int_at hrL4 hrl
          subst hLA
          have hzb := hns ns[r] (List.getElem_mem _)
          obtain ⟨z, hzz⟩ := Int.eq_ofNat_of_zero_le hzb.1
          rw [hzz] at cz hzb
          have cq := cellAt_row (off := q) q4
          rw [iv_lget (by rw [dPad_len _ hqi hi]; omega), dPad_here (by omega)] at cq
          have cx := cellAt_row (off := z) q4
          rw [iv_lget (by rw [dPad_len _ hqi hi]; omega), dPad_low (by omega) (by omega)] at cx
          have hM1 : M (r + 1) = max (M r) (depT T z) := by
            rw [hM]
            show (ns.take (r + 1)).foldl _ 0 = _
            rw [List.take_succ_eq_append_getElem hrl, List.foldl_append, hzz]
            rfl
          have hov := dPad_set (T := T) (m := M r) (m' := max (M r) (depT T z)) hqi hi
          have hLz := hLn lid lof rfl
          (repeat' first | (with_reducible first | apply x_seq | apply k_then | apply x_block | apply x_skip | apply x_ret | apply x_exit | apply x_label | apply k_pass | apply k_hit | apply k_miss rfl | apply k_out | apply k_turned | refine x_text fun K' hK => ?_) | ((with_reducible apply o_nil); refine hK _ _ _ ?_; clear hK) | (with_reducible refine x_drawnD (id := 11) [(5, 9)] (by kernel_rfl) fun K' hK => ?_) | ((with_reducible apply d_nil); (case hp => (simp (disch := omega) only [pairsOk, List.all_cons, List.all_nil, List.reverse_cons, List.reverse_nil, List.nil_append, List.cons_append, lget_zero, lget_succ, apartB, touches, made_mm, made_lt, made_ge, all_true, ble_t, ble_f, blt_t, blt_f, beq_f, List.contains_cons, List.contains_nil, Bool.and_true, Bool.true_and, Bool.and_false, Bool.false_and, Bool.or_false, Bool.false_or, Bool.not_false, Bool.not_true, beq_self_eq_true])); (case' hx => (refine hK _ _ _ ?_; clear hK))) | ((with_reducible apply d_pure w_none); (case hp => exact rfl); (case hc => exact rfl); (case he => (intro h n; simp (disch := first | assumption | omega | rfl | decide) only [go_sem, seval, tys, cq, cx, w4, hov, if_max] <;> rfl))) | ((with_reducible apply d_eff w_none); (case hc => exact rfl); (case he => (simp (disch := first | assumption | omega | rfl | decide) only [go_sem, seval, tys, cq, cx, w4, hov, if_max] <;> rfl)); (case hok => first | exact rfl | exact ok_w (by omega) rfl)) | ((with_reducible apply d_guard rfl); (case hb => (simp (disch := first | assumption | omega | rfl | decide) only [go_sem, seval, tys, cq, cx, w4, hov, if_max] <;> rfl)); (case' h1 => intro hb; (try (simp only [hbs, reduceCtorEq] at hb)); try (exfalso; omega)); (case' h2 => intro hb; (try (simp only [hbs, reduceCtorEq] at hb)); try (exfalso; omega))) | ((first | ((with_reducible apply o_pure w_none); (case hp => exact rfl); (case' he => intro h n)) | (with_reducible first | apply o_eff w_none | apply o_guard rfl | apply x_cond | apply k_e1 rfl | apply k_e2 rfl | apply k_e0 rfl | apply k_e3 rfl | apply k_e4 rfl)); (case he => (simp (disch := first | assumption | omega | rfl | decide) only [go_sem, seval, tys, cz, cq, cx, w4, hov, if_max] <;> rfl)); (try (case hok => first | exact rfl | exact ok_w (by omega) rfl)); all_goals (try (intro hb; (try (simp only [hbs, reduceCtorEq] at hb)); try (exfalso; omega)))) | ((with_reducible apply o_undef rfl); (case hb => (simp (disch := first | assumption | omega | rfl | decide) only [go_sem, seval, tys]))))
          refine k_round (ns.length - (r + 1)) (by omega) ⟨r + 1, rfl, by omega, (by simp (disch := first | assumption | omega | rfl | decide) only [go_sem, seval, tys] <;> rfl), rfl, hT4.set (by omega) _, hrL4.kill (fun b o e => by injection e with e; injection e with e1; omega) _, by rw [hM1]; exact rowOf_same _ _ _ _ _⟩
        · obtain rfl : r = ns.length := by omega
          have cq := cellAt_row (off := q) q4
          rw [iv_lget (by rw [dPad_len _ hqi hi]; omega), dPad_here (by omega)] at cq
          have hMl := hMb ns.length
          have hov := dPad_set (T := T) (m := M ns.length) (m' := M ns.length + 1) hqi hi
          (repeat' first | (with_reducible first | apply x_seq | apply k_then | apply x_block | apply x_skip | apply x_ret | apply x_exit | apply x_label | apply k_pass | apply k_hit | apply k_miss rfl | apply k_out | apply k_turned | refine x_text fun K' hK => ?_) | ((with_reducible apply o_nil); refine hK _ _ _ ?_; clear hK) | fail | ((first | ((with_reducible apply o_pure w_none); (case hp => exact rfl); (case' he => intro h n)) | (with_reducible first | apply o_eff w_none | apply o_guard rfl | apply x_cond | apply k_e1 rfl | apply k_e2 rfl | apply k_e0 rfl | apply k_e3 rfl | apply k_e4 rfl)); (case he => (simp (disch := first | assumption | omega | rfl | decide) only [go_sem, seval, tys, cq, w4, hov] <;> rfl)); (try (case hok => first | exact rfl | exact ok_w (by omega) rfl)); all_goals (try (intro hb; (try (simp only [hbs, reduceCtorEq] at hb)); try (exfalso; omega)))) | ((with_reducible apply o_undef rfl); (case hb => (simp (disch := first | assumption | omega | rfl | decide) only [go_sem, seval, tys]))))
          refine k_round (i + 1 - (q + 1)) (by omega) ⟨q + 1, rfl, by omega, (by simp (disch := first | assumption | omega | rfl | decide) only [go_sem, seval, tys] <;> rfl), by omega, hT4.set (by omega) _, fun hqi2 => ?_, fun e => ?_⟩
          · rw [rowOf_same, hMe, ← hone, dPad_next (by omega) hi]
          · obtain rfl : q = i := by omega
            rw [rowOf_same, hMe]
    · obtain rfl : q = i + 1 := by omega
      have hq1 := qe rfl
      have cq := cellAt_row (off := i) hq1
      rw [iv_lget (by rw [dPad_len _ (Nat.le_refl _) hi]; omega), dPad_here (by omega)] at cq
      (repeat' first | (with_reducible first | apply x_seq | apply k_then | apply x_block | apply x_skip | apply x_ret | apply x_exit | apply x_label | apply k_pass | apply k_hit | apply k_miss rfl | apply k_out | apply k_turned | refine x_text fun K' hK => ?_) | ((with_reducible apply o_nil); refine hK _ _ _ ?_; clear hK) | fail | ((first | ((with_reducible apply o_pure w_none); (case hp => exact rfl); (case' he => intro h n)) | (with_reducible first | apply o_eff w_none | apply o_guard rfl | apply x_cond | apply k_e1 rfl | apply k_e2 rfl | apply k_e0 rfl | apply k_e3 rfl | apply k_e4 rfl)); (case he => (simp (disch := first | assumption | omega | rfl | decide) only [go_sem, seval, tys, cq] <;> rfl)); (try (case hok => first | exact rfl | exact ok_w (by omega) rfl)); all_goals (try (intro hb; (try (simp only [hbs, reduceCtorEq] at hb)); try (exfalso; omega)))) | ((with_reducible apply o_undef rfl); (case hb => (simp (disch := first | assumption | omega | rfl | decide) only [go_sem, seval, tys]))))
      all_goals exact sw_flat rfl rfl ⟨rfl, rfl, rfl⟩
end Go.Proofs.Ytgdokjfjmcleeaa.Ce
