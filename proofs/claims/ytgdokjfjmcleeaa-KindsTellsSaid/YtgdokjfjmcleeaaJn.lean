/- Errors of what is asked about types; what a type holds by the answer: symbolic runs. -/
import Derived.Test.YtgdokjfjmcleeaaJh
namespace Go.Proofs.Ytgdokjfjmcleeaa.Ce
open Go.RowKit
set_option linter.unusedVariables false
set_option linter.unusedSimpArgs false
set_option maxRecDepth 100000
set_option maxHeartbeats 2000000

/-- marks of what a type holds; the types from m on have had their turn -/
structure Hw (T : List Tp) (i : Nat) (F : List Bool) (m : Nat) : Prop where
  len : F.length = T.length
  snd : ∀ x : Nat, F[x]? = some true → Rch T false i x
  st : F[i]? = some true
  cl : ∀ x (hx : x < T.length), m ≤ x → F[x]? = some true → ∀ y : Nat, (y : Int) ∈ leadsT false T[x] → F[y]? = some true
/-- within a type's turn -/
structure Hu (T : List Tp) (i : Nat) (F G : List Bool) (a s : Nat) (ns : List Int) : Prop where
  ow : Hw T i F (a + 1)
  len : G.length = T.length
  mono : ∀ x : Nat, F[x]? = some true → G[x]? = some true
  snd : ∀ x : Nat, G[x]? = some true → Rch T false i x
  up : ∀ x : Nat, a ≤ x → G[x]? = F[x]?
  on : F[a]? = some true → ∀ y : Nat, (y : Int) ∈ ns.take s → G[y]? = some true
theorem Hw.init {T : List Tp} {i : Nat} (hi : i < T.length) : Hw T i ((List.replicate T.length false).set i true) (i + 1) := by
  have key : ∀ x : Nat, ((List.replicate T.length false).set i true)[x]? = some true → x = i := fun x h => by
    rw [List.getElem?_set] at h
    by_cases e : i = x
    · exact e.symm
    · rw [if_neg e, List.getElem?_replicate] at h
      split at h <;> cases h
  refine ⟨by rw [List.length_set, List.length_replicate], fun x h => ?_, ?_, fun x hx hm h => ?_⟩
  · obtain rfl := key x h
    exact .refl
  · rw [List.getElem?_set, if_pos rfl, if_pos (by rw [List.length_replicate]; exact hi)]
  · have := key x h
    omega
theorem Hw.turn {T : List Tp} {i a : Nat} {F : List Bool} {ns : List Int} (h : Hw T i F (a + 1)) : Hu T i F F a 0 ns := ⟨h, h.len, fun _ h => h, h.snd, fun _ _ => rfl, fun _ y hy => by simp at hy⟩
theorem Hu.step {T : List Tp} {i a s : Nat} {F G : List Bool} {ns : List Int} (h : Hu T i F G a s ns) (ha : a < T.length) (hns : leadsT false T[a] = ns) (hs : s < ns.length) {y : Nat} (hy : ns[s] = (y : Int)) (hya : y < a) (hG : G[a]? = some true) : Hu T i F (G.set y true) a (s + 1) ns := by
  have hyG : y < G.length := by rw [h.len]; omega
  have hmo : ∀ x : Nat, G[x]? = some true → (G.set y true)[x]? = some true := fun x hx => by
    rw [List.getElem?_set]
    by_cases e : y = x
    · rw [if_pos e, if_pos hyG]
    · rw [if_neg e]; exact hx
  refine ⟨h.ow, by rw [List.length_set, h.len], fun x hx => hmo x (h.mono x hx), fun x hx => ?_, fun x hx => ?_, fun hF z hz => ?_⟩
  · rw [List.getElem?_set] at hx
    by_cases e : y = x
    · subst e
      exact .step (h.snd a hG) ha (by rw [hns, ← hy]; exact List.getElem_mem _)
    · rw [if_neg e] at hx; exact h.snd x hx
  · rw [List.getElem?_set, if_neg (by omega)]; exact h.up x hx
  · rw [List.take_succ_eq_append_getElem hs] at hz
    rcases List.mem_append.1 hz with hz | hz
    · exact hmo z (h.on hF z hz)
    · have hz := List.mem_singleton.1 hz
      rw [hy] at hz
      obtain rfl : z = y := by omega
      rw [List.getElem?_set, if_pos rfl, if_pos hyG]
theorem Hu.next {T : List Tp} {i a s : Nat} {F G : List Bool} {ns : List Int} (h : Hu T i F G a s ns) (ha : a < T.length) (hns : leadsT false T[a] = ns) (hs : s = ns.length ∨ G[a]? ≠ some true) : Hw T i G a := by
  refine ⟨h.len, h.snd, h.mono _ h.ow.st, fun x hx hxa hG y hy => ?_⟩
  by_cases e : x = a
  · subst e
    rcases hs with hs | hs
    · refine h.on (by rw [← h.up x (Nat.le_refl _)]; exact hG) y ?_
      rw [hs, List.take_length, ← hns]
      exact hy
    · exact absurd hG hs
  · refine h.mono y (h.ow.cl x hx (by omega) ?_ y hy)
    rw [← h.up x hxa]
    exact hG
theorem Hw.done {T : List Tp} {i : Nat} {F : List Bool} (hF : Fine T) (hi : i < T.length) (h : Hw T i F 0) : F = rchF T false i :=
  rchF_eq hF hi h.len h.st (fun x _ hx => h.snd x hx) fun x hx h1 y hy => h.cl x hx (Nat.zero_le _) h1 y hy
variable (k d cl : Nat) (h : Hp) (n : Nat)
theorem pholds_err (hk : 30000 ≤ k) (A : Option Addr) (T : List Tp) (c : Nat) (hT : TabH h n A T) (hS : ∀ t ∈ T, t.fs.length ≤ 20000) (hm : T.length ≤ 9223372036854775807) (i j : Int) (he : askE T i j ≠ 0) :
    Sp Try.prog (acall Try.prog WW k (d + 8)) cl 40 [.slice A T.length c, .int .i64 i, .int .i64 j] h n fun v h' n' => v = .tuple ⟨[.bool false, .int .i64 (askE T i j)]⟩ ∧ h' = h ∧ n' = n := by
  have q1 := pasked_2 k d n (h.set n (.row 3 false (iv [i, j]))) (n + 1) hk A T c ((hT.set (Nat.le_refl _) _).more (by omega)) hS hm i j (some ⟨n, 0, none⟩) 2 (RdH.row (by omega))
  obtain ⟨e, hee⟩ : ∃ e, askE T i j = e := ⟨_, rfl⟩
  rw [hee] at q1 he ⊢
  have hbe : (e == 0) = false := by rw [beq_eq_false_iff_ne]; exact he
  refine enter Try.func40 (by kernel_rfl) rfl (by kernel_rfl) rfl rfl rfl ?_
  (repeat' first | (with_reducible first | apply x_seq | apply k_then | apply x_block | apply x_skip | apply x_ret | apply x_exit | apply x_label | apply k_pass | apply k_hit | apply k_miss rfl | apply k_out | apply k_turned | refine x_text fun K' hK => ?_) | ((with_reducible apply o_nil); refine hK _ _ _ ?_; clear hK) | ((with_reducible apply o_callF (g := 67) w_none); (case ha => (simp (disch := first | assumption | omega | rfl | decide) only [go_sem, seval, tys] <;> rfl)); (case hs => (exact q1)); (case' hk => rintro _ h' n' ⟨rfl, rfl, rfl⟩)) | ((first | ((with_reducible apply o_pure w_none); (case hp => exact rfl); (case' he => intro h n)) | (with_reducible first | apply o_eff w_none | apply o_guard rfl | apply x_cond | apply k_e1 rfl | apply k_e2 rfl | apply k_e0 rfl | apply k_e3 rfl | apply k_e4 rfl)); (case he => (simp (disch := first | assumption | omega | rfl | decide) only [go_sem, seval, tys, hbe] <;> rfl)); (try (case hok => first | exact rfl | exact ok_w (by omega) rfl)); all_goals (try (intro hb; (try (simp only [hbs, reduceCtorEq] at hb)); try (exfalso; omega)))) | ((with_reducible apply o_undef rfl); (case hb => (simp (disch := first | assumption | omega | rfl | decide) only [go_sem, seval, tys]))))
  all_goals exact sw_flat rfl rfl ⟨rfl, rfl, rfl⟩
theorem pdepth_err (hk : 30000 ≤ k) (A : Option Addr) (T : List Tp) (c : Nat) (hT : TabH h n A T) (hS : ∀ t ∈ T, t.fs.length ≤ 20000) (hm : T.length ≤ 9223372036854775807) (i : Int) (he : askE T i i ≠ 0) :
    Sp Try.prog (acall Try.prog WW k (d + 8)) cl 41 [.slice A T.length c, .int .i64 i] h n fun v h' n' => v = .tuple ⟨[.int .i64 0, .int .i64 (askE T i i)]⟩ ∧ h' = h ∧ n' = n := by
  have q1 := pasked_1 k d n (h.set n (.row 3 false (iv [i]))) (n + 1) hk A T c ((hT.set (Nat.le_refl _) _).more (by omega)) hS hm i (some ⟨n, 0, none⟩) 1 (RdH.row (by omega))
  obtain ⟨e, hee⟩ : ∃ e, askE T i i = e := ⟨_, rfl⟩
  rw [hee] at q1 he ⊢
  have hbe : (e == 0) = false := by rw [beq_eq_false_iff_ne]; exact he
  refine enter Try.func41 (by kernel_rfl) rfl (by kernel_rfl) rfl rfl rfl ?_
  (repeat' first | (with_reducible first | apply x_seq | apply k_then | apply x_block | apply x_skip | apply x_ret | apply x_exit | apply x_label | apply k_pass | apply k_hit | apply k_miss rfl | apply k_out | apply k_turned | refine x_text fun K' hK => ?_) | ((with_reducible apply o_nil); refine hK _ _ _ ?_; clear hK) | ((with_reducible apply o_callF (g := 67) w_none); (case ha => (simp (disch := first | assumption | omega | rfl | decide) only [go_sem, seval, tys] <;> rfl)); (case hs => (exact q1)); (case' hk => rintro _ h' n' ⟨rfl, rfl, rfl⟩)) | ((first | ((with_reducible apply o_pure w_none); (case hp => exact rfl); (case' he => intro h n)) | (with_reducible first | apply o_eff w_none | apply o_guard rfl | apply x_cond | apply k_e1 rfl | apply k_e2 rfl | apply k_e0 rfl | apply k_e3 rfl | apply k_e4 rfl)); (case he => (simp (disch := first | assumption | omega | rfl | decide) only [go_sem, seval, tys, hbe] <;> rfl)); (try (case hok => first | exact rfl | exact ok_w (by omega) rfl)); all_goals (try (intro hb; (try (simp only [hbs, reduceCtorEq] at hb)); try (exfalso; omega)))) | ((with_reducible apply o_undef rfl); (case hb => (simp (disch := first | assumption | omega | rfl | decide) only [go_sem, seval, tys]))))
  all_goals exact sw_flat rfl rfl ⟨rfl, rfl, rfl⟩
theorem preach_err (hk : 30000 ≤ k) (A : Option Addr) (T : List Tp) (c : Nat) (hT : TabH h n A T) (hS : ∀ t ∈ T, t.fs.length ≤ 20000) (hm : T.length ≤ 9223372036854775807) (i : Int) (he : askE T i i ≠ 0) :
    Sp Try.prog (acall Try.prog WW k (d + 8)) cl 42 [.slice A T.length c, .int .i64 i] h n fun v h' n' => v = .tuple ⟨[.slice none 0 0, .int .i64 (askE T i i)]⟩ ∧ h' = h ∧ n' = n := by
  have q1 := pasked_1 k d n (h.set n (.row 3 false (iv [i]))) (n + 1) hk A T c ((hT.set (Nat.le_refl _) _).more (by omega)) hS hm i (some ⟨n, 0, none⟩) 1 (RdH.row (by omega))
  obtain ⟨e, hee⟩ : ∃ e, askE T i i = e := ⟨_, rfl⟩
  rw [hee] at q1 he ⊢
  have hbe : (e == 0) = false := by rw [beq_eq_false_iff_ne]; exact he
  refine enter Try.func42 (by kernel_rfl) rfl (by kernel_rfl) rfl rfl rfl ?_
  (repeat' first | (with_reducible first | apply x_seq | apply k_then | apply x_block | apply x_skip | apply x_ret | apply x_exit | apply x_label | apply k_pass | apply k_hit | apply k_miss rfl | apply k_out | apply k_turned | refine x_text fun K' hK => ?_) | ((with_reducible apply o_nil); refine hK _ _ _ ?_; clear hK) | ((with_reducible apply o_callF (g := 67) w_none); (case ha => (simp (disch := first | assumption | omega | rfl | decide) only [go_sem, seval, tys] <;> rfl)); (case hs => (exact q1)); (case' hk => rintro _ h' n' ⟨rfl, rfl, rfl⟩)) | ((first | ((with_reducible apply o_pure w_none); (case hp => exact rfl); (case' he => intro h n)) | (with_reducible first | apply o_eff w_none | apply o_guard rfl | apply x_cond | apply k_e1 rfl | apply k_e2 rfl | apply k_e0 rfl | apply k_e3 rfl | apply k_e4 rfl)); (case he => (simp (disch := first | assumption | omega | rfl | decide) only [go_sem, seval, tys, hbe] <;> rfl)); (try (case hok => first | exact rfl | exact ok_w (by omega) rfl)); all_goals (try (intro hb; (try (simp only [hbs, reduceCtorEq] at hb)); try (exfalso; omega)))) | ((with_reducible apply o_undef rfl); (case hb => (simp (disch := first | assumption | omega | rfl | decide) only [go_sem, seval, tys]))))
  all_goals exact sw_flat rfl rfl ⟨rfl, rfl, rfl⟩
theorem psame_err (hk : 30000 ≤ k) (A : Option Addr) (T : List Tp) (c : Nat) (hT : TabH h n A T) (hS : ∀ t ∈ T, t.fs.length ≤ 20000) (hm : T.length ≤ 9223372036854775807) (i j : Int) (he : askE T i j ≠ 0) :
    Sp Try.prog (acall Try.prog WW k (d + 8)) cl 43 [.slice A T.length c, .int .i64 i, .int .i64 j] h n fun v h' n' => v = .tuple ⟨[.bool false, .int .i64 (askE T i j)]⟩ ∧ h' = h ∧ n' = n := by
  have q1 := pasked_2 k d n (h.set n (.row 3 false (iv [i, j]))) (n + 1) hk A T c ((hT.set (Nat.le_refl _) _).more (by omega)) hS hm i j (some ⟨n, 0, none⟩) 2 (RdH.row (by omega))
  obtain ⟨e, hee⟩ : ∃ e, askE T i j = e := ⟨_, rfl⟩
  rw [hee] at q1 he ⊢
  have hbe : (e == 0) = false := by rw [beq_eq_false_iff_ne]; exact he
  refine enter Try.func43 (by kernel_rfl) rfl (by kernel_rfl) rfl rfl rfl ?_
  (repeat' first | (with_reducible first | apply x_seq | apply k_then | apply x_block | apply x_skip | apply x_ret | apply x_exit | apply x_label | apply k_pass | apply k_hit | apply k_miss rfl | apply k_out | apply k_turned | refine x_text fun K' hK => ?_) | ((with_reducible apply o_nil); refine hK _ _ _ ?_; clear hK) | ((with_reducible apply o_callF (g := 67) w_none); (case ha => (simp (disch := first | assumption | omega | rfl | decide) only [go_sem, seval, tys] <;> rfl)); (case hs => (exact q1)); (case' hk => rintro _ h' n' ⟨rfl, rfl, rfl⟩)) | ((first | ((with_reducible apply o_pure w_none); (case hp => exact rfl); (case' he => intro h n)) | (with_reducible first | apply o_eff w_none | apply o_guard rfl | apply x_cond | apply k_e1 rfl | apply k_e2 rfl | apply k_e0 rfl | apply k_e3 rfl | apply k_e4 rfl)); (case he => (simp (disch := first | assumption | omega | rfl | decide) only [go_sem, seval, tys, hbe] <;> rfl)); (try (case hok => first | exact rfl | exact ok_w (by omega) rfl)); all_goals (try (intro hb; (try (simp only [hbs, reduceCtorEq] at hb)); try (exfalso; omega)))) | ((with_reducible apply o_undef rfl); (case hb => (simp (disch := first | assumption | omega | rfl | decide) only [go_sem, seval, tys]))))
  all_goals exact sw_flat rfl rfl ⟨rfl, rfl, rfl⟩
theorem pwidth_err (hk : 30000 ≤ k) (A : Option Addr) (T : List Tp) (c : Nat) (hT : TabH h n A T) (hS : ∀ t ∈ T, t.fs.length ≤ 20000) (hm : T.length ≤ 9223372036854775807) (i : Int) (he : askE T i i ≠ 0) :
    Sp Try.prog (acall Try.prog WW k (d + 8)) cl 39 [.slice A T.length c, .int .i64 i] h n fun v h' n' => v = .tuple ⟨[.int .i64 0, .int .i64 (askE T i i)]⟩ ∧ h' = h ∧ n' = n := by
  have q1 := pasked_1 k d n (h.set n (.row 3 false (iv [i]))) (n + 1) hk A T c ((hT.set (Nat.le_refl _) _).more (by omega)) hS hm i (some ⟨n, 0, none⟩) 1 (RdH.row (by omega))
  obtain ⟨e, hee⟩ : ∃ e, askE T i i = e := ⟨_, rfl⟩
  rw [hee] at q1 he ⊢
  have hbe : (e == 0) = false := by rw [beq_eq_false_iff_ne]; exact he
  refine enter Try.func39 (by kernel_rfl) rfl (by kernel_rfl) rfl rfl rfl ?_
  (repeat' first | (with_reducible first | apply x_seq | apply k_then | apply x_block | apply x_skip | apply x_ret | apply x_exit | apply x_label | apply k_pass | apply k_hit | apply k_miss rfl | apply k_out | apply k_turned | refine x_text fun K' hK => ?_) | ((with_reducible apply o_nil); refine hK _ _ _ ?_; clear hK) | ((with_reducible apply o_callF (g := 67) w_none); (case ha => (simp (disch := first | assumption | omega | rfl | decide) only [go_sem, seval, tys] <;> rfl)); (case hs => (exact q1)); (case' hk => rintro _ h' n' ⟨rfl, rfl, rfl⟩)) | ((first | ((with_reducible apply o_pure w_none); (case hp => exact rfl); (case' he => intro h n)) | (with_reducible first | apply o_eff w_none | apply o_guard rfl | apply x_cond | apply k_e1 rfl | apply k_e2 rfl | apply k_e0 rfl | apply k_e3 rfl | apply k_e4 rfl)); (case he => (simp (disch := first | assumption | omega | rfl | decide) only [go_sem, seval, tys, hbe] <;> rfl)); (try (case hok => first | exact rfl | exact ok_w (by omega) rfl)); all_goals (try (intro hb; (try (simp only [hbs, reduceCtorEq] at hb)); try (exfalso; omega)))) | ((with_reducible apply o_undef rfl); (case hb => (simp (disch := first | assumption | omega | rfl | decide) only [go_sem, seval, tys]))))
  all_goals exact sw_flat rfl rfl ⟨rfl, rfl, rfl⟩
theorem rholds_err (hk : 30000 ≤ k) (A : Option Addr) (T : List Tp) (c : Nat) (hT : TabH h n A T) (hS : ∀ t ∈ T, t.fs.length ≤ 20000) (hm : T.length ≤ 9223372036854775807) (i j : Int) (he : askE T i j ≠ 0) :
    Sp Try.prog (acall Try.prog WW k (d + 8)) cl 46 [.slice A T.length c, .int .i64 i, .int .i64 j] h n fun v h' n' => v = .tuple ⟨[.bool false, .int .i64 (askE T i j)]⟩ ∧ h' = h ∧ n' = n := by
  have q1 := rasked_ev k d n h n hk A T c hT hS hm i j
  obtain ⟨e, hee⟩ : ∃ e, askE T i j = e := ⟨_, rfl⟩
  rw [hee] at q1 he ⊢
  have hbe : (e == 0) = false := by rw [beq_eq_false_iff_ne]; exact he
  refine enter Try.func46 (by kernel_rfl) rfl (by kernel_rfl) rfl rfl rfl ?_
  (repeat' first | (with_reducible first | apply x_seq | apply k_then | apply x_block | apply x_skip | apply x_ret | apply x_exit | apply x_label | apply k_pass | apply k_hit | apply k_miss rfl | apply k_out | apply k_turned | refine x_text fun K' hK => ?_) | ((with_reducible apply o_nil); refine hK _ _ _ ?_; clear hK) | ((with_reducible apply o_callF (g := 75) w_none); (case ha => (simp (disch := first | assumption | omega | rfl | decide) only [go_sem, seval, tys] <;> rfl)); (case hs => (exact q1)); (case' hk => rintro _ h' n' ⟨rfl, rfl, rfl⟩)) | ((first | ((with_reducible apply o_pure w_none); (case hp => exact rfl); (case' he => intro h n)) | (with_reducible first | apply o_eff w_none | apply o_guard rfl | apply x_cond | apply k_e1 rfl | apply k_e2 rfl | apply k_e0 rfl | apply k_e3 rfl | apply k_e4 rfl)); (case he => (simp (disch := first | assumption | omega | rfl | decide) only [go_sem, seval, tys, hbe] <;> rfl)); (try (case hok => first | exact rfl | exact ok_w (by omega) rfl)); all_goals (try (intro hb; (try (simp only [hbs, reduceCtorEq] at hb)); try (exfalso; omega)))) | ((with_reducible apply o_undef rfl); (case hb => (simp (disch := first | assumption | omega | rfl | decide) only [go_sem, seval, tys]))))
  all_goals exact sw_flat rfl rfl ⟨rfl, rfl, rfl⟩
theorem rdepth_err (hk : 30000 ≤ k) (A : Option Addr) (T : List Tp) (c : Nat) (hT : TabH h n A T) (hS : ∀ t ∈ T, t.fs.length ≤ 20000) (hm : T.length ≤ 9223372036854775807) (i : Int) (he : askE T i i ≠ 0) :
    Sp Try.prog (acall Try.prog WW k (d + 8)) cl 47 [.slice A T.length c, .int .i64 i] h n fun v h' n' => v = .tuple ⟨[.int .i64 0, .int .i64 (askE T i i)]⟩ ∧ h' = h ∧ n' = n := by
  have q1 := rasked_ev k d n h n hk A T c hT hS hm i i
  obtain ⟨e, hee⟩ : ∃ e, askE T i i = e := ⟨_, rfl⟩
  rw [hee] at q1 he ⊢
  have hbe : (e == 0) = false := by rw [beq_eq_false_iff_ne]; exact he
  refine enter Try.func47 (by kernel_rfl) rfl (by kernel_rfl) rfl rfl rfl ?_
  (repeat' first | (with_reducible first | apply x_seq | apply k_then | apply x_block | apply x_skip | apply x_ret | apply x_exit | apply x_label | apply k_pass | apply k_hit | apply k_miss rfl | apply k_out | apply k_turned | refine x_text fun K' hK => ?_) | ((with_reducible apply o_nil); refine hK _ _ _ ?_; clear hK) | ((with_reducible apply o_callF (g := 75) w_none); (case ha => (simp (disch := first | assumption | omega | rfl | decide) only [go_sem, seval, tys] <;> rfl)); (case hs => (exact q1)); (case' hk => rintro _ h' n' ⟨rfl, rfl, rfl⟩)) | ((first | ((with_reducible apply o_pure w_none); (case hp => exact rfl); (case' he => intro h n)) | (with_reducible first | apply o_eff w_none | apply o_guard rfl | apply x_cond | apply k_e1 rfl | apply k_e2 rfl | apply k_e0 rfl | apply k_e3 rfl | apply k_e4 rfl)); (case he => (simp (disch := first | assumption | omega | rfl | decide) only [go_sem, seval, tys, hbe] <;> rfl)); (try (case hok => first | exact rfl | exact ok_w (by omega) rfl)); all_goals (try (intro hb; (try (simp only [hbs, reduceCtorEq] at hb)); try (exfalso; omega)))) | ((with_reducible apply o_undef rfl); (case hb => (simp (disch := first | assumption | omega | rfl | decide) only [go_sem, seval, tys]))))
  all_goals exact sw_flat rfl rfl ⟨rfl, rfl, rfl⟩
theorem rreach_err (hk : 30000 ≤ k) (A : Option Addr) (T : List Tp) (c : Nat) (hT : TabH h n A T) (hS : ∀ t ∈ T, t.fs.length ≤ 20000) (hm : T.length ≤ 9223372036854775807) (i : Int) (he : askE T i i ≠ 0) :
    Sp Try.prog (acall Try.prog WW k (d + 8)) cl 50 [.slice A T.length c, .int .i64 i] h n fun v h' n' => v = .tuple ⟨[.slice none 0 0, .int .i64 (askE T i i)]⟩ ∧ h' = h ∧ n' = n := by
  have q1 := rasked_ev k d n h n hk A T c hT hS hm i i
  obtain ⟨e, hee⟩ : ∃ e, askE T i i = e := ⟨_, rfl⟩
  rw [hee] at q1 he ⊢
  have hbe : (e == 0) = false := by rw [beq_eq_false_iff_ne]; exact he
  refine enter Try.func50 (by kernel_rfl) rfl (by kernel_rfl) rfl rfl rfl ?_
  (repeat' first | (with_reducible first | apply x_seq | apply k_then | apply x_block | apply x_skip | apply x_ret | apply x_exit | apply x_label | apply k_pass | apply k_hit | apply k_miss rfl | apply k_out | apply k_turned | refine x_text fun K' hK => ?_) | ((with_reducible apply o_nil); refine hK _ _ _ ?_; clear hK) | ((with_reducible apply o_callF (g := 75) w_none); (case ha => (simp (disch := first | assumption | omega | rfl | decide) only [go_sem, seval, tys] <;> rfl)); (case hs => (exact q1)); (case' hk => rintro _ h' n' ⟨rfl, rfl, rfl⟩)) | ((first | ((with_reducible apply o_pure w_none); (case hp => exact rfl); (case' he => intro h n)) | (with_reducible first | apply o_eff w_none | apply o_guard rfl | apply x_cond | apply k_e1 rfl | apply k_e2 rfl | apply k_e0 rfl | apply k_e3 rfl | apply k_e4 rfl)); (case he => (simp (disch := first | assumption | omega | rfl | decide) only [go_sem, seval, tys, hbe] <;> rfl)); (try (case hok => first | exact rfl | exact ok_w (by omega) rfl)); all_goals (try (intro hb; (try (simp only [hbs, reduceCtorEq] at hb)); try (exfalso; omega)))) | ((with_reducible apply o_undef rfl); (case hb => (simp (disch := first | assumption | omega | rfl | decide) only [go_sem, seval, tys]))))
  all_goals exact sw_flat rfl rfl ⟨rfl, rfl, rfl⟩
theorem rsame_err (hk : 30000 ≤ k) (A : Option Addr) (T : List Tp) (c : Nat) (hT : TabH h n A T) (hS : ∀ t ∈ T, t.fs.length ≤ 20000) (hm : T.length ≤ 9223372036854775807) (i j : Int) (he : askE T i j ≠ 0) :
    Sp Try.prog (acall Try.prog WW k (d + 8)) cl 51 [.slice A T.length c, .int .i64 i, .int .i64 j] h n fun v h' n' => v = .tuple ⟨[.bool false, .int .i64 (askE T i j)]⟩ ∧ h' = h ∧ n' = n := by
  have q1 := rasked_ev k d n h n hk A T c hT hS hm i j
  obtain ⟨e, hee⟩ : ∃ e, askE T i j = e := ⟨_, rfl⟩
  rw [hee] at q1 he ⊢
  have hbe : (e == 0) = false := by rw [beq_eq_false_iff_ne]; exact he
  refine enter Try.func51 (by kernel_rfl) rfl (by kernel_rfl) rfl rfl rfl ?_
  (repeat' first | (with_reducible first | apply x_seq | apply k_then | apply x_block | apply x_skip | apply x_ret | apply x_exit | apply x_label | apply k_pass | apply k_hit | apply k_miss rfl | apply k_out | apply k_turned | refine x_text fun K' hK => ?_) | ((with_reducible apply o_nil); refine hK _ _ _ ?_; clear hK) | ((with_reducible apply o_callF (g := 75) w_none); (case ha => (simp (disch := first | assumption | omega | rfl | decide) only [go_sem, seval, tys] <;> rfl)); (case hs => (exact q1)); (case' hk => rintro _ h' n' ⟨rfl, rfl, rfl⟩)) | ((first | ((with_reducible apply o_pure w_none); (case hp => exact rfl); (case' he => intro h n)) | (with_reducible first | apply o_eff w_none | apply o_guard rfl | apply x_cond | apply k_e1 rfl | apply k_e2 rfl | apply k_e0 rfl | apply k_e3 rfl | apply k_e4 rfl)); (case he => (simp (disch := first | assumption | omega | rfl | decide) only [go_sem, seval, tys, hbe] <;> rfl)); (try (case hok => first | exact rfl | exact ok_w (by omega) rfl)); all_goals (try (intro hb; (try (simp only [hbs, reduceCtorEq] at hb)); try (exfalso; omega)))) | ((with_reducible apply o_undef rfl); (case hb => (simp (disch := first | assumption | omega | rfl | decide) only [go_sem, seval, tys]))))
  all_goals exact sw_flat rfl rfl ⟨rfl, rfl, rfl⟩
theorem rwidth_err (hk : 30000 ≤ k) (A : Option Addr) (T : List Tp) (c : Nat) (hT : TabH h n A T) (hS : ∀ t ∈ T, t.fs.length ≤ 20000) (hm : T.length ≤ 9223372036854775807) (i : Int) (he : askE T i i ≠ 0) :
    Sp Try.prog (acall Try.prog WW k (d + 8)) cl 52 [.slice A T.length c, .int .i64 i] h n fun v h' n' => v = .tuple ⟨[.int .i64 0, .int .i64 (askE T i i)]⟩ ∧ h' = h ∧ n' = n := by
  have q1 := rasked_ev k d n h n hk A T c hT hS hm i i
  obtain ⟨e, hee⟩ : ∃ e, askE T i i = e := ⟨_, rfl⟩
  rw [hee] at q1 he ⊢
  have hbe : (e == 0) = false := by rw [beq_eq_false_iff_ne]; exact he
  refine enter Try.func52 (by kernel_rfl) rfl (by kernel_rfl) rfl rfl rfl ?_
  (repeat' first | (with_reducible first | apply x_seq | apply k_then | apply x_block | apply x_skip | apply x_ret | apply x_exit | apply x_label | apply k_pass | apply k_hit | apply k_miss rfl | apply k_out | apply k_turned | refine x_text fun K' hK => ?_) | ((with_reducible apply o_nil); refine hK _ _ _ ?_; clear hK) | ((with_reducible apply o_callF (g := 75) w_none); (case ha => (simp (disch := first | assumption | omega | rfl | decide) only [go_sem, seval, tys] <;> rfl)); (case hs => (exact q1)); (case' hk => rintro _ h' n' ⟨rfl, rfl, rfl⟩)) | ((first | ((with_reducible apply o_pure w_none); (case hp => exact rfl); (case' he => intro h n)) | (with_reducible first | apply o_eff w_none | apply o_guard rfl | apply x_cond | apply k_e1 rfl | apply k_e2 rfl | apply k_e0 rfl | apply k_e3 rfl | apply k_e4 rfl)); (case he => (simp (disch := first | assumption | omega | rfl | decide) only [go_sem, seval, tys, hbe] <;> rfl)); (try (case hok => first | exact rfl | exact ok_w (by omega) rfl)); all_goals (try (intro hb; (try (simp only [hbs, reduceCtorEq] at hb)); try (exfalso; omega)))) | ((with_reducible apply o_undef rfl); (case hb => (simp (disch := first | assumption | omega | rfl | decide) only [go_sem, seval, tys]))))
  all_goals exact sw_flat rfl rfl ⟨rfl, rfl, rfl⟩
theorem rholds_ok (hk : 30000 ≤ k) (A : Option Addr) (T : List Tp) (c : Nat) (hT : TabH h n A T) (hS : ∀ t ∈ T, t.fs.length ≤ 20000) (hm : T.length ≤ 9223372036854775807) (hC : ChkT T) (i j : Nat) (hi : i < T.length) (hj : j < T.length) :
    Sp Try.prog (acall Try.prog WW k (d + 8)) cl 46 [.slice A T.length c, .int .i64 i, .int .i64 j] h n fun v h' n' => v = .tuple ⟨[.bool (holdsB T i j), .int .i64 0]⟩ ∧ h' = h ∧ n' = n := by
  have hl := hC.1
  have hF := hC.2.1
  have ha : askE T i j = 0 := by unfold askE; rw [if_pos hC, if_pos ⟨⟨by omega, by omega⟩, by omega, by omega⟩]
  have qa := rasked_ev k d n h n hk A T c hT hS hm i j
  rw [ha] at qa
  have qa := qa.mono (Φ' := fun v2 h2 n2 => v2 = .int .i64 0 ∧ h = h2 ∧ n = n2) fun _ _ _ hp => ⟨hp.1, hp.2.1.symm, hp.2.2.symm⟩
  obtain ⟨tid, toff, hAA, htid, -⟩ := hT.at_ hi
  subst hAA
  obtain ⟨F0, hF0⟩ : ∃ F0, (List.replicate T.length false).set i true = F0 := ⟨_, rfl⟩
  have hov0 := bw_set (l := List.replicate T.length false) (i := i) (by rw [List.length_replicate]; exact hi)
  have h0w := Hw.init (T := T) hi
  rw [hF0] at hov0 h0w
  refine enter Try.func46 (by kernel_rfl) rfl (by kernel_rfl) rfl rfl rfl ?_
  (repeat' first | (with_reducible first | apply x_seq | apply k_then | apply x_block | apply x_skip | apply x_ret | apply x_exit | apply x_label | apply k_pass | apply k_hit | apply k_miss rfl | apply k_out | apply k_turned | refine x_text fun K' hK => ?_) | ((with_reducible apply o_nil); refine hK _ _ _ ?_; clear hK) | ((with_reducible apply o_callF (g := 75) w_none); (case ha => (simp (disch := first | assumption | omega | rfl | decide) only [go_sem, seval, tys] <;> rfl)); (case hs => (exact qa)); (case' hk => rintro _ h' n' ⟨rfl, rfl, rfl⟩)) | ((first | ((with_reducible apply o_pure w_none); (case hp => exact rfl); (case' he => intro h n)) | (with_reducible first | apply o_eff w_none | apply o_guard rfl | apply x_cond | apply k_e1 rfl | apply k_e2 rfl | apply k_e0 rfl | apply k_e3 rfl | apply k_e4 rfl)); (case he => (simp (disch := first | assumption | omega | rfl | decide) only [go_sem, seval, tys, mk_falses, hov0] <;> rfl)); (try (case hok => first | exact rfl | exact ok_w (by omega) rfl)); all_goals (try (intro hb; (try (simp only [hbs, reduceCtorEq] at hb)); try (exfalso; omega)))) | ((with_reducible apply o_undef rfl); (case hb => (simp (disch := first | assumption | omega | rfl | decide) only [go_sem, seval, tys]))))
  refine x_loopV [10, 11, 12, 27, 28, 29, 30, 31, 32, 33, 34, 35, 36, 37, 38, 39, 40, 41, 42, 43, 44, 45, 46, 47, 48, 49, 50, 51, 52, 53] [10] (fun m vs h4 n4 => ∃ (q : Nat) (w : Int) (F : List Bool), m = q ∧ q ≤ i + 1 ∧ w = (q : Int) - 1 ∧ vs = [.int .i64 w] ∧ n + 1 ≤ n4 ∧ TabH h4 n (some ⟨tid, toff, none⟩) T ∧ rowOf h4 n = some (4, false, bw F) ∧ Hw T i F q) (i + 1) rfl (by omega) ?_ ?_
  · exact ⟨i + 1, i, F0, rfl, by omega, by omega, (by simp (disch := first | assumption | omega | rfl | decide) only [go_sem, seval, tys] <;> rfl), Nat.le_refl _, hT.set (Nat.le_refl _) _, rowOf_same _ _ _ _ _, h0w⟩
  · rintro m fr _ h4 n4 ⟨q, w, F, rfl, hq, hw, rfl, hn4, hT4, qF, hHw⟩
    rcases m with _ | a
    · obtain rfl : w = -1 := by omega
      have hFd := hHw.done hF hi
      have cJ := cellAt_row (off := j) qF
      rw [hFd, rchF_lget hj] at cJ
      (repeat' first | (with_reducible first | apply x_seq | apply k_then | apply x_block | apply x_skip | apply x_ret | apply x_exit | apply x_label | apply k_pass | apply k_hit | apply k_miss rfl | apply k_out | apply k_turned | refine x_text fun K' hK => ?_) | ((with_reducible apply o_nil); refine hK _ _ _ ?_; clear hK) | fail | ((first | ((with_reducible apply o_pure w_none); (case hp => exact rfl); (case' he => intro h n)) | (with_reducible first | apply o_eff w_none | apply o_guard rfl | apply x_cond | apply k_e1 rfl | apply k_e2 rfl | apply k_e0 rfl | apply k_e3 rfl | apply k_e4 rfl)); (case he => (simp (disch := first | assumption | omega | rfl | decide) only [go_sem, seval, tys, cJ] <;> rfl)); (try (case hok => first | exact rfl | exact ok_w (by omega) rfl)); all_goals (try (intro hb; (try (simp only [hbs, reduceCtorEq] at hb)); try (exfalso; omega)))) | ((with_reducible apply o_undef rfl); (case hb => (simp (disch := first | assumption | omega | rfl | decide) only [go_sem, seval, tys]))))
      exact sw_flat rfl rfl ⟨rfl, rfl, rfl⟩
    · obtain rfl : w = (a : Int) := by omega
      have haT : a < T.length := by omega
      obtain ⟨_, _, hA2, -, ht4, -⟩ := hT4.at_ haT
      injection hA2 with hA2
      injection hA2 with z1 z2
      subst z1
      subst z2
      have hfa := hF a haT
      have pL := (rparts_ev k (d + 6) n h4 n4 hk hfa ((hT4.fd _ (List.getElem_mem haT)).more (by omega))).mono fun _ _ _ hh => IntsV.rd hh
      have hns := leadsT_near hfa
      have hnl := leadsT_len (far := false) hfa
      obtain ⟨ns, hnse⟩ : ∃ ns, leadsT false T[a] = ns := ⟨_, rfl⟩
      rw [hnse] at pL hns hnl
      (repeat' first | (with_reducible first | apply x_seq | apply k_then | apply x_block | apply x_skip | apply x_ret | apply x_exit | apply x_label | apply k_pass | apply k_hit | apply k_miss rfl | apply k_out | apply k_turned | refine x_text fun K' hK => ?_) | ((with_reducible apply o_nil); refine hK _ _ _ ?_; clear hK) | ((with_reducible apply o_callF (g := 34) w_none); (case ha => (simp (disch := first | assumption | omega | rfl | decide) only [go_sem, seval, tys] <;> rfl)); (case hs => (exact pL)); (case' hk => rintro _ h' n' ⟨LA, lc, rfl, hrL, hLn, hn2, hkp⟩)) | ((first | ((with_reducible apply o_pure w_none); (case hp => exact rfl); (case' he => intro h n)) | (with_reducible first | apply o_eff w_none | apply o_guard rfl | apply x_cond | apply k_e1 rfl | apply k_e2 rfl | apply k_e0 rfl | apply k_e3 rfl | apply k_e4 rfl)); (case he => (simp (disch := first | assumption | omega | rfl | decide) only [go_sem, seval, tys, ht4] <;> rfl)); (try (case hok => first | exact rfl | exact ok_w (by omega) rfl)); all_goals (try (intro hb; (try (simp only [hbs, reduceCtorEq] at hb)); try (exfalso; omega)))) | ((with_reducible apply o_undef rfl); (case hb => (simp (disch := first | assumption | omega | rfl | decide) only [go_sem, seval, tys]))))
      refine x_loopV [12, 36, 37, 38, 39, 40, 41, 42, 43, 44, 45, 46, 47, 48, 49, 50, 51, 52, 53] [12] (fun m vs h9 n9 => ∃ (s : Nat) (G : List Bool), m = ns.length - s ∧ s ≤ ns.length ∧ vs = [.int .i64 s] ∧ n9 = n' ∧ TabH h9 n (some ⟨tid, toff, none⟩) T ∧ RdH h9 n' LA (iv ns) ∧ rowOf h9 n = some (4, false, bw G) ∧ Hu T i F G a s ns) ns.length rfl (by omega) ?_ ?_
      · exact ⟨0, F, rfl, by omega, (by simp (disch := first | assumption | omega | rfl | decide) only [go_sem, seval, tys] <;> rfl), rfl, hT4.keep (by omega) hkp, hrL, by rw [rowOf_keep (hkp _ (by omega))]; exact qF, hHw.turn⟩
      · rintro m fr5 _ h9 n9 ⟨s, G, rfl, hs, rfl, rfl, hT9, hrL9, qG, hIn⟩
        have hGl := hIn.len
        have hGa : G[a]? = some (G[a]'(by omega)) := List.getElem?_eq_getElem (by omega)
        have cH := cellAt_row (off := a) qG
        rw [bw_lget hGa] at cH
        obtain ⟨b, hb5⟩ : ∃ b, G[a]'(by omega) = b := ⟨_, rfl⟩
        rw [hb5] at cH hGa
        by_cases hsl : s < ns.length
        · cases b
          · have hnxt := hIn.next haT hnse (.inr (by rw [hGa]; decide))
            (repeat' first | (with_reducible first | apply x_seq | apply k_then | apply x_block | apply x_skip | apply x_ret | apply x_exit | apply x_label | apply k_pass | apply k_hit | apply k_miss rfl | apply k_out | apply k_turned | refine x_text fun K' hK => ?_) | ((with_reducible apply o_nil); refine hK _ _ _ ?_; clear hK) | fail | ((first | ((with_reducible apply o_pure w_none); (case hp => exact rfl); (case' he => intro h n)) | (with_reducible first | apply o_eff w_none | apply o_guard rfl | apply x_cond | apply k_e1 rfl | apply k_e2 rfl | apply k_e0 rfl | apply k_e3 rfl | apply k_e4 rfl)); (case he => (simp (disch := first | assumption | omega | rfl | decide) only [go_sem, seval, tys, cH] <;> rfl)); (try (case hok => first | exact rfl | exact ok_w (by omega) rfl)); all_goals (try (intro hb; (try (simp only [hbs, reduceCtorEq] at hb)); try (exfalso; omega)))) | ((with_reducible apply o_undef rfl); (case hb => (simp (disch := first | assumption | omega | rfl | decide) only [go_sem, seval, tys]))))
            refine k_round a (by omega) ⟨a, (a : Int) - 1, G, rfl, by omega, rfl, (by simp (disch := first | assumption | omega | rfl | decide) only [go_sem, seval, tys] <;> rfl), by omega, hT9, qG, hnxt⟩
          · obtain ⟨lid, lof, hLA, -, cz⟩ := int_at hrL9 hsl
            subst hLA
            have hyb := hns ns[s] (List.getElem_mem _)
            obtain ⟨y, hy⟩ := Int.eq_ofNat_of_zero_le hyb.1
            rw [hy] at cz hyb
            have hstp := hIn.step haT hnse hsl hy (by omega) hGa
            have w0 := rwOf_row qG
            have hov := bw_set (l := G) (i := y) (by omega)
            have hLz := hLn lid lof rfl
            (repeat' first | (with_reducible first | apply x_seq | apply k_then | apply x_block | apply x_skip | apply x_ret | apply x_exit | apply x_label | apply k_pass | apply k_hit | apply k_miss rfl | apply k_out | apply k_turned | refine x_text fun K' hK => ?_) | ((with_reducible apply o_nil); refine hK _ _ _ ?_; clear hK) | fail | ((first | ((with_reducible apply o_pure w_none); (case hp => exact rfl); (case' he => intro h n)) | (with_reducible first | apply o_eff w_none | apply o_guard rfl | apply x_cond | apply k_e1 rfl | apply k_e2 rfl | apply k_e0 rfl | apply k_e3 rfl | apply k_e4 rfl)); (case he => (simp (disch := first | assumption | omega | rfl | decide) only [go_sem, seval, tys, cH, cz, w0, hov] <;> rfl)); (try (case hok => first | exact rfl | exact ok_w (by omega) rfl)); all_goals (try (intro hb; (try (simp only [hbs, reduceCtorEq] at hb)); try (exfalso; omega)))) | ((with_reducible apply o_undef rfl); (case hb => (simp (disch := first | assumption | omega | rfl | decide) only [go_sem, seval, tys]))))
            refine k_round (ns.length - (s + 1)) (by omega) ⟨s + 1, _, rfl, by omega, (by simp (disch := first | assumption | omega | rfl | decide) only [go_sem, seval, tys] <;> rfl), rfl, hT9.set (by omega) _, hrL9.kill (fun b o e => by injection e with e; injection e with e1; omega) _, rowOf_same _ _ _ _ _, hstp⟩
        · obtain rfl : s = ns.length := by omega
          have hnxt := hIn.next haT hnse (.inl rfl)
          (repeat' first | (with_reducible first | apply x_seq | apply k_then | apply x_block | apply x_skip | apply x_ret | apply x_exit | apply x_label | apply k_pass | apply k_hit | apply k_miss rfl | apply k_out | apply k_turned | refine x_text fun K' hK => ?_) | ((with_reducible apply o_nil); refine hK _ _ _ ?_; clear hK) | fail | ((first | ((with_reducible apply o_pure w_none); (case hp => exact rfl); (case' he => intro h n)) | (with_reducible first | apply o_eff w_none | apply o_guard rfl | apply x_cond | apply k_e1 rfl | apply k_e2 rfl | apply k_e0 rfl | apply k_e3 rfl | apply k_e4 rfl)); (case he => (simp (disch := first | assumption | omega | rfl | decide) only [go_sem, seval, tys, cH] <;> rfl)); (try (case hok => first | exact rfl | exact ok_w (by omega) rfl)); all_goals (try (intro hb; (try (simp only [hbs, reduceCtorEq] at hb)); try (exfalso; omega)))) | ((with_reducible apply o_undef rfl); (case hb => (simp (disch := first | assumption | omega | rfl | decide) only [go_sem, seval, tys]))))
          refine k_round a (by omega) ⟨a, (a : Int) - 1, G, rfl, by omega, rfl, (by simp (disch := first | assumption | omega | rfl | decide) only [go_sem, seval, tys] <;> rfl), by omega, hT9, qG, hnxt⟩
end Go.Proofs.Ytgdokjfjmcleeaa.Ce
