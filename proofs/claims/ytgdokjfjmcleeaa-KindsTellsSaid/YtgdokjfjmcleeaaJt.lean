/- Alike types, in plain Lean. Comparing fields' names: symbolic runs. -/
import Derived.Test.YtgdokjfjmcleeaaJb
import Derived.Test.YtgdokjfjmcleeaaKh
namespace Go.Proofs.Ytgdokjfjmcleeaa.Ce
open Go.RowKit
set_option linter.unusedVariables false
set_option linter.unusedSimpArgs false
set_option maxHeartbeats 1000000

/-- two types look the same by themselves -/
def Shp (t u : Tp) : Prop := t.kd = u.kd ∧ t.ln = u.ln ∧ t.fs.map (·.1) = u.fs.map (·.1)
theorem Shp.len {far : Bool} {t u : Tp} (h : Shp t u) : (leadsT far t).length = (leadsT far u).length := by
  obtain ⟨h1, -, h3⟩ := h
  have h4 := congrArg List.length h3
  rw [List.length_map, List.length_map] at h4
  unfold leadsT
  rw [h1]
  split
  · rfl
  · rw [List.length_map, List.length_map, h4]
/-- the pairs to which a pair leads -/
def pairsT (t u : Tp) : List (Int × Int) := (leadsT true t).zip (leadsT true u)
def pr (a b : Nat) : Int × Int := ((a : Int), (b : Int))
/-- what is met from a pair -/
inductive Met (T : List Tp) (i k : Nat) : Nat → Nat → Prop
  | refl : Met T i k i k
  | step {a b x y : Nat} (h : Met T i k a b) (ha : a < T.length) (hb : b < T.length) (hs : Shp T[a] T[b]) (hp : pr x y ∈ pairsT T[a] T[b]) : Met T i k x y
/-- types are alike: nothing that is met from both looks different -/
def Alike (T : List Tp) (i k : Nat) : Prop := ∀ a b, Met T i k a b → ∀ (ha : a < T.length) (hb : b < T.length), Shp T[a] T[b]
theorem pairsT_in {T : List Tp} (hF : Fine T) {a b : Nat} (ha : a < T.length) (hb : b < T.length) {p : Int × Int} (hp : p ∈ pairsT T[a] T[b]) : ∃ x y : Nat, p = pr x y ∧ x < T.length ∧ y < T.length := by
  unfold pairsT at hp
  have h1 := leadsT_in (far := true) (hF a ha) (by omega) p.1 (List.of_mem_zip (a := p.1) (b := p.2) hp).1
  have h2 := leadsT_in (far := true) (hF b hb) (by omega) p.2 (List.of_mem_zip (a := p.1) (b := p.2) hp).2
  refine ⟨p.1.toNat, p.2.toNat, ?_, by omega, by omega⟩
  unfold pr
  rw [Int.toNat_of_nonneg h1.1, Int.toNat_of_nonneg h2.1]
theorem Met.lt {T : List Tp} {i k a b : Nat} (hF : Fine T) (hi : i < T.length) (hk : k < T.length) (h : Met T i k a b) : a < T.length ∧ b < T.length := by
  cases h with
  | refl => exact ⟨hi, hk⟩
  | step h ha hb hs hp =>
    obtain ⟨x, y, e, h1, h2⟩ := pairsT_in hF ha hb hp
    unfold pr at e
    injection e with e1 e2
    omega
/-- the work under way: pairs that are met and looked at, pairs that are met -/
structure Wrk (T : List Tp) (i k : Nat) (ps ops : List (Int × Int)) : Prop where
  st : pr i k ∈ ps ∨ pr i k ∈ ops
  met : ∀ p, p ∈ ps ∨ p ∈ ops → ∃ a b : Nat, p = pr a b ∧ a < T.length ∧ b < T.length ∧ Met T i k a b
  ok : ∀ a b : Nat, pr a b ∈ ps → ∀ (ha : a < T.length) (hb : b < T.length), Shp T[a] T[b] ∧ ∀ p ∈ pairsT T[a] T[b], p ∈ ps ∨ p ∈ ops
theorem pr_inj {a b x y : Nat} (h : pr a b = pr x y) : a = x ∧ b = y := by
  unfold pr at h
  injection h with h1 h2
  omega
theorem Wrk.init {T : List Tp} {i k : Nat} (hi : i < T.length) (hk : k < T.length) : Wrk T i k [] [pr i k] :=
  ⟨.inr (List.mem_singleton.2 rfl), fun p hp => by
    rcases hp with hp | hp
    · cases hp
    · obtain rfl := List.mem_singleton.1 hp
      exact ⟨i, k, rfl, hi, hk, .refl⟩, fun a b h => by cases h⟩
/-- a pair that was looked at before -/
theorem Wrk.skip {T : List Tp} {i k : Nat} {ps ops : List (Int × Int)} {p : Int × Int} (h : Wrk T i k ps (ops ++ [p])) (hp : p ∈ ps) : Wrk T i k ps ops := by
  have key : ∀ q, q ∈ ps ∨ q ∈ ops ++ [p] → q ∈ ps ∨ q ∈ ops := fun q hq => by
    rcases hq with hq | hq
    · exact .inl hq
    · rcases List.mem_append.1 hq with hq | hq
      · exact .inr hq
      · obtain rfl := List.mem_singleton.1 hq
        exact .inl hp
  refine ⟨key _ h.st, fun q hq => h.met q ?_, fun a b hab ha hb => ⟨(h.ok a b hab ha hb).1, fun q hq => key q ((h.ok a b hab ha hb).2 q hq)⟩⟩
  rcases hq with hq | hq
  · exact .inl hq
  · exact .inr (List.mem_append_left _ hq)
/-- a pair that looks the same -/
theorem Wrk.next {T : List Tp} {i k a b : Nat} {ps ops : List (Int × Int)} (hF : Fine T) (h : Wrk T i k ps (ops ++ [pr a b])) (ha : a < T.length) (hb : b < T.length) (hs : Shp T[a] T[b]) : Wrk T i k (ps ++ [pr a b]) (ops ++ pairsT T[a] T[b]) := by
  have hm : Met T i k a b := by
    obtain ⟨x, y, e, -, -, hm⟩ := h.met (pr a b) (.inr (List.mem_append_right _ (List.mem_singleton.2 rfl)))
    obtain ⟨rfl, rfl⟩ := pr_inj e
    exact hm
  have key : ∀ q, q ∈ ps ∨ q ∈ ops ++ [pr a b] → q ∈ ps ++ [pr a b] ∨ q ∈ ops ++ pairsT T[a] T[b] := fun q hq => by
    rcases hq with hq | hq
    · exact .inl (List.mem_append_left _ hq)
    · rcases List.mem_append.1 hq with hq | hq
      · exact .inr (List.mem_append_left _ hq)
      · exact .inl (List.mem_append_right _ hq)
  refine ⟨key _ h.st, fun q hq => ?_, fun x y hxy hx hy => ?_⟩
  · rcases hq with hq | hq
    · rcases List.mem_append.1 hq with hq | hq
      · exact h.met q (.inl hq)
      · obtain rfl := List.mem_singleton.1 hq
        exact ⟨a, b, rfl, ha, hb, hm⟩
    · rcases List.mem_append.1 hq with hq | hq
      · exact h.met q (.inr (List.mem_append_left _ hq))
      · obtain ⟨x, y, rfl, hx, hy⟩ := pairsT_in hF ha hb hq
        exact ⟨x, y, rfl, hx, hy, .step hm ha hb hs hq⟩
  · rcases List.mem_append.1 hxy with hxy | hxy
    · exact ⟨(h.ok x y hxy hx hy).1, fun q hq => key q ((h.ok x y hxy hx hy).2 q hq)⟩
    · obtain ⟨rfl, rfl⟩ := pr_inj (List.mem_singleton.1 hxy)
      exact ⟨hs, fun q hq => .inr (List.mem_append_right _ hq)⟩
theorem Wrk.done {T : List Tp} {i k : Nat} {ps : List (Int × Int)} (h : Wrk T i k ps []) : Alike T i k := by
  have key : ∀ a b, Met T i k a b → pr a b ∈ ps := by
    intro a b hm
    induction hm with
    | refl => exact h.st.resolve_right (by simp)
    | step hm ha hb hs hp ih => exact ((h.ok _ _ ih ha hb).2 _ hp).resolve_right (by simp)
  exact fun a b hm ha hb => (h.ok a b (key a b hm) ha hb).1
theorem Wrk.bad {T : List Tp} {i k a b : Nat} {ps ops : List (Int × Int)} (h : Wrk T i k ps (ops ++ [pr a b])) (ha : a < T.length) (hb : b < T.length) (hs : ¬ Shp T[a] T[b]) : ¬ Alike T i k := by
  intro hal
  obtain ⟨x, y, e, -, -, hm⟩ := h.met (pr a b) (.inr (List.mem_append_right _ (List.mem_singleton.2 rfl)))
  obtain ⟨rfl, rfl⟩ := pr_inj e
  exact hs (hal a b hm ha hb)
/-- how many pairs have not been looked at -/
def allP (L : Nat) : List (Int × Int) := (List.range L).flatMap fun (a : Nat) => (List.range L).map fun (b : Nat) => pr a b
def left_ (L : Nat) (ps : List (Int × Int)) : Nat := ((allP L).filter fun p => decide (p ∉ ps)).length
theorem filt_less {α : Type} {f g : α → Bool} : ∀ {l : List α}, (∀ x ∈ l, f x = true → g x = true) → (∃ x ∈ l, g x = true ∧ f x = false) → (l.filter f).length < (l.filter g).length
  | [], _, h => by obtain ⟨x, hx, -⟩ := h; cases hx
  | y :: l, h1, h2 => by
    have hle : ∀ {l : List α}, (∀ x ∈ l, f x = true → g x = true) → (l.filter f).length ≤ (l.filter g).length := by
      intro l
      induction l with
      | nil => intro _; exact Nat.le_refl _
      | cons z l ih =>
        intro h
        have := ih fun x hx => h x (List.mem_cons_of_mem _ hx)
        have hz := h z (List.mem_cons_self ..)
        cases hf : f z
        · rw [List.filter_cons_of_neg (by rw [hf]; decide)]
          cases hg : g z
          · rw [List.filter_cons_of_neg (by rw [hg]; decide)]; exact this
          · rw [List.filter_cons_of_pos hg, List.length_cons]; omega
        · rw [List.filter_cons_of_pos hf, List.filter_cons_of_pos (hz hf), List.length_cons, List.length_cons]; omega
    have hl := hle fun x hx => h1 x (List.mem_cons_of_mem _ hx)
    obtain ⟨x, hx, hg, hf⟩ := h2
    rcases List.mem_cons.1 hx with rfl | hx
    · rw [List.filter_cons_of_neg (by rw [hf]; decide), List.filter_cons_of_pos hg, List.length_cons]; omega
    · have := filt_less (fun x hx => h1 x (List.mem_cons_of_mem _ hx)) ⟨x, hx, hg, hf⟩
      have hy := h1 y (List.mem_cons_self ..)
      cases hf : f y
      · rw [List.filter_cons_of_neg (by rw [hf]; decide)]
        cases hg : g y
        · rw [List.filter_cons_of_neg (by rw [hg]; decide)]; exact this
        · rw [List.filter_cons_of_pos hg, List.length_cons]; omega
      · rw [List.filter_cons_of_pos hf, List.filter_cons_of_pos (hy hf), List.length_cons, List.length_cons]; omega
theorem allP_mem {L a b : Nat} (ha : a < L) (hb : b < L) : pr a b ∈ allP L := List.mem_flatMap.2 ⟨a, List.mem_range.2 ha, List.mem_map.2 ⟨b, List.mem_range.2 hb, rfl⟩⟩
theorem left_lt {L a b : Nat} {ps : List (Int × Int)} (ha : a < L) (hb : b < L) (hn : pr a b ∉ ps) : left_ L (ps ++ [pr a b]) < left_ L ps := by
  refine filt_less (fun x _ h => ?_) ⟨pr a b, allP_mem ha hb, decide_eq_true hn, decide_eq_false fun h => h (List.mem_append_right _ (List.mem_singleton.2 rfl))⟩
  rw [decide_eq_true_eq] at h ⊢
  exact fun h1 => h (List.mem_append_left _ h1)
theorem left_le {L : Nat} {ps : List (Int × Int)} (hL : L ≤ 32) : left_ L ps ≤ 32 * 32 := by
  unfold left_
  refine Nat.le_trans (List.length_filter_le _ _) ?_
  have : ∀ m, ((List.range m).flatMap fun (a : Nat) => (List.range L).map fun (b : Nat) => pr a b).length = m * L := by
    intro m
    induction m with
    | zero => simp
    | succ m ih => rw [List.range_succ, List.flatMap_append, List.length_append, ih, List.flatMap_cons, List.flatMap_nil, List.append_nil, List.length_map, List.length_range, Nat.succ_mul]
  unfold allP
  rw [this]
  exact Nat.mul_le_mul hL hL
end Go.Proofs.Ytgdokjfjmcleeaa.Ce
namespace Go.Proofs.Ytgdokjfjmcleeaa.Ce
open Go.RowKit
set_option linter.unusedVariables false
set_option linter.unusedSimpArgs false


set_option maxRecDepth 100000
set_option maxHeartbeats 2000000

variable (k d cl : Nat) (h : Hp) (n : Nat)
theorem same1_ev (s u : List UInt8) (a b : Int) :
    Sp Try.prog (acall Try.prog WW k (d + 1)) cl 72 [.agg ⟨[.string ⟨⟨s⟩⟩, .int .i64 a]⟩, .agg ⟨[.string ⟨⟨u⟩⟩, .int .i64 b]⟩] h n fun v h' n' => v = .bool (decide (s = u)) ∧ h' = h ∧ n' = n := by
  refine enter Try.func72 (by kernel_rfl) rfl (by kernel_rfl) rfl rfl rfl ?_
  (repeat' first | (with_reducible first | apply x_seq | apply k_then | apply x_block | apply x_skip | apply x_ret | apply x_exit | apply x_label | apply k_pass | apply k_hit | apply k_miss rfl | apply k_out | apply k_turned | refine x_text fun K' hK => ?_) | ((with_reducible apply o_nil); refine hK _ _ _ ?_; clear hK) | fail | ((first | ((with_reducible apply o_pure w_none); (case hp => exact rfl); (case' he => intro h n)) | (with_reducible first | apply o_eff w_none | apply o_guard rfl | apply x_cond | apply k_e1 rfl | apply k_e2 rfl | apply k_e0 rfl | apply k_e3 rfl | apply k_e4 rfl)); (case he => (simp (disch := first | assumption | omega | rfl | decide) only [go_sem, seval, tys, b_strq] <;> rfl)); (try (case hok => first | exact rfl | exact ok_w (by omega) rfl)); all_goals (try (intro hb; (try (simp only [hbs, reduceCtorEq] at hb)); try (exfalso; omega)))) | ((with_reducible apply o_undef rfl); (case hb => (simp (disch := first | assumption | omega | rfl | decide) only [go_sem, seval, tys]))))
  all_goals exact sw_flat rfl rfl ⟨rfl, rfl, rfl⟩
theorem eqfunc_ev (hk : 30000 ≤ k) (A1 A2 : Option Addr) (fs gs : List (List UInt8 × Int)) (c1 c2 : Nat) (h1 : RdH h n A1 (fv fs)) (h2 : RdH h n A2 (fv gs)) (hl : fs.length ≤ 20000) (hl2 : gs.length ≤ 20000) :
    Sp Try.prog (acall Try.prog WW k (d + 2)) cl 71 [.slice A1 fs.length c1, .slice A2 gs.length c2, .func (.func 72) ⟨[]⟩ ⟨[]⟩] h n fun v h' n' => v = .bool (decide (fs.map (·.1) = gs.map (·.1))) ∧ h' = h ∧ n' = n := by
  by_cases hlen : fs.length = gs.length
  · refine enter Try.func71 (by kernel_rfl) rfl (by kernel_rfl) rfl rfl rfl ?_
    (repeat' first | (with_reducible first | apply x_seq | apply k_then | apply x_block | apply x_skip | apply x_ret | apply x_exit | apply x_label | apply k_pass | apply k_hit | apply k_miss rfl | apply k_out | apply k_turned | refine x_text fun K' hK => ?_) | ((with_reducible apply o_nil); refine hK _ _ _ ?_; clear hK) | fail | ((first | ((with_reducible apply o_pure w_none); (case hp => exact rfl); (case' he => intro h n)) | (with_reducible first | apply o_eff w_none | apply o_guard rfl | apply x_cond | apply k_e1 rfl | apply k_e2 rfl | apply k_e0 rfl | apply k_e3 rfl | apply k_e4 rfl)); (case he => (simp (disch := first | assumption | omega | rfl | decide) only [go_sem, seval, tys] <;> rfl)); (try (case hok => first | exact rfl | exact ok_w (by omega) rfl)); all_goals (try (intro hb; (try (simp only [hbs, reduceCtorEq] at hb)); try (exfalso; omega)))) | ((with_reducible apply o_undef rfl); (case hb => (simp (disch := first | assumption | omega | rfl | decide) only [go_sem, seval, tys]))))
    refine x_loopV [6, 7, 8, 9, 17, 18, 19, 20, 21, 22, 23, 24, 25, 26, 27, 28, 29, 30, 31] [17] (fun m vs h4 n4 => ∃ q : Nat, m = fs.length - q ∧ q ≤ fs.length ∧ vs = [.int .i64 q] ∧ n ≤ n4 ∧ RdH h4 n A1 (fv fs) ∧ RdH h4 n A2 (fv gs) ∧ (fs.take q).map (·.1) = (gs.take q).map (·.1)) fs.length rfl (by omega) ?_ ?_
    · exact ⟨0, rfl, by omega, (by simp (disch := first | assumption | omega | rfl | decide) only [go_sem, seval, tys] <;> rfl), Nat.le_refl _, h1, h2, rfl⟩
    · rintro m fr _ h4 n4 ⟨q, rfl, hq, rfl, hn4, r1, r2, htk⟩
      by_cases hql : q < fs.length
      · have hqg : q < gs.length := by omega
        obtain ⟨i1, o1, hA1, hi1, e1, -, -⟩ := fld_at r1 hql
        obtain ⟨i2, o2, hA2, hi2, e2, -, -⟩ := fld_at r2 hqg
        subst hA1; subst hA2
        obtain ⟨a, ha⟩ : ∃ a, fs[q] = a := ⟨_, rfl⟩
        obtain ⟨b, hb5⟩ : ∃ b, gs[q] = b := ⟨_, rfl⟩
        rw [ha] at e1
        rw [hb5] at e2
        have ht1 : (fs.take (q + 1)).map (·.1) = (fs.take q).map (·.1) ++ [a.1] := by rw [List.take_succ_eq_append_getElem hql, List.map_append, ha]; rfl
        have ht2 : (gs.take (q + 1)).map (·.1) = (gs.take q).map (·.1) ++ [b.1] := by rw [List.take_succ_eq_append_getElem hqg, List.map_append, hb5]; rfl
        by_cases hab : a.1 = b.1
        · have hd : decide (a.1 = b.1) = true := decide_eq_true hab
          have p1 := same1_ev k d n ((h4.set n4 (.row 63 false [.string ⟨⟨a.1⟩⟩, .int .i64 a.2])).set (n4 + 1) (.row 63 false [.string ⟨⟨b.1⟩⟩, .int .i64 b.2])) (n4 + 1 + 1) a.1 b.1 a.2 b.2
          rw [hd] at p1
          (repeat' first | (with_reducible first | apply x_seq | apply k_then | apply x_block | apply x_skip | apply x_ret | apply x_exit | apply x_label | apply k_pass | apply k_hit | apply k_miss rfl | apply k_out | apply k_turned | refine x_text fun K' hK => ?_) | ((with_reducible apply o_nil); refine hK _ _ _ ?_; clear hK) | ((with_reducible apply o_callV (g := 72) w_none); (case hx => (simp (disch := first | assumption | omega | rfl | decide) only [go_sem, seval, tys] <;> rfl)); (case ha => (simp (disch := first | assumption | omega | rfl | decide) only [go_sem, seval, tys] <;> rfl)); (case hs => (exact p1)); (case' hk => rintro _ h' n' ⟨rfl, rfl, rfl⟩)) | ((first | ((with_reducible apply o_pure w_none); (case hp => exact rfl); (case' he => intro h n)) | (with_reducible first | apply o_eff w_none | apply o_guard rfl | apply x_cond | apply k_e1 rfl | apply k_e2 rfl | apply k_e0 rfl | apply k_e3 rfl | apply k_e4 rfl)); (case he => (simp (disch := first | assumption | omega | rfl | decide) only [go_sem, seval, tys, e1, e2] <;> rfl)); (try (case hok => first | exact rfl | exact ok_w (by omega) rfl)); all_goals (try (intro hb; (try (simp only [hbs, reduceCtorEq] at hb)); try (exfalso; omega)))) | ((with_reducible apply o_undef rfl); (case hb => (simp (disch := first | assumption | omega | rfl | decide) only [go_sem, seval, tys]))))
          refine k_round (fs.length - (q + 1)) (by omega) ⟨q + 1, rfl, by omega, (by simp (disch := first | assumption | omega | rfl | decide) only [go_sem, seval, tys] <;> rfl), by omega, (r1.set (by omega) _).set (by omega) _, (r2.set (by omega) _).set (by omega) _, by rw [ht1, ht2, htk, hab]⟩
        · have hd : decide (a.1 = b.1) = false := decide_eq_false hab
          have p1 := same1_ev k d n ((h4.set n4 (.row 63 false [.string ⟨⟨a.1⟩⟩, .int .i64 a.2])).set (n4 + 1) (.row 63 false [.string ⟨⟨b.1⟩⟩, .int .i64 b.2])) (n4 + 1 + 1) a.1 b.1 a.2 b.2
          rw [hd] at p1
          have hne : decide (fs.map (·.1) = gs.map (·.1)) = false := decide_eq_false fun e => hab (by
            have h5 := congrArg (fun l => l[q]?) e
            simp only [List.getElem?_map] at h5
            rw [List.getElem?_eq_getElem hql, List.getElem?_eq_getElem hqg, ha, hb5] at h5
            simpa using h5)
          rw [hne]
          (repeat' first | (with_reducible first | apply x_seq | apply k_then | apply x_block | apply x_skip | apply x_ret | apply x_exit | apply x_label | apply k_pass | apply k_hit | apply k_miss rfl | apply k_out | apply k_turned | refine x_text fun K' hK => ?_) | ((with_reducible apply o_nil); refine hK _ _ _ ?_; clear hK) | ((with_reducible apply o_callV (g := 72) w_none); (case hx => (simp (disch := first | assumption | omega | rfl | decide) only [go_sem, seval, tys] <;> rfl)); (case ha => (simp (disch := first | assumption | omega | rfl | decide) only [go_sem, seval, tys] <;> rfl)); (case hs => (exact p1)); (case' hk => rintro _ h' n' ⟨rfl, rfl, rfl⟩)) | ((first | ((with_reducible apply o_pure w_none); (case hp => exact rfl); (case' he => intro h n)) | (with_reducible first | apply o_eff w_none | apply o_guard rfl | apply x_cond | apply k_e1 rfl | apply k_e2 rfl | apply k_e0 rfl | apply k_e3 rfl | apply k_e4 rfl)); (case he => (simp (disch := first | assumption | omega | rfl | decide) only [go_sem, seval, tys, e1, e2] <;> rfl)); (try (case hok => first | exact rfl | exact ok_w (by omega) rfl)); all_goals (try (intro hb; (try (simp only [hbs, reduceCtorEq] at hb)); try (exfalso; omega)))) | ((with_reducible apply o_undef rfl); (case hb => (simp (disch := first | assumption | omega | rfl | decide) only [go_sem, seval, tys]))))
          all_goals exact sw_flat rfl rfl ⟨rfl, rfl, rfl⟩
      · obtain rfl : q = fs.length := by omega
        rw [List.take_length, hlen, List.take_length] at htk
        rw [decide_eq_true htk]
        (repeat' first | (with_reducible first | apply x_seq | apply k_then | apply x_block | apply x_skip | apply x_ret | apply x_exit | apply x_label | apply k_pass | apply k_hit | apply k_miss rfl | apply k_out | apply k_turned | refine x_text fun K' hK => ?_) | ((with_reducible apply o_nil); refine hK _ _ _ ?_; clear hK) | fail | ((first | ((with_reducible apply o_pure w_none); (case hp => exact rfl); (case' he => intro h n)) | (with_reducible first | apply o_eff w_none | apply o_guard rfl | apply x_cond | apply k_e1 rfl | apply k_e2 rfl | apply k_e0 rfl | apply k_e3 rfl | apply k_e4 rfl)); (case he => (simp (disch := first | assumption | omega | rfl | decide) only [go_sem, seval, tys] <;> rfl)); (try (case hok => first | exact rfl | exact ok_w (by omega) rfl)); all_goals (try (intro hb; (try (simp only [hbs, reduceCtorEq] at hb)); try (exfalso; omega)))) | ((with_reducible apply o_undef rfl); (case hb => (simp (disch := first | assumption | omega | rfl | decide) only [go_sem, seval, tys]))))
        all_goals exact sw_flat rfl rfl ⟨rfl, rfl, rfl⟩
  · have hne : decide (fs.map (·.1) = gs.map (·.1)) = false := decide_eq_false fun e => hlen (by have := congrArg List.length e; rwa [List.length_map, List.length_map] at this)
    rw [hne]
    refine enter Try.func71 (by kernel_rfl) rfl (by kernel_rfl) rfl rfl rfl ?_
    (repeat' first | (with_reducible first | apply x_seq | apply k_then | apply x_block | apply x_skip | apply x_ret | apply x_exit | apply x_label | apply k_pass | apply k_hit | apply k_miss rfl | apply k_out | apply k_turned | refine x_text fun K' hK => ?_) | ((with_reducible apply o_nil); refine hK _ _ _ ?_; clear hK) | fail | ((first | ((with_reducible apply o_pure w_none); (case hp => exact rfl); (case' he => intro h n)) | (with_reducible first | apply o_eff w_none | apply o_guard rfl | apply x_cond | apply k_e1 rfl | apply k_e2 rfl | apply k_e0 rfl | apply k_e3 rfl | apply k_e4 rfl)); (case he => (simp (disch := first | assumption | omega | rfl | decide) only [go_sem, seval, tys] <;> rfl)); (try (case hok => first | exact rfl | exact ok_w (by omega) rfl)); all_goals (try (intro hb; (try (simp only [hbs, reduceCtorEq] at hb)); try (exfalso; omega)))) | ((with_reducible apply o_undef rfl); (case hb => (simp (disch := first | assumption | omega | rfl | decide) only [go_sem, seval, tys]))))
    all_goals exact sw_flat rfl rfl ⟨rfl, rfl, rfl⟩
end Go.Proofs.Ytgdokjfjmcleeaa.Ce
