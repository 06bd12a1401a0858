/- Alike types, in plain Lean. -/
import Derived.Test.YtgdokjfjmcleeaaJc
namespace Go.Proofs.Ytgdokjfjmcleeaa.Ce
open Go.RowKit
set_option linter.unusedVariables false
set_option linter.unusedSimpArgs false
set_option maxHeartbeats 1000000

/-- two types look the same by themselves -/
def Shp (t u : Tp) : Prop := t.kd = u.kd ∧ t.ln = u.ln ∧ t.fs.map (·.1) = u.fs.map (·.1)
theorem Shp.len {far : Bool} {t u : Tp} (h : Shp t u) : (leadsT far t).length = (leadsT far u).length := by
  obtain ⟨h1, -, h3⟩ := h
  have h4 := congrArg List.length h3
  rw [List.length_map, List.length_map] at h4
  unfold leadsT
  rw [h1]
  split
  · rfl
  · rw [List.length_map, List.length_map, h4]
/-- the pairs to which a pair leads -/
def pairsT (t u : Tp) : List (Int × Int) := (leadsT true t).zip (leadsT true u)
def pr (a b : Nat) : Int × Int := ((a : Int), (b : Int))
/-- what is met from a pair -/
inductive Met (T : List Tp) (i k : Nat) : Nat → Nat → Prop
  | refl : Met T i k i k
  | step {a b x y : Nat} (h : Met T i k a b) (ha : a < T.length) (hb : b < T.length) (hs : Shp T[a] T[b]) (hp : pr x y ∈ pairsT T[a] T[b]) : Met T i k x y
/-- types are alike: nothing that is met from both looks different -/
def Alike (T : List Tp) (i k : Nat) : Prop := ∀ a b, Met T i k a b → ∀ (ha : a < T.length) (hb : b < T.length), Shp T[a] T[b]
theorem pairsT_in {T : List Tp} (hF : Fine T) {a b : Nat} (ha : a < T.length) (hb : b < T.length) {p : Int × Int} (hp : p ∈ pairsT T[a] T[b]) : ∃ x y : Nat, p = pr x y ∧ x < T.length ∧ y < T.length := by
  unfold pairsT at hp
  have h1 := leadsT_in (far := true) (hF a ha) (by omega) p.1 (List.of_mem_zip (a := p.1) (b := p.2) hp).1
  have h2 := leadsT_in (far := true) (hF b hb) (by omega) p.2 (List.of_mem_zip (a := p.1) (b := p.2) hp).2
  refine ⟨p.1.toNat, p.2.toNat, ?_, by omega, by omega⟩
  unfold pr
  rw [Int.toNat_of_nonneg h1.1, Int.toNat_of_nonneg h2.1]
theorem Met.lt {T : List Tp} {i k a b : Nat} (hF : Fine T) (hi : i < T.length) (hk : k < T.length) (h : Met T i k a b) : a < T.length ∧ b < T.length := by
  cases h with
  | refl => exact ⟨hi, hk⟩
  | step h ha hb hs hp =>
    obtain ⟨x, y, e, h1, h2⟩ := pairsT_in hF ha hb hp
    unfold pr at e
    injection e with e1 e2
    omega
/-- the work under way: pairs that are met and looked at, pairs that are met -/
structure Wrk (T : List Tp) (i k : Nat) (ps ops : List (Int × Int)) : Prop where
  st : pr i k ∈ ps ∨ pr i k ∈ ops
  met : ∀ p, p ∈ ps ∨ p ∈ ops → ∃ a b : Nat, p = pr a b ∧ a < T.length ∧ b < T.length ∧ Met T i k a b
  ok : ∀ a b : Nat, pr a b ∈ ps → ∀ (ha : a < T.length) (hb : b < T.length), Shp T[a] T[b] ∧ ∀ p ∈ pairsT T[a] T[b], p ∈ ps ∨ p ∈ ops
theorem pr_inj {a b x y : Nat} (h : pr a b = pr x y) : a = x ∧ b = y := by
  unfold pr at h
  injection h with h1 h2
  omega
theorem Wrk.init {T : List Tp} {i k : Nat} (hi : i < T.length) (hk : k < T.length) : Wrk T i k [] [pr i k] :=
  ⟨.inr (List.mem_singleton.2 rfl), fun p hp => by
    rcases hp with hp | hp
    · cases hp
    · obtain rfl := List.mem_singleton.1 hp
      exact ⟨i, k, rfl, hi, hk, .refl⟩, fun a b h => by cases h⟩
/-- a pair that was looked at before -/
theorem Wrk.skip {T : List Tp} {i k : Nat} {ps ops : List (Int × Int)} {p : Int × Int} (h : Wrk T i k ps (ops ++ [p])) (hp : p ∈ ps) : Wrk T i k ps ops := by
  have key : ∀ q, q ∈ ps ∨ q ∈ ops ++ [p] → q ∈ ps ∨ q ∈ ops := fun q hq => by
    rcases hq with hq | hq
    · exact .inl hq
    · rcases List.mem_append.1 hq with hq | hq
      · exact .inr hq
      · obtain rfl := List.mem_singleton.1 hq
        exact .inl hp
  refine ⟨key _ h.st, fun q hq => h.met q ?_, fun a b hab ha hb => ⟨(h.ok a b hab ha hb).1, fun q hq => key q ((h.ok a b hab ha hb).2 q hq)⟩⟩
  rcases hq with hq | hq
  · exact .inl hq
  · exact .inr (List.mem_append_left _ hq)
/-- a pair that looks the same -/
theorem Wrk.next {T : List Tp} {i k a b : Nat} {ps ops : List (Int × Int)} (hF : Fine T) (h : Wrk T i k ps (ops ++ [pr a b])) (ha : a < T.length) (hb : b < T.length) (hs : Shp T[a] T[b]) : Wrk T i k (ps ++ [pr a b]) (ops ++ pairsT T[a] T[b]) := by
  have hm : Met T i k a b := by
    obtain ⟨x, y, e, -, -, hm⟩ := h.met (pr a b) (.inr (List.mem_append_right _ (List.mem_singleton.2 rfl)))
    obtain ⟨rfl, rfl⟩ := pr_inj e
    exact hm
  have key : ∀ q, q ∈ ps ∨ q ∈ ops ++ [pr a b] → q ∈ ps ++ [pr a b] ∨ q ∈ ops ++ pairsT T[a] T[b] := fun q hq => by
    rcases hq with hq | hq
    · exact .inl (List.mem_append_left _ hq)
    · rcases List.mem_append.1 hq with hq | hq
      · exact .inr (List.mem_append_left _ hq)
      · exact .inl (List.mem_append_right _ hq)
  refine ⟨key _ h.st, fun q hq => ?_, fun x y hxy hx hy => ?_⟩
  · rcases hq with hq | hq
    · rcases List.mem_append.1 hq with hq | hq
      · exact h.met q (.inl hq)
      · obtain rfl := List.mem_singleton.1 hq
        exact ⟨a, b, rfl, ha, hb, hm⟩
    · rcases List.mem_append.1 hq with hq | hq
      · exact h.met q (.inr (List.mem_append_left _ hq))
      · obtain ⟨x, y, rfl, hx, hy⟩ := pairsT_in hF ha hb hq
        exact ⟨x, y, rfl, hx, hy, .step hm ha hb hs hq⟩
  · rcases List.mem_append.1 hxy with hxy | hxy
    · exact ⟨(h.ok x y hxy hx hy).1, fun q hq => key q ((h.ok x y hxy hx hy).2 q hq)⟩
    · obtain ⟨rfl, rfl⟩ := pr_inj (List.mem_singleton.1 hxy)
      exact ⟨hs, fun q hq => .inr (List.mem_append_right _ hq)⟩
theorem Wrk.done {T : List Tp} {i k : Nat} {ps : List (Int × Int)} (h : Wrk T i k ps []) : Alike T i k := by
  have key : ∀ a b, Met T i k a b → pr a b ∈ ps := by
    intro a b hm
    induction hm with
    | refl => exact h.st.resolve_right (by simp)
    | step hm ha hb hs hp ih => exact ((h.ok _ _ ih ha hb).2 _ hp).resolve_right (by simp)
  exact fun a b hm ha hb => (h.ok a b (key a b hm) ha hb).1
theorem Wrk.bad {T : List Tp} {i k a b : Nat} {ps ops : List (Int × Int)} (h : Wrk T i k ps (ops ++ [pr a b])) (ha : a < T.length) (hb : b < T.length) (hs : ¬ Shp T[a] T[b]) : ¬ Alike T i k := by
  intro hal
  obtain ⟨x, y, e, -, -, hm⟩ := h.met (pr a b) (.inr (List.mem_append_right _ (List.mem_singleton.2 rfl)))
  obtain ⟨rfl, rfl⟩ := pr_inj e
  exact hs (hal a b hm ha hb)
/-- how many pairs have not been looked at -/
def allP (L : Nat) : List (Int × Int) := (List.range L).flatMap fun (a : Nat) => (List.range L).map fun (b : Nat) => pr a b
def left_ (L : Nat) (ps : List (Int × Int)) : Nat := ((allP L).filter fun p => decide (p ∉ ps)).length
theorem filt_less {α : Type} {f g : α → Bool} : ∀ {l : List α}, (∀ x ∈ l, f x = true → g x = true) → (∃ x ∈ l, g x = true ∧ f x = false) → (l.filter f).length < (l.filter g).length
  | [], _, h => by obtain ⟨x, hx, -⟩ := h; cases hx
  | y :: l, h1, h2 => by
    have hle : ∀ {l : List α}, (∀ x ∈ l, f x = true → g x = true) → (l.filter f).length ≤ (l.filter g).length := by
      intro l
      induction l with
      | nil => intro _; exact Nat.le_refl _
      | cons z l ih =>
        intro h
        have := ih fun x hx => h x (List.mem_cons_of_mem _ hx)
        have hz := h z (List.mem_cons_self ..)
        cases hf : f z
        · rw [List.filter_cons_of_neg (by rw [hf]; decide)]
          cases hg : g z
          · rw [List.filter_cons_of_neg (by rw [hg]; decide)]; exact this
          · rw [List.filter_cons_of_pos hg, List.length_cons]; omega
        · rw [List.filter_cons_of_pos hf, List.filter_cons_of_pos (hz hf), List.length_cons, List.length_cons]; omega
    have hl := hle fun x hx => h1 x (List.mem_cons_of_mem _ hx)
    obtain ⟨x, hx, hg, hf⟩ := h2
    rcases List.mem_cons.1 hx with rfl | hx
    · rw [List.filter_cons_of_neg (by rw [hf]; decide), List.filter_cons_of_pos hg, List.length_cons]; omega
    · have := filt_less (fun x hx => h1 x (List.mem_cons_of_mem _ hx)) ⟨x, hx, hg, hf⟩
      have hy := h1 y (List.mem_cons_self ..)
      cases hf : f y
      · rw [List.filter_cons_of_neg (by rw [hf]; decide)]
        cases hg : g y
        · rw [List.filter_cons_of_neg (by rw [hg]; decide)]; exact this
        · rw [List.filter_cons_of_pos hg, List.length_cons]; omega
      · rw [List.filter_cons_of_pos hf, List.filter_cons_of_pos (hy hf), List.length_cons, List.length_cons]; omega
theorem allP_mem {L a b : Nat} (ha : a < L) (hb : b < L) : pr a b ∈ allP L := List.mem_flatMap.2 ⟨a, List.mem_range.2 ha, List.mem_map.2 ⟨b, List.mem_range.2 hb, rfl⟩⟩
theorem left_lt {L a b : Nat} {ps : List (Int × Int)} (ha : a < L) (hb : b < L) (hn : pr a b ∉ ps) : left_ L (ps ++ [pr a b]) < left_ L ps := by
  refine filt_less (fun x _ h => ?_) ⟨pr a b, allP_mem ha hb, decide_eq_true hn, decide_eq_false fun h => h (List.mem_append_right _ (List.mem_singleton.2 rfl))⟩
  rw [decide_eq_true_eq] at h ⊢
  exact fun h1 => h (List.mem_append_left _ h1)
theorem left_le {L : Nat} {ps : List (Int × Int)} (hL : L ≤ 32) : left_ L ps ≤ 32 * 32 := by
  unfold left_
  refine Nat.le_trans (List.length_filter_le _ _) ?_
  have : ∀ m, ((List.range m).flatMap fun (a : Nat) => (List.range L).map fun (b : Nat) => pr a b).length = m * L := by
    intro m
    induction m with
    | zero => simp
    | succ m ih => rw [List.range_succ, List.flatMap_append, List.length_append, ih, List.flatMap_cons, List.flatMap_nil, List.append_nil, List.length_map, List.length_range, Nat.succ_mul]
  unfold allP
  rw [this]
  exact Nat.mul_le_mul hL hL
end Go.Proofs.Ytgdokjfjmcleeaa.Ce
