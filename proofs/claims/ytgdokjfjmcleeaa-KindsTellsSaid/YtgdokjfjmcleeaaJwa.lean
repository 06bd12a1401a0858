/- Alike types: an equivalence; what they lead to is alike; in plain Lean. -/
import Derived.Test.YtgdokjfjmcleeaaJt
namespace Go.Proofs.Ytgdokjfjmcleeaa.Ce
open Go.RowKit
set_option linter.unusedVariables false
set_option linter.unusedSimpArgs false
set_option maxHeartbeats 1000000

theorem Shp.refl (t : Tp) : Shp t t := ⟨rfl, rfl, rfl⟩
theorem Shp.symm {t u : Tp} (h : Shp t u) : Shp u t := ⟨h.1.symm, h.2.1.symm, h.2.2.symm⟩
theorem Shp.trans {t u v : Tp} (h : Shp t u) (h2 : Shp u v) : Shp t v := ⟨h.1.trans h2.1, h.2.1.trans h2.2.1, h.2.2.trans h2.2.2⟩
theorem alike_of {T : List Tp} {R : Nat → Nat → Prop} (hR : ∀ a b (ha : a < T.length) (hb : b < T.length), R a b → Shp T[a] T[b] ∧ ∀ x y, pr x y ∈ pairsT T[a] T[b] → R x y) {i k : Nat} (h : R i k) : Alike T i k := by
  have key : ∀ a b, Met T i k a b → R a b := by
    intro a b hm
    induction hm with
    | refl => exact h
    | step hm ha hb hs hp ih => exact (hR _ _ ha hb ih).2 _ _ hp
  exact fun a b hm ha hb => (hR a b ha hb (key a b hm)).1
theorem Met.pre {T : List Tp} {i k a b x y : Nat} (hi : i < T.length) (hk : k < T.length) (hs : Shp T[i] T[k]) (hp : pr a b ∈ pairsT T[i] T[k]) (h : Met T a b x y) : Met T i k x y := by
  induction h with
  | refl => exact .step .refl hi hk hs hp
  | step hm ha hb hs hp ih => exact .step ih ha hb hs hp
theorem Alike.shp {T : List Tp} {i k : Nat} (h : Alike T i k) (hi : i < T.length) (hk : k < T.length) : Shp T[i] T[k] := h i k .refl hi hk
theorem Alike.sub {T : List Tp} {i k a b : Nat} (h : Alike T i k) (hi : i < T.length) (hk : k < T.length) (hp : pr a b ∈ pairsT T[i] T[k]) : Alike T a b :=
  fun x y hm hx hy => h x y (Met.pre hi hk (h.shp hi hk) hp hm) hx hy
theorem Alike.refl (T : List Tp) (i : Nat) : Alike T i i := by
  refine alike_of (R := fun a b => a = b) ?_ rfl
  rintro a b ha hb rfl
  refine ⟨Shp.refl _, fun x y hp => ?_⟩
  unfold pairsT at hp
  obtain ⟨q, hq, e⟩ := List.getElem_of_mem hp
  rw [List.getElem_zip] at e
  unfold pr at e
  injection e with e1 e2
  rw [e1] at e2
  omega
theorem pairs_swap {t u : Tp} {x y : Nat} (hp : pr x y ∈ pairsT t u) : pr y x ∈ pairsT u t := by
  unfold pairsT at hp ⊢
  obtain ⟨q, hq, e⟩ := List.getElem_of_mem hp
  rw [List.getElem_zip] at e
  unfold pr at e ⊢
  injection e with e1 e2
  rw [List.length_zip] at hq
  have hq2 : q < ((leadsT true u).zip (leadsT true t)).length := by rw [List.length_zip]; omega
  have := List.getElem_mem hq2
  rw [List.getElem_zip, e1, e2] at this
  exact this
theorem Alike.symm {T : List Tp} {i k : Nat} (h : Alike T i k) : Alike T k i := by
  refine alike_of (R := fun a b => Alike T b a) ?_ h
  intro a b ha hb hR
  exact ⟨(hR.shp hb ha).symm, fun x y hp => hR.sub hb ha (pairs_swap hp)⟩
theorem pairs_mid {T : List Tp} (hF : Fine T) {a b c x z : Nat} (ha : a < T.length) (hb : b < T.length) (hc : c < T.length) (h1 : Shp T[a] T[b]) (h2 : Shp T[b] T[c]) (hp : pr x z ∈ pairsT T[a] T[c]) : ∃ y : Nat, y < T.length ∧ pr x y ∈ pairsT T[a] T[b] ∧ pr y z ∈ pairsT T[b] T[c] := by
  have l1 := h1.len (far := true)
  have l2 := h2.len (far := true)
  have hin := leadsT_in (far := true) (hF b hb) (by omega)
  unfold pairsT at hp ⊢
  obtain ⟨q, hq, e⟩ := List.getElem_of_mem hp
  rw [List.getElem_zip] at e
  unfold pr at e
  injection e with e1 e2
  rw [List.length_zip] at hq
  have hqb : q < (leadsT true T[b]).length := by omega
  have hy := hin _ (List.getElem_mem hqb)
  obtain ⟨y, hye⟩ := Int.eq_ofNat_of_zero_le hy.1
  have q1 : q < ((leadsT true T[a]).zip (leadsT true T[b])).length := by rw [List.length_zip]; omega
  have q2 : q < ((leadsT true T[b]).zip (leadsT true T[c])).length := by rw [List.length_zip]; omega
  have m1 := List.getElem_mem q1
  have m2 := List.getElem_mem q2
  rw [List.getElem_zip, e1, hye] at m1
  rw [List.getElem_zip, e2, hye] at m2
  exact ⟨y, by omega, m1, m2⟩
theorem Alike.trans {T : List Tp} (hF : Fine T) {i k m : Nat} (hk : k < T.length) (h : Alike T i k) (h2 : Alike T k m) : Alike T i m := by
  refine alike_of (R := fun a c => ∃ b, b < T.length ∧ Alike T a b ∧ Alike T b c) ?_ ⟨k, hk, h, h2⟩
  rintro a c ha hc ⟨b, hb, r1, r2⟩
  refine ⟨(r1.shp ha hb).trans (r2.shp hb hc), fun x z hp => ?_⟩
  obtain ⟨y, hy, p1, p2⟩ := pairs_mid hF ha hb hc (r1.shp ha hb) (r2.shp hb hc) hp
  exact ⟨y, hy, r1.sub ha hb p1, r2.sub hb hc p2⟩
/-- near parts are far ones -/
theorem near_far {t : Tp} {m i : Nat} (h : fineB m i t = true) : leadsT false t = leadsT true t ∨ leadsT false t = [] := by
  by_cases h47 : t.kd = 4 ∨ t.kd = 7
  · right
    unfold leadsT
    rw [if_neg (by simp; omega), fine_nofs h (by omega)]
    rfl
  · left
    unfold leadsT
    by_cases h6 : t.kd = 6
    · rw [if_pos (.inl h6), if_pos (.inl h6)]
    · rw [if_neg (by simp; omega), if_neg (by simp; omega)]
theorem alike_near {T : List Tp} (hF : Fine T) {a b : Nat} (ha : a < T.length) (hb : b < T.length) (h : Alike T a b) : (leadsT false T[a]).length = (leadsT false T[b]).length ∧ ∀ q (h1 : q < (leadsT false T[a]).length) (h2 : q < (leadsT false T[b]).length), Alike T ((leadsT false T[a])[q]).toNat ((leadsT false T[b])[q]).toNat := by
  have hs := h.shp ha hb
  have hl := hs.len (far := false)
  refine ⟨hl, fun q h1 h2 => ?_⟩
  rcases near_far (hF a ha) with e1 | e1
  · rcases near_far (hF b hb) with e2 | e2
    · have n1 := leadsT_near (hF a ha) _ (List.getElem_mem h1)
      have n2 := leadsT_near (hF b hb) _ (List.getElem_mem h2)
      refine h.sub ha hb ?_
      have hz : q < ((leadsT true T[a]).zip (leadsT true T[b])).length := by rw [List.length_zip, ← e1, ← e2]; omega
      have := List.getElem_mem hz
      rw [List.getElem_zip] at this
      unfold pr
      rw [Int.toNat_of_nonneg n1.1, Int.toNat_of_nonneg n2.1]
      unfold pairsT
      simp only [e1, e2]
      exact this
    · rw [e2] at h2; exact absurd h2 (by simp)
  · rw [e1] at h1; exact absurd h1 (by simp)
theorem alike_el {T : List Tp} (hF : Fine T) {a b : Nat} (ha : a < T.length) (hb : b < T.length) (h : Alike T a b) (hk : (T[a]).kd = 6 ∨ (T[a]).kd = 4 ∨ (T[a]).kd = 7) : Alike T (T[a]).el.toNat (T[b]).el.toNat ∧ 0 ≤ (T[a]).el ∧ (T[a]).el < T.length ∧ 0 ≤ (T[b]).el ∧ (T[b]).el < T.length := by
  have hs := h.shp ha hb
  have e1 : leadsT true T[a] = [(T[a]).el] := by unfold leadsT; rw [if_pos (by simp; omega)]
  have e2 : leadsT true T[b] = [(T[b]).el] := by unfold leadsT; rw [if_pos (by rw [← hs.1]; simp; omega)]
  have n1 := leadsT_in (far := true) (hF a ha) (by omega) (T[a]).el (by rw [e1]; exact List.mem_singleton.2 rfl)
  have n2 := leadsT_in (far := true) (hF b hb) (by omega) (T[b]).el (by rw [e2]; exact List.mem_singleton.2 rfl)
  refine ⟨h.sub ha hb ?_, n1.1, n1.2, n2.1, n2.2⟩
  unfold pairsT pr
  rw [e1, e2, Int.toNat_of_nonneg n1.1, Int.toNat_of_nonneg n2.1]
  exact List.mem_singleton.2 rfl
end Go.Proofs.Ytgdokjfjmcleeaa.Ce
