/- Alike types by a table of pairs that is struck out, round by round; in plain Lean. -/
import Derived.Test.YtgdokjfjmcleeaaJwa
namespace Go.Proofs.Ytgdokjfjmcleeaa.Ce
open Go.RowKit
set_option linter.unusedVariables false
set_option linter.unusedSimpArgs false
set_option maxHeartbeats 1000000

open Classical in
noncomputable def shpB (t u : Tp) : Bool := decide (Shp t u)
theorem shpB_iff {t u : Tp} : shpB t u = true ↔ Shp t u := by unfold shpB; simp
theorem shpB_t {t u : Tp} (h : Shp t u) : shpB t u = true := shpB_iff.2 h
theorem shpB_f {t u : Tp} (h : ¬ Shp t u) : shpB t u = false := by
  cases hb : shpB t u
  · rfl
  · exact absurd (shpB_iff.1 hb) h
/-- a sum of the first numbers -/
def rsum (g : Nat → Nat) : Nat → Nat
  | 0 => 0
  | n + 1 => rsum g n + g n
theorem rsum_le {g g' : Nat → Nat} : ∀ n, (∀ x, x < n → g' x ≤ g x) → rsum g' n ≤ rsum g n
  | 0, _ => Nat.le_refl _
  | n + 1, h => by
    have := rsum_le n fun x hx => h x (by omega)
    have := h n (by omega)
    unfold rsum
    omega
theorem rsum_lt {g g' : Nat → Nat} {i : Nat} : ∀ n, (∀ x, x < n → g' x ≤ g x) → i < n → g' i < g i → rsum g' n < rsum g n
  | 0, _, h, _ => absurd h (by omega)
  | n + 1, h, hi, hl => by
    unfold rsum
    have h1 := h n (by omega)
    by_cases e : i = n
    · subst e
      have := rsum_le i fun x hx => h x (by omega)
      omega
    · have := rsum_lt n (fun x hx => h x (by omega)) (by omega) hl
      omega
theorem rsum_bnd {g : Nat → Nat} {b : Nat} : ∀ n, (∀ x, x < n → g x ≤ b) → rsum g n ≤ n * b
  | 0, _ => Nat.zero_le _
  | n + 1, h => by
    have := rsum_bnd n fun x hx => h x (by omega)
    have := h n (by omega)
    unfold rsum
    rw [Nat.succ_mul]
    omega
/-- how many pairs stand -/
def cnt (L : Nat) (f : Nat → Nat → Bool) : Nat := rsum (fun a => rsum (fun b => (f a b).toNat) L) L
theorem cnt_bnd (L : Nat) (f : Nat → Nat → Bool) : cnt L f ≤ L * L := by
  refine rsum_bnd L fun a _ => ?_
  have := rsum_bnd (g := fun b => (f a b).toNat) (b := 1) L fun b _ => by cases f a b <;> decide
  omega
theorem toNat_le {a b : Bool} (h : a = true → b = true) : a.toNat ≤ b.toNat := by
  cases a
  · exact Nat.zero_le _
  · rw [h rfl]; exact Nat.le_refl _
theorem cnt_lt {L : Nat} {f g : Nat → Nat → Bool} {i j : Nat} (hi : i < L) (hj : j < L) (hle : ∀ a b, g a b = true → f a b = true) (h1 : g i j = false) (h2 : f i j = true) : cnt L g < cnt L f := by
  refine rsum_lt (i := i) L (fun a _ => rsum_le L fun b _ => toNat_le (hle a b)) hi ?_
  refine rsum_lt (i := j) L (fun b _ => toNat_le (hle i b)) hj ?_
  rw [h1, h2]
  decide
/-- a pair struck out -/
def upf (f : Nat → Nat → Bool) (i j : Nat) : Nat → Nat → Bool := fun a b => if a = i ∧ b = j then false else f a b
theorem upf_le {f : Nat → Nat → Bool} {i j : Nat} : ∀ a b, upf f i j a b = true → f a b = true := fun a b h => by
  unfold upf at h
  split at h
  · cases h
  · exact h
theorem upf_same {f : Nat → Nat → Bool} {i j : Nat} : upf f i j i j = false := by unfold upf; rw [if_pos ⟨rfl, rfl⟩]
/-- what stands is no less than what is alike, and looks the same -/
structure Fx (T : List Tp) (f : Nat → Nat → Bool) : Prop where
  snd : ∀ a b, a < T.length → b < T.length → Alike T a b → f a b = true
  shp : ∀ a b (ha : a < T.length) (hb : b < T.length), f a b = true → Shp T[a] T[b]
/-- a pair's parts stand -/
def Cl (T : List Tp) (f : Nat → Nat → Bool) (a b : Nat) : Prop := ∀ (ha : a < T.length) (hb : b < T.length), f a b = true → ∀ x y : Nat, pr x y ∈ pairsT T[a] T[b] → f x y = true
/-- within a round, ahead of the pair i, j -/
structure Ps (T : List Tp) (f0 f : Nat → Nat → Bool) (mr : Bool) (i j : Nat) : Prop where
  fx : Fx T f
  same : mr = false → f = f0
  less : mr = true → cnt T.length f < cnt T.length f0
  cl : mr = false → ∀ a b, (a < i ∨ a = i ∧ b < j) → Cl T f0 a b
/-- at the pair i, j, behind some of its parts -/
structure Pk (T : List Tp) (f0 f : Nat → Nat → Bool) (mr : Bool) (i j s : Nat) (la lb : List Int) : Prop where
  ps : Ps T f0 f mr i j
  on : mr = false → ∀ q (h1 : q < la.length) (h2 : q < lb.length), q < s → f0 (la[q]).toNat (lb[q]).toNat = true
variable {T : List Tp} {f0 f : Nat → Nat → Bool} {mr : Bool} {i j s : Nat} {la lb : List Int}
theorem Fx.ps (h : Fx T f) : Ps T f f false 0 0 := ⟨h, fun _ => rfl, fun e => (by cases e), fun _ a b hab => absurd hab (by omega)⟩
theorem Ps.pk (h : Ps T f0 f mr i j) : Pk T f0 f mr i j 0 la lb := ⟨h, fun _ q _ _ hq => absurd hq (by omega)⟩
theorem Pk.keep (h : Pk T f0 f mr i j s la lb) (hf : ∀ (h1 : s < la.length) (h2 : s < lb.length), f (la[s]).toNat (lb[s]).toNat = true) : Pk T f0 f mr i j (s + 1) la lb := ⟨h.ps, fun e q h1 h2 hq => by
  by_cases hqs : q < s
  · exact h.on e q h1 h2 hqs
  · obtain rfl : q = s := by omega
    rw [← h.ps.same e]
    exact hf h1 h2⟩
theorem Pk.strike (h : Pk T f0 f mr i j s la lb) (hi : i < T.length) (hj : j < T.length) (hla : leadsT true T[i] = la) (hlb : leadsT true T[j] = lb) (hij : f i j = true) {x y : Nat} (h1 : s < la.length) (h2 : s < lb.length) (hx : la[s] = x) (hy : lb[s] = y) (hxl : x < T.length) (hyl : y < T.length) (hf : f x y = false) : Pk T f0 (upf f i j) true i j (s + 1) la lb := by
  have hna : ¬ Alike T i j := fun hal => by
    have hp : pr x y ∈ pairsT T[i] T[j] := by
      unfold pairsT pr
      rw [hla, hlb, ← hx, ← hy]
      have hz : s < (la.zip lb).length := by rw [List.length_zip]; omega
      have := List.getElem_mem hz
      rwa [List.getElem_zip] at this
    have := h.ps.fx.snd x y hxl hyl (hal.sub hi hj hp)
    rw [hf] at this
    cases this
  refine ⟨⟨⟨fun a b ha hb hal => ?_, fun a b ha hb hu => h.ps.fx.shp a b ha hb (upf_le a b hu)⟩, fun e => (by cases e), fun _ => ?_, fun e => (by cases e)⟩, fun e => (by cases e)⟩
  · unfold upf
    rw [if_neg fun e => hna (by rw [← e.1, ← e.2]; exact hal)]
    exact h.ps.fx.snd a b ha hb hal
  · have h3 := cnt_lt hi hj (upf_le (f := f) (i := i) (j := j)) upf_same hij
    cases mr
    · rw [h.ps.same rfl] at h3 ⊢
      exact h3
    · exact Nat.lt_trans h3 (h.ps.less rfl)
theorem Pk.next (h : Pk T f0 f mr i j s la lb) (hi : i < T.length) (hj : j < T.length) (hla : leadsT true T[i] = la) (hlb : leadsT true T[j] = lb) (hs : s = la.length ∨ f i j = false) : Ps T f0 f mr i (j + 1) := by
  refine ⟨h.ps.fx, h.ps.same, h.ps.less, fun e a b hab => ?_⟩
  by_cases hn : a < i ∨ a = i ∧ b < j
  · exact h.ps.cl e a b hn
  · obtain ⟨rfl, rfl⟩ : a = i ∧ b = j := by omega
    intro ha hb hab x y hp
    rcases hs with hs | hs
    · unfold pairsT pr at hp
      rw [hla, hlb] at hp
      obtain ⟨q, hq, e2⟩ := List.getElem_of_mem hp
      rw [List.getElem_zip] at e2
      injection e2 with e3 e4
      rw [List.length_zip] at hq
      have := h.on e q (by omega) (by omega) (by omega)
      rw [e3, e4] at this
      exact this
    · rw [h.ps.same e, hab] at hs
      cases hs
theorem Ps.row (h : Ps T f0 f mr i T.length) : Ps T f0 f mr (i + 1) 0 := ⟨h.fx, h.same, h.less, fun e a b hab ha hb => by
  by_cases hn : a < i ∨ a = i ∧ b < T.length
  · exact h.cl e a b hn ha hb
  · omega⟩
theorem Ps.done (hF : Fine T) (h : Ps T f0 f false T.length 0) (hi : i < T.length) (hj : j < T.length) : f i j = true ↔ Alike T i j := by
  have e := h.same rfl
  subst e
  refine ⟨fun hf => ?_, h.fx.snd i j hi hj⟩
  refine alike_of (R := fun a b => a < T.length ∧ b < T.length ∧ f a b = true) (fun a b ha hb hR => ⟨h.fx.shp a b ha hb hR.2.2, fun x y hp => ?_⟩) ⟨hi, hj, hf⟩
  obtain ⟨x', y', e, h1, h2⟩ := pairsT_in hF ha hb hp
  obtain ⟨rfl, rfl⟩ := pr_inj e
  exact ⟨h1, h2, h.cl rfl a b (.inl ha) ha hb hR.2.2 x y hp⟩
/-- a row of the table -/
def rowL (f : Nat → Nat → Bool) (L a : Nat) : List Bool := (List.range L).map (f a)
theorem rowL_length (f : Nat → Nat → Bool) (L a : Nat) : (rowL f L a).length = L := by simp [rowL]
theorem rowL_get {f : Nat → Nat → Bool} {L a b : Nat} (hb : b < L) : (rowL f L a)[b]? = some (f a b) := by unfold rowL; rw [List.getElem?_map, List.getElem?_range hb]; rfl
theorem rowL_upd {f : Nat → Nat → Bool} {L i j : Nat} : (rowL f L i).set j false = rowL (upf f i j) L i := by
  refine List.ext_getElem? fun x => ?_
  rw [List.getElem?_set]
  by_cases hx : x < L
  · rw [rowL_get hx, rowL_get hx]
    unfold upf
    by_cases e : j = x
    · rw [if_pos e, if_pos (by rw [rowL_length]; omega), if_pos ⟨rfl, e.symm⟩]
    · rw [if_neg e, if_neg fun h => e h.2.symm]
  · rw [List.getElem?_eq_none (l := rowL (upf f i j) L i) (by rw [rowL_length]; omega), List.getElem?_eq_none (by rw [rowL_length]; omega)]
    by_cases e : j = x
    · rw [if_pos e, if_neg (by rw [rowL_length]; omega)]
    · rw [if_neg e]
theorem rowL_other {f : Nat → Nat → Bool} {L i j a : Nat} (h : a ≠ i) : rowL (upf f i j) L a = rowL f L a := by
  unfold rowL
  refine List.map_congr_left fun b _ => ?_
  unfold upf
  rw [if_neg fun e => h e.1]
theorem rowL_snoc (f : Nat → Nat → Bool) (j a : Nat) : rowL f (j + 1) a = rowL f j a ++ [f a j] := by unfold rowL; rw [List.range_succ, List.map_append]; rfl
end Go.Proofs.Ytgdokjfjmcleeaa.Ce
