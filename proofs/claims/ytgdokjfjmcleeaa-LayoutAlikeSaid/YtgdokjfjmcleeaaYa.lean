/- Alike types have the same size, the same cells at alike types, the same padding; in plain Lean. -/
import Derived.Test.YtgdokjfjmcleeaaJwa
import Derived.Test.YtgdokjfjmcleeaaNh
namespace Go.Proofs.Ytgdokjfjmcleeaa.Ce
open Go.RowKit
set_option linter.unusedVariables false
set_option linter.unusedSimpArgs false
set_option maxHeartbeats 1000000

theorem alike_fld {T : List Tp} (hF : Fine T) {a b : Nat} (ha : a < T.length) (hb : b < T.length) (h : Alike T a b) (hk : (T[a]).kd = 5) : (T[a]).fs.length = (T[b]).fs.length ∧ ∀ q (h1 : q < (T[a]).fs.length) (h2 : q < (T[b]).fs.length), ∃ x y : Nat, ((T[a]).fs[q]).2 = x ∧ ((T[b]).fs[q]).2 = y ∧ x < a ∧ y < b ∧ Alike T x y := by
  have hs := h.shp ha hb
  have hl : (T[a]).fs.length = (T[b]).fs.length := by
    have := congrArg List.length hs.2.2
    rwa [List.length_map, List.length_map] at this
  refine ⟨hl, fun q h1 h2 => ?_⟩
  have f1 := fine_fld (hF a ha) h1
  have f2 := fine_fld (hF b hb) h2
  have e1 : leadsT true T[a] = (T[a]).fs.map (·.2) := by unfold leadsT; rw [if_neg (by simp; omega)]
  have e2 : leadsT true T[b] = (T[b]).fs.map (·.2) := by unfold leadsT; rw [if_neg (by rw [← hs.1]; simp; omega)]
  have hz : q < (((T[a]).fs.map (·.2)).zip ((T[b]).fs.map (·.2))).length := by rw [List.length_zip, List.length_map, List.length_map]; omega
  have hm := List.getElem_mem hz
  rw [List.getElem_zip, List.getElem_map, List.getElem_map] at hm
  refine ⟨((T[a]).fs[q]).2.toNat, ((T[b]).fs[q]).2.toNat, by omega, by omega, by omega, by omega, h.sub ha hb ?_⟩
  unfold pairsT pr
  rw [e1, e2, Int.toNat_of_nonneg f1.1, Int.toNat_of_nonneg f2.1]
  exact hm
/-- a step by a field's size and alignment -/
def lS (C : Int) (st : List Int × Int × Int) (p : Int × Int) : List Int × Int × Int := (st.1 ++ [upI st.2.1 p.2], min C (upI st.2.1 p.2 + p.1), max st.2.2 p.2)
theorem layR_map (C : Int) (E : Ext) (fs : List (List UInt8 × Int)) : layR C E fs = (fs.map fun f => E.at_ f.2).foldl (lS C) ([], 0, 1) := by
  unfold layR
  rw [List.foldl_map]
  rfl
theorem alike_lay {C : Int} {T : List Tp} (hF : Fine T) {a b : Nat} (ha : a < T.length) (hb : b < T.length) (h : Alike T a b) (hk : (T[a]).kd = 5) (hE : ∀ x y : Nat, x < a → y < T.length → Alike T x y → (eRow C T).at_ (x : Int) = (eRow C T).at_ (y : Int)) : layR C (eRow C T) (T[a]).fs = layR C (eRow C T) (T[b]).fs := by
  obtain ⟨hl, hq⟩ := alike_fld hF ha hb h hk
  rw [layR_map, layR_map]
  congr 1
  refine List.ext_getElem (by rw [List.length_map, List.length_map, hl]) fun q h1 h2 => ?_
  rw [List.length_map] at h1 h2
  rw [List.getElem_map, List.getElem_map]
  obtain ⟨x, y, e1, e2, h3, h4, h5⟩ := hq q h1 h2
  rw [e1, e2]
  exact hE x y h3 (by omega) h5
theorem alike_e {C : Int} {T : List Tp} (hF : Fine T) : ∀ m a b : Nat, a < m → a < T.length → b < T.length → Alike T a b → (eRow C T).at_ (a : Int) = (eRow C T).at_ (b : Int)
  | 0, _, _, h, _, _, _ => absurd h (by omega)
  | m + 1, a, b, hm, ha, hb, h => by
    have hs := h.shp ha hb
    have ka := fine_kd (hF a ha)
    rw [eRow_at C hF ha, eRow_at C hF hb]
    by_cases h6 : (T[a]).kd = 6
    · obtain ⟨h1, h2, h3, h4, h5⟩ := alike_el hF ha hb h (.inl h6)
      have hf := fine_arr (hF a ha) h6
      rw [eOne_6 h6, eOne_6 (by rw [← hs.1]; exact h6), ← hs.2.1]
      have := alike_e (C := C) hF m _ _ (by omega) (by omega) (by omega) h1
      rw [Int.toNat_of_nonneg h2, Int.toNat_of_nonneg h4] at this
      rw [this]
    · by_cases h5 : (T[a]).kd = 5
      · have := alike_lay (C := C) hF ha hb h h5 fun x y h1 h2 h3 => alike_e hF m x y (by omega) (by omega) h2 h3
        unfold eOne
        rw [this, ← hs.1, if_neg h6, if_neg h6]
      · unfold eOne
        rw [← hs.1]
        split
        · rfl
        · split
          · rfl
          · split
            · rfl
            · split
              · rfl
              · omega
/-- cells at the same offsets, of alike types -/
inductive Rl (T : List Tp) : List (Int × Int) → List (Int × Int) → Prop
  | nil : Rl T [] []
  | cons {o : Int} {x y : Nat} {l m : List (Int × Int)} (hx : x < T.length) (hy : y < T.length) (h : Alike T x y) (hl : Rl T l m) : Rl T ((o, (x : Int)) :: l) ((o, (y : Int)) :: m)
theorem Rl.app {T : List Tp} {a b c d : List (Int × Int)} (h : Rl T a b) (h2 : Rl T c d) : Rl T (a ++ c) (b ++ d) := by
  induction h with
  | nil => exact h2
  | cons hx hy h hl ih => exact .cons hx hy h ih
theorem Rl.len {T : List Tp} {a b : List (Int × Int)} (h : Rl T a b) : a.length = b.length := by
  induction h with
  | nil => rfl
  | cons hx hy h hl ih => rw [List.length_cons, List.length_cons, ih]
theorem Rl.at_ {T : List Tp} {a b : List (Int × Int)} (h : Rl T a b) : ∀ q (h1 : q < a.length) (h2 : q < b.length), ∃ x y : Nat, (a[q]).1 = (b[q]).1 ∧ (a[q]).2 = x ∧ (b[q]).2 = y ∧ x < T.length ∧ y < T.length ∧ Alike T x y := by
  induction h with
  | nil => exact fun q h1 => absurd h1 (by simp)
  | cons hx hy h hl ih =>
    rintro (_ | q) h1 h2
    · exact ⟨_, _, rfl, rfl, rfl, hx, hy, h⟩
    · exact ih q (by simpa using h1) (by simpa using h2)
theorem Rl.range {T : List Tp} {f g : Nat → List (Int × Int)} : ∀ m, (∀ j, j < m → Rl T (f j) (g j)) → Rl T ((List.range m).flatMap f) ((List.range m).flatMap g)
  | 0, _ => .nil
  | m + 1, h => by
    rw [List.range_succ, List.flatMap_append, List.flatMap_append]
    refine (Rl.range m fun j hj => h j (by omega)).app ?_
    rw [List.flatMap_cons, List.flatMap_nil, List.append_nil, List.flatMap_cons, List.flatMap_nil, List.append_nil]
    exact h m (by omega)
theorem alike_cells {C : Int} {T : List Tp} (hF : Fine T) : ∀ (f a b : Nat) (off : Int), a < T.length → b < T.length → Alike T a b → Rl T (cellsR C T f (a : Int) off) (cellsR C T f (b : Int) off)
  | 0, _, _, _, _, _, _ => .nil
  | f + 1, a, b, off, ha, hb, h => by
    have hs := h.shp ha hb
    rw [cellsR_at ha, cellsR_at hb, ← hs.1, ← hs.2.1]
    by_cases h6 : (T[a]).kd = 6
    · obtain ⟨h1, h2, h3, h4, h5⟩ := alike_el hF ha hb h (.inl h6)
      have e := alike_e (C := C) hF T.length _ _ (by omega) (by omega) (by omega) h1
      have ih := fun o => alike_cells (C := C) hF f (T[a]).el.toNat (T[b]).el.toNat o (by omega) (by omega) h1
      rw [Int.toNat_of_nonneg h2, Int.toNat_of_nonneg h4] at e
      rw [Int.toNat_of_nonneg h2, Int.toNat_of_nonneg h4] at ih
      rw [if_pos h6, if_pos h6, e]
      exact Rl.range _ fun j _ => ih _
    · rw [if_neg h6, if_neg h6]
      by_cases h5 : (T[a]).kd = 5
      · obtain ⟨hl, hq⟩ := alike_fld hF ha hb h h5
        rw [if_pos h5, if_pos h5, alike_lay hF ha hb h h5 fun x y h1 h2 h3 => alike_e hF T.length x y (by omega) (by omega) h2 h3, hl]
        refine Rl.range _ fun j hj => ?_
        obtain ⟨x, y, e1, e2, h3, h4, h5⟩ := hq j (by omega) hj
        rw [List.getD_eq_getElem?_getD, List.getElem?_eq_getElem (show j < (T[a]).fs.length by omega), List.getD_eq_getElem?_getD (l := (T[b]).fs), List.getElem?_eq_getElem hj]
        show Rl T (cellsR C T f ((T[a]).fs[j]).2 _) (cellsR C T f ((T[b]).fs[j]).2 _)
        rw [e1, e2]
        exact alike_cells hF f x y _ (by omega) (by omega) h5
      · rw [if_neg h5, if_neg h5]
        exact .cons ha hb h .nil
theorem alike_gaps {S : Int → Int} {T : List Tp} (hS : ∀ x y : Nat, x < T.length → y < T.length → Alike T x y → S x = S y) (t : List (Int × Int)) {l m : List (Int × Int)} (h : Rl T l m) : ∀ e, gaps S e (l ++ t) = gaps S e (m ++ t) := by
  induction h with
  | nil => exact fun _ => rfl
  | cons hx hy h hl ih =>
    intro e
    rw [List.cons_append, List.cons_append]
    unfold gaps
    rw [ih, if_pos (by omega), if_pos (by omega)]
    dsimp only
    rw [hS _ _ hx hy h]
theorem alike_pad {T : List Tp} (hF : Fine T) {a b : Nat} (ha : a < T.length) (hb : b < T.length) (h : Alike T a b) : padT T a = padT T b := by
  unfold padT
  have e : ∀ x y : Nat, x < T.length → y < T.length → Alike T x y → szT 1048576 T x = szT 1048576 T y := fun x y h1 h2 h3 => by unfold szT; rw [alike_e hF T.length x y h1 h1 h2 h3]
  rw [e a b ha hb h]
  exact alike_gaps e _ (alike_cells hF 32 a b 0 ha hb h) 0
end Go.Proofs.Ytgdokjfjmcleeaa.Ce
