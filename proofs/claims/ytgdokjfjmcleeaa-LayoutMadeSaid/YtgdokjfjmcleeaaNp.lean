/- Cells of arrays and structs, from those of their parts; in plain Lean. -/
import Derived.Test.YtgdokjfjmcleeaaNg
namespace Go.Proofs.Ytgdokjfjmcleeaa.Ce
open Go.RowKit
set_option linter.unusedVariables false
set_option linter.unusedSimpArgs false
set_option maxHeartbeats 1000000

/-- cells some bytes further -/
def shift (by_ : Int) (ps : List (Int × Int)) : List (Int × Int) := ps.map fun p => (p.1 + by_, p.2)
theorem shift_flat {α : Type} (b : Int) (g : α → List (Int × Int)) (l : List α) : shift b (l.flatMap g) = l.flatMap fun x => shift b (g x) := by
  unfold shift
  rw [List.map_flatMap]
theorem shift_shift (a b : Int) (ps : List (Int × Int)) : shift b (shift a ps) = shift (a + b) ps := by
  unfold shift
  rw [List.map_map]
  refine List.map_congr_left fun p _ => ?_
  show (p.1 + a + b, p.2) = (p.1 + (a + b), p.2)
  rw [Int.add_assoc]
theorem flat_ext {α : Type} {g k : Nat → List α} (m : Nat) (h : ∀ j, j < m → g j = k j) : (List.range m).flatMap g = (List.range m).flatMap k := flat_congr m h
/-- cells further on, and with more fuel -/
theorem cells_shift {C : Int} {T : List Tp} (hF : Fine T) : ∀ (f f' i : Nat) (off : Int), i < T.length → i < f → i < f' → cellsR C T f i off = shift off (cellsR C T f' i 0)
  | 0, _, _, _, _, h, _ => absurd h (by omega)
  | _ + 1, 0, _, _, _, _, h => absurd h (by omega)
  | f + 1, f' + 1, i, off, hi, hf, hf' => by
    have hfi := hF i hi
    rw [cellsR_at hi, cellsR_at hi]
    by_cases h6 : (T[i]).kd = 6
    · have ha := fine_arr hfi h6
      obtain ⟨x, hx⟩ := Int.eq_ofNat_of_zero_le ha.1
      rw [if_pos h6, if_pos h6, shift_flat, hx]
      refine flat_ext _ fun j _ => ?_
      rw [cells_shift hF f f' x _ (by omega) (by omega) (by omega), cells_shift hF f' f' x (0 + _) (by omega) (by omega) (by omega), shift_shift]
      congr 1
      omega
    · rw [if_neg h6, if_neg h6]
      by_cases h5 : (T[i]).kd = 5
      · rw [if_pos h5, if_pos h5, shift_flat]
        refine flat_ext _ fun j hj => ?_
        have hx := fine_fld hfi hj
        obtain ⟨x, hx2⟩ := Int.eq_ofNat_of_zero_le hx.1
        rw [List.getD_eq_getElem?_getD (l := (T[i]).fs), List.getElem?_eq_getElem hj, Option.getD_some, hx2]
        rw [cells_shift hF f f' x _ (by omega) (by omega) (by omega), cells_shift hF f' f' x (0 + _) (by omega) (by omega) (by omega), shift_shift]
        congr 1
        omega
      · rw [if_neg h5, if_neg h5]
        show [(off, (i : Int))] = [((0 : Int) + off, (i : Int))]
        rw [Int.zero_add]
theorem cells_arr {T : List Tp} (hC : ChkT T) {j x : Nat} (hj : j < T.length) (h6 : (T[j]).kd = 6) (hx : (T[j]).el = (x : Int)) : cellsT T j = (List.range (T[j]).ln.toNat).flatMap fun (q : Nat) => shift (q * ((eRow 1000000 T).at_ (x : Int)).1) (cellsT T x) := by
  have hl := hC.1
  have ha := fine_arr (hC.2.1 j hj) h6
  unfold cellsT
  rw [show (32 : Nat) = 31 + 1 from rfl, cellsR_at hj, if_pos h6, hx]
  refine flat_ext _ fun q _ => ?_
  rw [cells_shift hC.2.1 31 32 x _ (by omega) (by omega) (by omega), Int.zero_add]
theorem cells_str {T : List Tp} (hC : ChkT T) {j : Nat} (hj : j < T.length) (h5 : (T[j]).kd = 5) : cellsT T j = (List.range (T[j]).fs.length).flatMap fun (q : Nat) => shift ((layR 1000000 (eRow 1000000 T) (T[j]).fs).1.getD q 0) (cellsT T ((T[j]).fs.getD q ([], 0)).2.toNat) := by
  have hl := hC.1
  have h6 : (T[j]).kd ≠ 6 := by omega
  unfold cellsT
  rw [show (32 : Nat) = 31 + 1 from rfl, cellsR_at hj, if_neg h6, if_pos h5]
  refine flat_ext _ fun q hq => ?_
  have hx := fine_fld (hC.2.1 j hj) hq
  obtain ⟨x, hx2⟩ := Int.eq_ofNat_of_zero_le hx.1
  rw [List.getD_eq_getElem?_getD (l := (T[j]).fs), List.getElem?_eq_getElem hq, Option.getD_some, hx2]
  rw [cells_shift hC.2.1 31 32 x _ (by omega) (by omega) (by omega), Int.zero_add]
  rfl
theorem cells_one {T : List Tp} (hC : ChkT T) {j : Nat} (hj : j < T.length) (h5 : (T[j]).kd ≠ 5) (h6 : (T[j]).kd ≠ 6) : cellsT T j = [(0, (j : Int))] := by
  unfold cellsT
  rw [show (32 : Nat) = 31 + 1 from rfl, cellsR_at hj, if_neg h6, if_neg h5]
/-- offsets do not descend -/
theorem offs_mono {C : Int} (hC : 256 < C) {E : Ext} {fs : List (List UInt8 × Int)} (hf : FOk C E fs) (hs : (layR C E fs).2.1 ≤ 256) {q : Nat} (hq : q + 1 < fs.length) : (layR C E fs).1.getD q 0 ≤ (layR C E fs).1.getD (q + 1) 0 := by
  have h1 := layR_off C E (fs := fs) (j := q) (by omega)
  have h2 := layR_off C E (fs := fs) (j := q + 1) hq
  have hli := lay_in hC hf fs.length (Nat.le_refl _) (by rw [List.take_length]; exact hs) q (by omega)
  rw [List.take_length] at hli
  have hok := layR_ok (by omega) hf (q + 1) (by omega)
  have hb := upI_bnd (hf fs[q + 1] (List.getElem_mem _)).2.2 hok.1
  have e : (layR C E (fs.take (q + 1))).2.1 = min C (upI (layR C E (fs.take q)).2.1 (E.at_ (fs[q]).2).2 + (E.at_ (fs[q]).2).1) := by rw [layR_take C E (by omega)]; rfl
  have h0 := (hf fs[q] (List.getElem_mem _)).1
  omega
end Go.Proofs.Ytgdokjfjmcleeaa.Ce
