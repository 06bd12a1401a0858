/- Alignments of cells, in plain Lean. -/
import Derived.Test.YtgdokjfjmcleeaaNb
namespace Go.Proofs.Ytgdokjfjmcleeaa.Ce
open Go.RowKit
set_option linter.unusedVariables false
set_option linter.unusedSimpArgs false
set_option maxHeartbeats 1000000

/-- the alignment of a type -/
def alT (C : Int) (T : List Tp) (t : Int) : Int := ((eRow C T).at_ t).2
theorem mod_al {x a b : Int} (ha : Al a) (hb : Al b) (h : b ≤ a) (hx : x % a = 0) : x % b = 0 := by
  rcases ha with rfl | rfl <;> rcases hb with rfl | rfl <;> omega
theorem add_al {x y a : Int} (ha : Al a) (hx : x % a = 0) (hy : y % a = 0) : (x + y) % a = 0 := by
  rcases ha with rfl | rfl <;> omega
theorem mul_al {x y a : Int} (hy : y % a = 0) : (x * y) % a = 0 := by rw [Int.mul_emod, hy, Int.mul_zero, Int.zero_emod]
theorem upI_al {x a : Int} (ha : Al a) : upI x a % a = 0 := by
  rcases ha with rfl | rfl
  · rw [upI_1]; omega
  · rw [upI_8]; omega
theorem layR_al {C : Int} {E : Ext} {fs : List (List UInt8 × Int)} (hf : FOk C E fs) : ∀ q, q ≤ fs.length → 1 ≤ (layR C E (fs.take q)).2.2 ∧ (∀ j (hj : j < q) (hj2 : j < fs.length), (E.at_ (fs[j]).2).2 ≤ (layR C E (fs.take q)).2.2) ∧ ((layR C E (fs.take q)).2.2 = 8 → ∃ j, ∃ (hj : j < fs.length), j < q ∧ (E.at_ (fs[j]).2).2 = 8)
  | 0, _ => by
    have e : (layR C E (fs.take 0)).2.2 = 1 := rfl
    rw [e]
    exact ⟨by omega, fun j hj => absurd hj (by omega), fun h => absurd h (by decide)⟩
  | q + 1, h => by
    obtain ⟨i0, i1, i2⟩ := layR_al hf q (by omega)
    have h1 := (hf fs[q] (List.getElem_mem _)).2.2.bnd
    have e : (layR C E (fs.take (q + 1))).2.2 = max (layR C E (fs.take q)).2.2 (E.at_ (fs[q]).2).2 := by rw [layR_take C E (by omega)]; rfl
    rw [e]
    refine ⟨by omega, fun j hj hj2 => ?_, fun hm => ?_⟩
    · by_cases hjq : j < q
      · have := i1 j hjq hj2; omega
      · obtain rfl : j = q := by omega
        omega
    · by_cases hq8 : (E.at_ (fs[q]).2).2 = 8
      · exact ⟨q, by omega, by omega, hq8⟩
      · obtain ⟨j, hj, hjq, h8⟩ := i2 (by omega)
        exact ⟨j, hj, by omega, h8⟩
theorem size_al {C : Int} (hC : 256 < C) (hC8 : C % 8 = 0) {T : List Tp} (hF : Fine T) : ∀ (f i : Nat), i < T.length → i < f → ((eRow C T).at_ (i : Int)).1 ≤ 256 → ((eRow C T).at_ (i : Int)).1 % ((eRow C T).at_ (i : Int)).2 = 0
  | 0, _, _, h, _ => absurd h (by omega)
  | f + 1, i, hi, hf, hs => by
    have hEok : ∀ p ∈ eRow C T, EOk C p := by have := eRow_ok (C := C) (by omega) hC8 hF T.length (Nat.le_refl _); rwa [List.take_length] at this
    have hfi := hF i hi
    have hk := fine_kd hfi
    have e := eRow_at C hF hi
    by_cases h6 : (T[i]).kd = 6
    · have ha := fine_arr hfi h6
      rw [eOne_6 h6] at e
      rw [e] at hs ⊢
      dsimp only at hs ⊢
      obtain ⟨x, hx⟩ := Int.eq_ofNat_of_zero_le ha.1
      have h0 := (Ext.at_mem hEok ha.1 (by rw [eRow_length]; omega)).1
      have hm : ((eRow C T).at_ (T[i]).el).1 ≤ (T[i]).ln * ((eRow C T).at_ (T[i]).el).1 := by
        have := Int.mul_le_mul_of_nonneg_right (show 1 ≤ (T[i]).ln by omega) h0
        rwa [Int.one_mul] at this
      rw [show min C ((T[i]).ln * ((eRow C T).at_ (T[i]).el).1) = (T[i]).ln * ((eRow C T).at_ (T[i]).el).1 from by omega]
      refine mul_al ?_
      rw [hx] at hm ⊢
      exact size_al hC hC8 hF f x (by omega) (by omega) (by rw [hx] at hs; omega)
    · by_cases h5 : (T[i]).kd = 5
      · rw [eOne_5 h5] at e
        rw [e]
        have hfo : FOk C (eRow C T) (T[i]).fs := fun f hf => by
          obtain ⟨q, hq, rfl⟩ := List.getElem_of_mem hf
          have := fine_fld hfi hq
          exact Ext.at_mem hEok this.1 (by rw [eRow_length]; omega)
        have hok := layR_ok (by omega) hfo (T[i]).fs.length (Nat.le_refl _)
        rw [List.take_length] at hok
        exact upI_al hok.2.2
      · rw [e]
        by_cases h1 : (T[i]).kd = 1
        · rw [eOne_1 h1]; decide
        by_cases h2 : (T[i]).kd = 2 ∨ (T[i]).kd = 4
        · rw [eOne_24 h2]; decide
        by_cases h3 : (T[i]).kd = 3
        · rw [eOne_3 h3]; decide
        · rw [eOne_7 (by omega)]; decide
theorem cells_al {C : Int} (hC : 256 < C) (hC8 : C % 8 = 0) {T : List Tp} (hF : Fine T) : ∀ (f i : Nat) (off : Int), i < T.length → i < f → ((eRow C T).at_ (i : Int)).1 ≤ 256 → off % ((eRow C T).at_ (i : Int)).2 = 0 →
      (∀ p ∈ cellsR C T f i off, Al (alT C T p.2) ∧ alT C T p.2 ≤ ((eRow C T).at_ (i : Int)).2 ∧ p.1 % alT C T p.2 = 0) ∧ (((eRow C T).at_ (i : Int)).2 = 8 → ∃ p ∈ cellsR C T f i off, alT C T p.2 = 8)
  | 0, _, _, _, h, _, _ => absurd h (by omega)
  | f + 1, i, off, hi, hf, hs, hoff => by
    have hEok : ∀ p ∈ eRow C T, EOk C p := by have := eRow_ok (C := C) (by omega) hC8 hF T.length (Nat.le_refl _); rwa [List.take_length] at this
    have hfi := hF i hi
    have hk := fine_kd hfi
    have e := eRow_at C hF hi
    have hai := (Ext.at_mem hEok (i := (i : Int)) (by omega) (by rw [eRow_length]; omega)).2.2
    rw [cellsR_at hi]
    by_cases h6 : (T[i]).kd = 6
    · have ha := fine_arr hfi h6
      rw [if_pos h6]
      rw [eOne_6 h6] at e
      rw [e] at hs hoff hai ⊢
      dsimp only at hs hoff hai ⊢
      obtain ⟨x, hx⟩ := Int.eq_ofNat_of_zero_le ha.1
      have h0 := (Ext.at_mem hEok ha.1 (by rw [eRow_length]; omega)).1
      rw [hx] at hs h0 hoff hai ⊢
      obtain ⟨S, hS⟩ : ∃ S, ((eRow C T).at_ (x : Int)).1 = S := ⟨_, rfl⟩
      have hm : S ≤ (T[i]).ln * S := by
        have := Int.mul_le_mul_of_nonneg_right (show 1 ≤ (T[i]).ln by omega) (by rwa [hS] at h0)
        rwa [Int.one_mul] at this
      have hsa := size_al hC hC8 hF f x (by omega) (by omega) (by rw [hS] at hs ⊢; omega)
      have ih := fun off => cells_al hC hC8 hF f x off (by omega) (by omega) (by rw [hS] at hs ⊢; omega)
      rw [hS] at hsa ⊢
      constructor
      · intro p hp
        obtain ⟨j, -, hj⟩ := List.mem_flatMap.1 hp
        exact (ih _ (add_al hai hoff (mul_al hsa))).1 p hj
      · intro h8
        obtain ⟨p, hp, hp8⟩ := (ih _ (add_al hai hoff (mul_al (x := ((0 : Nat) : Int)) hsa))).2 h8
        exact ⟨p, List.mem_flatMap.2 ⟨0, List.mem_range.2 (by omega), hp⟩, hp8⟩
    · rw [if_neg h6]
      by_cases h5 : (T[i]).kd = 5
      · rw [if_pos h5]
        rw [eOne_5 h5] at e
        rw [e] at hs hoff hai ⊢
        dsimp only at hs hoff hai ⊢
        have hfo : FOk C (eRow C T) (T[i]).fs := fun f hf => by
          obtain ⟨q, hq, rfl⟩ := List.getElem_of_mem hf
          have := fine_fld hfi hq
          exact Ext.at_mem hEok this.1 (by rw [eRow_length]; omega)
        have hok := layR_ok (by omega) hfo (T[i]).fs.length (Nat.le_refl _)
        have hb := upI_bnd hok.2.2 hok.1
        have hli := lay_in (by omega) hfo (T[i]).fs.length (Nat.le_refl _) (by rw [List.take_length] at hb ⊢; omega)
        obtain ⟨-, hla, hl8⟩ := layR_al hfo (T[i]).fs.length (Nat.le_refl _)
        rw [List.take_length] at hla hl8
        have key : ∀ j (hj : j < (T[i]).fs.length) (x : Nat), (T[i]).fs[j].2 = (x : Int) → (T[i]).fs.getD j ([], 0) = (T[i]).fs[j] ∧ x < T.length ∧ x < f ∧ ((eRow C T).at_ (x : Int)).1 ≤ 256 ∧ Al ((eRow C T).at_ (x : Int)).2 ∧ ((eRow C T).at_ (x : Int)).2 ≤ (layR C (eRow C T) (T[i]).fs).2.2 ∧ (off + (layR C (eRow C T) (T[i]).fs).1.getD j 0) % ((eRow C T).at_ (x : Int)).2 = 0 := fun j hj x hx2 => by
          have hx := fine_fld hfi hj
          have h1 := hla j hj hj
          have h2 := hli j hj
          have h3 := hfo _ (List.getElem_mem hj)
          rw [List.take_length] at h2 hb
          rw [hx2] at hx h1 h2 h3
          refine ⟨by rw [List.getD_eq_getElem?_getD, List.getElem?_eq_getElem hj]; rfl, by omega, by omega, by omega, h3.2.2, h1, ?_⟩
          refine add_al h3.2.2 (mod_al hai h3.2.2 h1 hoff) ?_
          rw [layR_off C (eRow C T) hj, hx2]
          exact upI_al h3.2.2
        constructor
        · intro p hp
          obtain ⟨j, hj, hp⟩ := List.mem_flatMap.1 hp
          have hj := List.mem_range.1 hj
          have hx := fine_fld hfi hj
          obtain ⟨x, hx2⟩ := Int.eq_ofNat_of_zero_le hx.1
          obtain ⟨k1, k2, k3, k4, k5, k6, k7⟩ := key j hj x hx2
          rw [k1, hx2] at hp
          have := (cells_al hC hC8 hF f x _ k2 k3 k4 k7).1 p hp
          exact ⟨this.1, Int.le_trans this.2.1 k6, this.2.2⟩
        · intro h8
          obtain ⟨j, hj, -, hj8⟩ := hl8 h8
          have hx := fine_fld hfi hj
          obtain ⟨x, hx2⟩ := Int.eq_ofNat_of_zero_le hx.1
          obtain ⟨k1, k2, k3, k4, k5, k6, k7⟩ := key j hj x hx2
          rw [hx2] at hj8
          obtain ⟨p, hp, hp8⟩ := (cells_al hC hC8 hF f x _ k2 k3 k4 k7).2 hj8
          refine ⟨p, List.mem_flatMap.2 ⟨j, List.mem_range.2 hj, ?_⟩, hp8⟩
          rw [k1, hx2]
          exact hp
      · rw [if_neg h5]
        constructor
        · intro p hp
          obtain rfl := List.mem_singleton.1 hp
          exact ⟨hai, Int.le_refl _, hoff⟩
        · intro h8
          exact ⟨_, List.mem_singleton.2 rfl, h8⟩
/-- the greatest alignment -/
def mal (al : Int → Int) (ps : List (Int × Int)) : Int := ps.foldl (fun m p => if m < al p.2 then al p.2 else m) 1
theorem mal_take {al : Int → Int} {ps : List (Int × Int)} {q : Nat} (hq : q < ps.length) : mal al (ps.take (q + 1)) = if mal al (ps.take q) < al (ps[q]).2 then al (ps[q]).2 else mal al (ps.take q) := by
  unfold mal
  rw [List.take_succ_eq_append_getElem hq, List.foldl_append]
  rfl
theorem mal_fold {al : Int → Int} : ∀ (ps : List (Int × Int)) (m : Int), m ≤ ps.foldl (fun m p => if m < al p.2 then al p.2 else m) m ∧ (∀ p ∈ ps, al p.2 ≤ ps.foldl (fun m p => if m < al p.2 then al p.2 else m) m) ∧ ∀ a, m ≤ a → (∀ p ∈ ps, al p.2 ≤ a) → ps.foldl (fun m p => if m < al p.2 then al p.2 else m) m ≤ a
  | [], m => ⟨Int.le_refl _, fun p hp => by simp at hp, fun a h _ => h⟩
  | p :: ps, m => by
    obtain ⟨i1, i2, i3⟩ := mal_fold (al := al) ps (if m < al p.2 then al p.2 else m)
    rw [List.foldl_cons]
    have hm : m ≤ (if m < al p.2 then al p.2 else m) ∧ al p.2 ≤ (if m < al p.2 then al p.2 else m) := by split <;> omega
    refine ⟨by omega, fun x hx => ?_, fun a h1 h2 => i3 a ?_ fun x hx => h2 x (List.mem_cons_of_mem _ hx)⟩
    · rcases List.mem_cons.1 hx with rfl | hx
      · omega
      · exact i2 x hx
    · have := h2 p (List.mem_cons_self ..)
      split <;> omega
theorem mal_eq {al : Int → Int} {ps : List (Int × Int)} {a : Int} (ha : Al a) (h1 : ∀ p ∈ ps, al p.2 ≤ a) (h8 : a = 8 → ∃ p ∈ ps, al p.2 = 8) : mal al ps = a := by
  obtain ⟨i1, i2, i3⟩ := mal_fold (al := al) ps 1
  have := i3 a (by rcases ha with rfl | rfl <;> omega) h1
  unfold mal
  rcases ha with rfl | rfl
  · omega
  · obtain ⟨p, hp, e⟩ := h8 rfl
    have := i2 p hp
    omega
end Go.Proofs.Ytgdokjfjmcleeaa.Ce
