/- Sizes by two limits, in plain Lean. -/
import Derived.Test.YtgdokjfjmcleeaaLn
namespace Go.Proofs.Ytgdokjfjmcleeaa.Ce
open Go.RowKit
set_option linter.unusedVariables false
set_option linter.unusedSimpArgs false
set_option maxHeartbeats 1000000

def R2 (p q : Int × Int) : Prop := p.2 = q.2 ∧ Al p.2 ∧ ∃ N, 0 ≤ N ∧ p.1 = min 1048576 N ∧ q.1 = min 1000000 N
theorem min_mul {C l N : Int} (hl : 1 ≤ l) (hN : 0 ≤ N) (hC : 0 ≤ C) : min C (l * min C N) = min C (l * N) := by
  by_cases h : N ≤ C
  · rw [show min C N = N from by omega]
  · have h1 : min C N = C := by omega
    have h2 : C ≤ l * C := by have := Int.mul_le_mul_of_nonneg_right hl hC; rwa [Int.one_mul] at this
    have h3 : N ≤ l * N := by have := Int.mul_le_mul_of_nonneg_right hl hN; rwa [Int.one_mul] at this
    rw [h1]
    omega
/-- two tables of sizes of one table of types -/
def ERel (E G : Ext) : Prop := E.length = G.length ∧ ∀ j : Int, 0 ≤ j → j < E.length → R2 (E.at_ j) (G.at_ j)
theorem lay_rel {E G : Ext} (hr : ERel E G) {fs : List (List UInt8 × Int)} (hx : ∀ f ∈ fs, 0 ≤ f.2 ∧ f.2 < E.length) : ∀ q, q ≤ fs.length → (layR 1048576 E (fs.take q)).2.2 = (layR 1000000 G (fs.take q)).2.2 ∧ Al (layR 1048576 E (fs.take q)).2.2 ∧ ∃ N, 0 ≤ N ∧ (layR 1048576 E (fs.take q)).2.1 = min 1048576 N ∧ (layR 1000000 G (fs.take q)).2.1 = min 1000000 N
  | 0, _ => ⟨rfl, .inl rfl, 0, Int.le_refl _, rfl, rfl⟩
  | q + 1, h => by
    obtain ⟨i1, i2, N, i3, i4, i5⟩ := lay_rel hr hx q (by omega)
    have hf := hx fs[q] (List.getElem_mem _)
    obtain ⟨r1, r2, Y, r3, r4, r5⟩ := hr.2 (fs[q]).2 hf.1 hf.2
    rw [layR_take 1048576 E (by omega), layR_take 1000000 G (by omega)]
    unfold lStep
    dsimp only
    refine ⟨by rw [i1, r1], i2.max r2, upI N (E.at_ (fs[q]).2).2 + Y, ?_, ?_, ?_⟩
    · have := upI_bnd r2 i3; omega
    · rw [i4, r4, upI_min r2 (by decide)]
      have := upI_bnd r2 i3
      omega
    · rw [i5, r5, ← r1, upI_min r2 (by decide)]
      have := upI_bnd r2 i3
      omega
theorem eOne_rel {E G : Ext} (hr : ERel E G) {m : Nat} {t : Tp} (h : fineB m E.length t = true) : R2 (eOne 1048576 E t) (eOne 1000000 G t) := by
  have hk := fine_kd h
  by_cases h1 : t.kd = 1
  · rw [eOne_1 h1, eOne_1 h1]; exact ⟨rfl, .inl rfl, 1, by decide, rfl, rfl⟩
  by_cases h2 : t.kd = 2 ∨ t.kd = 4
  · rw [eOne_24 h2, eOne_24 h2]; exact ⟨rfl, .inr rfl, 8, by decide, rfl, rfl⟩
  by_cases h3 : t.kd = 3
  · rw [eOne_3 h3, eOne_3 h3]; exact ⟨rfl, .inr rfl, 16, by decide, rfl, rfl⟩
  by_cases h7 : t.kd = 7
  · rw [eOne_7 h7, eOne_7 h7]; exact ⟨rfl, .inr rfl, 24, by decide, rfl, rfl⟩
  by_cases h6 : t.kd = 6
  · have ha := fine_arr h h6
    obtain ⟨r1, r2, Y, r3, r4, r5⟩ := hr.2 t.el ha.1 ha.2.1
    rw [eOne_6 h6, eOne_6 h6]
    refine ⟨r1, r2, t.ln * Y, Int.mul_nonneg (by omega) r3, ?_, ?_⟩
    · dsimp only; rw [r4, min_mul ha.2.2.1 r3 (by decide)]
    · dsimp only; rw [r5, min_mul ha.2.2.1 r3 (by decide)]
  · have h5 : t.kd = 5 := by omega
    have hx : ∀ f ∈ t.fs, 0 ≤ f.2 ∧ f.2 < E.length := fun f hf => by
      obtain ⟨q, hq, rfl⟩ := List.getElem_of_mem hf
      exact fine_fld h hq
    obtain ⟨i1, i2, N, i3, i4, i5⟩ := lay_rel hr hx t.fs.length (Nat.le_refl _)
    rw [List.take_length] at i1 i2 i4 i5
    rw [eOne_5 h5, eOne_5 h5]
    refine ⟨i1, i2, upI N (layR 1048576 E t.fs).2.2, ?_, ?_, ?_⟩
    · have := upI_bnd i2 i3; omega
    · dsimp only; rw [i4, upI_min i2 (by decide)]
    · dsimp only; rw [i5, ← i1, upI_min i2 (by decide)]
theorem at_snoc_lt {E : Ext} {p : Int × Int} {j : Int} (h0 : 0 ≤ j) (h1 : j < E.length) : Ext.at_ (E ++ [p]) j = E.at_ j := by
  unfold Ext.at_
  rw [List.getD_eq_getElem?_getD, List.getElem?_append_left (by omega), List.getD_eq_getElem?_getD]
theorem at_snoc_eq {E : Ext} {p : Int × Int} : Ext.at_ (E ++ [p]) (E.length : Int) = p := by
  unfold Ext.at_
  rw [Int.toNat_natCast, List.getD_eq_getElem?_getD, List.getElem?_append_right (Nat.le_refl _)]
  simp
theorem eRow_rel {T : List Tp} (hF : Fine T) : ∀ i, i ≤ T.length → ERel (eRow 1048576 (T.take i)) (eRow 1000000 (T.take i))
  | 0, _ => ⟨by simp [eRow], fun j h0 h1 => by simp [eRow] at h1; omega⟩
  | i + 1, hi => by
    have ih := eRow_rel hF i (by omega)
    have hl1 := eRow_tlen 1048576 (T := T) (i := i) (by omega)
    have hl2 := eRow_tlen 1000000 (T := T) (i := i) (by omega)
    rw [eRow_take 1048576 (by omega), eRow_take 1000000 (by omega)]
    refine ⟨by rw [List.length_append, List.length_append, hl1, hl2, List.length_singleton, List.length_singleton], fun j h0 h1 => ?_⟩
    rw [List.length_append, hl1] at h1
    by_cases hj : j < (i : Int)
    · rw [at_snoc_lt h0 (by omega), at_snoc_lt h0 (by omega)]
      exact ih.2 j h0 (by omega)
    · have e : j = (i : Int) := by simp at h1; omega
      have e1 : j = ((eRow 1048576 (T.take i)).length : Int) := by omega
      have e2 : j = ((eRow 1000000 (T.take i)).length : Int) := by omega
      have r := eOne_rel ih (m := T.length) (t := T[i]) (by rw [hl1]; exact hF i (by omega))
      conv => arg 1; rw [e1, at_snoc_eq]
      conv => arg 2; rw [e2, at_snoc_eq]
      exact r
theorem ext_rel {T : List Tp} (hF : Fine T) : ERel (eRow 1048576 T) (eRow 1000000 T) := by have := eRow_rel hF T.length (Nat.le_refl _); rwa [List.take_length] at this
theorem R2.big {p q : Int × Int} (h : R2 p q) : (256 < p.1 ↔ 256 < q.1) ∧ (p.1 ≤ 256 → p = q) := by
  obtain ⟨h1, -, N, h2, h3, h4⟩ := h
  refine ⟨by omega, fun h5 => Prod.ext (by omega) h1⟩
theorem szR_eq (T : List Tp) (i : Int) : szR 1048576 T i = szR 1000000 T i := by
  unfold szR
  by_cases hC : ChkT T
  · rw [if_pos hC, if_pos hC]
    by_cases hi : 0 ≤ i ∧ i < T.length
    · rw [if_pos hi, if_pos hi]
      have hr := ((ext_rel hC.2.1).2 i hi.1 (by rw [eRow_length]; exact hi.2)).big
      by_cases hb : 256 < ((eRow 1048576 T).at_ i).1
      · rw [if_pos hb, if_pos (hr.1.1 hb)]
      · rw [if_neg hb, if_neg (fun h => hb (hr.1.2 h)), hr.2 (by omega)]
    · rw [if_neg hi, if_neg hi]
  · rw [if_neg hC, if_neg hC]
theorem lay_same {E G : Ext} {fs : List (List UInt8 × Int)} (he : ∀ f ∈ fs, E.at_ f.2 = G.at_ f.2) (ho : ∀ f ∈ fs, 0 ≤ (E.at_ f.2).1 ∧ (E.at_ f.2).1 ≤ 256 ∧ Al (E.at_ f.2).2) (hl : fs.length ≤ 16) : ∀ q, q ≤ fs.length → layR 1048576 E (fs.take q) = layR 1000000 G (fs.take q) ∧ 0 ≤ (layR 1048576 E (fs.take q)).2.1 ∧ (layR 1048576 E (fs.take q)).2.1 ≤ 263 * q
  | 0, _ => ⟨rfl, Int.le_refl _, by simp [layR]⟩
  | q + 1, h => by
    obtain ⟨i1, i2, i3⟩ := lay_same he ho hl q (by omega)
    have hf := he fs[q] (List.getElem_mem _)
    obtain ⟨o1, o2, o3⟩ := ho fs[q] (List.getElem_mem _)
    have hb := upI_bnd o3 i2
    rw [layR_take 1048576 E (by omega), layR_take 1000000 G (by omega), ← i1]
    unfold lStep
    rw [← hf]
    dsimp only
    refine ⟨?_, by omega, by omega⟩
    rw [show min 1048576 (upI (layR 1048576 E (fs.take q)).2.1 (E.at_ (fs[q]).2).2 + (E.at_ (fs[q]).2).1) = upI (layR 1048576 E (fs.take q)).2.1 (E.at_ (fs[q]).2).2 + (E.at_ (fs[q]).2).1 from by omega,
      show min 1000000 (upI (layR 1048576 E (fs.take q)).2.1 (E.at_ (fs[q]).2).2 + (E.at_ (fs[q]).2).1) = upI (layR 1048576 E (fs.take q)).2.1 (E.at_ (fs[q]).2).2 + (E.at_ (fs[q]).2).1 from by omega]
end Go.Proofs.Ytgdokjfjmcleeaa.Ce
