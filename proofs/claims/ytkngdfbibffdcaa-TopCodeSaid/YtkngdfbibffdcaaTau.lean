/- Parts of the proof of TopCode: Nb, Kh. No condition of its own. -/
import Derived.Test.YtkngdfbibffdcaaTak
import Derived.Test.YtkngdfbibffdcaaTam
import Derived.Test.YtkngdfbibffdcaaTas
import Derived.Test.YtkngdfbibffdcaaTat
set_option linter.unusedVariables false
set_option linter.unusedSimpArgs false
set_option maxRecDepth 100000
set_option maxHeartbeats 4000000
namespace Go.Proofs.Ytkngdfbibffdcaa.Ce
open Go.RowKit
def pcell (p : Int × Int) : List Value := [.int .i64 p.1, .int .i64 p.2]
def pv (ps : List (Int × Int)) : List Value := ps.flatMap pcell
theorem pcell_length (p : Int × Int) : (pcell p).length = 2 := rfl
theorem pv_length (ps : List (Int × Int)) : (pv ps).length = ps.length * 2 := rows_length pcell pcell_length ps
theorem pv_app (ps qs : List (Int × Int)) : pv (ps ++ qs) = pv ps ++ pv qs := by simp [pv]
theorem pv_idA (n : Nat) (ps : List (Int × Int)) : ∀ v ∈ pv ps, idA n v = [] := by
  intro v hv
  obtain ⟨a, -, h⟩ := List.mem_flatMap.1 hv
  unfold pcell at h
  simp only [List.mem_cons, List.not_mem_nil, or_false] at h
  rcases h with rfl | rfl <;> rfl
theorem prt_at {h : Hp} {B : Nat} {A : Option Addr} {ps : List (Int × Int)} (hr : RdH h B A (pv ps)) {i : Nat} (hi : i < ps.length) : ∃ id off, A = some ⟨id, off, none⟩ ∧ id < B ∧ cellsAt h id (off + i * 2) 2 = some [.int .i64 ps[i].1, .int .i64 ps[i].2] ∧
    cellAt h id (off + i * 2) = some (.int .i64 ps[i].1) ∧ cellAt h id (off + i * 2 + 1) = some (.int .i64 ps[i].2) := by
  obtain ⟨id, off, e, hid, h1, h2⟩ := RdH.rows pcell_length (by omega) hr (by omega)
  exact ⟨id, off, e, hid, h1 i hi, h2 i 0 hi (by omega), h2 i 1 hi (by omega)⟩
variable (k d cl : Nat) (h : Hp) (n : Nat)
end Go.Proofs.Ytkngdfbibffdcaa.Ce
namespace Go.Proofs.Ytkngdfbibffdcaa.Ce
open Go.RowKit
theorem eRow_pre (C : Int) {T : List Tp} {i : Nat} {j : Int} (h0 : 0 ≤ j) (h1 : j < i) : ∀ m, i + m ≤ T.length → (eRow C (T.take (i + m))).at_ j = (eRow C (T.take i)).at_ j
  | 0, _ => rfl
  | m + 1, hm => by
    rw [← Nat.add_assoc, eRow_take C (by omega), at_snoc_lt h0 (by rw [eRow_tlen C (by omega)]; omega)]
    exact eRow_pre C h0 h1 m (by omega)
theorem eRow_all (C : Int) {T : List Tp} {i : Nat} (hi : i ≤ T.length) {j : Int} (h0 : 0 ≤ j) (h1 : j < i) : (eRow C T).at_ j = (eRow C (T.take i)).at_ j := by
  have := eRow_pre C (T := T) h0 h1 (T.length - i) (by omega)
  rwa [show i + (T.length - i) = T.length from by omega, List.take_length] at this
theorem eOne_congr {C : Int} {E G : Ext} {m i : Nat} {t : Tp} (h : fineB m i t = true) (he : ∀ j : Int, 0 ≤ j → j < i → E.at_ j = G.at_ j) : eOne C E t = eOne C G t := by
  have hl : layR C E t.fs = layR C G t.fs := layR_congr t.fs fun f hf => by
    obtain ⟨q, hq, rfl⟩ := List.getElem_of_mem hf
    have := fine_fld h hq
    exact he _ this.1 this.2
  by_cases h6 : t.kd = 6
  · have ha := fine_arr h h6
    rw [eOne_6 h6, eOne_6 h6, he _ ha.1 ha.2.1]
  · unfold eOne
    rw [hl, if_neg h6, if_neg h6]
theorem eRow_at (C : Int) {T : List Tp} (hF : Fine T) {i : Nat} (hi : i < T.length) : (eRow C T).at_ (i : Int) = eOne C (eRow C T) T[i] := by
  have hl := eRow_tlen C (T := T) (i := i) (by omega)
  have e1 : (eRow C T).at_ (i : Int) = (eRow C (T.take (i + 1))).at_ (i : Int) := eRow_all C (by omega) (by omega) (by omega)
  have e2 : (i : Int) = ((eRow C (T.take i)).length : Int) := by omega
  rw [e1, eRow_take C hi]
  conv => lhs; arg 2; rw [e2]
  rw [at_snoc_eq]
  exact eOne_congr (hF i hi) fun j h0 h1 => (eRow_all C (by omega) h0 h1).symm
def cellsR (C : Int) (T : List Tp) : Nat → Int → Int → List (Int × Int)
  | 0, _, _ => []
  | f + 1, i, off =>
    match T[i.toNat]? with
    | none => []
    | some t =>
      if t.kd = 6 then (List.range t.ln.toNat).flatMap fun (j : Nat) => cellsR C T f t.el (off + j * ((eRow C T).at_ t.el).1)
      else if t.kd = 5 then (List.range t.fs.length).flatMap fun (j : Nat) => cellsR C T f (t.fs.getD j ([], 0)).2 (off + (layR C (eRow C T) t.fs).1.getD j 0)
      else [(off, i)]
theorem cellsR_at {C : Int} {T : List Tp} {f i : Nat} {off : Int} (hi : i < T.length) : cellsR C T (f + 1) i off =
      if (T[i]).kd = 6 then (List.range (T[i]).ln.toNat).flatMap fun (j : Nat) => cellsR C T f (T[i]).el (off + j * ((eRow C T).at_ (T[i]).el).1)
      else if (T[i]).kd = 5 then (List.range (T[i]).fs.length).flatMap fun (j : Nat) => cellsR C T f ((T[i]).fs.getD j ([], 0)).2 (off + (layR C (eRow C T) (T[i]).fs).1.getD j 0)
      else [(off, (i : Int))] := by
  conv => lhs; unfold cellsR
  rw [Int.toNat_natCast, List.getElem?_eq_getElem hi]
theorem flat_le {α : Type} {g : Nat → List α} {B : Nat} : ∀ m, (∀ j, j < m → (g j).length ≤ B) → ((List.range m).flatMap g).length ≤ m * B
  | 0, _ => by simp
  | m + 1, h => by
    have ih := flat_le m fun j hj => h j (by omega)
    have := h m (by omega)
    rw [List.range_succ, List.flatMap_append, List.length_append, List.flatMap_cons, List.flatMap_nil, List.append_nil, Nat.succ_mul]
    omega
theorem fields_le {α : Type} {C : Int} (hC : 256 < C) {E : Ext} {fs : List (List UInt8 × Int)} {g : Nat → List α} (ho : ∀ f ∈ fs, 0 ≤ (E.at_ f.2).1 ∧ Al (E.at_ f.2).2)
    (hg : ∀ q (hq : q < fs.length), (E.at_ (fs[q]).2).1 ≤ 256 → ((g q).length : Int) ≤ (E.at_ (fs[q]).2).1) : ∀ q, q ≤ fs.length → 0 ≤ (layR C E (fs.take q)).2.1 ∧ (256 < (layR C E (fs.take q)).2.1 ∨ (((List.range q).flatMap g).length : Int) ≤ (layR C E (fs.take q)).2.1)
  | 0, _ => ⟨Int.le_refl _, .inr (by simp [layR])⟩
  | q + 1, h => by
    obtain ⟨i0, ih⟩ := fields_le hC ho hg q (by omega)
    obtain ⟨o1, o2⟩ := ho fs[q] (List.getElem_mem _)
    have hb := upI_bnd o2 i0
    have hq := hg q (by omega)
    rw [layR_take C E (by omega), List.range_succ, List.flatMap_append, List.length_append, List.flatMap_cons, List.flatMap_nil, List.append_nil]
    unfold lStep
    dsimp only
    refine ⟨by omega, ?_⟩
    rcases ih with ih | ih
    · left; omega
    · by_cases hs : (E.at_ (fs[q]).2).1 ≤ 256
      · have := hq hs
        by_cases hcap : upI (layR C E (fs.take q)).2.1 (E.at_ (fs[q]).2).2 + (E.at_ (fs[q]).2).1 ≤ C
        · right; omega
        · left; omega
      · left; omega
theorem cells_len {C : Int} (hC : 256 < C) (hC8 : C % 8 = 0) {T : List Tp} (hF : Fine T) : ∀ (f i : Nat) (off : Int), i < T.length → i < f → ((eRow C T).at_ (i : Int)).1 ≤ 256 → ((cellsR C T f i off).length : Int) ≤ ((eRow C T).at_ (i : Int)).1
  | 0, _, _, _, h, _ => absurd h (by omega)
  | f + 1, i, off, hi, hf, hs => by
    have hEok : ∀ p ∈ eRow C T, EOk C p := by have := eRow_ok (C := C) (by omega) hC8 hF T.length (Nat.le_refl _); rwa [List.take_length] at this
    have hfi := hF i hi
    have hk := fine_kd hfi
    have e := eRow_at C hF hi
    rw [cellsR_at hi]
    by_cases h6 : (T[i]).kd = 6
    · have ha := fine_arr hfi h6
      rw [if_pos h6]
      rw [eOne_6 h6] at e
      rw [e] at hs ⊢
      dsimp only at hs ⊢
      obtain ⟨x, hx⟩ := Int.eq_ofNat_of_zero_le ha.1
      have hxi : x < i := by omega
      have h0 := (Ext.at_mem hEok ha.1 (by rw [eRow_length]; omega)).1
      rw [hx] at hs h0 ⊢
      obtain ⟨s, hs2⟩ := Int.eq_ofNat_of_zero_le h0
      obtain ⟨l, hl⟩ := Int.eq_ofNat_of_zero_le (show 0 ≤ (T[i]).ln by omega)
      have hl1 : 1 ≤ l := by omega
      have hm : s ≤ l * s := Nat.le_mul_of_pos_left s (by omega)
      rw [hl, hs2, ← Int.natCast_mul] at hs ⊢
      have ih := fun off => cells_len hC hC8 hF f x off (by omega) (by omega) (by omega)
      have := flat_le (g := fun (j : Nat) => cellsR C T f (x : Int) (off + j * (s : Int))) (B := s) l fun j _ => by have := ih (off + j * (s : Int)); omega
      rw [Int.toNat_natCast]
      omega
    · rw [if_neg h6]
      by_cases h5 : (T[i]).kd = 5
      · rw [if_pos h5]
        rw [eOne_5 h5] at e
        rw [e] at hs ⊢
        dsimp only at hs ⊢
        have hfo : FOk C (eRow C T) (T[i]).fs := fun f hf => by
          obtain ⟨q, hq, rfl⟩ := List.getElem_of_mem hf
          have := fine_fld hfi hq
          exact Ext.at_mem hEok this.1 (by rw [eRow_length]; omega)
        have hok := layR_ok (by omega) hfo (T[i]).fs.length (Nat.le_refl _)
        rw [List.take_length] at hok
        have hb := upI_bnd hok.2.2 hok.1
        have := (fields_le (g := fun (j : Nat) => cellsR C T f ((T[i]).fs.getD j ([], 0)).2 (off + (layR C (eRow C T) (T[i]).fs).1.getD j 0)) hC (E := eRow C T) (fs := (T[i]).fs) (fun f hf => ⟨(hfo f hf).1, (hfo f hf).2.2⟩) (fun q hq hs => by
          have hx := fine_fld hfi hq
          obtain ⟨x, hx2⟩ := Int.eq_ofNat_of_zero_le hx.1
          rw [List.getD_eq_getElem?_getD, List.getElem?_eq_getElem hq, Option.getD_some]
          rw [hx2] at hs ⊢
          exact cells_len hC hC8 hF f x _ (by omega) (by omega) hs) (T[i]).fs.length (Nat.le_refl _)).2
        rw [List.take_length] at this
        omega
      · rw [if_neg h5]
        have h1 : 1 ≤ ((eRow C T).at_ (i : Int)).1 := by
          rw [e]
          by_cases h1 : (T[i]).kd = 1
          · rw [eOne_1 h1]; decide
          by_cases h2 : (T[i]).kd = 2 ∨ (T[i]).kd = 4
          · rw [eOne_24 h2]; decide
          by_cases h3 : (T[i]).kd = 3
          · rw [eOne_3 h3]; decide
          · rw [eOne_7 (by omega)]; decide
        simpa using h1
theorem lay_in {C : Int} (hC : 256 < C) {E : Ext} {fs : List (List UInt8 × Int)} (hf : FOk C E fs) : ∀ p (hp : p ≤ fs.length), (layR C E (fs.take p)).2.1 ≤ 256 → ∀ q (hq : q < p), 0 ≤ (layR C E (fs.take p)).1.getD q 0 ∧ (layR C E (fs.take p)).1.getD q 0 + (E.at_ (fs[q]'(by omega)).2).1 ≤ (layR C E (fs.take p)).2.1
  | 0, _, _, q, hq => absurd hq (by omega)
  | p + 1, hp, hs, q, hq => by
    have hfp := hf fs[p] (List.getElem_mem _)
    have hok := layR_ok (by omega) hf p (by omega)
    have hb := upI_bnd hfp.2.2 hok.1
    have hlen := layR_len C E fs p (by omega)
    have h0 := hfp.1
    rw [layR_take C E (by omega)] at hs ⊢
    unfold lStep at hs ⊢
    dsimp only at hs ⊢
    rw [List.getD_eq_getElem?_getD]
    by_cases hqp : q < p
    · obtain ⟨i1, i2⟩ := lay_in hC hf p (by omega) (by omega) q hqp
      rw [List.getD_eq_getElem?_getD] at i1 i2
      rw [List.getElem?_append_left (by omega)]
      exact ⟨i1, by omega⟩
    · obtain rfl : q = p := by omega
      rw [List.getElem?_append_right (by omega), hlen, Nat.sub_self]
      show 0 ≤ upI (layR C E (fs.take q)).2.1 (E.at_ (fs[q]).2).2 ∧ upI (layR C E (fs.take q)).2.1 (E.at_ (fs[q]).2).2 + (E.at_ (fs[q]).2).1 ≤ _
      omega
end Go.Proofs.Ytkngdfbibffdcaa.Ce
namespace Go.Proofs.Ytkngdfbibffdcaa.Ce
open Go.RowKit
theorem flat_congr {α : Type} {g k : Nat → List α} : ∀ m, (∀ j, j < m → g j = k j) → (List.range m).flatMap g = (List.range m).flatMap k
  | 0, _ => rfl
  | m + 1, h => by rw [List.range_succ, List.flatMap_append, List.flatMap_append, flat_congr m fun j hj => h j (by omega), List.flatMap_cons, List.flatMap_cons, h m (by omega)]; rfl
theorem cells_eq {T : List Tp} (hF : Fine T) : ∀ (f i : Nat) (off : Int), i < T.length → i < f → ((eRow 1048576 T).at_ (i : Int)).1 ≤ 256 → cellsR 1048576 T f i off = cellsR 1000000 T f i off
  | 0, _, _, _, h, _ => absurd h (by omega)
  | f + 1, i, off, hi, hf, hs => by
    have hEok : ∀ p ∈ eRow 1048576 T, EOk 1048576 p := by have := eRow_ok (C := 1048576) (by omega) (by decide) hF T.length (Nat.le_refl _); rwa [List.take_length] at this
    have hfi := hF i hi
    have e := eRow_at 1048576 hF hi
    have hat : ∀ j : Int, 0 ≤ j → j < T.length → ((eRow 1048576 T).at_ j).1 ≤ 256 → (eRow 1048576 T).at_ j = (eRow 1000000 T).at_ j := fun j h0 h1 => ((ext_rel hF).2 j h0 (by rw [eRow_length]; exact h1)).big.2
    rw [cellsR_at hi, cellsR_at hi]
    by_cases h6 : (T[i]).kd = 6
    · have ha := fine_arr hfi h6
      rw [if_pos h6, if_pos h6]
      rw [eOne_6 h6] at e
      rw [e] at hs
      dsimp only at hs
      have h0 := (Ext.at_mem hEok ha.1 (by rw [eRow_length]; omega)).1
      have hm : ((eRow 1048576 T).at_ (T[i]).el).1 ≤ (T[i]).ln * ((eRow 1048576 T).at_ (T[i]).el).1 := by
        have := Int.mul_le_mul_of_nonneg_right (show 1 ≤ (T[i]).ln by omega) h0
        rwa [Int.one_mul] at this
      rw [← hat _ ha.1 (by omega) (by omega)]
      obtain ⟨x, hx⟩ := Int.eq_ofNat_of_zero_le ha.1
      rw [hx] at hm ⊢
      congr 1
      funext j
      exact cells_eq hF f x _ (by omega) (by omega) (by rw [hx] at hs; omega)
    · rw [if_neg h6, if_neg h6]
      by_cases h5 : (T[i]).kd = 5
      · rw [if_pos h5, if_pos h5]
        rw [eOne_5 h5] at e
        rw [e] at hs
        dsimp only at hs
        have hall : ∀ x ∈ (T[i]).fs, 0 ≤ x.2 ∧ x.2 < T.length := fun x hx => by
          obtain ⟨q, hq, rfl⟩ := List.getElem_of_mem hx
          have := fine_fld hfi hq
          omega
        have hfo : FOk 1048576 (eRow 1048576 T) (T[i]).fs := fun x hx => Ext.at_mem hEok (hall x hx).1 (by rw [eRow_length]; exact (hall x hx).2)
        have hok := layR_ok (by omega) hfo (T[i]).fs.length (Nat.le_refl _)
        rw [List.take_length] at hok
        have hb := upI_bnd hok.2.2 hok.1
        have hli := lay_in (C := 1048576) (by omega) hfo (T[i]).fs.length (Nat.le_refl _) (by rw [List.take_length]; omega)
        rw [List.take_length] at hli
        have hsz : ∀ x ∈ (T[i]).fs, ((eRow 1048576 T).at_ x.2).1 ≤ 256 := fun x hx => by
          obtain ⟨q, hq, rfl⟩ := List.getElem_of_mem hx
          have := hli q hq
          omega
        have hls := (lay_same (E := eRow 1048576 T) (G := eRow 1000000 T) (fs := (T[i]).fs) (fun x hx => hat _ (hall x hx).1 (hall x hx).2 (hsz x hx)) (fun x hx => ⟨(hfo x hx).1, hsz x hx, (hfo x hx).2.2⟩) (by have := fine_len hfi; omega) (T[i]).fs.length (Nat.le_refl _)).1
        rw [List.take_length] at hls
        rw [hls]
        refine flat_congr _ fun j hj' => ?_
        have hx := fine_fld hfi hj'
        obtain ⟨x, hx2⟩ := Int.eq_ofNat_of_zero_le hx.1
        have hz := hsz _ (List.getElem_mem hj')
        rw [List.getD_eq_getElem?_getD (l := (T[i]).fs), List.getElem?_eq_getElem hj', Option.getD_some, hx2]
        rw [hx2] at hz
        exact cells_eq hF f x _ (by omega) (by omega) hz
      · rw [if_neg h5, if_neg h5]
end Go.Proofs.Ytkngdfbibffdcaa.Ce
namespace Go.Proofs.Ytkngdfbibffdcaa.Ce
open Go.RowKit
def AscB (S : Int → Int) : Int → Int → List (Int × Int) → Prop
  | lo, hi, [] => lo ≤ hi
  | lo, hi, p :: ps => lo ≤ p.1 ∧ 1 ≤ S p.2 ∧ AscB S (p.1 + S p.2) hi ps
theorem AscB.le {S : Int → Int} : ∀ {ps : List (Int × Int)} {lo hi : Int}, AscB S lo hi ps → lo ≤ hi
  | [], _, _, h => h
  | p :: ps, _, _, h => by have := AscB.le h.2.2; have := h.1; have := h.2.1; omega
theorem AscB.lo {S : Int → Int} {ps : List (Int × Int)} {l lo hi : Int} (hl : l ≤ lo) (h : AscB S lo hi ps) : AscB S l hi ps := by
  cases ps with
  | nil => exact Int.le_trans hl h
  | cons p ps => exact ⟨Int.le_trans hl h.1, h.2.1, h.2.2⟩
theorem AscB.up {S : Int → Int} {m hi : Int} (hm : hi ≤ m) : ∀ {ps : List (Int × Int)} {lo : Int}, AscB S lo hi ps → AscB S lo m ps
  | [], _, h => Int.le_trans h hm
  | p :: ps, _, h => ⟨h.1, h.2.1, AscB.up hm h.2.2⟩
theorem AscB.app {S : Int → Int} {m hi : Int} {qs : List (Int × Int)} (hq : AscB S m hi qs) : ∀ {ps : List (Int × Int)} {lo : Int}, AscB S lo m ps → AscB S lo hi (ps ++ qs)
  | [], _, h => AscB.lo h hq
  | p :: ps, _, h => ⟨h.1, h.2.1, AscB.app hq h.2.2⟩
theorem AscB.flat {S : Int → Int} {g : Nat → List (Int × Int)} {b : Nat → Int} : ∀ m, (∀ j, j < m → AscB S (b j) (b (j + 1)) (g j)) → AscB S (b 0) (b m) ((List.range m).flatMap g)
  | 0, _ => Int.le_refl _
  | m + 1, h => by
    rw [List.range_succ, List.flatMap_append, List.flatMap_cons, List.flatMap_nil, List.append_nil]
    exact AscB.app (h m (by omega)) (AscB.flat m fun j hj => h j (by omega))
theorem AscB.mem {S : Int → Int} : ∀ {ps : List (Int × Int)} {lo hi : Int}, AscB S lo hi ps → ∀ p ∈ ps, lo ≤ p.1 ∧ 1 ≤ S p.2 ∧ p.1 + S p.2 ≤ hi
  | q :: qs, lo, hi, h, p, hp => by
    rcases List.mem_cons.1 hp with rfl | hp
    · exact ⟨h.1, h.2.1, h.2.2.le⟩
    · have := AscB.mem h.2.2 p hp
      have := h.1
      have := h.2.1
      omega
theorem layR_pre (C : Int) (E : Ext) {fs : List (List UInt8 × Int)} {j : Nat} : ∀ m, j + 1 + m ≤ fs.length → (layR C E (fs.take (j + 1 + m))).1.getD j 0 = upI (layR C E (fs.take j)).2.1 (E.at_ (fs.getD j ([], 0)).2).2
  | 0, h => by
    have hl := layR_len C E fs j (by omega)
    rw [Nat.add_zero, layR_take C E (by omega)]
    unfold lStep
    dsimp only
    rw [List.getD_eq_getElem?_getD (l := _ ++ _), List.getElem?_append_right (Nat.le_of_eq hl), hl, Nat.sub_self, List.getD_eq_getElem?_getD (l := fs), List.getElem?_eq_getElem (show j < fs.length by omega)]
    rfl
  | m + 1, h => by
    have hl := layR_len C E fs (j + 1 + m) (by omega)
    rw [← Nat.add_assoc, layR_take C E (by omega)]
    unfold lStep
    dsimp only
    rw [List.getD_eq_getElem?_getD (l := _ ++ _), List.getElem?_append_left (by omega), ← List.getD_eq_getElem?_getD]
    exact layR_pre C E m (by omega)
theorem layR_off (C : Int) (E : Ext) {fs : List (List UInt8 × Int)} {j : Nat} (hj : j < fs.length) : (layR C E fs).1.getD j 0 = upI (layR C E (fs.take j)).2.1 (E.at_ (fs[j]).2).2 := by
  have := layR_pre C E (fs := fs) (j := j) (fs.length - (j + 1)) (by omega)
  rw [show j + 1 + (fs.length - (j + 1)) = fs.length from by omega, List.take_length, List.getD_eq_getElem?_getD (l := fs), List.getElem?_eq_getElem hj] at this
  exact this
theorem layR_mono {C : Int} (hC : 256 < C) {E : Ext} {fs : List (List UInt8 × Int)} (hf : FOk C E fs) {p : Nat} : ∀ m, p + m ≤ fs.length → (layR C E (fs.take (p + m))).2.1 ≤ 256 → (layR C E (fs.take p)).2.1 ≤ (layR C E (fs.take (p + m))).2.1
  | 0, _, _ => Int.le_refl _
  | m + 1, hp, hs => by
    have hfp := hf fs[p + m] (List.getElem_mem _)
    have hok := layR_ok (by omega) hf (p + m) (by omega)
    have hb := upI_bnd hfp.2.2 hok.1
    have h0 := hfp.1
    rw [← Nat.add_assoc, layR_take C E (by omega)] at hs ⊢
    unfold lStep at hs ⊢
    dsimp only at hs ⊢
    have := layR_mono hC hf (p := p) m (by omega) (by omega)
    omega
theorem cells_asc {C : Int} (hC : 256 < C) (hC8 : C % 8 = 0) {T : List Tp} (hF : Fine T) : ∀ (f i : Nat) (off : Int), i < T.length → i < f → ((eRow C T).at_ (i : Int)).1 ≤ 256 → AscB (fun t => ((eRow C T).at_ t).1) off (off + ((eRow C T).at_ (i : Int)).1) (cellsR C T f i off)
  | 0, _, _, _, h, _ => absurd h (by omega)
  | f + 1, i, off, hi, hf, hs => by
    have hEok : ∀ p ∈ eRow C T, EOk C p := by have := eRow_ok (C := C) (by omega) hC8 hF T.length (Nat.le_refl _); rwa [List.take_length] at this
    have hfi := hF i hi
    have hk := fine_kd hfi
    have e := eRow_at C hF hi
    rw [cellsR_at hi]
    by_cases h6 : (T[i]).kd = 6
    · have ha := fine_arr hfi h6
      rw [if_pos h6]
      rw [eOne_6 h6] at e
      rw [e] at hs ⊢
      dsimp only at hs ⊢
      obtain ⟨x, hx⟩ := Int.eq_ofNat_of_zero_le ha.1
      have hxi : x < i := by omega
      have h0 := (Ext.at_mem hEok ha.1 (by rw [eRow_length]; omega)).1
      rw [hx] at hs h0 ⊢
      obtain ⟨l, hl⟩ := Int.eq_ofNat_of_zero_le (show 0 ≤ (T[i]).ln by omega)
      obtain ⟨S, hS⟩ : ∃ S, ((eRow C T).at_ (x : Int)).1 = S := ⟨_, rfl⟩
      have hm : S ≤ (T[i]).ln * S := by
        have := Int.mul_le_mul_of_nonneg_right (show 1 ≤ (T[i]).ln by omega) (by rwa [hS] at h0)
        rwa [Int.one_mul] at this
      have ih := fun off => cells_asc hC hC8 hF f x off (by omega) (by omega) (by rw [hS] at hs ⊢; omega)
      rw [hS] at hs ih ⊢
      have := AscB.flat (S := fun t => ((eRow C T).at_ t).1) (g := fun (j : Nat) => cellsR C T f (x : Int) (off + j * S)) (b := fun (j : Nat) => off + j * S) l fun j _ => by
        have := ih (off + j * S)
        have e2 : off + ((j + 1 : Nat) : Int) * S = off + (j : Int) * S + S := by rw [Int.natCast_add, Int.add_mul]; omega
        show AscB _ (off + (j : Int) * S) (off + ((j + 1 : Nat) : Int) * S) _
        rw [e2]
        exact this
      rw [hl, Int.toNat_natCast]
      rw [hl] at hs
      have e3 : min C ((l : Int) * S) = l * S := by omega
      rw [e3]
      have e0 : off = off + ((0 : Nat) : Int) * S := by omega
      exact AscB.lo (Int.le_of_eq e0) this
    · rw [if_neg h6]
      by_cases h5 : (T[i]).kd = 5
      · rw [if_pos h5]
        rw [eOne_5 h5] at e
        rw [e] at hs ⊢
        dsimp only at hs ⊢
        have hfo : FOk C (eRow C T) (T[i]).fs := fun f hf => by
          obtain ⟨q, hq, rfl⟩ := List.getElem_of_mem hf
          have := fine_fld hfi hq
          exact Ext.at_mem hEok this.1 (by rw [eRow_length]; omega)
        have hok := layR_ok (by omega) hfo (T[i]).fs.length (Nat.le_refl _)
        have hb := upI_bnd hok.2.2 hok.1
        have hli := lay_in (by omega) hfo (T[i]).fs.length (Nat.le_refl _) (by rw [List.take_length] at hb ⊢; omega)
        have hmo := fun p (hp : p ≤ (T[i]).fs.length) => layR_mono hC hfo (p := p) ((T[i]).fs.length - p) (by omega) (by rw [show p + ((T[i]).fs.length - p) = (T[i]).fs.length from by omega]; rw [List.take_length] at hb ⊢; omega)
        have hst : ∀ j, j < (T[i]).fs.length → AscB (fun t => ((eRow C T).at_ t).1) (off + (layR C (eRow C T) ((T[i]).fs.take j)).2.1) (off + (layR C (eRow C T) ((T[i]).fs.take (j + 1))).2.1) (cellsR C T f ((T[i]).fs.getD j ([], 0)).2 (off + (layR C (eRow C T) (T[i]).fs).1.getD j 0)) := fun j hj => by
          have hx := fine_fld hfi hj
          have hli2 := hli j hj
          have hmo1 := hmo (j + 1) (by omega)
          have hok2 := layR_ok (by omega) hfo j (by omega)
          have hfj := hfo _ (List.getElem_mem hj)
          have hbj := upI_bnd hfj.2.2 hok2.1
          have ho := layR_off C (eRow C T) hj
          rw [show j + 1 + ((T[i]).fs.length - (j + 1)) = (T[i]).fs.length from by omega] at hmo1
          rw [List.take_length] at hli2 hmo1 hb
          have e1 : (layR C (eRow C T) ((T[i]).fs.take (j + 1))).2.1 = min C (upI (layR C (eRow C T) ((T[i]).fs.take j)).2.1 ((eRow C T).at_ ((T[i]).fs[j]).2).2 + ((eRow C T).at_ ((T[i]).fs[j]).2).1) := by rw [layR_take C (eRow C T) hj]; rfl
          obtain ⟨x, hx2⟩ := Int.eq_ofNat_of_zero_le hx.1
          rw [List.getD_eq_getElem?_getD (l := (T[i]).fs), List.getElem?_eq_getElem hj, Option.getD_some]
          rw [ho] at hli2 ⊢
          have hfj0 := hfj.1
          rw [hx2] at hli2 e1 hbj hfj0 ⊢
          have := cells_asc hC hC8 hF f x (off + upI (layR C (eRow C T) ((T[i]).fs.take j)).2.1 ((eRow C T).at_ (x : Int)).2) (by omega) (by omega) (by omega)
          exact (AscB.lo (by omega) this).up (by omega)
        have := AscB.flat (S := fun t => ((eRow C T).at_ t).1) (b := fun (j : Nat) => off + (layR C (eRow C T) ((T[i]).fs.take j)).2.1) (T[i]).fs.length hst
        refine AscB.up (show off + (layR C (eRow C T) ((T[i]).fs.take (T[i]).fs.length)).2.1 ≤ _ by rw [List.take_length] at hb ⊢; omega) (AscB.lo (show off ≤ off + (layR C (eRow C T) ((T[i]).fs.take 0)).2.1 by show off ≤ off + 0; omega) this)
      · rw [if_neg h5]
        have h1 : 1 ≤ ((eRow C T).at_ (i : Int)).1 := by
          rw [e]
          by_cases h1 : (T[i]).kd = 1
          · rw [eOne_1 h1]; decide
          by_cases h2 : (T[i]).kd = 2 ∨ (T[i]).kd = 4
          · rw [eOne_24 h2]; decide
          by_cases h3 : (T[i]).kd = 3
          · rw [eOne_3 h3]; decide
          · rw [eOne_7 (by omega)]; decide
        exact ⟨Int.le_refl _, h1, Int.le_refl _⟩
theorem cells_leaf {C : Int} {T : List Tp} (hF : Fine T) : ∀ (f i : Nat) (off : Int), i < T.length → i < f → ∀ p ∈ cellsR C T f i off, ∃ (t : Nat) (ht : t < T.length), p.2 = t ∧ (T[t]).kd ≠ 5 ∧ (T[t]).kd ≠ 6
  | 0, _, _, _, h => absurd h (by omega)
  | f + 1, i, off, hi, hf => by
    have hfi := hF i hi
    rw [cellsR_at hi]
    intro p hp
    by_cases h6 : (T[i]).kd = 6
    · have ha := fine_arr hfi h6
      obtain ⟨x, hx⟩ := Int.eq_ofNat_of_zero_le ha.1
      rw [if_pos h6] at hp
      obtain ⟨j, -, hj⟩ := List.mem_flatMap.1 hp
      rw [hx] at hj
      exact cells_leaf hF f x _ (by omega) (by omega) p hj
    · rw [if_neg h6] at hp
      by_cases h5 : (T[i]).kd = 5
      · rw [if_pos h5] at hp
        obtain ⟨j, hj, hp⟩ := List.mem_flatMap.1 hp
        have hj := List.mem_range.1 hj
        have hx := fine_fld hfi hj
        obtain ⟨x, hx2⟩ := Int.eq_ofNat_of_zero_le hx.1
        rw [List.getD_eq_getElem?_getD (l := (T[i]).fs), List.getElem?_eq_getElem hj, Option.getD_some, hx2] at hp
        exact cells_leaf hF f x _ (by omega) (by omega) p hp
      · rw [if_neg h5] at hp
        obtain rfl := List.mem_singleton.1 hp
        exact ⟨i, hi, rfl, h5, h6⟩
def upto (a b : Int) : List Int := (List.range (b - a).toNat).map fun (j : Nat) => a + j
theorem upto_nil {a b : Int} (h : b ≤ a) : upto a b = [] := by unfold upto; rw [show (b - a).toNat = 0 from by omega]; rfl
theorem upto_succ {a b : Int} (h : a ≤ b) : upto a (b + 1) = upto a b ++ [b] := by
  unfold upto
  rw [show (b + 1 - a).toNat = (b - a).toNat + 1 from by omega, List.range_succ, List.map_append, List.map_cons, List.map_nil]
  congr 2
  omega
theorem upto_length (a b : Int) : (upto a b).length = (b - a).toNat := by unfold upto; rw [List.length_map, List.length_range]
def gaps (S : Int → Int) : Int → List (Int × Int) → List Int
  | _, [] => []
  | x, p :: ps => upto x p.1 ++ gaps S (max x p.1 + if 0 ≤ p.2 then S p.2 else 0) ps
end Go.Proofs.Ytkngdfbibffdcaa.Ce
namespace Go.Proofs.Ytkngdfbibffdcaa.Ce
open Go.RowKit
def OwnC (ps : List (Int × Int)) (O : Value) (h' : Hp) (lo n' : Nat) : Prop :=
  (ps = [] ∧ O = .slice none 0 0) ∨ (ps ≠ [] ∧ ∃ id, lo ≤ id ∧ id < n' ∧ O = .slice (some ⟨id, 0, none⟩) ps.length ps.length ∧ rowOf h' id = some (77, false, pv ps))
end Go.Proofs.Ytkngdfbibffdcaa.Ce
namespace Go.Proofs.Ytkngdfbibffdcaa.Ce
open Go.RowKit
variable (k d cl : Nat) (h : Hp) (n : Nat)
theorem b_strq (s t : List UInt8) (h : Hp) (n : Nat) : mBin Try.prog .eql 9 (.string ⟨⟨s⟩⟩) (.string ⟨⟨t⟩⟩) h n = some ⟨.bool (decide (s = t)), h, n, [], []⟩ := by
  show (prun Try.prog (Op.stringOp .eql ⟨⟨s⟩⟩ ⟨⟨t⟩⟩)).bind (fun v => bif flat1 v then mV v h n else none) = _
  have : prun Try.prog (Op.stringOp .eql ⟨⟨s⟩⟩ ⟨⟨t⟩⟩) = some (.bool (decide (s = t))) := by
    show some (Value.bool ((⟨⟨s⟩⟩ : ByteArray).toList == (⟨⟨t⟩⟩ : ByteArray).toList)) = _
    rw [show ((⟨⟨s⟩⟩ : ByteArray).toList == (⟨⟨t⟩⟩ : ByteArray).toList) = decide (s = t) from by rw [Bool.eq_iff_iff, decide_eq_true_eq, beq_iff_eq]; simp [ByteArray.toList_eq]]
  rw [this]
  rfl
def flB (fs : List (List UInt8 × Int)) : Bool := fs.all (fun f => namedB f.1) && decide ((fs.map (·.1)).Nodup)
theorem flB_no {q : Nat} {fs : List (List UInt8 × Int)} (hq : q < fs.length) (h : namedB (fs[q]).1 = false) : flB fs = false := by
  unfold flB
  have : fs.all (fun f => namedB f.1) = false := by
    rw [List.all_eq_false]
    exact ⟨fs[q], List.getElem_mem _, by rw [h]; exact Bool.false_ne_true⟩
  rw [this, Bool.false_and]
theorem flB_dup {q j : Nat} {fs : List (List UInt8 × Int)} (hq : q < fs.length) (hj : j < q) (h : (fs[j]).1 = (fs[q]).1) : flB fs = false := by
  unfold flB
  have : ¬ (fs.map (·.1)).Nodup := by
    intro hn
    rw [List.nodup_iff_pairwise_ne, List.pairwise_iff_getElem] at hn
    exact hn j q (by simp; omega) (by simp; omega) hj (by simpa using h)
  rw [decide_eq_false this, Bool.and_false]
theorem fldsB_eq (i : Nat) (fs : List (List UInt8 × Int)) : fldsB i fs = (fs.all (fun f => decide (0 ≤ f.2 ∧ f.2 < (i : Int))) && flB fs) := by
  unfold fldsB flB
  rw [← Bool.and_assoc]
  congr 1
  rw [Bool.eq_iff_iff]
  simp only [List.all_eq_true, Bool.and_eq_true, fldB]
  constructor
  · intro h; exact ⟨fun x hx => (h x hx).2, fun x hx => (h x hx).1⟩
  · intro h x hx; exact ⟨h.2 x hx, h.1 x hx⟩
theorem rfields_ev (hk : 30000 ≤ k) (FA : Option Addr) (fs : List (List UInt8 × Int)) (c : Nat) (hr : RdH h n FA (fv fs)) (hl2 : fs.length ≤ 20000) :
    SQ k (d + 3) cl 66 [.slice FA fs.length c, .int .i64 8] h n fun v h' n' => v = .bool (decide (fs.length ≤ 8) && flB fs) ∧ h' = h ∧ n' = n := by
  refine enter Try.func66 (by kernel_rfl) rfl (by kernel_rfl) rfl rfl rfl ?_
  by_cases h8 : fs.length ≤ 8
  · rw [decide_eq_true h8]
    (repeat' first | refine zcd ?_ | intro K' hK | (with_reducible refine zn hK ?_; clear hK) | fail | ((with_reducible first | apply zo1 | apply zo2 | apply o_guard rfl | apply x_cond | apply k_e1 rfl | apply k_e2 rfl | apply k_e0 rfl | apply k_e3 rfl | apply k_e4 rfl); (case he => exact ez0); (try case hok => exact ezO); all_goals try (intro hb; (try simp only [hbs, reduceCtorEq] at hb); try exact ezX)) | ((with_reducible apply o_undef rfl); (case hb => exact ez0)))
    refine x_loopF [4, 5, 6, 11, 12, 13, 14, 15, 16, 17, 18, 19, 20, 21, 22, 23, 24, 25, 26, 27, 28, 29, 30, 31, 32, 33, 34, 35, 36, 37, 38, 39] [5] (fun m vs => ∃ q : Nat, m = fs.length - q ∧ q ≤ fs.length ∧ vs = [.int .i64 q] ∧ (fs.take q).all (fun f => namedB f.1) = true ∧ ((fs.take q).map (·.1)).Nodup) fs.length rfl (by omega) ⟨0, rfl, by omega, by simp (disch := first | assumption | omega | rfl | decide) only [go_sem, seval, tys] <;> rfl, rfl, by simp⟩ ?_
    rintro m g _ ⟨q, rfl, hq, rfl, hall, hnd⟩
    by_cases hqf : q < fs.length
    · obtain ⟨id2, off2, rfl, hid2, hf2, hfa, hfb⟩ := fld_at hr hqf
      have hfq : ∀ j (hj : j < fs.length), cellAt h id2 (off2 + j * 2) = some (.string ⟨⟨(fs[j]).1⟩⟩) := fun j hj => by
        obtain ⟨id3, off3, e, -, -, e3, -⟩ := fld_at hr hj
        injection e with e
        injection e with e1 e2
        subst e1; subst e2
        exact e3
      obtain ⟨f, hff⟩ : ∃ f, fs[q] = f := ⟨_, rfl⟩
      obtain ⟨s, ty⟩ := f
      rw [hff] at hf2 hfa hfb
      dsimp only at hf2 hfa hfb
      have htk : (fs.take (q + 1)) = fs.take q ++ [(s, ty)] := by rw [List.take_succ_eq_append_getElem hqf, hff]
      cases hnm : namedB s
      · have hno : flB fs = false := flB_no hqf (by rw [hff]; exact hnm)
        (repeat' first | refine zcd ?_ | intro K' hK | (with_reducible refine zn hK ?_; clear hK) | ((with_reducible apply o_callF (g := 72) w_none); (case ha => exact ez0); (case hs => exact rnamed_ev (hk := hk) ..); (case' hk => rintro _ h' n' ⟨rfl, rfl, rfl⟩)) | ((with_reducible first | apply zo1 | apply zo2 | apply o_guard rfl | apply x_cond | apply k_e1 rfl | apply k_e2 rfl | apply k_e0 rfl | apply k_e3 rfl | apply k_e4 rfl); (case he => exact ez2 hfa hnm); (try case hok => exact ezO); all_goals try (intro hb; (try simp only [hbs, reduceCtorEq] at hb); try exact ezX)) | ((with_reducible apply o_undef rfl); (case hb => exact ez0)))
        all_goals exact sw_flat rfl rfl ⟨by rw [hno]; rfl, rfl, rfl⟩
      · (repeat' first | refine zcd ?_ | intro K' hK | (with_reducible refine zn hK ?_; clear hK) | ((with_reducible apply o_callF (g := 72) w_none); (case ha => exact ez0); (case hs => exact rnamed_ev (hk := hk) ..); (case' hk => rintro _ h' n' ⟨rfl, rfl, rfl⟩)) | ((with_reducible first | apply zo1 | apply zo2 | apply o_guard rfl | apply x_cond | apply k_e1 rfl | apply k_e2 rfl | apply k_e0 rfl | apply k_e3 rfl | apply k_e4 rfl); (case he => exact ez2 hfa hnm); (try case hok => exact ezO); all_goals try (intro hb; (try simp only [hbs, reduceCtorEq] at hb); try exact ezX)) | ((with_reducible apply o_undef rfl); (case hb => exact ez0)))
        refine x_loopF [4, 6, 24, 25, 26, 27, 28, 29, 30, 31, 32, 33, 34, 35, 36, 37, 38, 39] [6] (fun m vs => ∃ j : Nat, m = q - j ∧ j ≤ q ∧ vs = [.int .i64 j] ∧ s ∉ (fs.take j).map (·.1)) q rfl (by omega) ⟨0, rfl, by omega, by simp (disch := first | assumption | omega | rfl | decide) only [go_sem, seval, tys] <;> rfl, by simp⟩ ?_
        rintro m g2 _ ⟨j, rfl, hj, rfl, hni⟩
        by_cases hjq : j < q
        · have hfj := hfq j (by omega)
          cases hst : decide ((fs[j]'(by omega)).1 = s)
          · have hst' := of_decide_eq_false hst
            (repeat' first | refine zcd ?_ | intro K' hK | (with_reducible refine zn hK ?_; clear hK) | (with_reducible refine x_drawnD (id := 11) [(4, 9)] (by kernel_rfl) fun K' hK => ?_) | ((with_reducible apply d_nil); (case hp => exact ezP); (case' hx => (refine hK _ _ _ ?_; clear hK))) | ((with_reducible apply d_pure w_none); (case hp => exact rfl); (case hc => exact rfl); (case he => exact ez4 hfa hfj hst @b_strq)) | ((with_reducible apply d_eff w_none); (case hc => exact rfl); (case he => exact ez4 hfa hfj hst @b_strq); (case hok => exact ezO)) | ((with_reducible apply d_guard rfl); (case hb => exact ez4 hfa hfj hst @b_strq); (case' h1 => intro hb; (try simp only [hbs, reduceCtorEq] at hb); try exact ezX); (case' h2 => intro hb; (try simp only [hbs, reduceCtorEq] at hb); try exact ezX)) | ((with_reducible first | apply zo1 | apply zo2 | apply o_guard rfl | apply x_cond | apply k_e1 rfl | apply k_e2 rfl | apply k_e0 rfl | apply k_e3 rfl | apply k_e4 rfl); (case he => exact ez4 hfa hfj hst @b_strq); (try case hok => exact ezO); all_goals try (intro hb; (try simp only [hbs, reduceCtorEq] at hb); try exact ezX)) | ((with_reducible apply o_undef rfl); (case hb => exact ez0)))
            refine k_round (q - (j + 1)) (by omega) ⟨⟨rfl, rfl⟩, j + 1, rfl, by omega, by simp (disch := first | assumption | omega | rfl | decide) only [go_sem, seval, tys] <;> rfl, ?_⟩
            rw [List.take_succ_eq_append_getElem (by omega), List.map_append, List.mem_append]
            rintro (hh | hh)
            · exact hni hh
            · simp at hh; exact hst' hh.symm
          · have hno : flB fs = false := flB_dup hqf hjq (by rw [hff]; exact of_decide_eq_true hst)
            (repeat' first | refine zcd ?_ | intro K' hK | (with_reducible refine zn hK ?_; clear hK) | (with_reducible refine x_drawnD (id := 11) [(4, 9)] (by kernel_rfl) fun K' hK => ?_) | ((with_reducible apply d_nil); (case hp => exact ezP); (case' hx => (refine hK _ _ _ ?_; clear hK))) | ((with_reducible apply d_pure w_none); (case hp => exact rfl); (case hc => exact rfl); (case he => exact ez4 hfa hfj hst @b_strq)) | ((with_reducible apply d_eff w_none); (case hc => exact rfl); (case he => exact ez4 hfa hfj hst @b_strq); (case hok => exact ezO)) | ((with_reducible apply d_guard rfl); (case hb => exact ez4 hfa hfj hst @b_strq); (case' h1 => intro hb; (try simp only [hbs, reduceCtorEq] at hb); try exact ezX); (case' h2 => intro hb; (try simp only [hbs, reduceCtorEq] at hb); try exact ezX)) | ((with_reducible first | apply zo1 | apply zo2 | apply o_guard rfl | apply x_cond | apply k_e1 rfl | apply k_e2 rfl | apply k_e0 rfl | apply k_e3 rfl | apply k_e4 rfl); (case he => exact ez4 hfa hfj hst @b_strq); (try case hok => exact ezO); all_goals try (intro hb; (try simp only [hbs, reduceCtorEq] at hb); try exact ezX)) | ((with_reducible apply o_undef rfl); (case hb => exact ez0)))
            all_goals exact sw_flat rfl rfl ⟨by rw [hno]; rfl, rfl, rfl⟩
        · obtain rfl : j = q := by omega
          (repeat' first | refine zcd ?_ | intro K' hK | (with_reducible refine zn hK ?_; clear hK) | fail | ((with_reducible first | apply zo1 | apply zo2 | apply o_guard rfl | apply x_cond | apply k_e1 rfl | apply k_e2 rfl | apply k_e0 rfl | apply k_e3 rfl | apply k_e4 rfl); (case he => exact ez0); (try case hok => exact ezO); all_goals try (intro hb; (try simp only [hbs, reduceCtorEq] at hb); try exact ezX)) | ((with_reducible apply o_undef rfl); (case hb => exact ez0)))
          refine k_round (fs.length - (j + 1)) (by omega) ⟨⟨rfl, rfl⟩, j + 1, rfl, by omega, by simp (disch := first | assumption | omega | rfl | decide) only [go_sem, seval, tys] <;> rfl, ?_, ?_⟩
          · rw [htk, List.all_append, hall]
            simp [hnm]
          · rw [htk, List.map_append, List.nodup_append]
            refine ⟨hnd, by simp, ?_⟩
            intro a ha b hb
            simp at hb
            subst hb
            intro e
            exact hni (e ▸ ha)
    · obtain rfl : q = fs.length := by omega
      rw [List.take_length] at hall hnd
      (repeat' first | refine zcd ?_ | intro K' hK | (with_reducible refine zn hK ?_; clear hK) | fail | ((with_reducible first | apply zo1 | apply zo2 | apply o_guard rfl | apply x_cond | apply k_e1 rfl | apply k_e2 rfl | apply k_e0 rfl | apply k_e3 rfl | apply k_e4 rfl); (case he => exact ez0); (try case hok => exact ezO); all_goals try (intro hb; (try simp only [hbs, reduceCtorEq] at hb); try exact ezX)) | ((with_reducible apply o_undef rfl); (case hb => exact ez0)))
      all_goals exact sw_flat rfl rfl ⟨by congr 1; unfold flB; rw [hall, decide_eq_true hnd]; rfl, rfl, rfl⟩
  · rw [decide_eq_false h8]
    (repeat' first | refine zcd ?_ | intro K' hK | (with_reducible refine zn hK ?_; clear hK) | fail | ((with_reducible first | apply zo1 | apply zo2 | apply o_guard rfl | apply x_cond | apply k_e1 rfl | apply k_e2 rfl | apply k_e0 rfl | apply k_e3 rfl | apply k_e4 rfl); (case he => exact ez0); (try case hok => exact ezO); all_goals try (intro hb; (try simp only [hbs, reduceCtorEq] at hb); try exact ezX)) | ((with_reducible apply o_undef rfl); (case hb => exact ez0)))
    all_goals exact sw_flat rfl rfl ⟨rfl, rfl, rfl⟩
end Go.Proofs.Ytkngdfbibffdcaa.Ce
namespace Go.Proofs.Ytkngdfbibffdcaa.Ce
open Go.RowKit
variable (k d cl : Nat) (h : Hp) (n : Nat)
theorem rfine_a (hk : 30000 ≤ k) (A : Option Addr) (T : List Tp) (c : Nat) (hT : TabH h n A T) (i : Nat) (hi : i < T.length) (hl : T.length ≤ 100) (h5 : T[i].kd ≠ 5) :
    SQ k (d + 4) cl 55 [.slice A T.length c, .int .i64 i] h n fun v h' n' => v = .bool (fineB T.length i T[i]) ∧ h' = h ∧ n' = n := by
  obtain ⟨id, off, rfl, hid, ht4, ht0, ht1, ht2, ht3⟩ := hT.at_ hi
  have hfd := hT.fd _ (List.getElem_mem hi)
  have hbd := hT.bd _ (List.getElem_mem hi)
  obtain ⟨t, htt⟩ : ∃ t, T[i] = t := ⟨_, rfl⟩
  rw [htt] at h5 ht4 ht0 ht1 ht2 ht3 hfd hbd ⊢
  obtain ⟨kd, el, ln, fs, FA, fc⟩ := t
  dsimp only at h5 ht4 ht0 ht1 ht2 ht3 hfd
  refine enter Try.func55 (by kernel_rfl) rfl (by kernel_rfl) rfl rfl rfl ?_
  by_cases h123 : kd = 1 ∨ kd = 2 ∨ kd = 3
  · have hf := @fineB_123 T.length i ⟨kd, el, ln, fs, FA, fc⟩ h123
    dsimp only at hf
    rcases h123 with rfl | rfl | rfl
    all_goals
      (repeat' first | refine zcd ?_ | intro K' hK | (with_reducible refine zn hK ?_; clear hK) | fail | ((with_reducible first | apply zo1 | apply zo2 | apply o_guard rfl | apply x_cond | apply k_e1 rfl | apply k_e2 rfl | apply k_e0 rfl | apply k_e3 rfl | apply k_e4 rfl); (case he => exact ez1 ht4); (try case hok => exact ezO); all_goals try (intro hb; (try simp only [hbs, reduceCtorEq] at hb); try exact ezX)) | ((with_reducible apply o_undef rfl); (case hb => exact ez0)))
      all_goals exact sw_flat rfl rfl ⟨by rw [hf]; congr 1; rw [Bool.eq_iff_iff]; simp only [decide_eq_true_eq, Bool.and_eq_true, List.all_cons, List.all_nil, Bool.and_true, beq_iff_eq]; (try simp only [Bool.false_eq_true, false_iff, iff_false]); omega, rfl, rfl⟩
  · by_cases h47 : kd = 4 ∨ kd = 7
    · have hf := @fineB_47 T.length i ⟨kd, el, ln, fs, FA, fc⟩ h47
      dsimp only at hf
      rcases h47 with rfl | rfl
      all_goals
        (repeat' first | refine zcd ?_ | intro K' hK | (with_reducible refine zn hK ?_; clear hK) | fail | ((with_reducible first | apply zo1 | apply zo2 | apply o_guard rfl | apply x_cond | apply k_e1 rfl | apply k_e2 rfl | apply k_e0 rfl | apply k_e3 rfl | apply k_e4 rfl); (case he => exact ez1 ht4); (try case hok => exact ezO); all_goals try (intro hb; (try simp only [hbs, reduceCtorEq] at hb); try exact ezX)) | ((with_reducible apply o_undef rfl); (case hb => exact ez0)))
        all_goals exact sw_flat rfl rfl ⟨by rw [hf]; congr 1; rw [Bool.eq_iff_iff]; simp only [decide_eq_true_eq, Bool.and_eq_true, List.all_cons, List.all_nil, Bool.and_true, beq_iff_eq]; (try simp only [Bool.false_eq_true, false_iff, iff_false]); omega, rfl, rfl⟩
    · by_cases h6 : kd = 6
      · have hf := @fineB_6 T.length i ⟨kd, el, ln, fs, FA, fc⟩ h6
        dsimp only at hf
        subst h6
        (repeat' first | refine zcd ?_ | intro K' hK | (with_reducible refine zn hK ?_; clear hK) | fail | ((with_reducible first | apply zo1 | apply zo2 | apply o_guard rfl | apply x_cond | apply k_e1 rfl | apply k_e2 rfl | apply k_e0 rfl | apply k_e3 rfl | apply k_e4 rfl); (case he => exact ez1 ht4); (try case hok => exact ezO); all_goals try (intro hb; (try simp only [hbs, reduceCtorEq] at hb); try exact ezX)) | ((with_reducible apply o_undef rfl); (case hb => exact ez0)))
        all_goals exact sw_flat rfl rfl ⟨by rw [hf]; congr 1; rw [Bool.eq_iff_iff]; simp only [decide_eq_true_eq, Bool.and_eq_true, List.all_cons, List.all_nil, Bool.and_true, beq_iff_eq]; (try simp only [Bool.false_eq_true, false_iff, iff_false]); omega, rfl, rfl⟩
      · have hf : fineB T.length i ⟨kd, el, ln, fs, FA, fc⟩ = false := fineB_no (by dsimp only; omega)
        (repeat' first | refine zcd ?_ | intro K' hK | (with_reducible refine zn hK ?_; clear hK) | fail | ((with_reducible first | apply zo1 | apply zo2 | apply o_guard rfl | apply x_cond | apply k_e1 rfl | apply k_e2 rfl | apply k_e0 rfl | apply k_e3 rfl | apply k_e4 rfl); (case he => exact ez1 ht4); (try case hok => exact ezO); all_goals try (intro hb; (try simp only [hbs, reduceCtorEq] at hb); try exact ezX)) | ((with_reducible apply o_undef rfl); (case hb => exact ez0)))
        all_goals exact sw_flat rfl rfl ⟨by rw [hf], rfl, rfl⟩
theorem rfine_b (hk : 30000 ≤ k) (A : Option Addr) (T : List Tp) (c : Nat) (hT : TabH h n A T) (i : Nat) (hi : i < T.length) (hl : T.length ≤ 100) (hl2 : T[i].fs.length ≤ 20000) (h5 : T[i].kd = 5) :
    SQ k (d + 4) cl 55 [.slice A T.length c, .int .i64 i] h n fun v h' n' => v = .bool (fineB T.length i T[i]) ∧ h' = h ∧ n' = n := by
  obtain ⟨id, off, rfl, hid, ht4, ht0, ht1, ht2, ht3⟩ := hT.at_ hi
  have hfd := hT.fd _ (List.getElem_mem hi)
  have hbd := hT.bd _ (List.getElem_mem hi)
  obtain ⟨t, htt⟩ : ∃ t, T[i] = t := ⟨_, rfl⟩
  rw [htt] at h5 hl2 ht4 ht0 ht1 ht2 ht3 hfd hbd ⊢
  obtain ⟨kd, el, ln, fs, FA, fc⟩ := t
  dsimp only at h5 hl2 ht4 ht0 ht1 ht2 ht3 hfd
  subst h5
  have hf5 := @fineB_5 T.length i ⟨5, el, ln, fs, FA, fc⟩ rfl
  dsimp only at hf5
  rw [fldsB_eq] at hf5
  refine enter Try.func55 (by kernel_rfl) rfl (by kernel_rfl) rfl rfl rfl ?_
  (repeat' first | refine zcd ?_ | intro K' hK | (with_reducible refine zn hK ?_; clear hK) | fail | ((with_reducible first | apply zo1 | apply zo2 | apply o_guard rfl | apply x_cond | apply k_e1 rfl | apply k_e2 rfl | apply k_e0 rfl | apply k_e3 rfl | apply k_e4 rfl); (case he => exact ez1 ht4); (try case hok => exact ezO); all_goals try (intro hb; (try simp only [hbs, reduceCtorEq] at hb); try exact ezX)) | ((with_reducible apply o_undef rfl); (case hb => exact ez0)))
  refine x_loopF [4, 6, 84, 85, 86, 87, 88, 89, 90, 91, 92, 93, 94, 95, 96, 97, 98, 99, 100, 101, 102, 103, 104, 105, 106, 107] [6] (fun m vs => ∃ q : Nat, m = fs.length - q ∧ q ≤ fs.length ∧ vs = [.int .i64 q] ∧ (fs.take q).all (fun f => decide (0 ≤ f.2 ∧ f.2 < (i : Int))) = true) fs.length rfl (by omega) ⟨0, rfl, by omega, by simp (disch := first | assumption | omega | rfl | decide) only [go_sem, seval, tys] <;> rfl, rfl⟩ ?_
  rintro m g _ ⟨q, rfl, hq, rfl, hall⟩
  by_cases hqf : q < fs.length
  · obtain ⟨id2, off2, rfl, hid2, hf2, hfa, hfb⟩ := fld_at hfd hqf
    obtain ⟨f, hff⟩ : ∃ f, fs[q] = f := ⟨_, rfl⟩
    obtain ⟨s, ty⟩ := f
    rw [hff] at hf2 hfa hfb
    dsimp only at hf2 hfa hfb
    have htk : (fs.take (q + 1)) = fs.take q ++ [(s, ty)] := by rw [List.take_succ_eq_append_getElem hqf, hff]
    by_cases hw : 0 ≤ ty ∧ ty < (i : Int)
    · (repeat' first | refine zcd ?_ | intro K' hK | (with_reducible refine zn hK ?_; clear hK) | fail | ((with_reducible first | apply zo1 | apply zo2 | apply o_guard rfl | apply x_cond | apply k_e1 rfl | apply k_e2 rfl | apply k_e0 rfl | apply k_e3 rfl | apply k_e4 rfl); (case he => exact ez1 hfb); (try case hok => exact ezO); all_goals try (intro hb; (try simp only [hbs, reduceCtorEq] at hb); try exact ezX)) | ((with_reducible apply o_undef rfl); (case hb => exact ez0)))
      refine k_round (fs.length - (q + 1)) (by omega) ⟨⟨rfl, rfl⟩, q + 1, rfl, by omega, by simp (disch := first | assumption | omega | rfl | decide) only [go_sem, seval, tys] <;> rfl, ?_⟩
      rw [htk, List.all_append, hall]
      simp [hw]
    · have hno : fs.all (fun f => decide (0 ≤ f.2 ∧ f.2 < (i : Int))) = false := by
        rw [List.all_eq_false]
        exact ⟨fs[q], List.getElem_mem _, by rw [hff]; simpa using hw⟩
      (repeat' first | refine zcd ?_ | intro K' hK | (with_reducible refine zn hK ?_; clear hK) | fail | ((with_reducible first | apply zo1 | apply zo2 | apply o_guard rfl | apply x_cond | apply k_e1 rfl | apply k_e2 rfl | apply k_e0 rfl | apply k_e3 rfl | apply k_e4 rfl); (case he => exact ez1 hfb); (try case hok => exact ezO); all_goals try (intro hb; (try simp only [hbs, reduceCtorEq] at hb); try exact ezX)) | ((with_reducible apply o_undef rfl); (case hb => exact ez0)))
      all_goals exact sw_flat rfl rfl ⟨by rw [hf5, hno]; rfl, rfl, rfl⟩
  · obtain rfl : q = fs.length := by omega
    rw [List.take_length] at hall
    have hz : decide (el = 0 ∧ ln = 0 ∧ 0 < fs.length ∧ fs.length ≤ 8) = (decide (el = 0 ∧ ln = 0 ∧ (0 : Int) < fs.length) && decide (fs.length ≤ 8)) := by
      rw [Bool.eq_iff_iff]; simp only [decide_eq_true_eq, Bool.and_eq_true, List.all_cons, List.all_nil, Bool.and_true, beq_iff_eq]; omega
    rw [hall, hz, Bool.true_and] at hf5
    cases hfl : flB fs
    all_goals
      rw [hfl] at hf5
      cases h8 : decide (fs.length ≤ 8)
      all_goals
        rw [h8] at hf5
        (repeat' first | refine zcd ?_ | intro K' hK | (with_reducible refine zn hK ?_; clear hK) | ((with_reducible apply o_callF (g := 66) w_none); (case ha => exact ez0); (case hs => ((with_reducible apply rfields_ev (fs := fs)); (case hr => exact ezD hfd); (all_goals omega))); (case' hk => rintro _ h' n' ⟨rfl, rfl, rfl⟩)) | ((with_reducible first | apply zo1 | apply zo2 | apply o_guard rfl | apply x_cond | apply k_e1 rfl | apply k_e2 rfl | apply k_e0 rfl | apply k_e3 rfl | apply k_e4 rfl); (case he => exact ez2 hfl h8); (try case hok => exact ezO); all_goals try (intro hb; (try simp only [hbs, reduceCtorEq] at hb); try exact ezX)) | ((with_reducible apply o_undef rfl); (case hb => exact ez0)))
        all_goals exact sw_flat rfl rfl ⟨by rw [hf5]; first | rfl | (refine congrArg Value.bool ?_; rw [Bool.eq_iff_iff]; simp only [decide_eq_true_eq, Bool.and_eq_true, Bool.false_eq_true, and_false, false_and, false_iff, iff_false, and_true, true_and, beq_iff_eq, iff_self, true_iff, iff_true]; done) | (refine congrArg Value.bool ?_; rw [Bool.eq_iff_iff]; simp only [decide_eq_true_eq, Bool.and_eq_true, Bool.false_eq_true, and_false, false_and, false_iff, iff_false, and_true, true_and, beq_iff_eq, iff_self, true_iff, iff_true]; omega), rfl, rfl⟩
theorem rfine_ev (hk : 30000 ≤ k) (A : Option Addr) (T : List Tp) (c : Nat) (hT : TabH h n A T) (i : Nat) (hi : i < T.length) (hl : T.length ≤ 100) (hl2 : T[i].fs.length ≤ 20000) :
    SQ k (d + 4) cl 55 [.slice A T.length c, .int .i64 i] h n fun v h' n' => v = .bool (fineB T.length i T[i]) ∧ h' = h ∧ n' = n := by
  by_cases h5 : T[i].kd = 5
  · exact rfine_b k d cl h n hk A T c hT i hi hl hl2 h5
  · exact rfine_a k d cl h n hk A T c hT i hi hl h5
end Go.Proofs.Ytkngdfbibffdcaa.Ce
