/- Layout of types, in plain Lean; bits of offsets. -/
import Derived.Test.YtgdokjfjmcleeaaKp
namespace Go.Proofs.Ytgdokjfjmcleeaa.Ce
open Go.RowKit
set_option linter.unusedVariables false
set_option linter.unusedSimpArgs false
set_option maxRecDepth 100000

theorem land_up (n : Nat) (h : n < 2 ^ 63) : n &&& 18446744073709551608 = n / 8 * 8 := by
  have e1 : (18446744073709551608 : Nat) = (2 ^ 61 - 1) <<< 3 := by decide
  have e2 : n / 8 * 8 = (n >>> 3) <<< 3 := by rw [Nat.shiftRight_eq_div_pow, Nat.shiftLeft_eq]
  rw [e1, e2]
  apply Nat.eq_of_testBit_eq
  intro i
  rw [Nat.testBit_and, Nat.testBit_shiftLeft, Nat.testBit_shiftLeft, Nat.testBit_two_pow_sub_one, Nat.testBit_shiftRight]
  by_cases h3 : 3 ≤ i
  · rw [show 3 + (i - 3) = i from by omega, decide_eq_true h3, Bool.true_and, Bool.true_and]
    by_cases h61 : i - 3 < 61
    · rw [decide_eq_true h61, Bool.and_true]
    · rw [decide_eq_false h61, Bool.and_false, Nat.testBit_lt_two_pow (Nat.lt_of_lt_of_le h (Nat.pow_le_pow_right (by omega) (by omega)))]
  · rw [decide_eq_false h3, Bool.false_and, Bool.false_and, Bool.and_false]
/-- the least multiple that is not less -/
def upI (x a : Int) : Int := (x + a - 1) / a * a
theorem upI_1 (x : Int) : upI x 1 = x := by unfold upI; omega
theorem upI_8 (x : Int) : upI x 8 = (x + 7) / 8 * 8 := by unfold upI; omega
def Al (a : Int) : Prop := a = 1 ∨ a = 8
theorem upI_bnd {x a : Int} (ha : Al a) (hx : 0 ≤ x) : x ≤ upI x a ∧ upI x a ≤ x + 7 := by
  rcases ha with rfl | rfl
  · rw [upI_1]; omega
  · rw [upI_8]; omega
theorem upI_min {C x a : Int} (ha : Al a) (hC : C % 8 = 0) : upI (min C x) a = min C (upI x a) := by
  rcases ha with rfl | rfl
  · rw [upI_1, upI_1]
  · rw [upI_8, upI_8]; omega
theorem upI_le {C x a : Int} (ha : Al a) (hC : C % 8 = 0) (h : x ≤ C) : upI x a ≤ C := by
  rcases ha with rfl | rfl
  · rw [upI_1]; exact h
  · rw [upI_8]; omega
theorem b_andnot (x a : Int) (ha : Al a) (hx : 0 ≤ x) (hx2 : x ≤ 4611686018427387904) (h : Hp) (n : Nat) : mBin Try.prog .andNot 3 (.int .i64 (x + a - 1)) (.int .i64 (a - 1)) h n = some ⟨.int .i64 (upI x a), h, n, [], []⟩ := by
  have e : prun Try.prog (Op.intBits .andNot .i64 (x + a - 1) (a - 1)) = some (.int .i64 (upI x a)) := by
    show some (Value.int IntKind.i64 (IntKind.wrap .i64 (((BitVec.ofInt 64 (x + a - 1)) &&& ~~~ (BitVec.ofInt 64 (a - 1))).toNat : Int))) = _
    rcases ha with rfl | rfl
    · obtain ⟨m, rfl⟩ := Int.eq_ofNat_of_zero_le hx
      rw [upI_1, show (m : Int) + 1 - 1 = (m : Int) from by omega, show (1 : Int) - 1 = 0 from rfl]
      have h1 : (BitVec.ofInt 64 (m : Int) &&& ~~~ BitVec.ofInt 64 0).toNat = m := by
        have : ~~~ BitVec.ofInt 64 0 = BitVec.allOnes 64 := by decide
        rw [this, BitVec.and_allOnes, BitVec.ofInt_natCast, BitVec.toNat_ofNat, Nat.mod_eq_of_lt (by omega)]
      rw [h1]
      congr 2
      exact wrap_i64 (by omega) (by omega)
    · obtain ⟨m, rfl⟩ := Int.eq_ofNat_of_zero_le hx
      rw [upI_8, show (m : Int) + 8 - 1 = ((m + 7 : Nat) : Int) from by omega, show (8 : Int) - 1 = 7 from rfl]
      have h1 : (BitVec.ofInt 64 ((m + 7 : Nat) : Int) &&& ~~~ BitVec.ofInt 64 7).toNat = (m + 7) / 8 * 8 := by
        have h7 : (~~~ BitVec.ofInt 64 7).toNat = 18446744073709551608 := by decide
        rw [BitVec.toNat_and, h7, BitVec.ofInt_natCast, BitVec.toNat_ofNat, Nat.mod_eq_of_lt (by omega)]
        exact land_up _ (by omega)
      rw [h1]
      congr 2
      rw [wrap_i64 (by omega) (by omega)]
      omega
  show (prun Try.prog (Op.intBits .andNot .i64 (x + a - 1) (a - 1))).bind (fun v => bif flat1 v then mV v h n else none) = _
  rw [e]
  rfl
/-- sizes and alignments of types -/
abbrev Ext := List (Int × Int)
def Ext.at_ (E : Ext) (i : Int) : Int × Int := E.getD i.toNat (0, 0)
/-- within bounds: a size from 0 to C, an alignment of 1 or 8 -/
def EOk (C : Int) (p : Int × Int) : Prop := 0 ≤ p.1 ∧ p.1 ≤ C ∧ Al p.2
/-- fields laid: offsets, the end, the alignment -/
def lStep (C : Int) (E : Ext) (st : List Int × Int × Int) (f : List UInt8 × Int) : List Int × Int × Int :=
  (st.1 ++ [upI st.2.1 (E.at_ f.2).2], min C (upI st.2.1 (E.at_ f.2).2 + (E.at_ f.2).1), max st.2.2 (E.at_ f.2).2)
def layR (C : Int) (E : Ext) (fs : List (List UInt8 × Int)) : List Int × Int × Int := fs.foldl (lStep C E) ([], 0, 1)
theorem layR_take (C : Int) (E : Ext) {fs : List (List UInt8 × Int)} {q : Nat} (hq : q < fs.length) : layR C E (fs.take (q + 1)) = lStep C E (layR C E (fs.take q)) fs[q] := by
  unfold layR; rw [List.take_succ_eq_append_getElem hq, List.foldl_append]; rfl
theorem layR_len (C : Int) (E : Ext) (fs : List (List UInt8 × Int)) : ∀ q, q ≤ fs.length → (layR C E (fs.take q)).1.length = q
  | 0, _ => by simp [layR]
  | q + 1, h => by rw [layR_take C E (by omega)]; unfold lStep; rw [List.length_append, layR_len C E fs q (by omega)]; rfl
/-- the fields' types are in bounds -/
def FOk (C : Int) (E : Ext) (fs : List (List UInt8 × Int)) : Prop := ∀ f ∈ fs, EOk C (E.at_ f.2)
theorem Al.bnd {a : Int} (h : Al a) : 1 ≤ a ∧ a ≤ 8 := by rcases h with rfl | rfl <;> omega
theorem Al.max {a b : Int} (h : Al a) (h' : Al b) : Al (max a b) := by unfold Al at *; omega
theorem layR_ok {C : Int} (hC : 0 ≤ C) {E : Ext} {fs : List (List UInt8 × Int)} (hf : FOk C E fs) : ∀ q, q ≤ fs.length → 0 ≤ (layR C E (fs.take q)).2.1 ∧ (layR C E (fs.take q)).2.1 ≤ C ∧ Al (layR C E (fs.take q)).2.2
  | 0, _ => ⟨Int.le_refl _, hC, .inl rfl⟩
  | q + 1, h => by
    have ih := layR_ok hC hf q (by omega)
    have h1 := hf fs[q] (List.getElem_mem _)
    obtain ⟨h2, h3, h4⟩ := h1
    have h5 := upI_bnd h4 ih.1
    rw [layR_take C E (by omega)]
    unfold lStep
    dsimp only
    exact ⟨by omega, by omega, ih.2.2.max h4⟩
/-- a type's size and alignment -/
def eOne (C : Int) (E : Ext) (t : Tp) : Int × Int :=
  if t.kd = 1 then (1, 1) else if t.kd = 2 ∨ t.kd = 4 then (8, 8) else if t.kd = 3 then (16, 8) else if t.kd = 7 then (24, 8)
  else if t.kd = 6 then (min C (t.ln * (E.at_ t.el).1), (E.at_ t.el).2)
  else (upI (layR C E t.fs).2.1 (layR C E t.fs).2.2, (layR C E t.fs).2.2)
def eRow (C : Int) (T : List Tp) : Ext := T.foldl (fun E t => E ++ [eOne C E t]) []
theorem eRow_snoc (C : Int) (T : List Tp) (t : Tp) : eRow C (T ++ [t]) = eRow C T ++ [eOne C (eRow C T) t] := by unfold eRow; rw [List.foldl_append]; rfl
theorem eRow_take (C : Int) {T : List Tp} {i : Nat} (hi : i < T.length) : eRow C (T.take (i + 1)) = eRow C (T.take i) ++ [eOne C (eRow C (T.take i)) T[i]] := by rw [List.take_succ_eq_append_getElem hi, eRow_snoc]
theorem eRow_length' (C : Int) : ∀ (T : List Tp) (a : Ext), (T.foldl (fun E t => E ++ [eOne C E t]) a).length = a.length + T.length
  | [], a => by simp
  | t :: T, a => by rw [List.foldl_cons, eRow_length' C T, List.length_append, List.length_cons]; simp; omega
theorem eRow_length (C : Int) (T : List Tp) : (eRow C T).length = T.length := by unfold eRow; rw [eRow_length']; simp
theorem eRow_tlen (C : Int) {T : List Tp} {i : Nat} (hi : i ≤ T.length) : (eRow C (T.take i)).length = i := by rw [eRow_length, List.length_take]; omega
theorem fine_kd {m i : Nat} {t : Tp} (h : fineB m i t = true) : 1 ≤ t.kd ∧ t.kd ≤ 7 := by
  by_cases hk : 1 ≤ t.kd ∧ t.kd ≤ 7
  · exact hk
  · rw [fineB_no hk] at h; cases h
theorem Ext.at_mem {C : Int} {E : Ext} (hE : ∀ p ∈ E, EOk C p) {i : Int} (h0 : 0 ≤ i) (h1 : i < E.length) : EOk C (E.at_ i) := by
  unfold Ext.at_
  rw [List.getD_eq_getElem?_getD, List.getElem?_eq_getElem (by omega)]
  exact hE _ (List.getElem_mem _)
theorem fine_fok {C : Int} {E : Ext} (hE : ∀ p ∈ E, EOk C p) {m : Nat} {t : Tp} (h : fineB m E.length t = true) : FOk C E t.fs := by
  intro f hf
  obtain ⟨q, hq, rfl⟩ := List.getElem_of_mem hf
  have := fine_fld h hq
  exact Ext.at_mem hE this.1 this.2
theorem eOne_ok {C : Int} (hC : 24 ≤ C) (hC8 : C % 8 = 0) {E : Ext} (hE : ∀ p ∈ E, EOk C p) {m : Nat} {t : Tp} (h : fineB m E.length t = true) : EOk C (eOne C E t) := by
  unfold eOne
  have hk := fine_kd h
  repeat' split
  · exact ⟨by decide, by dsimp only; omega, .inl rfl⟩
  · exact ⟨by decide, by dsimp only; omega, .inr rfl⟩
  · exact ⟨by decide, by dsimp only; omega, .inr rfl⟩
  · exact ⟨by decide, by dsimp only; omega, .inr rfl⟩
  · rename_i h6
    have ha := fine_arr h h6
    obtain ⟨h1, h2, h3⟩ := Ext.at_mem hE (i := t.el) ha.1 ha.2.1
    have : 0 ≤ t.ln * (E.at_ t.el).1 := Int.mul_nonneg (by omega) h1
    exact ⟨by dsimp only; omega, by dsimp only; omega, h3⟩
  · have hl := layR_ok (C := C) (by omega) (fine_fok hE h) t.fs.length (Nat.le_refl _)
    rw [List.take_length] at hl
    have hb := upI_bnd hl.2.2 hl.1
    exact ⟨by dsimp only; omega, upI_le hl.2.2 hC8 hl.2.1, hl.2.2⟩
theorem eRow_ok {C : Int} (hC : 24 ≤ C) (hC8 : C % 8 = 0) {T : List Tp} (hF : Fine T) : ∀ i, i ≤ T.length → ∀ p ∈ eRow C (T.take i), EOk C p
  | 0, _ => fun p hp => by simp [eRow] at hp
  | i + 1, hi => by
    have ih := eRow_ok hC hC8 hF i (by omega)
    rw [eRow_take C (by omega)]
    intro p hp
    rcases List.mem_append.1 hp with hp | hp
    · exact ih p hp
    · rw [List.mem_singleton.1 hp]
      exact eOne_ok hC hC8 ih (m := T.length) (by rw [eRow_tlen C (by omega)]; exact hF i (by omega))
/-- the cells of sizes and alignments -/
def ecell (p : Int × Int) : List Value := [.int .i64 p.1, .int .i64 p.2]
def ev (E : Ext) : List Value := E.flatMap ecell
theorem ecell_length (p : Int × Int) : (ecell p).length = 2 := rfl
theorem ev_length (E : Ext) : (ev E).length = E.length * 2 := rows_length ecell ecell_length E
theorem ev_app (E G : Ext) : ev (E ++ G) = ev E ++ ev G := by unfold ev; rw [List.flatMap_append]
theorem ev_idA (n : Nat) (E : Ext) : ∀ v ∈ ev E, idA n v = [] := by
  intro v hv
  obtain ⟨a, -, h⟩ := List.mem_flatMap.1 hv
  unfold ecell at h
  simp only [List.mem_cons, List.not_mem_nil, or_false] at h
  rcases h with rfl | rfl <;> rfl
theorem ev_get {E : Ext} {i : Nat} (hi : i < E.length) : lget (ev E) (i * 2) = some (.int .i64 (E.at_ (i : Int)).1) ∧ lget (ev E) (i * 2 + 1) = some (.int .i64 (E.at_ (i : Int)).2) ∧ ltake 2 (ldrop (i * 2) (ev E)) = some [.int .i64 (E.at_ (i : Int)).1, .int .i64 (E.at_ (i : Int)).2] := by
  have e : E.at_ (i : Int) = E[i] := by unfold Ext.at_; rw [Int.toNat_natCast, List.getD_eq_getElem?_getD, List.getElem?_eq_getElem hi]; rfl
  have h0 := rows_get ecell ecell_length hi (j := 0) (by omega)
  have h1 := rows_get ecell ecell_length hi (j := 1) (by omega)
  have h2 := rows_split ecell ecell_length hi
  rw [e]
  refine ⟨by rw [lget_eq]; exact h0, by rw [lget_eq]; exact h1, ?_⟩
  rw [ldrop_eq]
  unfold ev
  rw [h2]
  unfold ecell
  simp only [List.cons_append, List.nil_append, ltake_cons, ltake_zero, Option.map_some]
end Go.Proofs.Ytgdokjfjmcleeaa.Ce
