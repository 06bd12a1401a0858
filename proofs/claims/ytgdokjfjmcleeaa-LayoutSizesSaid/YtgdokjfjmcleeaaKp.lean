/- Widths of types, in plain Lean. -/
import Derived.Test.YtgdokjfjmcleeaaKe
namespace Go.Proofs.Ytgdokjfjmcleeaa.Ce
open Go.RowKit
set_option linter.unusedVariables false
set_option linter.unusedSimpArgs false

/-- the widths of fields together -/
def sumF (now : List Int) (fs : List (List UInt8 × Int)) : Int := fs.foldl (fun a f => a + now.getD f.2.toNat 0) 0
/-- what a type's width is before the limit, without its fields -/
def wHead (below now : List Int) (t : Tp) : Int := 1 + (if t.kd = 4 then below.getD t.el.toNat 0 else if t.kd = 7 then 16 * below.getD t.el.toNat 0 else if t.kd = 6 then t.ln * now.getD t.el.toNat 0 else 0)
def wOne (below now : List Int) (t : Tp) : Int := min (wHead below now t + sumF now t.fs) 5001
def wRow (below : List Int) (T : List Tp) : List Int := T.foldl (fun now t => now ++ [wOne below now t]) []
def zeros (m : Nat) : List Int := List.replicate m 0
def wD (T : List Tp) : Nat → List Int
  | 0 => wRow (zeros T.length) T
  | d + 1 => wRow (wD T d) T
theorem wRow_snoc (below : List Int) (T : List Tp) (t : Tp) : wRow below (T ++ [t]) = wRow below T ++ [wOne below (wRow below T) t] := by unfold wRow; rw [List.foldl_append]; rfl
theorem wRow_length' (below : List Int) : ∀ (T : List Tp) (a : List Int), (T.foldl (fun now t => now ++ [wOne below now t]) a).length = a.length + T.length
  | [], a => by simp
  | t :: T, a => by rw [List.foldl_cons, wRow_length' below T, List.length_append, List.length_cons]; simp; omega
theorem wRow_length (below : List Int) (T : List Tp) : (wRow below T).length = T.length := by unfold wRow; rw [wRow_length']; simp
theorem wRow_take (below : List Int) {T : List Tp} {i : Nat} (hi : i < T.length) : wRow below (T.take (i + 1)) = wRow below (T.take i) ++ [wOne below (wRow below (T.take i)) T[i]] := by rw [List.take_succ_eq_append_getElem hi, wRow_snoc]
theorem wRow_tlen (below : List Int) {T : List Tp} {i : Nat} (hi : i ≤ T.length) : (wRow below (T.take i)).length = i := by rw [wRow_length, List.length_take]; omega
/-- widths within their bounds -/
def Bnd (l : List Int) : Prop := ∀ x ∈ l, 0 ≤ x ∧ x ≤ 5001
theorem Bnd.getD {l : List Int} (h : Bnd l) (i : Nat) : 0 ≤ l.getD i 0 ∧ l.getD i 0 ≤ 5001 := by
  rw [List.getD_eq_getElem?_getD]
  by_cases hi : i < l.length
  · rw [List.getElem?_eq_getElem hi]; exact h _ (List.getElem_mem _)
  · rw [List.getElem?_eq_none (by omega)]; simp
theorem zeros_bnd (m : Nat) : Bnd (zeros m) := fun x hx => by rw [List.eq_of_mem_replicate hx]; omega
theorem sumF_bnd {now : List Int} (h : Bnd now) (fs : List (List UInt8 × Int)) : 0 ≤ sumF now fs ∧ sumF now fs ≤ 5001 * fs.length := by
  have key : ∀ (fs : List (List UInt8 × Int)) (a : Int), a ≤ fs.foldl (fun a f => a + now.getD f.2.toNat 0) a ∧ fs.foldl (fun a f => a + now.getD f.2.toNat 0) a ≤ a + 5001 * fs.length := by
    intro fs
    induction fs with
    | nil => intro a; simp
    | cons f fs ih =>
      intro a
      have h1 := ih (a + now.getD f.2.toNat 0)
      have h2 := h.getD f.2.toNat
      rw [List.foldl_cons, List.length_cons]
      omega
  have := key fs 0
  unfold sumF
  omega
theorem sumF_snoc (now : List Int) (fs : List (List UInt8 × Int)) (f : List UInt8 × Int) : sumF now (fs ++ [f]) = sumF now fs + now.getD f.2.toNat 0 := by unfold sumF; rw [List.foldl_append]; rfl
theorem sumF_take (now : List Int) {fs : List (List UInt8 × Int)} {q : Nat} (hq : q < fs.length) : sumF now (fs.take (q + 1)) = sumF now (fs.take q) + now.getD (fs[q]).2.toNat 0 := by rw [List.take_succ_eq_append_getElem hq, sumF_snoc]
/-- all types of a table are valid -/
def Fine (T : List Tp) : Prop := ∀ i (hi : i < T.length), fineB T.length i T[i] = true
theorem fine_len {m i : Nat} {t : Tp} (h : fineB m i t = true) : t.fs.length ≤ 8 := by
  unfold fineB at h
  split at h
  · simp at h; rw [h.2.2]; simp
  · split at h
    · simp at h; rw [h.2.2.2]; simp
    · split at h
      · simp at h; rw [h.2.2.2.2]; simp
      · split at h
        · simp at h; exact h.2.2.2.2
        · cases h
theorem fine_nofs {m i : Nat} {t : Tp} (h : fineB m i t = true) (h5 : t.kd ≠ 5) : t.fs = [] := by
  unfold fineB at h
  split at h
  · simp at h; exact h.2.2
  · split at h
    · simp at h; exact h.2.2.2
    · split at h
      · simp at h; exact h.2.2.2.2
      · cases h
theorem fine_el {m i : Nat} {t : Tp} (h : fineB m i t = true) (hk : t.kd = 4 ∨ t.kd = 7) : 0 ≤ t.el ∧ t.el < m := by
  rw [fineB_47 hk] at h; simp at h; omega
theorem fine_arr {m i : Nat} {t : Tp} (h : fineB m i t = true) (hk : t.kd = 6) : 0 ≤ t.el ∧ t.el < i ∧ 1 ≤ t.ln ∧ t.ln ≤ 16 := by
  rw [fineB_6 hk] at h; simp at h; omega
theorem fine_fld {m i : Nat} {t : Tp} (h : fineB m i t = true) {q : Nat} (hq : q < t.fs.length) : 0 ≤ (t.fs[q]).2 ∧ (t.fs[q]).2 < i := by
  by_cases h5 : t.kd = 5
  · rw [fineB_5 h5, Bool.and_eq_true] at h
    have h1 := h.1
    unfold fldsB at h1
    rw [Bool.and_eq_true, List.all_eq_true] at h1
    have := h1.1 _ (List.getElem_mem hq)
    unfold fldB at this
    simp at this
    exact this.2
  · rw [fine_nofs h h5] at hq; simp at hq
theorem wHead_bnd {m i : Nat} {below now : List Int} {t : Tp} (hb : Bnd below) (hn : Bnd now) (hf : fineB m i t = true) : 1 ≤ wHead below now t ∧ wHead below now t ≤ 100000 := by
  have h1 := hb.getD t.el.toNat
  have h2 := hn.getD t.el.toNat
  unfold wHead
  split
  · omega
  · split
    · omega
    · split
      · rename_i h6
        have h3 := fine_arr hf h6
        have e1 : 0 ≤ t.ln * now.getD t.el.toNat 0 := Int.mul_nonneg (by omega) h2.1
        have e2 : t.ln * now.getD t.el.toNat 0 ≤ 16 * 5001 := Int.mul_le_mul h3.2.2.2 h2.2 h2.1 (by omega)
        omega
      · omega
theorem wOne_bnd {m i : Nat} {below now : List Int} {t : Tp} (hb : Bnd below) (hn : Bnd now) (hf : fineB m i t = true) : 1 ≤ wOne below now t ∧ wOne below now t ≤ 5001 := by
  have h1 := wHead_bnd hb hn hf
  have h2 := sumF_bnd hn t.fs
  unfold wOne
  omega
theorem wRow_bnd {below : List Int} {T : List Tp} (hb : Bnd below) (hf : Fine T) : ∀ i, i ≤ T.length → Bnd (wRow below (T.take i))
  | 0, _ => fun x hx => by simp [wRow] at hx
  | i + 1, hi => by
    have ih := wRow_bnd hb hf i (by omega)
    rw [wRow_take below (by omega)]
    intro x hx
    rcases List.mem_append.1 hx with hx | hx
    · exact ih x hx
    · have hx' := List.mem_singleton.1 hx
      have := wOne_bnd hb ih (hf i (by omega))
      rw [hx']; omega
theorem wRow_bnd' {below : List Int} {T : List Tp} (hb : Bnd below) (hf : Fine T) : Bnd (wRow below T) := by have := wRow_bnd hb hf T.length (Nat.le_refl _); rwa [List.take_length] at this
theorem wD_bnd {T : List Tp} (hf : Fine T) : ∀ d, Bnd (wD T d)
  | 0 => wRow_bnd' (zeros_bnd _) hf
  | d + 1 => wRow_bnd' (wD_bnd hf d) hf
theorem wD_length (T : List Tp) : ∀ d, (wD T d).length = T.length
  | 0 => wRow_length _ _
  | d + 1 => wRow_length _ _
/-- a table's widths so far, and room for the others -/
def pad (below : List Int) (T : List Tp) (i : Nat) : List Int := wRow below (T.take i) ++ zeros (T.length - i)
theorem pad_zero (below : List Int) (T : List Tp) : pad below T 0 = zeros T.length := by simp [pad, wRow]
theorem pad_all (below : List Int) (T : List Tp) : pad below T T.length = wRow below T := by simp [pad, zeros]
theorem pad_length (below : List Int) {T : List Tp} {i : Nat} (hi : i ≤ T.length) : (pad below T i).length = T.length := by unfold pad zeros; rw [List.length_append, wRow_tlen below hi, List.length_replicate]; omega
theorem pad_getD (below : List Int) {T : List Tp} {i j : Nat} (hi : i ≤ T.length) (hj : j < i) : (pad below T i).getD j 0 = (wRow below (T.take i)).getD j 0 := by
  unfold pad
  rw [List.getD_eq_getElem?_getD, List.getElem?_append_left (by rw [wRow_tlen below hi]; exact hj), List.getD_eq_getElem?_getD]
theorem pad_succ (below : List Int) {T : List Tp} {i : Nat} (hi : i < T.length) : (pad below T i).set i (wOne below (wRow below (T.take i)) T[i]) = pad below T (i + 1) := by
  unfold pad zeros
  have hl := wRow_tlen below (Nat.le_of_lt hi)
  rw [List.set_append_right _ _ (by omega), hl, Nat.sub_self, wRow_take below hi, show T.length - i = (T.length - (i + 1)) + 1 from by omega, List.replicate_succ]
  simp
theorem iv_set (l : List Int) (i : Nat) (x : Int) : (iv l).set i (.int .i64 x) = iv (l.set i x) := by unfold iv; rw [List.map_set]
theorem iv_lget {l : List Int} {i : Nat} (hi : i < l.length) : lget (iv l) i = some (.int .i64 (l.getD i 0)) := by
  rw [lget_eq, iv_get hi, List.getD_eq_getElem?_getD, List.getElem?_eq_getElem hi]; rfl
end Go.Proofs.Ytgdokjfjmcleeaa.Ce
