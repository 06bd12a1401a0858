/- Rows of rows of truth values, under way; in plain Lean. -/
import Derived.Test.YtgdokjfjmcleeaaJq
import Derived.Test.YtgdokjfjmcleeaaJa
namespace Go.Proofs.Ytgdokjfjmcleeaa.Ce
open Go.RowKit
set_option linter.unusedVariables false
set_option linter.unusedSimpArgs false
set_option maxHeartbeats 1000000

theorem bw_setF {l : List Bool} {i : Nat} (hi : i < l.length) : overAt i [Value.bool false] (bw l) = some (bw (l.set i false)) := by
  rw [overAt_one (by rw [bw_length]; exact hi)]
  unfold bw
  rw [List.map_set]
theorem bw_app1 (l : List Bool) (x : Bool) : bw (l ++ [x]) = bw l ++ [.bool x] := by simp [bw]
/-- the row of rows: those that are done, the one under way, none -/
def outC (ids : Nat → Nat) (L m : Nat) (cur : Value) : List Value := (List.range L).map fun a => if a < m then .slice (some ⟨ids a, 0, none⟩) L L else if a = m then cur else .slice none 0 0
section
variable {ids : Nat → Nat} {L m : Nat} {cur : Value}
theorem outC_len : (outC ids L m cur).length = L := by simp [outC]
theorem outC_get {a : Nat} (ha : a < L) : lget (outC ids L m cur) a = some (if a < m then .slice (some ⟨ids a, 0, none⟩) L L else if a = m then cur else .slice none 0 0) := by
  rw [lget_eq]
  unfold outC
  rw [List.getElem?_map, List.getElem?_range ha]
  rfl
theorem outC_at (h : m < L) : lget (outC ids L m cur) m = some cur := by rw [outC_get h, if_neg (Nat.lt_irrefl m), if_pos rfl]
theorem outC_low {a : Nat} (h : a < m) (hL : a < L) : lget (outC ids L m cur) a = some (.slice (some ⟨ids a, 0, none⟩) L L) := by rw [outC_get hL, if_pos h]
theorem outC_set (v : Value) (h : m < L) : overAt m [v] (outC ids L m cur) = some (outC ids L m v) := by
  rw [overAt_one (by rw [outC_len]; exact h)]
  congr 1
  refine List.ext_getElem? fun x => ?_
  rw [List.getElem?_set]
  by_cases hx : x < L
  · have e1 := outC_get (ids := ids) (m := m) (cur := cur) hx
    have e2 := outC_get (ids := ids) (m := m) (cur := v) hx
    rw [lget_eq] at e1 e2
    rw [e2]
    by_cases e : m = x
    · subst e
      rw [if_pos rfl, if_pos (by rw [outC_len]; exact h), if_neg (Nat.lt_irrefl _), if_pos rfl]
    · rw [if_neg e, e1, if_neg (c := x = m) (fun hh => e hh.symm), if_neg (c := x = m) (fun hh => e hh.symm)]
  · rw [List.getElem?_eq_none (l := outC ids L m v) (by rw [outC_len]; omega), List.getElem?_eq_none (l := outC ids L m cur) (by rw [outC_len]; omega), if_neg (by omega)]
theorem outC_next {id : Nat} : outC ids L m (.slice (some ⟨id, 0, none⟩) L L) = outC (fun a => if a = m then id else ids a) L (m + 1) (.slice none 0 0) := by
  unfold outC
  refine List.map_congr_left fun a _ => ?_
  dsimp only
  by_cases h1 : a < m
  · rw [if_pos h1, if_pos (by omega), if_neg (by omega)]
  · rw [if_neg h1]
    by_cases h2 : a = m
    · rw [if_pos h2, if_pos (by omega), if_pos h2]
    · rw [if_neg h2, if_neg (by omega)]
      split <;> rfl
theorem outC_zero (ids : Nat → Nat) (L : Nat) : (List.replicate L [Value.slice none 0 0]).flatten = outC ids L 0 (.slice none 0 0) := by
  have e1 : (List.replicate L [Value.slice none 0 0]).flatten = List.replicate L (Value.slice none 0 0) := by
    induction L with
    | zero => rfl
    | succ L ih => rw [List.replicate_succ, List.flatten_cons, ih, List.replicate_succ]; rfl
  rw [e1]
  refine (List.eq_replicate_iff.2 ⟨outC_len, fun b hb => ?_⟩).symm
  unfold outC at hb
  obtain ⟨a, _, rfl⟩ := List.mem_map.1 hb
  rw [if_neg (by omega)]
  split <;> rfl
end
/-- rows that hold what stands -/
structure Rws (f : Nat → Nat → Bool) (ids : Nat → Nat) (L m : Nat) (h : Hp) (lo hi : Nat) : Prop where
  rg : ∀ a, a < m → lo < ids a ∧ ids a < hi
  row : ∀ a, a < m → rowOf h (ids a) = some (4, false, bw (rowL f L a))
  ne : ∀ a b, a < m → b < m → a ≠ b → ids a ≠ ids b
section
variable {f : Nat → Nat → Bool} {ids : Nat → Nat} {L m : Nat} {h : Hp} {lo hi : Nat}
theorem Rws.zero : Rws f ids L 0 h lo hi := ⟨fun _ h => absurd h (Nat.not_lt_zero _), fun _ h => absurd h (Nat.not_lt_zero _), fun _ _ h => absurd h (Nat.not_lt_zero _)⟩
theorem Rws.set (r : Rws f ids L m h lo hi) {id : Nat} (hid : id ≤ lo ∨ hi ≤ id) (x : AObj) : Rws f ids L m (h.set id x) lo hi :=
  ⟨r.rg, fun a ha => by rw [rowOf_ne _ _ (by have := r.rg a ha; omega)]; exact r.row a ha, r.ne⟩
theorem Rws.more (r : Rws f ids L m h lo hi) {hi' : Nat} (hh : hi ≤ hi') : Rws f ids L m h lo hi' := ⟨fun a ha => by have := r.rg a ha; omega, r.row, r.ne⟩
theorem Rws.keep (r : Rws f ids L m h lo hi) {h' : Hp} (hk : ∀ b, b < hi → h'.get b = h.get b) : Rws f ids L m h' lo hi := ⟨r.rg, fun a ha => by rw [rowOf_keep (hk _ (r.rg a ha).2)]; exact r.row a ha, r.ne⟩
theorem Rws.push (r : Rws f ids L m h lo hi) {id hi' : Nat} (h0 : lo < id) (h1 : hi ≤ id) (h2 : id < hi') (hr : rowOf h id = some (4, false, bw (rowL f L m))) : Rws f (fun a => if a = m then id else ids a) L (m + 1) h lo hi' := by
  refine ⟨fun a ha => ?_, fun a ha => ?_, fun a b ha hb hab => ?_⟩
  · split
    · exact ⟨h0, h2⟩
    · have := r.rg a (by omega); omega
  · split
    · rename_i e; subst e; exact hr
    · exact r.row a (by omega)
  · by_cases e1 : a = m
    · have := r.rg b (by omega)
      rw [if_pos e1, if_neg (by omega)]
      omega
    · rw [if_neg e1]
      by_cases e2 : b = m
      · have := r.rg a (by omega)
        rw [if_pos e2]
        omega
      · rw [if_neg e2]
        exact r.ne a b (by omega) (by omega) hab
theorem Rws.strike (r : Rws f ids L m h lo hi) {i j : Nat} (hi' : i < m) : Rws (upf f i j) ids L m (h.set (ids i) (.row 4 false (bw ((rowL f L i).set j false)))) lo hi := by
  refine ⟨r.rg, fun a ha => ?_, r.ne⟩
  by_cases e : a = i
  · subst e
    rw [rowOf_same, rowL_upd]
  · rw [rowOf_ne _ _ (r.ne a i ha hi' e), rowL_other e]
    exact r.row a ha
theorem Rws.cell (r : Rws f ids L m h lo hi) {a b : Nat} (ha : a < m) (hb : b < L) : cellAt h (ids a) b = some (.bool (f a b)) := by
  rw [cellAt_row (r.row a ha), bw_lget (rowL_get hb)]
end
end Go.Proofs.Ytgdokjfjmcleeaa.Ce
