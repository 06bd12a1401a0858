/- The evaluator of closed calls: a drawn region, in any order. No program in sight. -/
import Derived.Test.YtcdedegjpfemmaaCx
namespace Go.Proofs.Ytcdedegjpfemmaa.Ce
open Go.RowKit
set_option linter.unusedVariables false
set_option linter.unusedSimpArgs false

section before
variable {ops : Array Oper}
def gB (acc : Array Nat) (o : Oper) : Nat := o.after.foldl (fun s e => if Region.binds .any e then s ||| 2 ^ e.on ||| acc.getD e.on 0 else s) 0
theorem before_go : ∀ (l : List Oper) (acc : Array Nat), ∃ r : Array Nat, l.foldl (fun acc o => acc.push (gB acc o)) acc = r ∧ r.size = acc.size + l.length ∧ (∀ k, k < acc.size → r.getD k 0 = acc.getD k 0) ∧
    ∀ (j : Nat) (o : Oper), l[j]? = some o → ∃ acc' : Array Nat, acc'.size = acc.size + j ∧ (∀ k, k < acc'.size → r.getD k 0 = acc'.getD k 0) ∧ r.getD (acc.size + j) 0 = gB acc' o := by
  intro l
  induction l with
  | nil => intro acc; exact ⟨acc, rfl, by simp, fun _ _ => rfl, by simp⟩
  | cons x rest ih =>
    intro acc
    obtain ⟨r, h1, h2, h3, h4⟩ := ih (acc.push (gB acc x))
    have hlt : ∀ k, k < acc.size → r.getD k 0 = acc.getD k 0 := fun k hk => by
      rw [h3 k (by simp; omega)]
      simp [Array.getElem?_push, show k ≠ acc.size by omega]
    refine ⟨r, h1, by rw [h2]; simp; omega, hlt, fun j o hj => ?_⟩
    cases j with
    | zero =>
      simp at hj
      subst hj
      refine ⟨acc, by simp, hlt, ?_⟩
      rw [Nat.add_zero, h3 acc.size (by simp)]
      simp
    | succ j =>
      obtain ⟨acc', e1, e2, e3⟩ := h4 j o (by simpa using hj)
      refine ⟨acc', by rw [e1]; simp; omega, e2, ?_⟩
      have : acc.size + (j + 1) = (acc.push (gB acc x)).size + j := by simp; omega
      rw [this]
      exact e3
theorem gB_bit {acc : Array Nat} {o : Oper} {i : Nat} (h : (gB acc o).testBit i = true) : ∃ e ∈ o.after, Region.binds .any e = true ∧ (e.on = i ∨ (acc.getD e.on 0).testBit i = true) := by
  unfold gB at h
  rw [← Array.foldl_toList] at h
  have key : ∀ (l : List Edge) (s : Nat), (l.foldl (fun s e => if Region.binds .any e then s ||| 2 ^ e.on ||| acc.getD e.on 0 else s) s).testBit i = true → s.testBit i = true ∨ ∃ e ∈ l, Region.binds .any e = true ∧ (e.on = i ∨ (acc.getD e.on 0).testBit i = true) := by
    intro l
    induction l with
    | nil => intro s h; exact .inl h
    | cons e rest ih =>
      intro s h
      rw [List.foldl_cons] at h
      rcases ih _ h with h | ⟨e', h1, h2⟩
      · by_cases hb : Region.binds .any e = true
        · simp only [hb, if_true, Nat.testBit_or, Bool.or_eq_true, Nat.testBit_two_pow, decide_eq_true_eq] at h
          rcases h with (h | h) | h
          · exact .inl h
          · exact .inr ⟨e, by simp, hb, .inl h⟩
          · exact .inr ⟨e, by simp, hb, .inr h⟩
        · simp only [hb] at h
          exact .inl h
      · exact .inr ⟨e', by simp [h1], h2⟩
  rcases key _ _ h with h | ⟨e, h1, h2⟩
  · simp at h
  · exact ⟨e, by simpa using h1, h2⟩
theorem before_spec {j i : Nat} {o : Oper} (ho : ops[j]? = some o) (hb : ((Region.before ops).getD j 0).testBit i = true) :
    ∃ e ∈ o.after, Region.binds .any e = true ∧ (e.on = i ∨ e.on < j ∧ ((Region.before ops).getD e.on 0).testBit i = true) := by
  obtain ⟨r, h1, h2, h3, h4⟩ := before_go ops.toList #[]
  have hr : Region.before ops = r := by
    rw [← h1]
    unfold Region.before
    rw [← Array.foldl_toList]
    rfl
  rw [hr] at hb ⊢
  obtain ⟨acc', e1, e2, e3⟩ := h4 j o (by simpa using ho)
  simp at e1 e3
  rw [show r.getD j 0 = gB acc' o by simpa using e3] at hb
  obtain ⟨e, h5, h6, h7⟩ := gB_bit hb
  refine ⟨e, h5, h6, h7.imp_right fun h8 => ?_⟩
  rcases Nat.lt_or_ge e.on j with h9 | h9
  · exact ⟨h9, by rw [e2 e.on (by omega)]; exact h8⟩
  · simp [Array.getElem?_eq_none (by omega : acc'.size ≤ e.on)] at h8
/-- what is before a thing that is done, or that is ready, is done -/
theorem before_down {D : Nat → Prop} (hD : ∀ j o e, D j → ops[j]? = some o → e ∈ o.after → Region.binds .any e = true → D e.on) {i : Nat} :
    ∀ j o, ops[j]? = some o → (∀ e ∈ o.after, Region.binds .any e = true → D e.on) → ((Region.before ops).getD j 0).testBit i = true → D i := by
  intro j
  induction j using Nat.strongRecOn with
  | _ j ih =>
    intro o ho hr hb
    obtain ⟨e, h1, h2, h3⟩ := before_spec ho hb
    rcases h3 with h3 | ⟨h3, h4⟩
    · rw [← h3]; exact hr e h1 h2
    · have hj : j < ops.size := (Array.getElem?_eq_some_iff.1 ho).1
      have ho' : ops[e.on]? = some ops[e.on] := Array.getElem?_eq_getElem (by omega)
      exact ih e.on h3 _ ho' (fun e' h5 h6 => hD e.on _ e' (hr e h1 h2) ho' h5 h6) h4
end before

/-- what pairsOk says -/
theorem unordered_spec {ops : Array Oper} {us : List (Nat × Nat)} {fps : List Fp} {fpf : Nat → Fp} (hu : unordered ops = some us) (hp : pairsOk us fps = true) (hf : ∀ i, i < ops.size → fps[i]? = some (fpf i)) :
    (∀ j o e, ops[j]? = some o → e ∈ o.after → Region.binds .any e = true → e.on < j) ∧
    ∀ i j x y, i < j → ops[i]? = some x → ops[j]? = some y → ((Region.before ops).getD j 0).testBit i = false → Oper.apart ops x y = true ∧ (memOp x.op = true → memOp y.op = true → apartB (fpf i) (fpf j) = true) := by
  unfold pairsOk at hp
  · generalize us = l at hu hp
    unfold unordered at hu
    dsimp only at hu
    split at hu
    · rename_i hc
      injection hu with hu
      rw [Bool.and_eq_true] at hc
      obtain ⟨hc1, hc2⟩ := hc
      refine ⟨fun j o e ho he hb => ?_, fun i j x y hij hx hy hbit => ?_⟩
      · have hm : (o, j) ∈ ops.toList.zipIdx := List.mem_zipIdx_iff_getElem?.2 (by simpa using ho)
        have h1 := List.all_eq_true.1 hc1 _ hm
        have h2 := List.all_eq_true.1 h1 e (by simpa using he)
        simpa [hb] using h2
      · have hmx : (x, i) ∈ ops.toList.zipIdx := List.mem_zipIdx_iff_getElem?.2 (by simpa using hx)
        have hmy : (y, j) ∈ ops.toList.zipIdx := List.mem_zipIdx_iff_getElem?.2 (by simpa using hy)
        have hps : ((x, i), (y, j)) ∈ (ops.toList.zipIdx.flatMap fun y => (ops.toList.zipIdx.filter fun x => Nat.blt x.2 y.2 && !(((Region.before ops).getD y.2 0).testBit x.2)).map fun x => (x, y)) := by
          rw [List.mem_flatMap]
          refine ⟨(y, j), hmy, List.mem_map.2 ⟨(x, i), List.mem_filter.2 ⟨hmx, ?_⟩, rfl⟩⟩
          simp only [Bool.and_eq_true, Bool.not_eq_true']
          exact ⟨by simpa using hij, hbit⟩
        refine ⟨List.all_eq_true.1 hc2 _ hps, fun h1 h2 => ?_⟩
        have hl : (i, j) ∈ l := by
          rw [← hu]
          refine List.mem_map.2 ⟨((x, i), (y, j)), List.mem_filter.2 ⟨hps, ?_⟩, rfl⟩
          simp [h1, h2]
        have h3 := List.all_eq_true.1 hp _ hl
        have hi : i < ops.size := (Array.getElem?_eq_some_iff.1 hx).1
        have hj : j < ops.size := (Array.getElem?_eq_some_iff.1 hy).1
        simp only [lget_eq, hf i hi, hf j hj] at h3
        exact h3
    · cases hu

theorem apartB_spec {x y : Fp} (h : apartB x y = true) :
    (∀ b, b ∈ x.wr → b ∉ y.rd ∧ b ∉ y.wr ∧ y.cl = false) ∧ (∀ b, b ∈ y.wr → b ∉ x.rd ∧ b ∉ x.wr ∧ x.cl = false) := by
  unfold apartB at h
  simp only [Bool.and_eq_true, List.all_eq_true] at h
  obtain ⟨⟨h1, h2⟩, h3⟩ := h
  refine ⟨fun b hb => ?_, fun b hb => ?_⟩
  · have := h1 b hb
    simp [touches] at this
    exact ⟨this.1.1, this.1.2, this.2⟩
  · have := h2 b hb
    simp [touches] at this
    exact ⟨this.1.1.1, this.1.1.2, this.1.2⟩

/-- where blocks lie, of those below n -/
def cut (φ : Mp) (n : Nat) : Mp := fun id => if id < n then φ id else none
section
variable {φ φ' : Mp} {n m : Nat}
theorem cut_lt {id : Nat} (h : id < n) : cut φ n id = φ id := by simp [cut, h]
theorem cut_ge {id : Nat} (h : n ≤ id) : cut φ n id = none := by simp [cut, show ¬ id < n by omega]
theorem cut_some {id : Nat} {p : Nat × Nat} (h : cut φ n id = some p) : id < n ∧ φ id = some p := by
  rcases Nat.lt_or_ge id n with h1 | h1
  · exact ⟨h1, (cut_lt h1).symm.trans h⟩
  · rw [cut_ge h1] at h; cases h
theorem cut_mono (h : n ≤ m) (hle : le_ φ φ') : le_ (cut φ n) (cut φ' m) := fun id p hp => by
  obtain ⟨h1, h2⟩ := cut_some hp
  rw [cut_lt (by omega)]
  exact hle id p h2
end
end Go.Proofs.Ytcdedegjpfemmaa.Ce
