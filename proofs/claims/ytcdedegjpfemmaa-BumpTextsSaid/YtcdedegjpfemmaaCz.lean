/- The evaluator of closed calls: a drawn region, in any order: the invariant and its step. No program in sight. -/
import Derived.Test.YtcdedegjpfemmaaCy
namespace Go.Proofs.Ytcdedegjpfemmaa.Ce
open Go.RowKit
set_option linter.unusedVariables false
set_option linter.unusedSimpArgs false
set_option linter.unusedSectionVars false

/-- a region's run in the text's order, and what is known of it -/
structure Trace (P : Program) (F : CallE) (lim : Nat) (ops : Array Oper) (sts : Nat → St) (fpf : Nat → Fp) : Prop where
  run : ∀ i o, ops[i]? = some o → ∃ cl fp, OpD P F lim ops.toList o (sts i) (sts (i + 1)) (fpf i) cl fp
  hb : ∀ i, i ≤ ops.size → HB (sts i).h (sts i).n
  st : ∀ i, i < ops.size → Stat (sts i).h (sts (i + 1)).h (sts i).n (sts (i + 1)).n (· ∈ (fpf i).wr)
  wr : ∀ i, i < ops.size → ∀ id ∈ (fpf i).wr, lim ≤ id ∧ id < (sts i).n
  back : ∀ j o e, ops[j]? = some o → e ∈ o.after → Region.binds .any e = true → e.on < j
  apart : ∀ i j x y, i < j → ops[i]? = some x → ops[j]? = some y → ((Region.before ops).getD j 0).testBit i = false → Oper.apart ops x y = true ∧ (memOp x.op = true → memOp y.op = true → apartB (fpf i) (fpf j) = true)

section
variable {P : Program} {F : CallE} {lim : Nat} {ops : Array Oper} {sts : Nat → St} {fpf : Nat → Fp}

theorem Trace.le (T : Trace P F lim ops sts fpf) {i k : Nat} (hik : i ≤ k) (hk : k ≤ ops.size) : (sts i).n ≤ (sts k).n := by
  induction k with
  | zero => obtain rfl : i = 0 := by omega
            exact Nat.le_refl _
  | succ k ih =>
    rcases Nat.lt_or_ge i (k + 1) with h | h
    · exact Nat.le_trans (ih (by omega) (by omega)) (T.st k (by omega)).nle
    · obtain rfl : i = k + 1 := by omega
      exact Nat.le_refl _
theorem Trace.same (T : Trace P F lim ops sts fpf) {i k id : Nat} (hik : i ≤ k) (hk : k ≤ ops.size) (hs : ∀ j, i ≤ j → j < k → (sts (j + 1)).h.get id = (sts j).h.get id) : (sts k).h.get id = (sts i).h.get id := by
  induction k with
  | zero => obtain rfl : i = 0 := by omega
            rfl
  | succ k ih =>
    rcases Nat.lt_or_ge i (k + 1) with h | h
    · rw [hs k (by omega) (by omega), ih (by omega) (by omega) fun j h1 h2 => hs j h1 (by omega)]
    · obtain rfl : i = k + 1 := by omega
      rfl
theorem Trace.dead (T : Trace P F lim ops sts fpf) {i k id : Nat} (hik : i ≤ k) (hk : k ≤ ops.size) (hid : id < (sts i).n) (hd : (sts i).h.get id = none) : (sts k).h.get id = none := by
  induction k with
  | zero => obtain rfl : i = 0 := by omega
            exact hd
  | succ k ih =>
    rcases Nat.lt_or_ge i (k + 1) with h | h
    · exact (T.st k (by omega)).dd id (Nat.lt_of_lt_of_le hid (T.le (by omega) (by omega))) (ih (by omega) (by omega))
    · obtain rfl : i = k + 1 := by omega
      exact hd
theorem Trace.a_step (T : Trace P F lim ops sts fpf) {i : Nat} {o : Oper} (ho : ops[i]? = some o) : ∃ v, (sts (i + 1)).a = put (sts i).a o.dst v := by
  obtain ⟨cl, fp, p⟩ := T.run i o ho
  rcases aopS_inv p.run with ⟨-, h, -⟩ | ⟨-, e, -, -, -, h, -⟩
  · exact ⟨undef, by rw [h]⟩
  · exact ⟨e.v, by rw [h]⟩
theorem Trace.len (T : Trace P F lim ops sts fpf) {k : Nat} (hk : k ≤ ops.size) : (sts k).a.length = (sts 0).a.length := by
  induction k with
  | zero => rfl
  | succ k ih =>
    obtain ⟨v, hv⟩ := T.a_step (i := k) (Array.getElem?_eq_getElem (by omega))
    rw [hv, put_len, ih (by omega)]
theorem Trace.tmp (T : Trace P F lim ops sts fpf) {i k : Nat} {t : Tmp} (hik : i ≤ k) (hk : k ≤ ops.size) (hs : ∀ j o, i ≤ j → j < k → ops[j]? = some o → o.dst ≠ some t) : lget (sts k).a t = lget (sts i).a t := by
  induction k with
  | zero => obtain rfl : i = 0 := by omega
            rfl
  | succ k ih =>
    rcases Nat.lt_or_ge i (k + 1) with h | h
    · have ho : ops[k]? = some ops[k] := Array.getElem?_eq_getElem (by omega)
      obtain ⟨v, hv⟩ := T.a_step ho
      rw [hv, Ce.put_ne v (hs k _ (by omega) (by omega) ho), ih (by omega) (by omega) fun j o h1 h2 => hs j o h1 (by omega)]
    · obtain rfl : i = k + 1 := by omega
      rfl
theorem memOp_call {o : Op} (h : isCall o = true) : memOp o = true := by
  cases o with
  | call c =>
    obtain ⟨callee, args, ts⟩ := c
    cases callee with
    | value f => rfl
    | _ => simp [isCall] at h
  | _ => simp [isCall] at h
theorem Trace.mem_of_wr (T : Trace P F lim ops sts fpf) {j id : Nat} {o : Oper} (ho : ops[j]? = some o) (hw : id ∈ (fpf j).wr) : memOp o.op = true := by
  obtain ⟨cl, fp, p⟩ := T.run j o ho
  have hw2 := p.sup id hw
  rcases aopS_inv p.run with ⟨-, -, h⟩ | ⟨-, e, -, -, hm, -, h⟩
  · rw [h] at hw2; simp at hw2
  · rw [h] at hw2
    rcases hm with hm | ⟨-, hm⟩
    · exact hm
    · rcases hw2 with hw2 | hw2
      · rw [hm] at hw2; simp at hw2
      · exact memOp_call hw2.1

/-- the listed ones -/
abbrev Dn (L : Array Bool) (j : Nat) : Prop := L.getD j false = true
def Closed (ops : Array Oper) (L : Array Bool) : Prop := ∀ j o e, Dn L j → ops[j]? = some o → e ∈ o.after → Region.binds .any e = true → Dn L e.on
/-- the listed ones that write a block are those ahead of k -/
def ConsM (ops : Array Oper) (fpf : Nat → Fp) (L : Array Bool) (id k : Nat) : Prop := ∀ j, j < ops.size → id ∈ (fpf j).wr → (Dn L j ↔ j < k)
def ConsT (ops : Array Oper) (L : Array Bool) (t k : Nat) : Prop := ∀ j o, ops[j]? = some o → o.dst = some t → (Dn L j ↔ j < k)

section
variable (T : Trace P F lim ops sts fpf) {L : Array Bool} (hc : Closed ops L) {i : Nat} {oi : Oper} (hi : ops[i]? = some oi) (hni : ¬ Dn L i)
  (hr : ∀ e ∈ oi.after, Region.binds .any e = true → Dn L e.on)
include T hc hi hni hr
/-- what the ready one touches is as it is when it comes in the text's order -/
theorem consM_ready {id : Nat} (hm : memOp oi.op = true) (ht : id ∈ (fpf i).rd ∨ id ∈ (fpf i).wr ∨ (fpf i).cl = true) : ConsM ops fpf L id i := by
  intro j hj hw
  have hoj : ops[j]? = some ops[j] := Array.getElem?_eq_getElem hj
  have hmj := T.mem_of_wr hoj hw
  rcases Nat.lt_trichotomy j i with h | h | h
  · refine ⟨fun _ => h, fun _ => ?_⟩
    cases hb : ((Region.before ops).getD i 0).testBit j with
    | true => exact before_down hc i oi hi hr hb
    | false =>
      obtain ⟨h1, -⟩ := apartB_spec ((T.apart j i _ _ h hoj hi hb).2 hmj hm)
      obtain ⟨h2, h3, h4⟩ := h1 id hw
      rcases ht with ht | ht | ht
      · exact absurd ht h2
      · exact absurd ht h3
      · rw [h4] at ht; cases ht
  · subst h
    exact ⟨fun h => absurd h hni, fun h => by omega⟩
  · refine ⟨fun hd => ?_, fun h => by omega⟩
    cases hb : ((Region.before ops).getD j 0).testBit i with
    | true => exact absurd (before_down hc j _ hoj (fun e h1 h2 => hc j _ e hd hoj h1 h2) hb) hni
    | false =>
      obtain ⟨-, h1⟩ := apartB_spec ((T.apart i j _ _ h hi hoj hb).2 hm hmj)
      obtain ⟨h2, h3, h4⟩ := h1 id hw
      rcases ht with ht | ht | ht
      · exact absurd ht h2
      · exact absurd ht h3
      · rw [h4] at ht; cases ht
theorem consT_ready {t : Tmp} (ht : t ∈ oi.looksAt ops) : ConsT ops L t i := by
  intro j oj hoj hd
  rcases Nat.lt_trichotomy j i with h | h | h
  · refine ⟨fun _ => h, fun _ => ?_⟩
    cases hb : ((Region.before ops).getD i 0).testBit j with
    | true => exact before_down hc i oi hi hr hb
    | false => exact absurd ht ((Oper.apart_spec (T.apart j i _ _ h hoj hi hb).1).1 t hd)
  · subst h
    exact ⟨fun h => absurd h hni, fun h => by omega⟩
  · refine ⟨fun hdn => ?_, fun h => by omega⟩
    cases hb : ((Region.before ops).getD j 0).testBit i with
    | true => exact absurd (before_down hc j _ hoj (fun e h1 h2 => hc j _ e hdn hoj h1 h2) hb) hni
    | false => exact absurd ht ((Oper.apart_spec (T.apart i j _ _ h hi hoj hb).1).2.2 t hd)
/-- who is listed behind the ready one writes nothing that it writes -/
theorem no_later_wr {j id : Nat} (hij : i < j) (hj : j < ops.size) (hd : Dn L j) (hw : id ∈ (fpf i).wr) : id ∉ (fpf j).wr := fun hw2 => by
  have := (consM_ready T hc hi hni hr (T.mem_of_wr hi hw) (.inr (.inl hw)) j hj hw2).1 hd
  omega
theorem no_later_dst {j : Nat} {oj : Oper} {t : Tmp} (hij : i < j) (hoj : ops[j]? = some oj) (hd : Dn L j) (hw : oi.dst = some t) : oj.dst ≠ some t := fun hw2 => by
  cases hb : ((Region.before ops).getD j 0).testBit i with
  | true => exact absurd (before_down hc j _ hoj (fun e h1 h2 => hc j _ e hd hoj h1 h2) hb) hni
  | false => exact absurd hw2 ((Oper.apart_spec (T.apart i j _ _ hij hi hoj hb).1).2.1 t hw)
end
end
end Go.Proofs.Ytcdedegjpfemmaa.Ce
