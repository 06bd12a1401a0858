/- The evaluator of closed calls: regions in the text's order. No program in sight. -/
import Derived.Test.YtcdedegjpfemmaaCu
import Derived.Tactics
namespace Go.Proofs.Ytcdedegjpfemmaa.Ce
open Go.RowKit
set_option linter.unusedVariables false
set_option linter.unusedSimpArgs false

section
variable {P : Program} {F : CallE} {S : Nat}

theorem aopS_inv {lim cl : Nat} {ops : List Oper} {o : Oper} {st st' : St} {fp : Fp} (he : aopS P F lim cl ops o st = some (st', fp)) :
    (wants ops o st.a = some false ∧ st' = ⟨put st.a o.dst undef, st.h, st.n⟩ ∧ fp = ⟨[], [], false, st.n, st.n⟩) ∨
    (wants ops o st.a = some true ∧ ∃ e, aop o.op P F lim cl (lev st.a) st.h st.n = some e ∧ (∀ id ∈ e.wr, lim ≤ id) ∧ (memOp o.op = true ∨ e.rd = [] ∧ e.wr = []) ∧ st' = ⟨put st.a o.dst e.v, e.h, e.n⟩ ∧ fp = ⟨e.rd, e.wr, isCall o.op, st.n, e.n⟩) := by
  unfold aopS at he
  cases hw : wants ops o st.a with
  | none => rw [hw] at he; cases he
  | some b =>
    rw [hw] at he
    cases b with
    | false =>
      injection he with he
      injection he with h1 h2
      exact .inl ⟨rfl, h1.symm, h2.symm⟩
    | true =>
      change (aop o.op P F lim cl (lev st.a) st.h st.n).bind _ = some (st', fp) at he
      cases ha : aop o.op P F lim cl (lev st.a) st.h st.n with
      | none => rw [ha] at he; cases he
      | some e =>
        rw [ha, Option.bind_some] at he
        cases hl : (e.wr.all (Nat.ble lim) && (memOp o.op || (e.rd.isEmpty && e.wr.isEmpty))) with
        | false => rw [hl] at he; cases he
        | true =>
          rw [hl] at he
          simp only [fV_eq, fN_eq] at he
          injection he with he
          injection he with h1 h2
          simp only [Bool.and_eq_true, Bool.or_eq_true, List.isEmpty_iff] at hl
          refine .inr ⟨rfl, e, rfl, fun id hid => ?_, hl.2, h1.symm, h2.symm⟩
          have := List.all_eq_true.1 hl.1 id hid
          rwa [Nat.ble_eq] at this

theorem put_defers (a : Act) (d : Option Tmp) (v : Value) : (a.put d v).defers = a.defers := by cases d <;> rfl

/-- the first operations of a region -/
theorem aops_okL (hF : SoundF P F) {lim : Nat} {ops : Array Oper} {more : List Oper} {Q : Exit → Act → World → Prop} : ∀ (l : List Oper) {st st' : St} {φ : Mp} {a : Act} {w : World},
    aops P F lim lim ops.toList l st = some st' → lim ≤ st.n → TR φ st.a a.tmps → MemR P φ st.h st.n w S →
    (∀ a' w' φ', a'.defers = a.defers → TR φ' st'.a a'.tmps → Fr φ φ' st.h st'.h st.n st'.n (fun id => lim ≤ id) w w' → MemR P φ' st'.h st'.n w' S → wpList P ops Q more a' w') → wpList P ops Q (l ++ more) a w := by
  intro l
  induction l with
  | nil =>
    intro st st' φ a w he hl ht m hQ
    injection he with he
    subst he
    exact hQ a w φ rfl ht (Fr.refl _ _ _ _) m
  | cons o rest ih =>
    intro st st' φ a w he hl ht m hQ
    change (aopS P F lim lim ops.toList o st).bind (fun r => aops P F lim lim ops.toList rest r.1) = some st' at he
    cases hs : aopS P F lim lim ops.toList o st with
    | none => rw [hs] at he; cases he
    | some r =>
      obtain ⟨st1, fp⟩ := r
      rw [hs, Option.bind_some] at he
      show wpList P ops Q (o :: (rest ++ more)) a w
      unfold wpList
      rcases aopS_inv hs with ⟨hw, rfl, rfl⟩ | ⟨hw, e, hop, hwr, -, rfl, rfl⟩
      · rw [ht.wants hw]
        simp only [Bool.false_eq_true, if_false]
        exact ih he hl (ht.put o.dst VC.undef_) m fun a' w' φ' h1 => hQ a' w' φ' (h1.trans (put_defers _ _ _))
      · rw [ht.wants hw]
        simp only [if_true]
        refine .inl (aop_wp hF hop hl (fun x _ => ht.lev x) m.tou (fun _ => m) m.hb m.fn m.hS fun v' w1 φ1 hv p hb1 => ?_)
        have f1 := p.toFr.weaken (Wr' := fun id => lim ≤ id) fun id _ h2 => h2.elim (hwr id) fun h3 => h3.2
        have m1 := m.po p hb1
        refine ih he (Nat.le_trans hl p.nle) ((ht.mono (f1.le m.fn)).put o.dst hv) m1 fun a' w' φ' h1 h2 h3 h4 => ?_
        exact hQ a' w' φ' (h1.trans (put_defers _ _ _)) h2 (f1.trans h3 (fun _ _ h => h) m1) h4

theorem aops_ok (hF : SoundF P F) {lim : Nat} {ops : Array Oper} {Q : Exit → Act → World → Prop} (l : List Oper) {st st' : St} {φ : Mp} {a : Act} {w : World}
    (he : aops P F lim lim ops.toList l st = some st') (hl : lim ≤ st.n) (ht : TR φ st.a a.tmps) (m : MemR P φ st.h st.n w S)
    (hQ : ∀ a' w' φ', a'.defers = a.defers → TR φ' st'.a a'.tmps → Fr φ φ' st.h st'.h st.n st'.n (fun id => lim ≤ id) w w' → MemR P φ' st'.h st'.n w' S → Q .normal a' w') : wpList P ops Q l a w := by
  have := aops_okL (more := []) (Q := Q) hF l he hl ht m fun a' w' φ' h1 h2 h3 h4 => hQ a' w' φ' h1 h2 h3 h4
  rwa [List.append_nil] at this

/-- a region in the text's order -/
theorem region_seq (hF : SoundF P F) {lim id : Nat} {ops : Array Oper} {st : St} {r : Ex × St} {φ : Mp} {a : Act} {w : World} {Q : Exit → Act → World → Prop}
    (he : cRegion P F lim ops false st = some r) (hl : lim ≤ st.n) (ht : TR φ st.a a.tmps) (m : MemR P φ st.h st.n w S)
    (hQ : ∀ a' w' φ', r.1 = 0 → a'.defers = a.defers → TR φ' r.2.a a'.tmps → Fr φ φ' st.h r.2.h st.n r.2.n (fun id => lim ≤ id) w w' → MemR P φ' r.2.h r.2.n w' S → Q .normal a' w') : (Code.region id ops false).wp P Q a w := by
  change (aops P F lim lim ops.toList ops.toList st).bind (fun r => some (0, r)) = some r at he
  cases hs : aops P F lim lim ops.toList ops.toList st with
  | none => rw [hs] at he; cases he
  | some st' =>
    rw [hs] at he
    injection he with he
    subst he
    exact wp_region_list (aops_ok hF ops.toList hs hl ht m fun a' w' φ' h1 h2 h3 h4 => hQ a' w' φ' rfl h1 h2 h3 h4)
end
end Go.Proofs.Ytcdedegjpfemmaa.Ce
