/- The evaluator of closed calls: an operation's step, calls of functions too. No program in sight. -/
import Derived.Test.YtcdedegjpfemmaaCt
namespace Go.Proofs.Ytcdedegjpfemmaa.Ce
open Go.RowKit
set_option linter.unusedVariables false
set_option linter.unusedSimpArgs false

section
variable {P : Program} {F : CallE} {φ : Mp} {h : Hp} {n : Nat} {w : World} {S : Nat} {e : Ef}

theorem goodF_some {g : FuncId} {x : Code × Nat × List ResultVar} (hg : goodF P g = some x) : ∃ fn, P.funcs[g]? = some fn ∧ (fn.name == "runtime.NumGoroutine") = false ∧ fn.body = some x.1 ∧ fn.ntmps = x.2.1 ∧ fn.results.toList = x.2.2 := by
  unfold goodF at hg
  cases hf : P.funcs[g]? with
  | none => rw [hf] at hg; cases hg
  | some fn =>
    rw [hf] at hg
    dsimp only at hg
    split at hg
    · rename_i hn
      obtain ⟨c, h1, h2⟩ := map_some hg
      subst h2
      exact ⟨fn, rfl, by simpa [bne] using hn, h1, rfl, rfl⟩
    · cases hg

theorem run_callFunc {g : FuncId} {x : Code × Nat × List ResultVar} (hg : goodF P g = some x) (args : Array Value) : (callFunc g args).run P w = .ok (.enter g args) w := by
  obtain ⟨fn, h1, h2, h3, -, -⟩ := goodF_some hg
  have hp : (program).run P w = .ok P w := rfl
  have h2' : ¬ fn.name = "runtime.NumGoroutine" := by simpa using h2
  simp [callFunc, hp, h1, h2', h3]

theorem callF_some {cl : Nat} {u : Value} {args : List Value} (he : callF P F cl u args h n = some e) :
    ∃ g first cap x v h' n', u = .func (.func g) first cap ∧ first.toList = [] ∧ goodF P g = some x ∧ F cl g (args ++ cap.toList) h n = some (v, h', n') ∧ e = ⟨v, h', n', [], []⟩ := by
  cases u with
  | func fn first cap =>
    cases fn with
    | func g =>
      unfold callF at he
      dsimp only at he
      cases hfst : first.toList with
      | cons y ys => rw [hfst] at he; cases he
      | nil =>
        rw [hfst] at he
        dsimp only at he
        cases hg : goodF P g with
        | none => rw [hg] at he; cases he
        | some x =>
          rw [hg, Option.bind_some] at he
          cases hr : F cl g (args ++ cap.toList) h n with
          | none => rw [hr] at he; cases he
          | some r =>
            rw [hr] at he
            injection he with he
            exact ⟨g, first, cap, x, r.1, r.2.1, r.2.2, rfl, hfst, hg, hr, he.symm⟩
    | _ => cases he
  | _ => cases he

/-- An operation's step. -/
theorem aop_wp (hF : SoundF P F) {lim cl : Nat} {o : Oper} {a : Act} {ρ : Operand → Value} {K : Act → World → Prop} {Q : Exit → Act → World → Prop}
    (he : aop o.op P F lim cl ρ h n = some e) (hcl : cl ≤ n) (hev : ∀ x ∈ o.op.operands, VC φ (ρ x) (a.eval x)) (ht : Tou P φ h w S e) (hmem : isCall o.op = true → MemR P φ h n w S)
    (hb : HB h n) (hfr : ∀ id, n ≤ id → φ id = none) (hS : S ≤ w.heap.size)
    (hK : ∀ v' w' φ', VC φ' e.v v' → PO P φ φ' h e.h n e.n (fun id => id ∈ e.wr ∨ isCall o.op = true ∧ cl ≤ id) w w' S → HB e.h e.n → K (a.put o.dst v') w') : o.wp P a w K Q := by
  unfold Oper.wp
  cases hc : isCall o.op with
  | false =>
    have hWr : (fun id => id ∈ e.wr ∨ isCall o.op = true ∧ cl ≤ id) = (· ∈ e.wr) := by funext id; simp [hc]
    rw [hWr] at hK
    obtain ⟨w', φ', h1, h2, h3⟩ := aop_ok (F := F) (lim := lim) (cl := cl) hc hev he ht hb (fun _ => hfr n (Nat.le_refl _)) hS
    rcases h1 with ⟨v', hr, hv⟩ | ⟨hr, hv⟩
    · rw [hr]; exact hK v' w' φ' hv h2 h3
    · rw [hr]; exact hK undef w' φ' (by rw [hv]; exact VC.undef_) h2 h3
  | true =>
    obtain ⟨dst, op, type, pos, after, guard⟩ := o
    simp only at hc hev he hmem hK ⊢
    cases op with
    | call c =>
      obtain ⟨callee, ⟨args⟩, ⟨ts⟩⟩ := c
      cases callee with
      | value f =>
        change callF P F cl (ρ f) (args.map ρ) h n = some e at he
        obtain ⟨g, first, cap, x, v, h', n', hf, hfst, hg, hr, he⟩ := callF_some he
        subst he
        have hvf := hev f (by simp [Op.operands, Call.operands])
        rw [hf] at hvf
        obtain ⟨a', b', hvf, hv1, hv2⟩ := hvf
        have ha' : a' = #[] := by
          rw [hfst] at hv1
          have := hv1.len
          simpa using this.symm
        subst ha'
        have hrun : (execOp a.eval { dst := dst, op := .call { callee := .value f, args := ⟨args⟩, argTypes := ⟨ts⟩ }, type := type, pos := pos, after := after, guard := guard }).run P w =
            .ok (.enter g ⟨args.map a.eval ++ b'.toList⟩) w := by
          have hcf := run_callFunc (w := w) hg (((⟨args⟩ : Array Operand).map a.eval) ++ b')
          simp [execOp, resolve, invoke, Deferred.ofValue, hvf]
          simp at hcf
          rw [hcf]
          simp
        have hargs : VL (VC φ) (args.map ρ ++ cap.toList) (args.map a.eval ++ b'.toList) := by
          refine VL.app (VL.map_ fun x hx => hev x (by simp [Op.operands, Call.operands]; exact .inr hx)) (hv2.imp_ fun _ _ hh => hh.vc)
        rw [hrun]
        rw [Oper.upon_enter]
        refine Calls.mono (hF cl g _ h n v h' n' hr (by rw [hg]; simp) hcl φ w S _ hargs (hmem rfl)) fun e w' hh => ?_
        obtain ⟨v', φ', rfl, h1, h2, h3⟩ := hh
        refine hK v' w' φ' h1 ?_ h3.hb
        have hWr : (fun id => id ∈ ([] : List Nat) ∨ true = true ∧ cl ≤ id) = fun id => cl ≤ id := by funext id; simp
        show PO P φ φ' h h' n n' (fun id => id ∈ ([] : List Nat) ∨ true = true ∧ cl ≤ id) w w' S
        rw [hWr]
        exact ⟨h2.ext, h2.fr, h2.keep, fun id g c _ hp => h3.obj id g c hp, h2.new, h2.injn, h2.dd, h2.un, h2.nle, h2.sz, h2.os, h2.tape, h2.output⟩
      | _ => simp [isCall] at hc
    | _ => simp [isCall] at hc
end
end Go.Proofs.Ytcdedegjpfemmaa.Ce
