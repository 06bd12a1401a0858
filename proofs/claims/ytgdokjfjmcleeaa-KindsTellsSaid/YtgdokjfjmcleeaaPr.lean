/- Structs are compared by ==: what the evaluator says. No program in sight. Structs are compared by ==, field by field. -/
import Derived.Test.YtgdokjfjmcleeaaTy
import Derived.Laws.StructEq
namespace Go.Proofs.Ytgdokjfjmcleeaa.Ce
open Go.RowKit
set_option linter.unusedVariables false
set_option linter.unusedSimpArgs false
set_option maxRecDepth 100000

theorem prun_bd {P : Program} {α β : Type} (x : Sem α) (f : α → Sem β) : prun P (x >>= f) = (prun P x).bind fun a => prun P (f a) := by
  show prun P (Sem.bind x f) = _
  induction x with
  | pure a => rfl
  | program k ih => exact ih P
  | mark m k ih => exact ih
  | _ => rfl
theorem prun_pu {P : Program} {α : Type} (a : α) : prun P (pure a : Sem α) = some a := rfl
theorem prun_prog {P : Program} : prun P program = some P := rfl
theorem prun_under {P : Program} {t : TypeId} {d : TypeDesc} (h : P.underlying t = some d) : prun P (underlying t) = some d := by
  unfold underlying
  rw [prun_bd]
  show prun P (match P.underlying t with | some d => pure d | none => _) = _
  rw [h]
  rfl
theorem prun_int {P : Program} {d : Nat} {t : TypeId} {k k' : IntKind} {a b : Int} (h : P.underlying t = some (.int k')) : prun P (Op.equalIn (d + 1) t (.int k a) (.int k b)) = some (a == b) := by
  simp only [Op.equalIn, prun_bd, prun_under h, Option.bind_some, if_true, prun_pu]
theorem prun_bool {P : Program} {d : Nat} {t : TypeId} {a b : Bool} (h : P.underlying t = some .bool) : prun P (Op.equalIn (d + 1) t (.bool a) (.bool b)) = some (a == b) := by
  simp only [Op.equalIn, prun_bd, prun_under h, Option.bind_some, prun_pu]
theorem prun_struct {P : Program} (d : Nat) (t : TypeId) (fs : Array Field) (xs ys : Array Value) (ht : P.underlying t = some (.struct fs)) (hp : P.stoodInHeld t = false) :
    prun P (Op.equalIn (d + 1) t (.agg xs) (.agg ys)) = prun P (Op.eqFields d xs ys fs.toList) := by
  simp only [Op.equalIn, prun_bd, prun_under ht, prun_prog, Option.bind_some, hp, Bool.false_eq_true, if_false]
  rw [← Array.forIn_toList]
  generalize fs.toList = l
  clear ht
  induction l with
  | nil => simp [Op.eqFields, prun_pu]
  | cons f l ih =>
    simp only [List.forIn_cons, Op.eqFields, prun_bd]
    split
    · simp only [prun_bd]
      cases prun P (part f.type xs f.offset) with
      | none => rfl
      | some a =>
        simp only [Option.bind_some]
        cases prun P (part f.type ys f.offset) with
        | none => rfl
        | some b =>
          simp only [Option.bind_some]
          cases prun P (Op.equalIn d f.type a b) with
          | none => rfl
          | some r =>
            cases r
            · simp [prun_pu]
            · simp only [Option.bind_some, Bool.not_true, Bool.false_eq_true, if_false, prun_pu]
              exact ih
    · simp only [prun_pu, Option.bind_some]
      exact ih
end Go.Proofs.Ytgdokjfjmcleeaa.Ce
namespace Go.Proofs.Ytgdokjfjmcleeaa.Ce
open Go.RowKit
set_option linter.unusedVariables false
set_option linter.unusedSimpArgs false
set_option maxRecDepth 100000

theorem eqF_nil {P : Program} {d : Nat} {xs ys : Array Value} : prun P (Op.eqFields d xs ys []) = some true := rfl
theorem eqF_cons {P : Program} {d : Nat} {xs ys : Array Value} {f : Field} {l : List Field} {x y : Value} {r r' : Bool} (hn : f.name ≠ "_") (hx : prun P (part f.type xs f.offset) = some x) (hy : prun P (part f.type ys f.offset) = some y)
    (he : prun P (Op.equalIn d f.type x y) = some r) (ht : prun P (Op.eqFields d xs ys l) = some r') : prun P (Op.eqFields d xs ys (f :: l)) = some (r && r') := by
  simp only [Op.eqFields]
  rw [if_pos hn]
  simp only [prun_bd, hx, hy, he, Option.bind_some]
  cases r
  · rfl
  · simpa using ht
theorem abin_agg {P : Program} {t : TypeId} {xs ys : Array Value} : abin P .eql t (.agg xs) (.agg ys) = if (P.eqGuardType P.depth t || !(scal (.agg xs) && scal (.agg ys))) = true then none else (prun P (Op.equal t (.agg xs) (.agg ys))).map .bool := rfl
end Go.Proofs.Ytgdokjfjmcleeaa.Ce
