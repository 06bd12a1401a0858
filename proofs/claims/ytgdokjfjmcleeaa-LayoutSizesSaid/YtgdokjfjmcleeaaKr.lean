/- Memory that is handed in, behind writes. No program in sight. -/
import Derived.Test.YtgdokjfjmcleeaaSn
namespace Go.Proofs.Ytgdokjfjmcleeaa.Ce
open Go.RowKit
set_option linter.unusedVariables false
set_option linter.unusedSimpArgs false
theorem RdH.at_ {h : Hp} {B : Nat} {A : Option Addr} {vs : List Value} (hr : RdH h B A vs) (hl : 0 < vs.length) : ∃ id off, A = some ⟨id, off, none⟩ ∧ id < B ∧ ∀ k v, vs[k]? = some v → cellAt h id (off + k) = some v := by
  rcases hr.2 with e | ⟨id, off, e, hc⟩
  · rw [e] at hl; simp at hl
  · exact ⟨id, off, e, hr.1 id off e, hc⟩
theorem RdH.set {h : Hp} {B id : Nat} {A : Option Addr} {vs : List Value} (hr : RdH h B A vs) (hB : B ≤ id) (x : AObj) : RdH (h.set id x) B A vs := by
  refine ⟨hr.1, ?_⟩
  rcases hr.2 with e | ⟨i, off, e, hc⟩
  · exact .inl e
  · have := hr.1 i off e
    exact .inr ⟨i, off, e, fun k v hk => by rw [cellAt_ne _ _ _ (by omega)]; exact hc k v hk⟩
theorem RdH.more {h : Hp} {B B' : Nat} {A : Option Addr} {vs : List Value} (hr : RdH h B A vs) (hB : B ≤ B') : RdH h B' A vs := ⟨fun id j e => Nat.lt_of_lt_of_le (hr.1 id j e) hB, hr.2⟩
theorem RdH.row {h : Hp} {B id e : Nat} {ro : Bool} {vs : List Value} (hB : id < B) : RdH (h.set id (.row e ro vs)) B (some ⟨id, 0, none⟩) vs :=
  ⟨fun i j e => by injection e with e; injection e with e1; omega, .inr ⟨id, 0, rfl, fun k v hk => by rw [cellAt_same, lget_eq, Nat.zero_add]; exact hk⟩⟩
theorem RdH.nil {h : Hp} {B : Nat} : RdH h B none [] := ⟨fun _ _ h => (by cases h), .inl rfl⟩
theorem RdH.ne {h : Hp} {B id i off : Nat} {vs : List Value} (hr : RdH h B (some ⟨i, off, none⟩) vs) (hi : i ≠ id) (x : AObj) : RdH (h.set id x) B (some ⟨i, off, none⟩) vs := by
  refine ⟨hr.1, ?_⟩
  rcases hr.2 with e | ⟨i', off', e, hc⟩
  · exact .inl e
  · injection e with e
    injection e with e1 e2
    subst e1; subst e2
    exact .inr ⟨i, off, rfl, fun k v hk => by rw [cellAt_ne _ _ _ hi]; exact hc k v hk⟩
theorem RdH.ofRow {h : Hp} {B id e : Nat} {ro : Bool} {vs : List Value} (hr : rowOf h id = some (e, ro, vs)) (hB : id < B) : RdH h B (some ⟨id, 0, none⟩) vs :=
  ⟨fun i j e => by injection e with e; injection e with e1; omega, .inr ⟨id, 0, rfl, fun k v hk => by rw [cellAt_row hr, Nat.zero_add, lget_eq]; exact hk⟩⟩
section
variable {P : Program} {F : CallE} {lim : Nat} {ops l : List Oper} {f : Fm} {h : Hp} {n : Nat} {dst : Option Tmp} {ty : TypeId} {pos : String} {af : Array Edge} {KO : Fm → Hp → Nat → Prop} {Φ : Value → Hp → Nat → Prop}
theorem o_callV {gd : Option (Nat × Bool)} {x : Operand} {args : List Operand} {ts : Array TypeId} {g : FuncId} {vs : List Value} (hw : wantsF ops gd f = some true) (hx : lv f x = .func (.func g) ⟨[]⟩ ⟨[]⟩) (ha : args.map (lv f) = vs)
    (hs : Sp P F lim g vs h n Φ) (hk : ∀ v h' n', Φ v h' n' → XO P F lim ops l (fput f dst v) h' n' KO) : XO P F lim ops (⟨dst, .call ⟨.value x, args.toArray, ts⟩, ty, pos, af, gd⟩ :: l) f h n KO :=
  o_call (g := g) (cap := ⟨[]⟩) hw hx (by simp [ha]) hs hk
end
end Go.Proofs.Ytgdokjfjmcleeaa.Ce
