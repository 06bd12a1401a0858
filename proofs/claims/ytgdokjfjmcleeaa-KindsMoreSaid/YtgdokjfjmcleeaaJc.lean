/- What a type reaches, in plain Lean. -/
import Derived.Test.YtgdokjfjmcleeaaJb
namespace Go.Proofs.Ytgdokjfjmcleeaa.Ce
open Go.RowKit
set_option linter.unusedVariables false
set_option linter.unusedSimpArgs false
set_option maxHeartbeats 1000000

/-- type i of a table reaches a type -/
inductive Rch (T : List Tp) (far : Bool) (i : Nat) : Nat → Prop
  | refl : Rch T far i i
  | step {x y : Nat} (hr : Rch T far i x) (hx : x < T.length) (hy : (y : Int) ∈ leadsT far T[x]) : Rch T far i y
open Classical in
/-- the row of what a type reaches -/
noncomputable def rchF (T : List Tp) (far : Bool) (i : Nat) : List Bool := (List.range T.length).map fun x => decide (Rch T far i x)
theorem rchF_length (T : List Tp) (far : Bool) (i : Nat) : (rchF T far i).length = T.length := by unfold rchF; rw [List.length_map, List.length_range]
theorem rchF_get {T : List Tp} {far : Bool} {i x : Nat} (hx : x < T.length) : (rchF T far i)[x]? = some true ↔ Rch T far i x := by
  unfold rchF
  rw [List.getElem?_map, List.getElem?_range hx, Option.map_some]
  simp
theorem Rch.lt {T : List Tp} {far : Bool} {i x : Nat} (hF : Fine T) (hi : i < T.length) (h : Rch T far i x) : x < T.length := by
  induction h with
  | refl => exact hi
  | step hr hx hy ih =>
    have := leadsT_in (hF _ hx) (by omega) _ hy
    omega
theorem Rch.trans {T : List Tp} {far : Bool} {i x y : Nat} (h : Rch T far i x) (h2 : Rch T far x y) : Rch T far i y := by
  induction h2 with
  | refl => exact h
  | step hr hx hy ih => exact .step ih hx hy
/-- a closed set that is reached is all that is reached -/
theorem rchF_eq {T : List Tp} {far : Bool} {i : Nat} {F : List Bool} (hF : Fine T) (hi : i < T.length) (hl : F.length = T.length) (h0 : F[i]? = some true) (h1 : ∀ x, x < T.length → F[x]? = some true → Rch T far i x)
    (h2 : ∀ x (hx : x < T.length), F[x]? = some true → ∀ y : Nat, (y : Int) ∈ leadsT far T[x] → F[y]? = some true) : F = rchF T far i := by
  refine List.ext_getElem? fun x => ?_
  by_cases hx : x < T.length
  · have key : F[x]? = some true ↔ (rchF T far i)[x]? = some true := by
      rw [rchF_get hx]
      refine ⟨h1 x hx, fun hr => ?_⟩
      clear hx
      induction hr with
      | refl => exact h0
      | step hr hx hy ih => exact h2 _ hx ih _ hy
    rw [List.getElem?_eq_getElem (by omega), List.getElem?_eq_getElem (by rw [rchF_length]; exact hx)] at key ⊢
    cases hb : F[x]'(by omega) <;> cases hc : (rchF T far i)[x]'(by rw [rchF_length]; exact hx) <;> simp_all
  · rw [List.getElem?_eq_none (by omega), List.getElem?_eq_none (by rw [rchF_length]; omega)]
/-- the types on a list under way -/
def cn (l : List Nat) : List Int := l.map fun (x : Nat) => (x : Int)
theorem cn_length (l : List Nat) : (cn l).length = l.length := by simp [cn]
theorem cn_app (l l' : List Nat) : cn (l ++ l') = cn l ++ cn l' := by simp [cn]
/-- a list under way whose row may be longer -/
def OwnS (ops : List Nat) (O : Value) (h : Hp) (lo n : Nat) : Prop :=
  ∃ id cs, lo ≤ id ∧ id < n ∧ O = .slice (some ⟨id, 0, none⟩) ops.length ops.length ∧ rowOf h id = some (3, false, cs) ∧ ops.length ≤ cs.length ∧ cs.take ops.length = iv (cn ops)
theorem RdH.kill {h : Hp} {B id : Nat} {A : Option Addr} {vs : List Value} (hr : RdH h B A vs) (hb : ∀ b o, A = some ⟨b, o, none⟩ → b ≠ id) (x : AObj) : RdH (h.set id x) B A vs := by
  refine ⟨hr.1, ?_⟩
  rcases hr.2 with e | ⟨i, off, e, hc⟩
  · exact .inl e
  · exact .inr ⟨i, off, e, fun k v hk => by rw [cellAt_ne _ _ _ (hb i off e)]; exact hc k v hk⟩
/-- numbers that can be read -/
def IntsR (l : List Int) (h : Hp) (n : Nat) (v : Value) (h' : Hp) (n' : Nat) : Prop :=
  ∃ LA c, v = .slice LA l.length c ∧ RdH h' n' LA (iv l) ∧ (∀ b o, LA = some ⟨b, o, none⟩ → b = n) ∧ n ≤ n' ∧ ∀ b, b < n → h'.get b = h.get b
theorem IntsV.rd {l : List Int} {h h' : Hp} {n n' : Nat} {v : Value} (hh : IntsV l h n v h' n') : IntsR l h n v h' n' := by
  rcases hh with ⟨rfl, rfl, rfl, rfl⟩ | ⟨-, rfl, rfl, rfl⟩
  · exact ⟨none, 0, rfl, RdH.nil, fun b o e => (by cases e), Nat.le_refl _, fun _ _ => rfl⟩
  · exact ⟨some ⟨n, 0, none⟩, _, rfl, RdH.row (by omega), fun b o e => (by injection e with e; injection e with e1; omega), by omega, fun b hb => Hp.get_ne _ _ (by omega)⟩
theorem rowOf_keep {h h' : Hp} {b : Nat} (e : h'.get b = h.get b) : rowOf h' b = rowOf h b := by unfold rowOf; rw [e]
theorem RdH.keep {h h' : Hp} {B n : Nat} {A : Option Addr} {vs : List Value} (hr : RdH h B A vs) (hB : B ≤ n) (hk : ∀ b, b < n → h'.get b = h.get b) : RdH h' B A vs := by
  refine ⟨hr.1, ?_⟩
  rcases hr.2 with e | ⟨i, off, e, hc⟩
  · exact .inl e
  · have hi := hr.1 i off e
    exact .inr ⟨i, off, e, fun k v hkv => by rw [show cellAt h' i (off + k) = cellAt h i (off + k) from by unfold cellAt; rw [rowOf_keep (hk i (by omega))]]; exact hc k v hkv⟩
theorem TabH.keep {h h' : Hp} {B n : Nat} {A : Option Addr} {T : List Tp} (hT : TabH h B A T) (hB : B ≤ n) (hk : ∀ b, b < n → h'.get b = h.get b) : TabH h' B A T := ⟨hT.rd.keep hB hk, fun t ht => (hT.fd t ht).keep hB hk, hT.nl, hT.bd⟩
end Go.Proofs.Ytgdokjfjmcleeaa.Ce
