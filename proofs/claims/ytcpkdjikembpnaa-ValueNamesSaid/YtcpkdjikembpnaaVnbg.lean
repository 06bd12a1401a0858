/- Parts of the proof of ValueNames: Cn2. No condition of its own. -/
import Derived.Test.YtcpkdjikembpnaaVnag
set_option linter.unusedVariables false
set_option linter.unusedSimpArgs false
set_option maxRecDepth 1000000
set_option maxHeartbeats 4000000
namespace Go.Proofs.Ytcpkdjikembpnaa.Ce
open Go.RowKit
def opsR : Code → List Oper
  | .region _ o _ => o.toList
  | _ => []
def idR : Code → Nat
  | .region i _ _ => i
  | _ => 0
def callO (o : Oper) : Option Call := match o.op with
  | .call c => some c
  | _ => none
section
variable {P : Program} {F G : CallE} {k lim cl : Nat}
theorem aops_app (ops : List Oper) : ∀ (l m : List Oper) (st s1 s2 : St), aops P F lim cl ops l st = some s1 → aops P F lim cl ops m s1 = some s2 → aops P F lim cl ops (l ++ m) st = some s2
  | [], m, st, s1, s2, h1, h2 => by
    have h1' : (some st : Option St) = some s1 := h1
    injection h1' with h1'
    subst h1'
    exact h2
  | o :: l, m, st, s1, s2, h1, h2 => by
    change (aopS P F lim cl ops o st).bind (fun r => aops P F lim cl ops l r.1) = some s1 at h1
    obtain ⟨r, h3, h4⟩ := bind_some h1
    show (aopS P F lim cl ops o st).bind (fun r => aops P F lim cl ops (l ++ m) r.1) = some s2
    rw [h3]
    exact aops_app ops l m r.1 s1 s2 h4 h2
theorem aops_one {ops : List Oper} {o : Oper} {st s1 : St} {fp : Fp} (h : aopS P F lim cl ops o st = some (s1, fp)) : aops P F lim cl ops [o] st = some s1 := by
  show (aopS P F lim cl ops o st).bind (fun r => some r.1) = some s1
  rw [h]
  rfl
theorem aopS_call {ops : List Oper} {o : Oper} {st : St} {c : Call} {x : Operand} {g : FuncId} {av : List Value} (ho : o.op = .call c) (hc : c.callee = .value x) (hx : lev st.a x = .func (.func g) ⟨[]⟩ ⟨[]⟩) (ha : c.args.toList.map (lev st.a) = av) (h : F cl g av st.h st.n = G cl g av st.h st.n) :
    aopS P F lim cl ops o st = aopS P G lim cl ops o st := by
  obtain ⟨callee, args, tys⟩ := c
  subst hc
  have e : aop o.op P F lim cl (lev st.a) st.h st.n = aop o.op P G lim cl (lev st.a) st.h st.n := by
    rw [ho]
    show callF P F cl (lev st.a x) (args.toList.map (lev st.a)) st.h st.n = callF P G cl (lev st.a x) (args.toList.map (lev st.a)) st.h st.n
    rw [hx, ha]
    simp only [callF, List.append_nil, h]
  unfold aopS
  rw [e]
theorem region_call {ops l1 l2 : List Oper} {o : Oper} {st sA sB sC : St} (hj : l1 ++ ([o] ++ l2) = ops) (hA : aops P F lim cl ops l1 st = some sA) (hs : aopS P F lim cl ops o sA = aopS P G lim cl ops o sA) (hB : (aopS P G lim cl ops o sA).map (·.1) = some sB) (hC : aops P F lim cl ops l2 sB = some sC) :
    aops P F lim cl ops ops st = some sC := by
  rw [← hs] at hB
  cases hr : aopS P F lim cl ops o sA with
  | none => rw [hr] at hB; cases hB
  | some r =>
    rw [hr] at hB
    injection hB with hB
    obtain ⟨a, b⟩ := r
    change a = sB at hB
    subst hB
    have h2 := aops_app ops _ _ _ _ _ hA (aops_app ops _ _ _ _ _ (aops_one hr) hC)
    rw [hj] at h2
    exact h2
theorem region_cut {id : Nat} {ops : Array Oper} {st s1 : St} (h : aops P F lim lim ops.toList ops.toList st = some s1) : acode P F k lim (.region id ops false) st = some (0, s1) := by
  show (aops P F lim lim ops.toList ops.toList st).bind (fun r => some (0, r)) = some (0, s1)
  rw [h]
  rfl
theorem call_cut {W : FuncId → Bool} {f : FuncId} {args : List Value} {h : Hp} {n : Nat} {c : Code} {nt : Nat} {rs : List ResultVar} {ex : Nat} {st0 st : St} {v : Value} {r : Value × Hp × Nat} (hg : goodF P f = some (c, nt, rs)) (hW : W f = false) (hd : dform c = none)
    (h0 : (⟨args ++ List.replicate (nt - args.length) undef, h, n⟩ : St) = st0) (he : acode P F k n c st0 = some (ex, st)) (hx : Nat.ble ex 1 = true) (hr : aresults P st.h rs st.a = some v) (ht : sweep h n (v, st.h, st.n) = r) :
    afunc P F W k cl f args h n = some r := by
  subst h0
  have h1 : arun P F k n f args h n = some (v, st.h, st.n) := by
    unfold arun
    rw [hg]
    dsimp only [Option.bind_some]
    rw [hd]
    show arun1 P F k n (c, nt, rs) args h n = _
    unfold arun1
    dsimp only
    rw [he]
    dsimp only [Option.bind_some]
    rw [hx, hr]
    rfl
  unfold afunc
  rw [hW, h1]
  show some (sweep h n (v, st.h, st.n)) = some r
  rw [ht]
end
end Go.Proofs.Ytcpkdjikembpnaa.Ce
