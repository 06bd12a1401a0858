/- A closed call, evaluated in parts: lemmas. No program in sight. -/
import Derived.Test.YtgdokjfjmcleeaaCn
namespace Go.Proofs.Ytgdokjfjmcleeaa.Ce
open Go.RowKit
set_option linter.unusedVariables false
set_option linter.unusedSimpArgs false

/-- the first pieces of a code -/
def tk : Nat → Code → Code
  | n + 1, .seq x y => .seq x (tk n y)
  | _, _ => .skip
/-- the pieces behind -/
def dr : Nat → Code → Code
  | n + 1, .seq x y => dr n y
  | _, c => c
def bodyOf (P : Program) (f : FuncId) : Code := match P.funcs[f]? with
  | some fn => fn.body.getD .skip
  | none => .skip
def ntOf (P : Program) (f : FuncId) : Nat := match P.funcs[f]? with
  | some fn => fn.ntmps
  | none => 0

section
variable {P : Program} {F : CallE} {k lim : Nat}
theorem cut_at (n : Nat) : ∀ {c : Code} {st st1 : St} {r : Option (Ex × St)}, acode P F k lim (tk n c) st = some (0, st1) → acode P F k lim (dr n c) st1 = r → acode P F k lim c st = r := by
  induction n with
  | zero =>
    intro c st st1 r h1 h2
    have e : st = st1 := by
      have h1' : (some (0, st) : Option (Ex × St)) = some (0, st1) := h1
      injection h1' with h1'
      injection h1'
    subst e
    exact h2
  | succ n ih =>
    intro c st st1 r h1 h2
    cases c with
    | seq x y =>
      change (acode P F k lim x st).bind (fun r => bif Nat.beq r.1 0 then acode P F k lim (tk n y) r.2 else some r) = some (0, st1) at h1
      show (acode P F k lim x st).bind (fun r => bif Nat.beq r.1 0 then acode P F k lim y r.2 else some r) = r
      obtain ⟨r1, h3, h4⟩ := bind_some h1
      rw [h3]
      dsimp only [Option.bind_some]
      cases hb : Nat.beq r1.1 0 with
      | true =>
        rw [hb] at h4
        exact ih h4 h2
      | false =>
        rw [hb] at h4
        injection h4 with h4
        rw [h4] at hb
        cases hb
    | _ =>
      have e : st = st1 := by
        have h1' : (some (0, st) : Option (Ex × St)) = some (0, st1) := h1
        injection h1' with h1'
        injection h1'
      subst e
      exact h2
theorem cut_law {W : FuncId → Bool} {d : Nat} {f : FuncId} {c : Code} {nt : Nat} {rs : List ResultVar} {ex : Nat} {st0 st : St} {v : Value} (hg : goodF P f = some (c, nt, rs)) (hW : W f = false) (hd : dform c = none)
    (h0 : (⟨List.replicate nt undef, [], 0⟩ : St) = st0) (he : acode P (acall P W k d) k 0 c st0 = some (ex, st)) (hx : Nat.ble ex 1 = true) (hr : aresults P st.h rs st.a = some v) (ht : isTrue (some (sweep [] 0 (v, st.h, st.n))) = true) :
    isTrue (acall P W k (d + 1) 0 f [] [] 0) = true := by
  subst h0
  have h1 : arun P (acall P W k d) k 0 f [] [] 0 = some (v, st.h, st.n) := by
    unfold arun
    rw [hg]
    dsimp only [Option.bind_some]
    rw [hd]
    show arun1 P (acall P W k d) k 0 (c, nt, rs) [] [] 0 = _
    unfold arun1
    dsimp only
    rw [show ([] ++ List.replicate (nt - List.length ([] : List Value)) undef : List Value) = List.replicate nt undef from by simp, he]
    dsimp only [Option.bind_some]
    rw [hx, hr]
    rfl
  show isTrue (afunc P (acall P W k d) W k 0 f [] [] 0) = true
  unfold afunc
  rw [hW, h1]
  exact ht
end
end Go.Proofs.Ytgdokjfjmcleeaa.Ce
