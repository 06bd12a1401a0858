/- A law's own call without arguments: evaluated on a heap of its own. No program in sight. -/
import Derived.Test.YtcdedegjpfemmaaSm
namespace Go.Proofs.Ytcdedegjpfemmaa.Ce
open Go.RowKit
set_option linter.unusedVariables false
set_option linter.unusedSimpArgs false

/-- a call without arguments that is true -/
noncomputable def shut (F : CallE) : CallE := fun cl g as h n => match as with
  | [] => match F 0 g [] [] 0 with
    | some (.bool b, _) => some (.bool b, h, n)
    | _ => F cl g [] h n
  | a :: l => F cl g (a :: l) h n

section
variable {P : Program} {F : CallE}
theorem empty_get (id : Nat) : Hp.get ([] : Hp) id = none := by unfold Hp.get; rw [lget_eq]; simp
theorem shut_sound (hF : SoundF P F) : SoundF P (shut F) := by
  intro cl g as h n v h' n' he hg hcl φ w S cargs hv m
  cases as with
  | cons a l => exact hF cl g (a :: l) h n v h' n' he hg hcl φ w S cargs hv m
  | nil =>
    unfold shut at he
    dsimp only at he
    split at he
    · rename_i b r hr
      obtain ⟨h0, n0⟩ := r
      injection he with he
      injection he with e1 he
      injection he with e2 e3
      subst e1; subst e2; subst e3
      have hca : cargs = [] := by
        cases cargs with
        | nil => rfl
        | cons _ _ => exact hv.elim
      subst hca
      refine Calls.mono (hF 0 g [] [] 0 _ h0 n0 hr hg (Nat.le_refl _) (fun _ => none) w w.heap.size [] trivial ⟨fun _ _ => rfl, fun id g c hp => (by cases hp), fun id id' g c c' _ hp => (by cases hp), fun id _ => empty_get id, Nat.le_refl _⟩) fun e w' hh => ?_
      obtain ⟨v', φ', rfl, h1, f, m0⟩ := hh
      obtain rfl := h1.bool
      have hold : ∀ g, g < w.heap.size → w'.heap[g]? = w.heap[g]? := fun g hg => f.fr g hg fun id c h2 => by omega
      have fr : Fr φ φ h h n n (fun id => cl ≤ id) w w' := ⟨fun _ _ => rfl, fun g hg _ => hold g hg, fun _ _ _ => rfl, fun id g c h1 h2 => by omega, fun id id' g c c' h1 h2 => by omega, fun _ _ hd => hd, fun _ _ _ => rfl, Nat.le_refl _, f.sz, f.os, f.tape, f.output⟩
      refine ⟨_, φ, rfl, VB.vc (VA.vb (VA.flat rfl)), fr, m.step fr m.hb fun id g c _ hp => ?_⟩
      obtain ⟨o1, o2, o3⟩ := m.obj id g c hp
      exact ⟨o1.mono (le_.refl _) (hold g o3), o2, Nat.lt_of_lt_of_le o3 f.sz⟩
    · exact hF cl g [] h n v h' n' he hg hcl φ w S cargs hv m
theorem shut_stat (hF : StatF F) : StatF (shut F) := by
  intro cl g as h n v h' n' he hcl hb
  cases as with
  | cons a l => exact hF cl g (a :: l) h n v h' n' he hcl hb
  | nil =>
    unfold shut at he
    dsimp only at he
    split at he
    · injection he with he
      injection he with e1 he
      injection he with e2 e3
      subst e1; subst e2; subst e3
      exact Stat.same hb
    · exact hF cl g [] h n v h' n' he hcl hb

variable {cl : Nat} {g : FuncId} {as : List Value} {h : Hp} {n k d : Nat} {W : FuncId → Bool} {Φ : Value → Hp → Nat → Prop} {fn : Func} {c : Code}
theorem Sp.shut {a : Value} {l : List Value} (hs : Sp P F cl g (a :: l) h n Φ) : Sp P (shut F) cl g (a :: l) h n Φ := hs
/-- alive, by the kernel -/
theorem Sp.alive (hg : (goodF P g).isSome = true) (he : isTrue (F 0 g [] [] 0) = true) : Sp P (Ce.shut F) cl g [] h n fun v h' n' => v = .bool true ∧ h' = h ∧ n' = n := by
  refine ⟨hg, .bool true, h, n, ?_, rfl, rfl, rfl⟩
  unfold Ce.shut
  dsimp only
  cases hr : F 0 g [] [] 0 with
  | none => rw [hr] at he; cases he
  | some r =>
    rw [hr] at he
    obtain ⟨v, r⟩ := r
    unfold isTrue at he
    split at he
    · rename_i b _ hx
      injection hx with hx
      injection hx with hx _
      subst hx
      subst he
      rfl
    · cases he
/-- into a law -/
theorem enterS (hfn : P.funcs[g]? = some fn) (hnm : (fn.name != "runtime.NumGoroutine") = true) (hb : fn.body = some c) (hin : (within fn.ntmps c && (dform c).isNone) = true) (hW : W g = false) (hl : Nat.ble as.length fn.ntmps = true) {rs : List ResultVar} (hr : fn.results = rs.toArray)
    (hx : X P F k n c (finit as) h n (kEnd P rs (kSweep h n Φ))) : Sp P (afunc P F W k) cl g as h n Φ := by
  obtain ⟨v, h', n', h1, h2⟩ := arun_of hfn hnm hb hin hl (by rw [hr]; exact hx)
  refine ⟨by rw [goodF_of hfn hnm hb]; rfl, _, _, _, ?_, h2⟩
  unfold afunc
  rw [hW, h1]
  rfl
/-- THE LAW: what a symbolic run of a law shows, the machine does -/
theorem calls_shut (hm : P.follows .mixedOrders = true) {args vs : List Value} {w : World} (ha : args.map (visV w.heap.size) = vs)
    (hs : Sp P (afunc P (Ce.shut (acall P W k d)) W k) w.heap.size g vs (absW w) w.heap.size fun v _ _ => v = .bool true) : Calls P g ⟨args⟩ w fun e w' => e = .returned (.bool true) ∧ Below w.heap.size w w' := by
  subst ha
  obtain ⟨hg, v, h', n', hr, rfl⟩ := hs
  have both := acall_both (P := P) hm W k d
  refine Calls.mono (afunc_sound hm (shut_sound both.1) (shut_stat both.2) W k w.heap.size g _ _ _ _ h' n' hr (fun h0 => by rw [h0] at hg; cases hg) (Nat.le_refl _) (here w.heap.size) w 0 args (VL.visV _ _) (absW_mem P w)) fun e w' hh => ?_
  obtain ⟨v', φ', rfl, h1, f, m⟩ := hh
  obtain rfl := h1.bool
  exact ⟨rfl, f.os, f.tape, f.output, f.sz, fun g hg => f.fr g hg fun id c h1 h2 => by omega⟩
end
end Go.Proofs.Ytcdedegjpfemmaa.Ce
