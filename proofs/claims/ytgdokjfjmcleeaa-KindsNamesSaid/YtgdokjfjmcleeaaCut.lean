/- A closed call, evaluated in parts: lemmas. No program in sight. -/
import Derived.Test.YtgdokjfjmcleeaaCm
namespace Go.Proofs.Ytgdokjfjmcleeaa.Ce
open Go.RowKit
set_option linter.unusedVariables false
set_option linter.unusedSimpArgs false

/-- the first pieces of a code -/
def tk : Nat → Code → Code
  | n + 1, .seq x y => .seq x (tk n y)
  | _, _ => .skip
/-- the pieces behind -/
def dr : Nat → Code → Code
  | n + 1, .seq x y => dr n y
  | _, c => c
/-- pieces in a row, one behind the other -/
def app : Code → Code → Code
  | .seq x y, c => app x (app y c)
  | x, c => .seq x c
/-- the first piece -/
def hd : Code → Option Code
  | .seq x _ => some x
  | _ => none
/-- a value without addresses -/
def flatT : Value → Bool
  | .tuple cs => cs.toList.all flat1
  | v => flat1 v
/-- bytes -/
def bz (l : List Nat) : List Value := l.map fun n => .int .u8 (Int.ofNat n)
/-- the loop's body of a block with a loop -/
def lbody : Code → Code
  | .block _ (.loop x) => x
  | _ => .skip
/-- some rounds of a loop -/
noncomputable def nrounds (X : RC) (m : Nat) : St → Option St :=
  Nat.rec (fun st => some st) (fun _ ih st => (X st).bind fun r => bif Nat.beq r.1 0 then ih r.2 else none) m
def bodyOf (P : Program) (f : FuncId) : Code := match P.funcs[f]? with
  | some fn => fn.body.getD .skip
  | none => .skip
def ntOf (P : Program) (f : FuncId) : Nat := match P.funcs[f]? with
  | some fn => fn.ntmps
  | none => 0

section
variable {P : Program} {F : CallE} {k lim S : Nat} {φ : Mp}
theorem cut_at (n : Nat) : ∀ {c : Code} {st st1 : St} {r : Option (Ex × St)}, acode P F k lim (tk n c) st = some (0, st1) → acode P F k lim (dr n c) st1 = r → acode P F k lim c st = r := by
  induction n with
  | zero =>
    intro c st st1 r h1 h2
    have e : st = st1 := by
      have h1' : (some (0, st) : Option (Ex × St)) = some (0, st1) := h1
      injection h1' with h1'
      injection h1'
    subst e
    exact h2
  | succ n ih =>
    intro c st st1 r h1 h2
    cases c with
    | seq x y =>
      change (acode P F k lim x st).bind (fun r => bif Nat.beq r.1 0 then acode P F k lim (tk n y) r.2 else some r) = some (0, st1) at h1
      show (acode P F k lim x st).bind (fun r => bif Nat.beq r.1 0 then acode P F k lim y r.2 else some r) = r
      obtain ⟨r1, h3, h4⟩ := bind_some h1
      rw [h3]
      dsimp only [Option.bind_some]
      cases hb : Nat.beq r1.1 0 with
      | true =>
        rw [hb] at h4
        exact ih h4 h2
      | false =>
        rw [hb] at h4
        injection h4 with h4
        rw [h4] at hb
        cases hb
    | _ =>
      have e : st = st1 := by
        have h1' : (some (0, st) : Option (Ex × St)) = some (0, st1) := h1
        injection h1' with h1'
        injection h1'
      subst e
      exact h2
theorem seq_assoc (x y z : Code) : acode P F k lim (.seq x (.seq y z)) = acode P F k lim (.seq (.seq x y) z) := by
  funext st
  show (acode P F k lim x st).bind (fun r => bif Nat.beq r.1 0 then (acode P F k lim y r.2).bind (fun r => bif Nat.beq r.1 0 then acode P F k lim z r.2 else some r) else some r) =
    ((acode P F k lim x st).bind (fun r => bif Nat.beq r.1 0 then acode P F k lim y r.2 else some r)).bind (fun r => bif Nat.beq r.1 0 then acode P F k lim z r.2 else some r)
  cases acode P F k lim x st with
  | none => rfl
  | some r =>
    dsimp only [Option.bind_some]
    cases hb : Nat.beq r.1 0 with
    | true => rfl
    | false => simp [hb]
theorem app_eq : ∀ (x y : Code), acode P F k lim (app x y) = acode P F k lim (.seq x y) := by
  intro x
  induction x with
  | seq a b iha ihb =>
    intro y
    show acode P F k lim (app a (app b y)) = _
    rw [iha, ← seq_assoc]
    have := ihb y
    funext st
    show (acode P F k lim a st).bind (fun r => bif Nat.beq r.1 0 then acode P F k lim (app b y) r.2 else some r) = _
    rw [this]
    rfl
  | _ => intro y; rfl
theorem flat_law {c : Code} {st : St} {r : Option (Ex × St)} (h : acode P F k lim (app c .skip) st = r) : acode P F k lim c st = r := by
  rw [app_eq] at h
  rw [← h]
  show _ = (acode P F k lim c st).bind (fun r => bif Nat.beq r.1 0 then some (0, r.2) else some r)
  cases acode P F k lim c st with
  | none => rfl
  | some r =>
    obtain ⟨ex, s⟩ := r
    dsimp only [Option.bind_some]
    cases ex <;> rfl
theorem loop_at (m : Nat) : ∀ {x : Code} {j : Nat} {st st1 : St} {r : Option (Ex × St)}, nrounds (acode P F k lim x) m st = some st1 → aloop (acode P F k lim x) j st1 = r → aloop (acode P F k lim x) (m + j) st = r := by
  induction m with
  | zero =>
    intro x j st st1 r h1 h2
    have h1' : (some st : Option St) = some st1 := h1
    injection h1' with h1'
    subst h1'
    rw [Nat.zero_add]
    exact h2
  | succ m ih =>
    intro x j st st1 r h1 h2
    change (acode P F k lim x st).bind (fun r => bif Nat.beq r.1 0 then nrounds (acode P F k lim x) m r.2 else none) = some st1 at h1
    obtain ⟨r1, h3, h4⟩ := bind_some h1
    obtain ⟨h5, h4⟩ := bif_some h4
    rw [Nat.succ_add]
    show (acode P F k lim x st).bind (fun r => bif Nat.beq r.1 0 then aloop (acode P F k lim x) (m + j) r.2 else some r) = r
    rw [h3]
    dsimp only [Option.bind_some]
    rw [h5]
    exact ih h4 h2
theorem block_at {id : Nat} {x : Code} {ex : Nat} {st st1 : St} (hx : Nat.beq ex (id + 2) = true) (h : aloop (acode P F k lim x) k st = some (ex, st1)) : acode P F k lim (.block id (.loop x)) st = some (0, st1) := by
  show (aloop (acode P F k lim x) k st).bind (fun r => bif Nat.beq r.1 (id + 2) then some (0, r.2) else some r) = _
  rw [h]
  dsimp only [Option.bind_some]
  rw [hx]
  rfl
theorem tk_one {c x : Code} {st st1 : St} (hc : hd c = some x) (h : acode P F k lim x st = some (0, st1)) : acode P F k lim (tk 1 c) st = some (0, st1) := by
  cases c with
  | seq y z =>
    injection hc with hc
    subst hc
    show (acode P F k lim y st).bind (fun r => bif Nat.beq r.1 0 then some (0, r.2) else some r) = _
    rw [h]
    rfl
  | _ => cases hc
theorem VLB.flat_eq : ∀ {l m : List Value}, l.all flat1 = true → VL (VB φ) l m → m = l
  | [], [], _, _ => rfl
  | a :: l, b :: m, h, hv => by
    simp only [List.all_cons, Bool.and_eq_true] at h
    rw [(hv.1.vc).flat_eq h.1, VLB.flat_eq h.2 hv.2]
  | [], _ :: _, _, h => h.elim
  | _ :: _, [], _, h => h.elim
theorem VLB.flat_refl : ∀ {l : List Value}, l.all flat1 = true → VL (VB φ) l l
  | [], _ => trivial
  | a :: l, h => by
    simp only [List.all_cons, Bool.and_eq_true] at h
    exact ⟨VA.vb (VA.flat h.1), VLB.flat_refl h.2⟩
theorem flatT_eq {u v : Value} (hf : flatT u = true) (h : VC φ u v) : v = u := by
  cases u with
  | tuple cs =>
    obtain ⟨ds, rfl, h2⟩ := h
    have := VLB.flat_eq (show cs.toList.all flat1 = true from hf) h2
    congr 1
    exact Array.toList_inj.1 this
  | _ => exact VC.flat_eq (show flat1 _ = true from hf) h
theorem flatT_refl {u : Value} (hf : flatT u = true) : VC φ u u := by
  cases u with
  | tuple cs => exact ⟨cs, rfl, VLB.flat_refl (show cs.toList.all flat1 = true from hf)⟩
  | _ => exact VB.vc (VA.vb (VA.flat (show flat1 _ = true from hf)))
/-- calls without arguments that are known -/
noncomputable def tabGet (l : List (FuncId × Value)) (g : FuncId) : Option Value := List.rec none (fun x _ ih => bif Nat.beq x.1 g then some x.2 else ih) l
theorem tabGet_some : ∀ {l : List (FuncId × Value)} {g : FuncId} {v : Value}, tabGet l g = some v → (g, v) ∈ l
  | [], g, v, h => by cases h
  | x :: l, g, v, h => by
    change (bif Nat.beq x.1 g then some x.2 else tabGet l g) = some v at h
    cases hb : Nat.beq x.1 g with
    | true =>
      rw [hb] at h
      injection h with h
      have := Nat.eq_of_beq_eq_true hb
      subst h; subst this
      exact List.mem_cons_self
    | false =>
      rw [hb] at h
      exact List.mem_cons_of_mem _ (tabGet_some h)
noncomputable def tab (F : CallE) (l : List (FuncId × Value)) : CallE := fun cl g as h n => match as with
  | [] => Option.rec (F cl g [] h n) (fun v => some (v, h, n)) (tabGet l g)
  | a :: as => F cl g (a :: as) h n
theorem tab_both {l : List (FuncId × Value)} (hl : ∀ x ∈ l, flatT x.2 = true ∧ ∃ h0 n0, F 0 x.1 [] [] 0 = some (x.2, h0, n0)) (hF : SoundF P F) (hF2 : StatF F) : SoundF P (tab F l) ∧ StatF (tab F l) := by
  constructor
  · intro cl g as h n v h' n' he hg hcl φ w S cargs hv m
    cases as with
    | cons a as => exact hF cl g (a :: as) h n v h' n' he hg hcl φ w S cargs hv m
    | nil =>
      change (Option.rec (F cl g [] h n) (fun v => some (v, h, n)) (tabGet l g) : Option (Value × Hp × Nat)) = _ at he
      cases hb : tabGet l g with
      | none => rw [hb] at he; exact hF cl g [] h n v h' n' he hg hcl φ w S cargs hv m
      | some u =>
        rw [hb] at he
        injection he with he
        injection he with e1 he
        injection he with e2 e3
        subst e1; subst e2; subst e3
        obtain ⟨hfl, h0, n0, hr⟩ := hl _ (tabGet_some hb)
        have hca : cargs = [] := by
          cases cargs with
          | nil => rfl
          | cons _ _ => exact hv.elim
        subst hca
        refine Calls.mono (hF 0 g [] [] 0 _ h0 n0 hr hg (Nat.le_refl _) (fun _ => none) w w.heap.size [] trivial ⟨fun _ _ => rfl, fun id g c hp => (by cases hp), fun id id' g c c' _ hp => (by cases hp), fun id _ => (by unfold Hp.get; rw [lget_eq]; simp), Nat.le_refl _⟩) fun e w' hh => ?_
        obtain ⟨v', φ', rfl, h1, f, m0⟩ := hh
        obtain rfl := flatT_eq hfl h1
        have hold : ∀ g, g < w.heap.size → w'.heap[g]? = w.heap[g]? := fun g hg => f.fr g hg fun id c h2 => by omega
        have fr : Fr φ φ h h n n (fun id => cl ≤ id) w w' := ⟨fun _ _ => rfl, fun g hg _ => hold g hg, fun _ _ _ => rfl, fun id g c h1 h2 => by omega, fun id id' g c c' h1 h2 => by omega, fun _ _ hd => hd, fun _ _ _ => rfl, Nat.le_refl _, f.sz, f.os, f.tape, f.output⟩
        refine ⟨_, φ, rfl, flatT_refl hfl, fr, m.step fr m.hb fun id g c _ hp => ?_⟩
        obtain ⟨o1, o2, o3⟩ := m.obj id g c hp
        exact ⟨o1.mono (le_.refl _) (hold g o3), o2, Nat.lt_of_lt_of_le o3 f.sz⟩
  · intro cl g as h n v h' n' he hcl hb
    cases as with
    | cons a as => exact hF2 cl g (a :: as) h n v h' n' he hcl hb
    | nil =>
      change (Option.rec (F cl g [] h n) (fun v => some (v, h, n)) (tabGet l g) : Option (Value × Hp × Nat)) = _ at he
      cases hb' : tabGet l g with
      | none => rw [hb'] at he; exact hF2 cl g [] h n v h' n' he hcl hb
      | some u =>
        rw [hb'] at he
        injection he with he
        injection he with e1 he
        injection he with e2 e3
        subst e1; subst e2; subst e3
        exact Stat.same hb
theorem tab_nil (F : CallE) : tab F [] = F := by funext cl g as h n; cases as <;> rfl
theorem cut_law {W : FuncId → Bool} {F : CallE} {f : FuncId} {c : Code} {nt : Nat} {rs : List ResultVar} {ex : Nat} {st0 st : St} {v : Value} (hg : goodF P f = some (c, nt, rs)) (hW : W f = false) (hd : dform c = none)
    (h0 : (⟨List.replicate nt undef, [], 0⟩ : St) = st0) (he : acode P F k 0 c st0 = some (ex, st)) (hx : Nat.ble ex 1 = true) (hr : aresults P st.h rs st.a = some v) (ht : (sweep [] 0 (v, st.h, st.n)).1 = v) :
    ∃ h n, afunc P F W k 0 f [] [] 0 = some (v, h, n) := by
  subst h0
  have h1 : arun P F k 0 f [] [] 0 = some (v, st.h, st.n) := by
    unfold arun
    rw [hg]
    dsimp only [Option.bind_some]
    rw [hd]
    show arun1 P F k 0 (c, nt, rs) [] [] 0 = _
    unfold arun1
    dsimp only
    rw [show ([] ++ List.replicate (nt - List.length ([] : List Value)) undef : List Value) = List.replicate nt undef from by simp, he]
    dsimp only [Option.bind_some]
    rw [hx, hr]
    rfl
  have h2 : afunc P F W k 0 f [] [] 0 = some (sweep [] 0 (v, st.h, st.n)) := by
    unfold afunc
    rw [hW, h1]
    rfl
  rw [h2]
  generalize sweep [] 0 (v, st.h, st.n) = r at ht
  obtain ⟨x, y, z⟩ := r
  have ht' : x = v := ht
  exact ⟨y, z, by rw [ht']⟩
/-- THE LAW, with a table of calls that are known -/
theorem calls_tab (hm : P.follows .mixedOrders = true) {W : FuncId → Bool} {k d : Nat} {l : List (FuncId × Value)} {g : FuncId} (hl : ∀ x ∈ l, flatT x.2 = true ∧ ∃ h0 n0, acall P W k d 0 x.1 [] [] 0 = some (x.2, h0, n0)) (hg : (goodF P g).isSome = true)
    (he : ∃ h n, afunc P (tab (acall P W k d) l) W k 0 g [] [] 0 = some (.bool true, h, n)) (w : World) : Calls P g #[] w fun e w' => e = .returned (.bool true) ∧ Below w.heap.size w w' := by
  have both := acall_both (P := P) hm W k d
  have bt := tab_both hl both.1 both.2
  obtain ⟨h', n', hr⟩ := he
  · skip
    refine Calls.mono (afunc_sound hm bt.1 bt.2 W k 0 g [] [] 0 _ h' n' hr (fun h0 => by rw [h0] at hg; cases hg) (Nat.le_refl _) (fun _ => none) w w.heap.size [] trivial ⟨fun _ _ => rfl, fun id g c hp => (by cases hp), fun id id' g c c' _ hp => (by cases hp), fun id _ => (by unfold Hp.get; rw [lget_eq]; simp), Nat.le_refl _⟩) fun e w' hh => ?_
    obtain ⟨v', φ', rfl, h1, f, m⟩ := hh
    obtain rfl := h1.bool
    exact ⟨rfl, f.os, f.tape, f.output, f.sz, fun g hg => f.fr g hg fun id c h2 => by omega⟩
end
end Go.Proofs.Ytgdokjfjmcleeaa.Ce
