/- The evaluator over memory that was there: what is handed in is read alone. No program in sight. -/
import Derived.Test.YtgdokjfjmcleeaaCn
namespace Go.Proofs.Ytgdokjfjmcleeaa.Ce
open Go.RowKit
set_option linter.unusedVariables false
set_option linter.unusedSimpArgs false

/-- an empty slice somewhere -/
abbrev odd : Value := .slice (some ⟨0, 0, some 0⟩) 0 0
/-- a cell of memory that was there, as the evaluator sees it -/
def vis (B : Nat) (v : Value) : Value := match v with
  | .pointer (some ⟨id, j, none⟩) => if id < B then .pointer (some ⟨id, j, none⟩) else wild
  | .slice (some ⟨id, j, s⟩) n c => if s = none ∧ id < B ∧ n ≤ c ∧ c ≤ maxLen then .slice (some ⟨id, j, none⟩) n c else if n = 0 then odd else wild
  | v => bif flat1 v then v else wild
theorem vis_slice (B id j : Nat) (s : Option Nat) (n c : Nat) : vis B (.slice (some ⟨id, j, s⟩) n c) = if s = none ∧ id < B ∧ n ≤ c ∧ c ≤ maxLen then .slice (some ⟨id, j, none⟩) n c else if n = 0 then odd else wild := by
  cases s <;> rfl
/-- the same of a value of several cells -/
def visV (B : Nat) (v : Value) : Value := match v with
  | .agg cs => .agg ⟨cs.toList.map (vis B)⟩
  | v => vis B v
/-- what was there lies where it lies -/
def here (B : Nat) : Mp := fun id => if id < B then some (id, maxLen + 1) else none
theorem here_lt {B id : Nat} (h : id < B) : here B id = some (id, maxLen + 1) := by simp [here, h]

theorem vis_ok (B : Nat) (v : Value) : VA (here B) (vis B v) v := by
  unfold vis
  split
  · split
    · rename_i h; exact ⟨_, _, here_lt h, rfl⟩
    · trivial
  · split
    · rename_i h
      obtain ⟨rfl, h1, h2, h3⟩ := h
      exact ⟨_, _, _, _, here_lt h1, rfl, h2, h3, .inl rfl, fun _ h => by omega⟩
    · split
      · rename_i h
        subst h
        exact ⟨rfl, _, _, rfl⟩
      · trivial
  · cases hf : flat1 v with
    | true => exact VA.flat hf
    | false => trivial
theorem vis_flat {B : Nat} {v : Value} (h : flat1 v = true) : vis B v = v := by
  unfold vis
  split <;> first | (simp [flat1] at h; done) | (rw [h]; rfl)
theorem VL.vis (B : Nat) : ∀ l : List Value, VL (VA (here B)) (l.map (Ce.vis B)) l
  | [] => trivial
  | v :: l => ⟨vis_ok B v, VL.vis B l⟩
theorem visV_ok (B : Nat) (v : Value) : VC (here B) (visV B v) v := by
  unfold visV
  split
  · rename_i cs
    exact (show VB (here B) (.agg ⟨cs.toList.map (Ce.vis B)⟩) (.agg cs) from ⟨cs, rfl, VL.vis B cs.toList⟩).vc
  · exact (vis_ok B v).vb.vc
theorem VL.visV (B : Nat) : ∀ l : List Value, VL (VC (here B)) (l.map (Ce.visV B)) l
  | [] => trivial
  | v :: l => ⟨visV_ok B v, VL.visV B l⟩

/-- a block that was there -/
def absO (B : Nat) : Option Obj → AObj
  | some (.cells ds e _) => some (.inl (e, true, ds.toList.map (vis B)))
  | _ => none
/-- the memory that was there -/
def absW (w : World) : Hp := w.heap.toList.map fun o => absO w.heap.size (some o)
theorem absW_get (w : World) (g : Nat) : (absW w).get g = absO w.heap.size w.heap[g]? := by
  unfold Hp.get absW
  rw [lget_eq, List.getElem?_map, Array.getElem?_toList]
  cases w.heap[g]? <;> rfl

theorem absW_mem (P : Program) (w : World) : MemR P (here w.heap.size) (absW w) w.heap.size w 0 := by
  refine ⟨fun id h => by simp [here]; omega, fun id g c hp => ?_, fun id id' g c c' h1 h2 h3 => ?_, fun id h => ?_, Nat.zero_le _⟩
  · unfold here at hp
    split at hp
    · rename_i hlt
      injection hp with hp
      injection hp with h1 h2
      subst h1
      refine ⟨?_, Nat.zero_le _, hlt⟩
      rw [absW_get]
      unfold absO ObjR
      split
      · trivial
      · rename_i e ro cs hx
        split at hx
        · rename_i ds e' fz hg
          injection hx with hx
          injection hx with hx
          injection hx with hx1 hx
          injection hx with hx2 hx3
          subst hx1; subst hx2; subst hx3
          refine ⟨ds, fz, hg, ?_, fun h => by cases h⟩
          rw [List.length_map, List.take_of_length_le (Nat.le_refl _)]
          exact VL.vis _ _
        · cases hx
      · rename_i m hx
        split at hx
        · injection hx with hx; cases hx
        · cases hx
    · cases hp
  · exfalso
    unfold here at h2 h3
    split at h2 <;> split at h3 <;> simp_all
  · rw [absW_get, Array.getElem?_eq_none h]
    rfl

section
variable {P : Program}
/-- THE LAW for a call that is handed memory: what the evaluator says, the machine does; nothing that was there turns. -/
theorem calls_in (hm : P.follows .mixedOrders = true) {W : FuncId → Bool} {k d : Nat} {g : FuncId} (hg : (goodF P g).isSome = true) {args : List Value} {w : World}
    (he : isTrue (acall P W k d w.heap.size g (args.map (visV w.heap.size)) (absW w) w.heap.size) = true) :
    Calls P g ⟨args⟩ w fun e w' => e = .returned (.bool true) ∧ Below w.heap.size w w' := by
  cases hr : acall P W k d w.heap.size g (args.map (visV w.heap.size)) (absW w) w.heap.size with
  | none => rw [hr] at he; cases he
  | some r =>
    obtain ⟨v, h', n'⟩ := r
    rw [hr] at he
    have hv : v = .bool true := by
      unfold isTrue at he
      split at he
      · rename_i b _ hx
        injection hx with hx
        injection hx with hx _
        rw [hx, he]
      · cases he
    subst hv
    refine Calls.mono ((acall_both hm W k d).1 w.heap.size g _ _ _ _ h' n' hr (fun h0 => by rw [h0] at hg; cases hg) (Nat.le_refl _) (here w.heap.size) w 0 args (VL.visV _ _) (absW_mem P w)) fun e w' hh => ?_
    obtain ⟨v', φ', rfl, h1, f, m⟩ := hh
    obtain rfl := h1.bool
    exact ⟨rfl, f.os, f.tape, f.output, f.sz, fun g hg => f.fr g hg fun id c h1 h2 => by omega⟩
end

/-- a slice's address: its values, in blocks below B -/
def RdH (h : Hp) (B : Nat) (A : Option Addr) (vs : List Value) : Prop :=
  (∀ id j, A = some ⟨id, j, none⟩ → id < B) ∧ (vs = [] ∨ ∃ id j, A = some ⟨id, j, none⟩ ∧ ∀ k v, vs[k]? = some v → cellAt h id (j + k) = some v)
theorem cellAt_get (h : Hp) (id off : Nat) : cellAt h id off = match h.get id with | some (.inl r) => r.2.2[off]? | _ => none := by
  unfold cellAt rowOf
  cases h.get id with
  | none => rfl
  | some o => cases o with
    | inl r => simp [lget_eq]
    | inr r => rfl
theorem cellAt_here {w : World} {b j : Nat} {v : Value} (h : w.cell? ⟨b, j, none⟩ = some v) : cellAt (absW w) b j = some (vis w.heap.size v) := by
  rw [cellAt_get, absW_get]
  unfold World.cell? at h
  dsimp only at h
  split at h
  · rename_i c e fz hg
    simp only [Option.isSome_none, Bool.false_eq_true, if_false] at h
    rw [hg]
    simp [absO, h]
  · cases h
/-- a slice that is handed in, as the evaluator sees it -/
theorem rd_here {w : World} {A : Option Addr} {n c : Nat} {vs : List Value} (h : Rd w w.heap.size A vs) (hn : vs = [] → n = 0) (hc : n ≤ c) (hm : c ≤ 9223372036854775807) (h0 : A = none → c = 0) :
    ∃ A' c', vis w.heap.size (.slice A n c) = .slice A' n c' ∧ RdH (absW w) w.heap.size A' (vs.map (vis w.heap.size)) ∧ (A' = none ↔ A = none) ∧ (A' = none → c' = 0) ∧ n ≤ c' := by
  rcases A with _ | ⟨b, j, s⟩
  · obtain rfl := h0 rfl
    have hv : vs = [] := by
      rcases h with h | ⟨b, off, h, _⟩
      · exact h
      · cases h
    obtain rfl := hn hv
    subst hv
    exact ⟨none, 0, rfl, ⟨fun _ _ h => (by cases h), .inl rfl⟩, by simp, fun _ => rfl, by omega⟩
  · by_cases hx : s = none ∧ b < w.heap.size
    · obtain ⟨rfl, hb⟩ := hx
      refine ⟨some ⟨b, j, none⟩, c, ?_, ⟨fun id j' e => ?_, ?_⟩, by simp, fun h => (by cases h), hc⟩
      · rw [vis_slice, if_pos ⟨rfl, hb, hc, by unfold maxLen; omega⟩]
      · injection e with e
        injection e with e
        omega
      · rcases h with h | ⟨b', off, e, _, hcell⟩
        · exact .inl (by rw [h]; rfl)
        · injection e with e
          injection e with e1 e2
          subst e1; subst e2
          refine .inr ⟨b, j, rfl, fun k v hk => ?_⟩
          rw [List.getElem?_map] at hk
          cases hvk : vs[k]? with
          | none => rw [hvk] at hk; cases hk
          | some u =>
            rw [hvk] at hk
            injection hk with hk
            rw [← hk]
            exact cellAt_here (hcell k u hvk)
    · have hv : vs = [] := by
        rcases h with h | ⟨b', off, e, hb, _⟩
        · exact h
        · injection e with e
          injection e with e1 e2 e3
          subst e1
          exact absurd ⟨e3, hb⟩ hx
      obtain rfl := hn hv
      subst hv
      refine ⟨some ⟨0, 0, some 0⟩, 0, ?_, ⟨fun id j' e => (by injection e with e; injection e with _ _ e; cases e), .inl rfl⟩, by simp, fun h => (by cases h), by omega⟩
      rw [vis_slice, if_neg (fun hh => hx ⟨hh.1, hh.2.1⟩), if_pos rfl]
end Go.Proofs.Ytgdokjfjmcleeaa.Ce
