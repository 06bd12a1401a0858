/- The evaluator of closed calls: what code changes of the evaluator's heap; a drawn region's trace. No program in sight. -/
import Derived.Test.YtbcjkdekppomgaaCw
namespace Go.Proofs.Ytbcjkdekppomgaa.Ce
open Go.RowKit
set_option linter.unusedVariables false

section
variable {P : Program} {F : CallE}

theorem aopS_st (hF : StatF F) {lim cl : Nat} {ops : List Oper} {o : Oper} {st st' : St} {fp : Fp} (he : aopS P F lim cl ops o st = some (st', fp)) (hcl : cl ≤ st.n) (hb : HB st.h st.n) :
    Stat st.h st'.h st.n st'.n (fun id => id ∈ fp.wr ∨ fp.cl = true ∧ cl ≤ id) ∧ (∀ id ∈ fp.wr, lim ≤ id) ∧ ∀ id ∈ fp.wr, id < st.n := by
  rcases aopS_inv he with ⟨hw, rfl, rfl⟩ | ⟨hw, e, hop, hwr, -, rfl, rfl⟩
  · exact ⟨Stat.same hb, by simp, by simp⟩
  · exact ⟨(aop_st hF hop hcl hb).1, hwr, (aop_st hF hop hcl hb).2⟩

theorem aops_st (hF : StatF F) {lim : Nat} {ops : List Oper} : ∀ (l : List Oper) {st st' : St}, aops P F lim lim ops l st = some st' → lim ≤ st.n → HB st.h st.n → Stat st.h st'.h st.n st'.n (fun id => lim ≤ id) := by
  intro l
  induction l with
  | nil => intro st st' he hl hb; injection he with he; subst he; exact Stat.same hb
  | cons o rest ih =>
    intro st st' he hl hb
    change (aopS P F lim lim ops o st).bind (fun r => aops P F lim lim ops rest r.1) = some st' at he
    obtain ⟨r, h1, h2⟩ := bind_some he
    obtain ⟨p, hwr, -⟩ := aopS_st (st' := r.1) (fp := r.2) hF h1 hl hb
    have p' := p.weaken (Wr' := fun id => lim ≤ id) fun id _ hh => hh.elim (hwr id) fun h3 => h3.2
    exact p'.trans (ih h2 (Nat.le_trans hl p.nle) p.hb) fun _ _ hh => hh

/-- the states that a drawn region passes in the text's order -/
theorem aopsD_trace {lim : Nat} {ops : List Oper} : ∀ (l : List Oper) {st st' : St} {acc fps : List Fp}, aopsD P F lim ops l st acc = some (st', fps) →
    ∃ (sts : Nat → St) (fpf : Nat → Fp), sts 0 = st ∧ sts l.length = st' ∧ (∀ (i : Nat) (o : Oper), l[i]? = some o → aopS P F lim (sts i).n ops o (sts i) = some (sts (i + 1), fpf i)) ∧ fps = acc.reverse ++ (List.range l.length).map fpf := by
  intro l
  induction l with
  | nil =>
    intro st st' acc fps he
    injection he with he
    injection he with h1 h2
    exact ⟨fun _ => st, fun _ => ⟨[], [], false, 0, 0⟩, rfl, h1, by simp, by simp [h2]⟩
  | cons o rest ih =>
    intro st st' acc fps he
    change (aopS P F lim st.n ops o st).bind (fun r => aopsD P F lim ops rest r.1 (r.2 :: acc)) = some (st', fps) at he
    obtain ⟨r, h1, h2⟩ := bind_some he
    obtain ⟨sts, fpf, e0, e1, e2, e3⟩ := ih h2
    refine ⟨fun i => match i with | 0 => st | i + 1 => sts i, fun i => match i with | 0 => r.2 | i + 1 => fpf i, rfl, by simpa using e1, ?_, ?_⟩
    · intro i x hx
      cases i with
      | zero =>
        simp at hx
        subst hx
        simp only [Nat.zero_add]
        rw [e0]
        exact h1
      | succ i => exact e2 i x (by simpa using hx)
    · rw [e3, List.length_cons, List.range_succ_eq_map]
      simp [Function.comp_def]

theorem trace_st (hF : StatF F) {lim : Nat} {ops : List Oper} {sts : Nat → St} {fpf : Nat → Fp} {N : Nat} {l : List Oper} (hN : l.length = N) (ht : ∀ (i : Nat) (o : Oper), l[i]? = some o → aopS P F lim (sts i).n ops o (sts i) = some (sts (i + 1), fpf i))
    (hb : HB (sts 0).h (sts 0).n) : ∀ i, i ≤ N → HB (sts i).h (sts i).n ∧ (i < N → Stat (sts i).h (sts (i + 1)).h (sts i).n (sts (i + 1)).n (· ∈ (fpf i).wr) ∧ ∀ id ∈ (fpf i).wr, lim ≤ id ∧ id < (sts i).n) := by
  have key : ∀ i, i < N → HB (sts i).h (sts i).n → Stat (sts i).h (sts (i + 1)).h (sts i).n (sts (i + 1)).n (· ∈ (fpf i).wr) ∧ ∀ id ∈ (fpf i).wr, lim ≤ id ∧ id < (sts i).n := fun i hi hbi => by
    obtain ⟨o, ho⟩ : ∃ o, l[i]? = some o := ⟨l[i], List.getElem?_eq_getElem (by omega)⟩
    obtain ⟨p, hwr, hwn⟩ := aopS_st hF (ht i o ho) (Nat.le_refl _) hbi
    exact ⟨p.weaken fun id hid hh => hh.elim (fun x => x) fun h3 => by omega, fun id hid => ⟨hwr id hid, hwn id hid⟩⟩
  have hbs : ∀ i, i ≤ N → HB (sts i).h (sts i).n := by
    intro i
    induction i with
    | zero => exact fun _ => hb
    | succ i ih => exact fun hi => (key i (by omega) (ih (by omega))).1.hb
  exact fun i hi => ⟨hbs i hi, fun h => key i h (hbs i hi)⟩

theorem cRegion_st (hF : StatF F) {lim : Nat} {ops : Array Oper} {d : Bool} {st : St} {r : Ex × St} (he : cRegion P F lim ops d st = some r) (hl : lim ≤ st.n) (hb : HB st.h st.n) :
    Stat st.h r.2.h st.n r.2.n (fun id => lim ≤ id) := by
  cases d with
  | false =>
    change (aops P F lim lim ops.toList ops.toList st).bind (fun r => some (0, r)) = some r at he
    obtain ⟨st', h1, h2⟩ := bind_some he
    injection h2 with h2
    subst h2
    exact aops_st hF _ h1 hl hb
  | true =>
    change (aopsD P F lim ops.toList ops.toList st []).bind (fun r => bif pairsOk ops r.2 then some (0, r.1) else none) = some r at he
    obtain ⟨x, h1, h2⟩ := bind_some he
    obtain ⟨-, h2⟩ := bif_some h2
    injection h2 with h2
    subst h2
    obtain ⟨sts, fpf, e0, e1, e2, -⟩ := aopsD_trace ops.toList (st' := x.1) (fps := x.2) h1
    have hs := trace_st hF (N := ops.toList.length) rfl e2 (by rw [e0]; exact hb)
    have key : ∀ i, i ≤ ops.toList.length → Stat (sts 0).h (sts i).h (sts 0).n (sts i).n (fun id => lim ≤ id) := by
      intro i
      induction i with
      | zero => exact fun _ => Stat.same (by rw [e0]; exact hb)
      | succ i ih =>
        intro hi
        obtain ⟨p, hwr⟩ := (hs i (by omega)).2 (by omega)
        exact (ih (by omega)).trans (p.weaken (Wr' := fun id => lim ≤ id) fun id _ hh => (hwr id hh).1) fun _ _ hh => hh
    have := key _ (Nat.le_refl _)
    rw [e0, e1] at this
    exact this

theorem aloop_st {lim : Nat} {X : St → Option (Ex × St)} (hX : ∀ {st : St} {r : Ex × St}, X st = some r → lim ≤ st.n → HB st.h st.n → Stat st.h r.2.h st.n r.2.n (fun id => lim ≤ id)) :
    ∀ (j : Nat) {st : St} {r : Ex × St}, aloop X j st = some r → lim ≤ st.n → HB st.h st.n → Stat st.h r.2.h st.n r.2.n (fun id => lim ≤ id) := by
  intro j
  induction j with
  | zero => intro st r he; cases he
  | succ j ih =>
    intro st r he hl hb
    change (X st).bind (fun r => bif Nat.beq r.1 0 then aloop X j r.2 else some r) = some r at he
    obtain ⟨r1, h1, h2⟩ := bind_some he
    have p := hX h1 hl hb
    cases hx : Nat.beq r1.1 0 with
    | false => rw [hx] at h2; injection h2 with h2; subst h2; exact p
    | true => rw [hx] at h2; exact p.trans (ih h2 (Nat.le_trans hl p.nle) p.hb) fun _ _ hh => hh

theorem acode_st (hF : StatF F) {k lim : Nat} : ∀ (c : Code) {st : St} {r : Ex × St}, acode P F k lim c st = some r → lim ≤ st.n → HB st.h st.n → Stat st.h r.2.h st.n r.2.n (fun id => lim ≤ id) := by
  intro c
  induction c with
  | skip => intro st r he hl hb; injection he with he; subst he; exact Stat.same hb
  | region id ops d => intro st r he hl hb; exact cRegion_st hF (d := d) he hl hb
  | seq x y ihx ihy =>
    intro st r he hl hb
    change (acode P F k lim x st).bind (fun r => bif Nat.beq r.1 0 then acode P F k lim y r.2 else some r) = some r at he
    obtain ⟨r1, h1, h2⟩ := bind_some he
    have p := ihx h1 hl hb
    cases hx : Nat.beq r1.1 0 with
    | false => rw [hx] at h2; injection h2 with h2; subst h2; exact p
    | true => rw [hx] at h2; exact p.trans (ihy h2 (Nat.le_trans hl p.nle) p.hb) fun _ _ hh => hh
  | cond c x y ihx ihy =>
    intro st r he hl hb
    change cCond c (acode P F k lim x) (acode P F k lim y) st = some r at he
    unfold cCond at he
    split at he
    · rename_i b hc
      cases b with
      | false => exact ihy he hl hb
      | true => exact ihx he hl hb
    · cases he
  | block id x ih =>
    intro st r he hl hb
    change (acode P F k lim x st).bind (fun r => bif Nat.beq r.1 (id + 2) then some (0, r.2) else some r) = some r at he
    obtain ⟨r1, h1, h2⟩ := bind_some he
    have p := ih h1 hl hb
    cases hx : Nat.beq r1.1 (id + 2) with
    | false => rw [hx] at h2; injection h2 with h2; subst h2; exact p
    | true => rw [hx] at h2; injection h2 with h2; subst h2; exact p
  | loop x ih =>
    intro st r he hl hb
    exact aloop_st (fun h1 h2 h3 => ih h1 h2 h3) k he hl hb
  | exit id => intro st r he hl hb; injection he with he; subst he; exact Stat.same hb
  | label l => intro st r he hl hb; injection he with he; subst he; exact Stat.same hb
  | ret => intro st r he hl hb; injection he with he; subst he; exact Stat.same hb
  | _ => intro st r he hl hb; cases he
end
end Go.Proofs.Ytbcjkdekppomgaa.Ce
