/- The evaluator of closed calls: what code changes of the evaluator's heap; a drawn region's trace. No program in sight. -/
import Derived.Test.YtcdedegjpfemmaaCw
namespace Go.Proofs.Ytcdedegjpfemmaa.Ce
open Go.RowKit
set_option linter.unusedVariables false
set_option linter.unusedSimpArgs false

section
variable {P : Program} {F : CallE}

theorem aopS_st (hF : StatF F) {lim cl : Nat} {ops : List Oper} {o : Oper} {st st' : St} {fp : Fp} (he : aopS P F lim cl ops o st = some (st', fp)) (hcl : cl ≤ st.n) (hb : HB st.h st.n) :
    Stat st.h st'.h st.n st'.n (fun id => id ∈ fp.wr ∨ fp.cl = true ∧ cl ≤ id) ∧ (∀ id ∈ fp.wr, lim ≤ id) ∧ ∀ id ∈ fp.wr, id < st.n := by
  rcases aopS_inv he with ⟨hw, rfl, rfl⟩ | ⟨hw, e, hop, hwr, -, rfl, rfl⟩
  · exact ⟨Stat.same hb, by simp, by simp⟩
  · exact ⟨(aop_st hF hop hcl hb).1, hwr, (aop_st hF hop hcl hb).2⟩

theorem aops_st (hF : StatF F) {lim : Nat} {ops : List Oper} : ∀ (l : List Oper) {st st' : St}, aops P F lim lim ops l st = some st' → lim ≤ st.n → HB st.h st.n → Stat st.h st'.h st.n st'.n (fun id => lim ≤ id) := by
  intro l
  induction l with
  | nil => intro st st' he hl hb; injection he with he; subst he; exact Stat.same hb
  | cons o rest ih =>
    intro st st' he hl hb
    change (aopS P F lim lim ops o st).bind (fun r => aops P F lim lim ops rest r.1) = some st' at he
    obtain ⟨r, h1, h2⟩ := bind_some he
    obtain ⟨p, hwr, -⟩ := aopS_st (st' := r.1) (fp := r.2) hF h1 hl hb
    have p' := p.weaken (Wr' := fun id => lim ≤ id) fun id _ hh => hh.elim (hwr id) fun h3 => h3.2
    exact p'.trans (ih h2 (Nat.le_trans hl p.nle) p.hb) fun _ _ hh => hh

/-- one operation of a drawn region -/
structure OpD (P : Program) (F : CallE) (lim : Nat) (ops : List Oper) (o : Oper) (st st' : St) (x : Fp) (cl : Nat) (fp : Fp) : Prop where
  run : aopS P F lim cl ops o st = some (st', fp)
  le : cl ≤ st.n
  rd : x.rd = fp.rd
  cl_ : x.cl = fp.cl
  sub : ∀ id, id < st.n → id ∈ fp.wr ∨ fp.cl = true ∧ cl ≤ id → id ∈ x.wr
  sup : ∀ id, id ∈ x.wr → id ∈ fp.wr ∨ fp.cl = true ∧ cl ≤ id
  lim_ : ∀ id, id ∈ x.wr → id ∈ fp.wr ∨ lim ≤ id ∧ id < st.n
/-- the states that a drawn region passes in the text's order -/
theorem aopsD_trace {lim : Nat} {us : List (Nat × Nat)} {ops : List Oper} : ∀ (l : List Oper) {i0 : Nat} {st st' : St} {acc fps : List Fp}, aopsD P F lim us ops l i0 st acc = some (st', fps) →
    ∃ (sts : Nat → St) (fpf : Nat → Fp), sts 0 = st ∧ sts l.length = st' ∧ (∀ (i : Nat) (o : Oper), l[i]? = some o → lim ≤ (sts i).n → ∃ cl fp, OpD P F lim ops o (sts i) (sts (i + 1)) (fpf i) cl fp) ∧ fps = acc.reverse ++ (List.range l.length).map fpf := by
  intro l
  induction l with
  | nil =>
    intro i0 st st' acc fps he
    injection he with he
    injection he with h1 h2
    exact ⟨fun _ => st, fun _ => ⟨[], [], false, 0, 0⟩, rfl, h1, by simp, by simp [h2]⟩
  | cons o rest ih =>
    intro i0 st st' acc fps he
    have key : ∃ st1 x, (lim ≤ st.n → ∃ cl fp, OpD P F lim ops o st st1 x cl fp) ∧ aopsD P F lim us ops rest (Nat.succ i0) st1 (x :: acc) = some (st', fps) := by
      change Bool.rec ((aopS P F lim st.n ops o st).bind fun r => aopsD P F lim us ops rest (Nat.succ i0) r.1 (r.2 :: acc))
        ((aopS P F lim lim ops o st).bind fun r => aopsD P F lim us ops rest (Nat.succ i0) r.1 (wide lim st.n r.2 :: acc)) (isCall o.op && solo us i0) = some (st', fps) at he
      cases hc : (isCall o.op && solo us i0) with
      | false =>
        rw [hc] at he
        obtain ⟨r, h1, h2⟩ := bind_some he
        exact ⟨r.1, r.2, fun _ => ⟨st.n, r.2, h1, Nat.le_refl _, rfl, rfl, fun id h3 h4 => h4.elim (fun h => h) fun h => by omega, fun id h => .inl h, fun id h => .inl h⟩, h2⟩
      | true =>
        rw [hc] at he
        obtain ⟨r, h1, h2⟩ := bind_some he
        refine ⟨r.1, wide lim st.n r.2, fun hl => ⟨lim, r.2, ?_⟩, h2⟩
        unfold wide
        cases hcl : r.2.cl with
        | false => exact ⟨h1, hl, rfl, rfl, fun id h3 h4 => h4.elim (fun h => h) fun h => (by rw [hcl] at h; cases h.1), fun id h => .inl h, fun id h => .inl h⟩
        | true =>
          have hin : ∀ id, id ∈ List.range' lim (st.n - lim) ↔ lim ≤ id ∧ id < st.n := fun id => by
            rw [List.mem_range'_1]
            omega
          refine ⟨h1, hl, rfl, hcl.symm ▸ rfl, fun id h3 h4 => (hin id).2 ⟨?_, h3⟩, fun id h => .inr ⟨hcl, ((hin id).1 h).1⟩, fun id h => .inr ((hin id).1 h)⟩
          rcases h4 with h4 | h4
          · rcases aopS_inv (st' := r.1) (fp := r.2) h1 with ⟨hw, e1, e2⟩ | ⟨hw, e, hop, hwr, -, e1, e2⟩
            · rw [e2] at h4; simp at h4
            · rw [e2] at h4; exact hwr id h4
          · exact h4.2
    obtain ⟨st1, x, h1, h2⟩ := key
    obtain ⟨sts, fpf, e0, e1, e2, e3⟩ := ih h2
    refine ⟨fun i => match i with | 0 => st | i + 1 => sts i, fun i => match i with | 0 => x | i + 1 => fpf i, rfl, by simpa using e1, ?_, ?_⟩
    · intro i y hy
      cases i with
      | zero =>
        simp at hy
        subst hy
        simp only [Nat.zero_add]
        rw [e0]
        exact h1
      | succ i => exact e2 i y (by simpa using hy)
    · rw [e3, List.length_cons, List.range_succ_eq_map]
      simp [Function.comp_def]

theorem OpD.st (hF : StatF F) {lim cl : Nat} {ops : List Oper} {o : Oper} {st st' : St} {x fp : Fp} (p : OpD P F lim ops o st st' x cl fp) (hb : HB st.h st.n) :
    Stat st.h st'.h st.n st'.n (· ∈ x.wr) ∧ ∀ id ∈ x.wr, lim ≤ id ∧ id < st.n := by
  obtain ⟨q, hwr, hwn⟩ := aopS_st hF p.run p.le hb
  exact ⟨q.weaken fun id hid hh => p.sub id hid hh, fun id hid => (p.lim_ id hid).elim (fun h => ⟨hwr id h, hwn id h⟩) fun h => h⟩
theorem trace_st (hF : StatF F) {lim : Nat} {ops : List Oper} {sts : Nat → St} {fpf : Nat → Fp} {N : Nat} {l : List Oper} (hN : l.length = N)
    (ht : ∀ (i : Nat) (o : Oper), l[i]? = some o → lim ≤ (sts i).n → ∃ cl fp, OpD P F lim ops o (sts i) (sts (i + 1)) (fpf i) cl fp)
    (hl : lim ≤ (sts 0).n) (hb : HB (sts 0).h (sts 0).n) : ∀ i, i ≤ N → lim ≤ (sts i).n ∧ HB (sts i).h (sts i).n ∧ (i < N → Stat (sts i).h (sts (i + 1)).h (sts i).n (sts (i + 1)).n (· ∈ (fpf i).wr) ∧ ∀ id ∈ (fpf i).wr, lim ≤ id ∧ id < (sts i).n) := by
  have key : ∀ i, i < N → lim ≤ (sts i).n → HB (sts i).h (sts i).n → Stat (sts i).h (sts (i + 1)).h (sts i).n (sts (i + 1)).n (· ∈ (fpf i).wr) ∧ ∀ id ∈ (fpf i).wr, lim ≤ id ∧ id < (sts i).n := fun i hi hli hbi => by
    obtain ⟨o, ho⟩ : ∃ o, l[i]? = some o := ⟨l[i], List.getElem?_eq_getElem (by omega)⟩
    obtain ⟨cl, fp, p⟩ := ht i o ho hli
    exact p.st hF hbi
  have hbs : ∀ i, i ≤ N → lim ≤ (sts i).n ∧ HB (sts i).h (sts i).n := by
    intro i
    induction i with
    | zero => exact fun _ => ⟨hl, hb⟩
    | succ i ih =>
      intro hi
      obtain ⟨h1, h2⟩ := ih (by omega)
      have p := (key i (by omega) h1 h2).1
      exact ⟨Nat.le_trans h1 p.nle, p.hb⟩
  exact fun i hi => ⟨(hbs i hi).1, (hbs i hi).2, fun h => key i h (hbs i hi).1 (hbs i hi).2⟩

theorem cRegion_st (hF : StatF F) {lim : Nat} {ops : Array Oper} {d : Bool} {st : St} {r : Ex × St} (he : cRegion P F lim ops d st = some r) (hl : lim ≤ st.n) (hb : HB st.h st.n) :
    Stat st.h r.2.h st.n r.2.n (fun id => lim ≤ id) := by
  cases d with
  | false =>
    change (aops P F lim lim ops.toList ops.toList st).bind (fun r => some (0, r)) = some r at he
    obtain ⟨st', h1, h2⟩ := bind_some he
    injection h2 with h2
    subst h2
    exact aops_st hF _ h1 hl hb
  | true =>
    change ((unordered ops).bind fun us => (aopsD P F lim us ops.toList ops.toList 0 st []).bind fun r => bif pairsOk us r.2 then some (0, r.1) else none) = some r at he
    obtain ⟨us, -, he⟩ := bind_some he
    obtain ⟨x, h1, h2⟩ := bind_some he
    obtain ⟨-, h2⟩ := bif_some h2
    injection h2 with h2
    subst h2
    obtain ⟨sts, fpf, e0, e1, e2, -⟩ := aopsD_trace ops.toList (st' := x.1) (fps := x.2) h1
    have hs := trace_st hF (N := ops.toList.length) rfl e2 (by rw [e0]; exact hl) (by rw [e0]; exact hb)
    have key : ∀ i, i ≤ ops.toList.length → Stat (sts 0).h (sts i).h (sts 0).n (sts i).n (fun id => lim ≤ id) := by
      intro i
      induction i with
      | zero => exact fun _ => Stat.same (by rw [e0]; exact hb)
      | succ i ih =>
        intro hi
        obtain ⟨p, hwr⟩ := (hs i (by omega)).2.2 (by omega)
        exact (ih (by omega)).trans (p.weaken (Wr' := fun id => lim ≤ id) fun id _ hh => (hwr id hh).1) fun _ _ hh => hh
    have := key _ (Nat.le_refl _)
    rw [e0, e1] at this
    exact this

theorem aloop_st {lim : Nat} {X : St → Option (Ex × St)} (hX : ∀ {st : St} {r : Ex × St}, X st = some r → lim ≤ st.n → HB st.h st.n → Stat st.h r.2.h st.n r.2.n (fun id => lim ≤ id)) :
    ∀ (j : Nat) {st : St} {r : Ex × St}, aloop X j st = some r → lim ≤ st.n → HB st.h st.n → Stat st.h r.2.h st.n r.2.n (fun id => lim ≤ id) := by
  intro j
  induction j with
  | zero => intro st r he; cases he
  | succ j ih =>
    intro st r he hl hb
    change (X st).bind (fun r => bif Nat.beq r.1 0 then aloop X j r.2 else some r) = some r at he
    obtain ⟨r1, h1, h2⟩ := bind_some he
    have p := hX h1 hl hb
    cases hx : Nat.beq r1.1 0 with
    | false => rw [hx] at h2; injection h2 with h2; subst h2; exact p
    | true => rw [hx] at h2; exact p.trans (ih h2 (Nat.le_trans hl p.nle) p.hb) fun _ _ hh => hh

theorem acode_st (hF : StatF F) {k lim : Nat} : ∀ (c : Code) {st : St} {r : Ex × St}, acode P F k lim c st = some r → lim ≤ st.n → HB st.h st.n → Stat st.h r.2.h st.n r.2.n (fun id => lim ≤ id) := by
  intro c
  induction c with
  | skip => intro st r he hl hb; injection he with he; subst he; exact Stat.same hb
  | region id ops d => intro st r he hl hb; exact cRegion_st hF (d := d) he hl hb
  | seq x y ihx ihy =>
    intro st r he hl hb
    change (acode P F k lim x st).bind (fun r => bif Nat.beq r.1 0 then acode P F k lim y r.2 else some r) = some r at he
    obtain ⟨r1, h1, h2⟩ := bind_some he
    have p := ihx h1 hl hb
    cases hx : Nat.beq r1.1 0 with
    | false => rw [hx] at h2; injection h2 with h2; subst h2; exact p
    | true => rw [hx] at h2; exact p.trans (ihy h2 (Nat.le_trans hl p.nle) p.hb) fun _ _ hh => hh
  | cond c x y ihx ihy =>
    intro st r he hl hb
    change cCond c (acode P F k lim x) (acode P F k lim y) st = some r at he
    unfold cCond at he
    split at he
    · rename_i b hc
      cases b with
      | false => exact ihy he hl hb
      | true => exact ihx he hl hb
    · cases he
  | block id x ih =>
    intro st r he hl hb
    change (acode P F k lim x st).bind (fun r => bif Nat.beq r.1 (id + 2) then some (0, r.2) else some r) = some r at he
    obtain ⟨r1, h1, h2⟩ := bind_some he
    have p := ih h1 hl hb
    cases hx : Nat.beq r1.1 (id + 2) with
    | false => rw [hx] at h2; injection h2 with h2; subst h2; exact p
    | true => rw [hx] at h2; injection h2 with h2; subst h2; exact p
  | loop x ih =>
    intro st r he hl hb
    exact aloop_st (fun h1 h2 h3 => ih h1 h2 h3) k he hl hb
  | exit id => intro st r he hl hb; injection he with he; subst he; exact Stat.same hb
  | label l => intro st r he hl hb; injection he with he; subst he; exact Stat.same hb
  | ret => intro st r he hl hb; injection he with he; subst he; exact Stat.same hb
  | _ => intro st r he hl hb; cases he
end
end Go.Proofs.Ytcdedegjpfemmaa.Ce
