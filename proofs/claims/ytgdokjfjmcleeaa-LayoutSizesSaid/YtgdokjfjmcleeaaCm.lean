/- The evaluator of closed calls: code and functions. No program in sight. -/
import Derived.Test.YtgdokjfjmcleeaaCy
import Derived.Laws.Sem
import Derived.Defers
namespace Go.Proofs.Ytgdokjfjmcleeaa.Ce
open Go.RowKit
set_option linter.unusedVariables false
set_option linter.unusedSimpArgs false

def exOf : Ex → Exit
  | 0 => .normal
  | 1 => .ret
  | n + 2 => .exit n

section
variable {P : Program} {F : CallE} {S : Nat}

/-- what code comes to -/
def CodeOk (P : Program) (S lim : Nat) (X : RC) (c : Code) : Prop :=
  ∀ {st : St} {r : Ex × St} {φ : Mp} {a : Act} {w : World} {Q : Exit → Act → World → Prop}, X st = some r → lim ≤ st.n → TR φ st.a a.tmps → MemR P φ st.h st.n w S →
    (∀ a' w' φ', a'.defers = a.defers → TR φ' r.2.a a'.tmps → Fr φ φ' st.h r.2.h st.n r.2.n (fun id => lim ≤ id) w w' → MemR P φ' r.2.h r.2.n w' S → Q (exOf r.1) a' w') → c.wp P Q a w

theorem loop_ok {lim : Nat} {X : RC} {c : Code} (hX : CodeOk P S lim X c) (k : Nat) : CodeOk P S lim (aloop X k) (.loop c) := by
  intro st r φ a w Q he hl ht m hQ b K cs
  have key : ∀ (j : Nat) {st : St} {φ : Mp} {a : Act} {w : World}, aloop X j st = some r → lim ≤ st.n → TR φ st.a a.tmps → MemR P φ st.h st.n w S →
      (∀ a' w' φ', a'.defers = a.defers → TR φ' r.2.a a'.tmps → Fr φ φ' st.h r.2.h st.n r.2.n (fun id => lim ≤ id) w w' → MemR P φ' r.2.h r.2.n w' S → Q (exOf r.1) a' w') →
      ∃ e a' w', Q e a' w' ∧ Arrives P (lone (b.at a (.code c :: .inLoop c :: K)) cs w) b K cs e a' w' := by
    intro j
    induction j with
    | zero => intro st φ a w he; cases he
    | succ j ih =>
      intro st φ a w he hl ht m hQ
      change (X st).bind (fun r => bif Nat.beq r.1 0 then aloop X j r.2 else some r) = some r at he
      obtain ⟨r1, h1, h2⟩ := bind_some he
      have hbody := hX (Q := Exit.then (fun a1 w1 => ∃ e a' w', Q e a' w' ∧ Arrives P (lone (b.at a1 (.code c :: .inLoop c :: K)) cs w1) b K cs e a' w') Q) h1 hl ht m (fun a1 w1 φ1 hd1 ht1 f1 m1 => by
        cases hx : Nat.beq r1.1 0 with
        | false =>
          rw [hx] at h2
          injection h2 with h2
          subst h2
          have hq := hQ a1 w1 φ1 hd1 ht1 f1 m1
          obtain ⟨n, st1⟩ := r1
          cases n with
          | zero => simp at hx
          | succ n => cases n with
            | zero => exact hq
            | succ n => exact hq
        | true =>
          rw [hx] at h2
          have h0 : r1.1 = 0 := Nat.eq_of_beq_eq_true hx
          rw [h0]
          exact ih h2 (Nat.le_trans hl f1.nle) ht1 m1 fun a2 w2 φ2 hd2 ht2 f2 m2 => hQ a2 w2 φ2 (hd2.trans hd1) ht2 (f1.trans f2 (fun _ _ hh => hh) m1) m2)
      obtain ⟨e, a1, w1, hq, harr⟩ := hbody b (.inLoop c :: K) cs
      cases e with
      | normal =>
        obtain ⟨e2, a2, w2, hq2, harr2⟩ := hq
        exact ⟨e2, a2, w2, hq2, .of_steps (Steps.trans harr (.one step_inLoop)) harr2⟩
      | exit id => exact ⟨_, a1, w1, hq, .pass (x := .inLoop c) rfl (fun _ _ => .inl (by simp)) harr⟩
      | goto l => exact ⟨_, a1, w1, hq, .pass (x := .inLoop c) rfl (fun _ _ => .inl (by simp)) harr⟩
      | ret => exact ⟨_, a1, w1, hq, .pass (x := .inLoop c) rfl (fun _ _ => .inl (by simp)) harr⟩
      | panic ch => exact ⟨_, a1, w1, hq, .pass (x := .inLoop c) rfl (fun _ _ => .inl (by simp)) harr⟩
      | outgrown => exact ⟨_, a1, w1, hq, .pass (x := .inLoop c) rfl (fun _ _ => .inl (by simp)) harr⟩
  obtain ⟨e, a', w', hq, harr⟩ := key k he hl ht m hQ
  exact ⟨e, a', w', hq, .of_steps (.one step_loop) harr⟩

theorem acode_ok (hm : P.follows .mixedOrders = true) (hF : SoundF P F) (hF2 : StatF F) {k lim : Nat} : ∀ (c : Code), CodeOk P S lim (acode P F k lim c) c := by
  intro c
  induction c with
  | skip =>
    intro st r φ a w Q he hl ht m hQ
    injection he with he
    subst he
    exact wp_skip (hQ a w φ rfl ht (Fr.refl _ _ _ _) m)
  | label l =>
    intro st r φ a w Q he hl ht m hQ
    injection he with he
    subst he
    exact wp_label (hQ a w φ rfl ht (Fr.refl _ _ _ _) m)
  | exit id =>
    intro st r φ a w Q he hl ht m hQ
    injection he with he
    subst he
    exact wp_exit (hQ a w φ rfl ht (Fr.refl _ _ _ _) m)
  | ret =>
    intro st r φ a w Q he hl ht m hQ
    injection he with he
    subst he
    exact wp_ret (hQ a w φ rfl ht (Fr.refl _ _ _ _) m)
  | region id ops d =>
    intro st r φ a w Q he hl ht m hQ
    have h0 : ∀ {e : Ex}, e = 0 → exOf e = .normal := fun h => by rw [h]; rfl
    cases d with
    | false => exact region_seq hF he hl ht m fun a' w' φ' h1 h2 h3 h4 h5 => h0 h1 ▸ hQ a' w' φ' h2 h3 h4 h5
    | true => exact region_drawn hm hF hF2 he hl ht m fun a' w' φ' h1 h2 h3 h4 h5 => h0 h1 ▸ hQ a' w' φ' h2 h3 h4 h5
  | seq x y ihx ihy =>
    intro st r φ a w Q he hl ht m hQ
    change (acode P F k lim x st).bind (fun r => bif Nat.beq r.1 0 then acode P F k lim y r.2 else some r) = some r at he
    obtain ⟨r1, h1, h2⟩ := bind_some he
    refine wp_seq (ihx h1 hl ht m fun a1 w1 φ1 hd1 ht1 f1 m1 => ?_)
    cases hx : Nat.beq r1.1 0 with
    | false =>
      rw [hx] at h2
      injection h2 with h2
      subst h2
      have hq := hQ a1 w1 φ1 hd1 ht1 f1 m1
      obtain ⟨n, st1⟩ := r1
      cases n with
      | zero => simp at hx
      | succ n => cases n with
        | zero => exact hq
        | succ n => exact hq
    | true =>
      rw [hx] at h2
      have h0 : r1.1 = 0 := Nat.eq_of_beq_eq_true hx
      rw [h0]
      exact ihy h2 (Nat.le_trans hl f1.nle) ht1 m1 fun a2 w2 φ2 hd2 ht2 f2 m2 => hQ a2 w2 φ2 (hd2.trans hd1) ht2 (f1.trans f2 (fun _ _ hh => hh) m1) m2
  | cond c x y ihx ihy =>
    intro st r φ a w Q he hl ht m hQ
    change cCond c (acode P F k lim x) (acode P F k lim y) st = some r at he
    unfold cCond at he
    split at he
    · rename_i b hc
      have hv := ht.lev c
      rw [hc] at hv
      cases b with
      | false => exact wp_cond_false hv.bool (ihy he hl ht m hQ)
      | true => exact wp_cond_true hv.bool (ihx he hl ht m hQ)
    · cases he
  | block id x ih =>
    intro st r φ a w Q he hl ht m hQ
    change (acode P F k lim x st).bind (fun r => bif Nat.beq r.1 (id + 2) then some (0, r.2) else some r) = some r at he
    obtain ⟨r1, h1, h2⟩ := bind_some he
    refine wp_block (ih h1 hl ht m fun a1 w1 φ1 hd1 ht1 f1 m1 => ?_)
    cases hx : Nat.beq r1.1 (id + 2) with
    | false =>
      rw [hx] at h2
      injection h2 with h2
      subst h2
      have hq := hQ a1 w1 φ1 hd1 ht1 f1 m1
      obtain ⟨n, st1⟩ := r1
      cases n with
      | zero => exact hq
      | succ n => cases n with
        | zero => exact hq
        | succ n =>
          have hne : n ≠ id := fun e => by subst e; simp at hx
          show (if n = id then Q .normal a1 w1 else Q (.exit n) a1 w1)
          rw [if_neg hne]
          exact hq
    | true =>
      rw [hx] at h2
      injection h2 with h2
      subst h2
      have h0 : r1.1 = id + 2 := Nat.eq_of_beq_eq_true hx
      rw [h0]
      show (if id = id then Q .normal a1 w1 else Q (.exit id) a1 w1)
      rw [if_pos rfl]
      exact hQ a1 w1 φ1 hd1 ht1 f1 m1
  | loop x ih => exact loop_ok ih k
  | _ => intro st r φ a w Q he; cases he

/-- a result -/
def resOne (tmps : Array Value) : ResultVar → Sem Value
  | .tmp t => pure (tmps.getD t undef)
  | .cell a t => do loadVar t (← asAddr (tmps.getD a undef))
theorem aresult_ok {φ : Mp} {h : Hp} {n : Nat} {w : World} {l : List Value} {t : Array Value} {x : ResultVar} {v : Value} (ht : TR φ l t) (m : MemR P φ h n w S) (he : aresult P h l x = some v) :
    ∃ v', (resOne t x).run P w = .ok v' w ∧ VC φ v v' := by
  cases x with
  | tmp k =>
    injection he with he
    subst he
    exact ⟨_, rfl, ht.2 k⟩
  | cell a ty =>
    have ht1 := ht.2 a
    change (match lget l a with
      | some (.pointer (some ⟨id, off, none⟩)) => match tyAgg P ty with
        | some true => ((tySize P ty).bind (cellsAt h id off)).map fun cs => Value.agg ⟨cs⟩
        | some false => cellAt h id off
        | none => none
      | _ => none) = some v at he
    split at he
    · rename_i id off hx
      rw [hx] at ht1
      obtain ⟨g, c, hφ, hp⟩ := ht1
      obtain ⟨ho, -, -⟩ := m.obj id g c hφ
      have hrun : ∀ r, (loadVar ty ⟨g, off, none⟩).run P w = r → (resOne t (.cell a ty)).run P w = r := fun r hr => by
        simp [resOne, hp, asAddr, hr]
      split at he
      · rename_i hag
        obtain ⟨cs, h1, rfl⟩ := map_some he
        obtain ⟨sz, h2, h3⟩ := bind_some h1
        obtain ⟨ds, hv, hl, hcell⟩ := cells_read h3 ho
        exact ⟨_, hrun _ (run_pair_load hag (by rw [h2, hl]) hcell), ⟨⟨ds⟩, rfl, hv⟩⟩
      · rename_i hag
        obtain ⟨v', hv, hcell⟩ := cell_read he ho
        exact ⟨v', hrun _ (run_one_load hag hcell), hv.vb.vc⟩
      · cases he
    · cases he
theorem results_ok {φ : Mp} {h : Hp} {n : Nat} {w : World} {l : List Value} {t : Array Value} {fn : Func} {v : Value} (ht : TR φ l t) (m : MemR P φ h n w S) (he : aresults P h fn.results.toList l = some v) :
    ∃ v', (results fn t).run P w = .ok v' w ∧ VC φ v v' := by
  have key : ∀ (rs : List ResultVar) {vs : List Value}, rs.mapM (aresult P h l) = some vs → ∃ vs', (rs.mapM (resOne t)).run P w = .ok vs' w ∧ VL (VC φ) vs vs' := by
    intro rs
    induction rs with
    | nil => intro vs hv; simp at hv; subst hv; exact ⟨[], rfl, trivial⟩
    | cons x rs ih =>
      intro vs hv
      rw [List.mapM_cons] at hv
      obtain ⟨u, h1, hv⟩ := bind_some hv
      obtain ⟨us, h2, hv⟩ := bind_some hv
      injection hv with hv
      subst hv
      obtain ⟨u', e1, e2⟩ := aresult_ok ht m h1
      obtain ⟨us', e3, e4⟩ := ih h2
      refine ⟨u' :: us', ?_, e2, e4⟩
      rw [List.mapM_cons]
      simp [e1, e3]
  unfold aresults at he
  have hres : ∀ vs', (fn.results.toList.mapM (resOne t)).run P w = .ok vs' w → (results fn t).run P w = .ok (if h : vs'.toArray.size = 1 then vs'.toArray[0] else .tuple vs'.toArray) w := fun vs' hv => by
    have hh : results fn t = (do let vs ← fn.results.mapM (resOne t); pure (if h : vs.size = 1 then vs[0] else .tuple vs)) := by
      unfold results
      congr 1
    rw [hh, Array.mapM_eq_mapM_toList]
    simp [hv]
  cases hv : fn.results.toList.mapM (aresult P h l) with
  | none => rw [hv] at he; cases he
  | some vs =>
    obtain ⟨vs', e1, e2⟩ := key _ hv
    rw [hv] at he
    refine ⟨_, hres vs' e1, ?_⟩
    have hlen := e2.len
    rcases vs with _ | ⟨u, _ | ⟨u2, us⟩⟩
    · have : vs' = [] := by simpa using hlen.symm
      subst this
      obtain ⟨-, he⟩ := bif_some he
      injection he with he
      subst he
      exact VC.undef_
    · obtain ⟨u', rfl⟩ : ∃ u', vs' = [u'] := by
        rcases vs' with _ | ⟨u', _ | _⟩ <;> simp at hlen
        exact ⟨u', rfl⟩
      injection he with he
      subst he
      exact e2.1
    · obtain ⟨hall, he⟩ := bif_some he
      injection he with he
      subst he
      have hne : ¬ vs'.toArray.size = 1 := by simp at hlen ⊢; omega
      rw [dif_neg hne]
      refine ⟨_, rfl, ?_⟩
      refine VL.mk hlen fun k a b h1 h2 => ?_
      obtain ⟨b', h3, h4⟩ := e2.at_ h1
      have h2' : vs'[k]? = some b := h2
      rw [h3] at h2'
      injection h2' with h2'
      subst h2'
      exact VB_of (List.all_eq_true.1 hall a (List.mem_of_getElem? h1)) h4

theorem TR.start {φ : Mp} {args cargs : List Value} {k : Nat} (hv : VL (VC φ) args cargs) : TR φ (args ++ List.replicate (k - args.length) undef) (⟨cargs⟩ ++ Array.replicate (k - (⟨cargs⟩ : Array Value).size) undef) := by
  have hl := hv.len
  have hsz : (⟨cargs⟩ : Array Value).size = cargs.length := rfl
  refine ⟨by simp [hl], fun j => ?_⟩
  rw [lget_eq]
  rcases Nat.lt_or_ge j args.length with h | h
  · have h1 : args[j]? = some args[j] := List.getElem?_eq_getElem h
    obtain ⟨b, h2, h3⟩ := hv.at_ h1
    rw [List.getElem?_append_left h, h1]
    have h4 : (⟨cargs⟩ ++ Array.replicate (k - (⟨cargs⟩ : Array Value).size) undef : Array Value).getD j undef = b := by
      rw [Array.getD_eq_getD_getElem?, Array.getElem?_append_left (by rw [hsz]; omega)]
      simp [h2]
    rw [h4]
    exact h3
  · rw [List.getElem?_append_right h]
    have h5 : ∀ (n m : Nat), ((List.replicate n undef)[m]?).getD undef = undef := fun n m => by
      rw [List.getElem?_replicate]
      split <;> rfl
    rw [h5]
    have h4 : (⟨cargs⟩ ++ Array.replicate (k - (⟨cargs⟩ : Array Value).size) undef : Array Value).getD j undef = undef := by
      rw [Array.getD_eq_getD_getElem?, Array.getElem?_append_right (by rw [hsz]; omega), Array.getElem?_replicate]
      split <;> rfl
    rw [h4]
    exact VC.undef_

/-- what a run of a function leaves -/
abbrev RunQ (P : Program) (S lim : Nat) (φ : Mp) (w : World) (h h' : Hp) (n n' : Nat) (v : Value) : Ending → World → Prop :=
  fun e w' => ∃ v' φ', e = .returned v' ∧ VC φ' v v' ∧ Fr φ φ' h h' n n' (fun id => lim ≤ id) w w' ∧ MemR P φ' h' n' w' S
theorem arun1_wp (hm : P.follows .mixedOrders = true) (hF : SoundF P F) (hF2 : StatF F) {k lim : Nat} {x : Code × Nat × List ResultVar} {fn : Func} {args : List Value} {h h' : Hp} {n n' : Nat} {v : Value}
    (hnt : fn.ntmps = x.2.1) (hrs : fn.results.toList = x.2.2) (he : arun1 P F k lim x args h n = some (v, h', n')) (hl : lim ≤ n)
    {φ : Mp} {w : World} {cargs : List Value} (hv : VL (VC φ) args cargs) (m : MemR P φ h n w S) :
    x.1.wp P (bodyPost P fn (RunQ P S lim φ w h h' n n' v)) { tmps := ⟨cargs⟩ ++ Array.replicate (fn.ntmps - (⟨cargs⟩ : Array Value).size) undef, defers := [] } w := by
  unfold arun1 at he
  obtain ⟨r, hc, he⟩ := bind_some he
  obtain ⟨hr1, he⟩ := bif_some he
  obtain ⟨v0, hres, he⟩ := map_some he
  injection he with e1 e2
  injection e2 with e2 e3
  subst e1; subst e2; subst e3
  rw [← hnt] at hc
  rw [← hrs] at hres
  refine acode_ok hm hF hF2 x.1 hc hl (TR.start hv) m fun a' w' φ' hd ht f m' => ?_
  obtain ⟨v', h1, h2⟩ := results_ok ht m' hres
  have key : a'.defers = [] ∧ ∃ u, (results fn a'.tmps).run P w' = .ok u w' ∧ ∃ v' φ', Ending.returned u = .returned v' ∧ VC φ' v0 v' ∧ Fr φ φ' h r.2.h n r.2.n (fun id => lim ≤ id) w w' ∧ MemR P φ' r.2.h r.2.n w' S :=
    ⟨hd, v', h1, v', φ', rfl, h2, f, m'⟩
  obtain ⟨ex, st⟩ := r
  have hr1' : ex ≤ 1 := by rwa [Nat.ble_eq] at hr1
  match ex, hr1', key with
  | 0, _, key => exact key
  | 1, _, key => exact key
theorem dform_some {c : Code} {x : Code × List Oper × List Oper × Operand × Code} (hd : dform c = some x) :
    ∃ id ops o ats, c = .seq x.1 (.seq (.region id ops false) x.2.2.2.2) ∧ ops.toList = x.2.1 ∧ x.2.1 = x.2.2.1 ++ [o] ∧ o.guard = none ∧ o.dst = none ∧ o.op = .defer ⟨.value x.2.2.2.1, ⟨[]⟩, ats⟩ := by
  unfold dform at hd
  split at hd
  · rename_i c1 id ops y
    split at hd
    · rename_i f ats ty pos af l hrev
      injection hd with hd
      subst hd
      refine ⟨id, ops, ⟨none, .defer ⟨.value f, ⟨[]⟩, ats⟩, ty, pos, af, none⟩, ats, rfl, rfl, ?_, rfl, rfl, rfl⟩
      have h1 := congrArg List.reverse hrev
      rw [List.reverse_reverse] at h1
      show ops.toList = l.reverse ++ [_]
      rw [h1]
      simp
    · cases hd
  · cases hd
theorem adef_some {k lim : Nat} {u : Value} {h : Hp} {n : Nat} {r : Value × Hp × Nat} (he : adef P F k lim u h n = some r) :
    ∃ g first cap x, u = .func (.func g) first cap ∧ first.toList = [] ∧ goodF P g = some x ∧ arun1 P F k lim x cap.toList h n = some r := by
  cases u with
  | func fn first cap =>
    cases fn with
    | func g =>
      unfold adef at he
      dsimp only at he
      cases hfst : first.toList with
      | cons y ys => rw [hfst] at he; cases he
      | nil =>
        rw [hfst] at he
        dsimp only at he
        obtain ⟨x, hg, he⟩ := bind_some he
        exact ⟨g, first, cap, x, rfl, hfst, hg, he⟩
    | _ => cases he
  | _ => cases he
theorem arunD_wp (hm : P.follows .mixedOrders = true) (hF : SoundF P F) (hF2 : StatF F) {k lim : Nat} {x : Code × Nat × List ResultVar} {y : Code × List Oper × List Oper × Operand × Code} {fn : Func} {args : List Value} {h h' : Hp} {n n' : Nat} {v : Value}
    (hnt : fn.ntmps = x.2.1) (hrs : fn.results.toList = x.2.2) (hy : dform x.1 = some y) (he : arunD P F k lim y x args h n = some (v, h', n')) (hl : lim ≤ n)
    {φ : Mp} {w : World} {cargs : List Value} (hv : VL (VC φ) args cargs) (m : MemR P φ h n w S) :
    x.1.wp P (bodyPostD P fn (RunQ P S lim φ w h h' n n' v)) { tmps := ⟨cargs⟩ ++ Array.replicate (fn.ntmps - (⟨cargs⟩ : Array Value).size) undef, defers := [] } w := by
  obtain ⟨id, ops, o, ats, hc0, hops, hpre, hog, hod, hoo⟩ := dform_some hy
  rw [hc0]
  unfold arunD at he
  obtain ⟨r0, hr0, he⟩ := bind_some he
  obtain ⟨hz, he⟩ := bif_some he
  have hz : r0.1 = 0 := Nat.eq_of_beq_eq_true hz
  obtain ⟨s1, hs1, he⟩ := bind_some he
  obtain ⟨r, hr, he⟩ := bind_some he
  obtain ⟨hr1, he⟩ := bif_some he
  obtain ⟨dd, hdd, he⟩ := bind_some he
  obtain ⟨v0, hres, he⟩ := map_some he
  injection he with e1 e2
  injection e2 with e2 e3
  subst e1; subst e2; subst e3
  rw [← hnt] at hr0
  rw [← hrs] at hres
  obtain ⟨g, first, cap, gi, hlev, hfst, hg, hrun⟩ := adef_some hdd
  refine wp_seq (acode_ok hm hF hF2 y.1 hr0 hl (TR.start hv) m fun a1 w1 φ1 hd1 ht1 f1 m1 => ?_)
  rw [hz]
  refine wp_seq (wp_region_list ?_)
  rw [hops, hpre]
  refine aops_okL hF _ (by rw [hops]; exact hs1) (Nat.le_trans hl f1.nle) ht1 m1 fun a2 w2 φ2 hd2 ht2 f2 m2 => ?_
  have f12 := f1.trans f2 (fun _ _ hh => hh) m1
  have hvf := ht2.lev y.2.2.2.1
  rw [hlev] at hvf
  obtain ⟨a', b', hvf, hv1, hv2⟩ := hvf
  have ha' : a' = #[] := by
    rw [hfst] at hv1
    have := hv1.len
    simpa using this.symm
  subst ha'
  have hexec : (execOp a2.eval o).run P w2 = .ok (.defer { target := .fn (.func g) b', args := #[] }) w2 := by
    obtain ⟨dst, op, ty, pos, af, gd⟩ := o
    simp only at hoo
    subst hoo
    simp [execOp, resolve, Deferred.ofValue, hvf]
  unfold wpList
  have hwant : Region.wanted o (yielded ops a2.tmps) = true := by unfold Region.wanted; rw [hog]
  rw [if_pos hwant]
  refine .inl ?_
  unfold Oper.wp
  rw [hexec, Oper.upon_defer, hod]
  show y.2.2.2.2.wp P _ { a2 with defers := [{ target := .fn (.func g) b', args := #[] }] ++ a2.defers } w2
  refine acode_ok hm hF hF2 y.2.2.2.2 hr (Nat.le_trans hl f12.nle) ht2 m2 fun a3 w3 φ3 hd3 ht3 f3 m3 => ?_
  have f123 := f12.trans f3 (fun _ _ hh => hh) m2
  have hle3 := f3.le m2.fn
  obtain ⟨gn, hgf, hgn, hgb, hgt, hgr⟩ := goodF_some hg
  have key : Leaves P fn a3.tmps (RunQ P S lim φ w h dd.2.1 n dd.2.2 v0) a3.defers .returning w3 := by
    have hds : a3.defers = [{ target := .fn (.func g) b', args := #[] }] := by
      rw [hd3]
      show [_] ++ a2.defers = _
      rw [hd2, hd1]
      rfl
    rw [hds]
    refine leaves_cons (f := g) (args := b') (by intro hh; cases hh) ?_ ?_
    · show (callFunc g (#[] ++ b')).run P w3 = _
      rw [run_callFunc hg]
      simp
    · obtain ⟨bl⟩ := b'
      have hw3 := arun1_wp (S := S) hm hF hF2 hgt hgr (v := dd.1) (h' := dd.2.1) (n' := dd.2.2) hrun (Nat.le_trans hl f123.nle) (cargs := bl) ((hv2.imp_ fun _ _ => VB.mono hle3).imp_ fun _ _ hh => hh.vc) m3
      refine CallsD.mono (callsD_of_wp hgf hgb hw3) fun e u' w4 hh => ?_
      obtain ⟨rfl, v', φ4, rfl, hv4, f4, m4⟩ := hh
      obtain ⟨v5, h5, h6⟩ := results_ok (ht3.mono (f4.le m3.fn)) m4 hres
      exact ⟨v5, h5, v5, φ4, rfl, h6, f123.trans f4 (fun _ _ hh => hh) m3, m4⟩
  obtain ⟨ex, st⟩ := r
  have hr1' : ex ≤ 1 := by rwa [Nat.ble_eq] at hr1
  match ex, hr1', key with
  | 0, _, key => exact key
  | 1, _, key => exact key

theorem arun_ok (hm : P.follows .mixedOrders = true) (hF : SoundF P F) (hF2 : StatF F) {k lim : Nat} {g : FuncId} {args : List Value} {h h' : Hp} {n n' : Nat} {v : Value} (he : arun P F k lim g args h n = some (v, h', n')) (hl : lim ≤ n)
    {φ : Mp} {w : World} {cargs : List Value} (hv : VL (VC φ) args cargs) (m : MemR P φ h n w S) :
    Calls P g ⟨cargs⟩ w fun e w' => ∃ v' φ', e = .returned v' ∧ VC φ' v v' ∧ Fr φ φ' h h' n n' (fun id => lim ≤ id) w w' ∧ MemR P φ' h' n' w' S := by
  unfold arun at he
  obtain ⟨x, hg, he⟩ := bind_some he
  obtain ⟨fn, hf, hn, hb, hnt, hrs⟩ := goodF_some hg
  cases hy : dform x.1 with
  | none =>
    rw [hy] at he
    exact calls_of_wp hf hb (arun1_wp hm hF hF2 hnt hrs he hl hv m)
  | some y =>
    rw [hy] at he
    exact calls_of_wp_defers hf hb (arunD_wp hm hF hF2 hnt hrs hy he hl hv m)
theorem arun1_st (hF2 : StatF F) {k lim : Nat} {x : Code × Nat × List ResultVar} {args : List Value} {h h' : Hp} {n n' : Nat} {v : Value} (he : arun1 P F k lim x args h n = some (v, h', n')) (hl : lim ≤ n) (hb : HB h n) : Stat h h' n n' (fun id => lim ≤ id) := by
  unfold arun1 at he
  obtain ⟨r, hc, he⟩ := bind_some he
  obtain ⟨hr1, he⟩ := bif_some he
  obtain ⟨v0, hres, he⟩ := map_some he
  injection he with e1 e2
  injection e2 with e2 e3
  subst e2; subst e3
  exact acode_st hF2 x.1 hc hl hb
theorem arun_st (hF2 : StatF F) {k lim : Nat} {g : FuncId} {args : List Value} {h h' : Hp} {n n' : Nat} {v : Value} (he : arun P F k lim g args h n = some (v, h', n')) (hl : lim ≤ n) (hb : HB h n) : Stat h h' n n' (fun id => lim ≤ id) := by
  unfold arun at he
  obtain ⟨x, hg, he⟩ := bind_some he
  cases hy : dform x.1 with
  | none =>
    rw [hy] at he
    exact arun1_st hF2 he hl hb
  | some y =>
    rw [hy] at he
    change arunD P F k lim y x args h n = _ at he
    unfold arunD at he
    obtain ⟨r0, hr0, he⟩ := bind_some he
    obtain ⟨hz, he⟩ := bif_some he
    obtain ⟨s1, hs1, he⟩ := bind_some he
    obtain ⟨r, hr, he⟩ := bind_some he
    obtain ⟨hr1, he⟩ := bif_some he
    obtain ⟨dd, hdd, he⟩ := bind_some he
    obtain ⟨v0, hres, he⟩ := map_some he
    injection he with e1 e2
    injection e2 with e2 e3
    subst e2; subst e3
    obtain ⟨g', first, cap, gi, hlev, hfst, hg', hrun⟩ := adef_some hdd
    have p1 := acode_st hF2 y.1 hr0 hl hb
    have p2 := aops_st hF2 _ hs1 (Nat.le_trans hl p1.nle) p1.hb
    have p12 := p1.trans p2 fun _ _ hh => hh
    have p3 := acode_st hF2 y.2.2.2.2 hr (Nat.le_trans hl p12.nle) p12.hb
    have p123 := p12.trans p3 fun _ _ hh => hh
    have p4 := arun1_st (v := dd.1) (h' := dd.2.1) (n' := dd.2.2) hF2 hrun (Nat.le_trans hl p123.nle) p123.hb
    exact p123.trans p4 fun _ _ hh => hh
end
end Go.Proofs.Ytgdokjfjmcleeaa.Ce
