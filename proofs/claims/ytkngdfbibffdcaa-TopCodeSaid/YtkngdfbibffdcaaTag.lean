/- Parts of the proof of TopCode: Cm. No condition of its own. -/
import Derived.Laws.Sem
import Derived.Defers
import Derived.Test.YtkngdfbibffdcaaTaf
set_option linter.unusedVariables false
set_option linter.unusedSimpArgs false
set_option maxRecDepth 100000
set_option maxHeartbeats 4000000
namespace Go.Proofs.Ytkngdfbibffdcaa.Ce
open Go.RowKit
def exOf : Ex → Exit
  | 0 => .normal
  | 1 => .ret
  | n + 2 => .exit n
section
variable {P : Program} {F : CallE} {S : Nat}
def CodeOk (P : Program) (S lim : Nat) (X : RC) (c : Code) : Prop :=
  ∀ {st : St} {r : Ex × St} {φ : Mp} {a : Act} {w : World} {Q : Exit → Act → World → Prop}, X st = some r → lim ≤ st.n → TR φ st.a a.tmps → MemR P φ st.h st.n w S →
    (∀ a' w' φ', a'.defers = a.defers → TR φ' r.2.a a'.tmps → Fr φ φ' st.h r.2.h st.n r.2.n (fun id => lim ≤ id) w w' → MemR P φ' r.2.h r.2.n w' S → Q (exOf r.1) a' w') → c.wp P Q a w
theorem loop_ok {lim : Nat} {X : RC} {c : Code} (hX : CodeOk P S lim X c) (k : Nat) : CodeOk P S lim (aloop X k) (.loop c) := by
  intro st r φ a w Q he hl ht m hQ b K cs
  have key : ∀ (j : Nat) {st : St} {φ : Mp} {a : Act} {w : World}, aloop X j st = some r → lim ≤ st.n → TR φ st.a a.tmps → MemR P φ st.h st.n w S →
      (∀ a' w' φ', a'.defers = a.defers → TR φ' r.2.a a'.tmps → Fr φ φ' st.h r.2.h st.n r.2.n (fun id => lim ≤ id) w w' → MemR P φ' r.2.h r.2.n w' S → Q (exOf r.1) a' w') →
      ∃ e a' w', Q e a' w' ∧ Arrives P (lone (b.at a (.code c :: .inLoop c :: K)) cs w) b K cs e a' w' := by
    intro j
    induction j with
    | zero => intro st φ a w he; cases he
    | succ j ih =>
      intro st φ a w he hl ht m hQ
      change (X st).bind (fun r => bif Nat.beq r.1 0 then aloop X j r.2 else some r) = some r at he
      obtain ⟨r1, h1, h2⟩ := bind_some he
      have hbody := hX (Q := Exit.then (fun a1 w1 => ∃ e a' w', Q e a' w' ∧ Arrives P (lone (b.at a1 (.code c :: .inLoop c :: K)) cs w1) b K cs e a' w') Q) h1 hl ht m (fun a1 w1 φ1 hd1 ht1 f1 m1 => by
        cases hx : Nat.beq r1.1 0 with
        | false =>
          rw [hx] at h2
          injection h2 with h2
          subst h2
          have hq := hQ a1 w1 φ1 hd1 ht1 f1 m1
          obtain ⟨n, st1⟩ := r1
          cases n with
          | zero => simp at hx
          | succ n => cases n with
            | zero => exact hq
            | succ n => exact hq
        | true =>
          rw [hx] at h2
          have h0 : r1.1 = 0 := Nat.eq_of_beq_eq_true hx
          rw [h0]
          exact ih h2 (Nat.le_trans hl f1.nle) ht1 m1 fun a2 w2 φ2 hd2 ht2 f2 m2 => hQ a2 w2 φ2 (hd2.trans hd1) ht2 (f1.trans f2 (fun _ _ hh => hh) m1) m2)
      obtain ⟨e, a1, w1, hq, harr⟩ := hbody b (.inLoop c :: K) cs
      cases e with
      | normal =>
        obtain ⟨e2, a2, w2, hq2, harr2⟩ := hq
        exact ⟨e2, a2, w2, hq2, .of_steps (Steps.trans harr (.one step_inLoop)) harr2⟩
      | exit id => exact ⟨_, a1, w1, hq, .pass (x := .inLoop c) rfl (fun _ _ => .inl (by simp)) harr⟩
      | goto l => exact ⟨_, a1, w1, hq, .pass (x := .inLoop c) rfl (fun _ _ => .inl (by simp)) harr⟩
      | ret => exact ⟨_, a1, w1, hq, .pass (x := .inLoop c) rfl (fun _ _ => .inl (by simp)) harr⟩
      | panic ch => exact ⟨_, a1, w1, hq, .pass (x := .inLoop c) rfl (fun _ _ => .inl (by simp)) harr⟩
      | outgrown => exact ⟨_, a1, w1, hq, .pass (x := .inLoop c) rfl (fun _ _ => .inl (by simp)) harr⟩
  obtain ⟨e, a', w', hq, harr⟩ := key k he hl ht m hQ
  exact ⟨e, a', w', hq, .of_steps (.one step_loop) harr⟩
theorem acode_ok (hm : P.follows .mixedOrders = true) (hF : SoundF P F) (hF2 : StatF F) {k lim : Nat} : ∀ (c : Code), CodeOk P S lim (acode P F k lim c) c := by
  intro c
  induction c with
  | skip =>
    intro st r φ a w Q he hl ht m hQ
    injection he with he
    subst he
    exact wp_skip (hQ a w φ rfl ht (Fr.refl _ _ _ _) m)
  | label l =>
    intro st r φ a w Q he hl ht m hQ
    injection he with he
    subst he
    exact wp_label (hQ a w φ rfl ht (Fr.refl _ _ _ _) m)
  | exit id =>
    intro st r φ a w Q he hl ht m hQ
    injection he with he
    subst he
    exact wp_exit (hQ a w φ rfl ht (Fr.refl _ _ _ _) m)
  | ret =>
    intro st r φ a w Q he hl ht m hQ
    injection he with he
    subst he
    exact wp_ret (hQ a w φ rfl ht (Fr.refl _ _ _ _) m)
  | region id ops d =>
    intro st r φ a w Q he hl ht m hQ
    have h0 : ∀ {e : Ex}, e = 0 → exOf e = .normal := fun h => by rw [h]; rfl
    cases d with
    | false => exact region_seq hF he hl ht m fun a' w' φ' h1 h2 h3 h4 h5 => h0 h1 ▸ hQ a' w' φ' h2 h3 h4 h5
    | true => exact region_drawn hm hF hF2 he hl ht m fun a' w' φ' h1 h2 h3 h4 h5 => h0 h1 ▸ hQ a' w' φ' h2 h3 h4 h5
  | seq x y ihx ihy =>
    intro st r φ a w Q he hl ht m hQ
    change (acode P F k lim x st).bind (fun r => bif Nat.beq r.1 0 then acode P F k lim y r.2 else some r) = some r at he
    obtain ⟨r1, h1, h2⟩ := bind_some he
    refine wp_seq (ihx h1 hl ht m fun a1 w1 φ1 hd1 ht1 f1 m1 => ?_)
    cases hx : Nat.beq r1.1 0 with
    | false =>
      rw [hx] at h2
      injection h2 with h2
      subst h2
      have hq := hQ a1 w1 φ1 hd1 ht1 f1 m1
      obtain ⟨n, st1⟩ := r1
      cases n with
      | zero => simp at hx
      | succ n => cases n with
        | zero => exact hq
        | succ n => exact hq
    | true =>
      rw [hx] at h2
      have h0 : r1.1 = 0 := Nat.eq_of_beq_eq_true hx
      rw [h0]
      exact ihy h2 (Nat.le_trans hl f1.nle) ht1 m1 fun a2 w2 φ2 hd2 ht2 f2 m2 => hQ a2 w2 φ2 (hd2.trans hd1) ht2 (f1.trans f2 (fun _ _ hh => hh) m1) m2
  | cond c x y ihx ihy =>
    intro st r φ a w Q he hl ht m hQ
    change cCond c (acode P F k lim x) (acode P F k lim y) st = some r at he
    unfold cCond at he
    split at he
    · rename_i b hc
      have hv := ht.lev c
      rw [hc] at hv
      cases b with
      | false => exact wp_cond_false hv.bool (ihy he hl ht m hQ)
      | true => exact wp_cond_true hv.bool (ihx he hl ht m hQ)
    · cases he
  | block id x ih =>
    intro st r φ a w Q he hl ht m hQ
    change (acode P F k lim x st).bind (fun r => bif Nat.beq r.1 (id + 2) then some (0, r.2) else some r) = some r at he
    obtain ⟨r1, h1, h2⟩ := bind_some he
    refine wp_block (ih h1 hl ht m fun a1 w1 φ1 hd1 ht1 f1 m1 => ?_)
    cases hx : Nat.beq r1.1 (id + 2) with
    | false =>
      rw [hx] at h2
      injection h2 with h2
      subst h2
      have hq := hQ a1 w1 φ1 hd1 ht1 f1 m1
      obtain ⟨n, st1⟩ := r1
      cases n with
      | zero => exact hq
      | succ n => cases n with
        | zero => exact hq
        | succ n =>
          have hne : n ≠ id := fun e => by subst e; simp at hx
          show (if n = id then Q .normal a1 w1 else Q (.exit n) a1 w1)
          rw [if_neg hne]
          exact hq
    | true =>
      rw [hx] at h2
      injection h2 with h2
      subst h2
      have h0 : r1.1 = id + 2 := Nat.eq_of_beq_eq_true hx
      rw [h0]
      show (if id = id then Q .normal a1 w1 else Q (.exit id) a1 w1)
      rw [if_pos rfl]
      exact hQ a1 w1 φ1 hd1 ht1 f1 m1
  | loop x ih => exact loop_ok ih k
  | _ => intro st r φ a w Q he; cases he
def resOne (tmps : Array Value) : ResultVar → Sem Value
  | .tmp t => pure (tmps.getD t undef)
  | .cell a t => do loadVar t (← asAddr (tmps.getD a undef))
theorem aresult_ok {φ : Mp} {h : Hp} {n : Nat} {w : World} {l : List Value} {t : Array Value} {x : ResultVar} {v : Value} (ht : TR φ l t) (m : MemR P φ h n w S) (he : aresult P h l x = some v) :
    ∃ v', (resOne t x).run P w = .ok v' w ∧ VC φ v v' := by
  cases x with
  | tmp k =>
    injection he with he
    subst he
    exact ⟨_, rfl, ht.2 k⟩
  | cell a ty =>
    have ht1 := ht.2 a
    change (match lget l a with
      | some (.pointer (some ⟨id, off, none⟩)) => match tyAgg P ty with
        | some true => ((tySize P ty).bind (cellsAt h id off)).map fun cs => Value.agg ⟨cs⟩
        | some false => cellAt h id off
        | none => none
      | _ => none) = some v at he
    split at he
    · rename_i id off hx
      rw [hx] at ht1
      obtain ⟨g, c, hφ, hp⟩ := ht1
      obtain ⟨ho, -, -⟩ := m.obj id g c hφ
      have hrun : ∀ r, (loadVar ty ⟨g, off, none⟩).run P w = r → (resOne t (.cell a ty)).run P w = r := fun r hr => by
        simp [resOne, hp, asAddr, hr]
      split at he
      · rename_i hag
        obtain ⟨cs, h1, rfl⟩ := map_some he
        obtain ⟨sz, h2, h3⟩ := bind_some h1
        obtain ⟨ds, hv, hl, hcell⟩ := cells_read h3 ho
        exact ⟨_, hrun _ (run_pair_load hag (by rw [h2, hl]) hcell), ⟨⟨ds⟩, rfl, hv⟩⟩
      · rename_i hag
        obtain ⟨v', hv, hcell⟩ := cell_read he ho
        exact ⟨v', hrun _ (run_one_load hag hcell), hv.vb.vc⟩
      · cases he
    · cases he
theorem results_ok {φ : Mp} {h : Hp} {n : Nat} {w : World} {l : List Value} {t : Array Value} {fn : Func} {v : Value} (ht : TR φ l t) (m : MemR P φ h n w S) (he : aresults P h fn.results.toList l = some v) :
    ∃ v', (results fn t).run P w = .ok v' w ∧ VC φ v v' := by
  have key : ∀ (rs : List ResultVar) {vs : List Value}, rs.mapM (aresult P h l) = some vs → ∃ vs', (rs.mapM (resOne t)).run P w = .ok vs' w ∧ VL (VC φ) vs vs' := by
    intro rs
    induction rs with
    | nil => intro vs hv; simp at hv; subst hv; exact ⟨[], rfl, trivial⟩
    | cons x rs ih =>
      intro vs hv
      rw [List.mapM_cons] at hv
      obtain ⟨u, h1, hv⟩ := bind_some hv
      obtain ⟨us, h2, hv⟩ := bind_some hv
      injection hv with hv
      subst hv
      obtain ⟨u', e1, e2⟩ := aresult_ok ht m h1
      obtain ⟨us', e3, e4⟩ := ih h2
      refine ⟨u' :: us', ?_, e2, e4⟩
      rw [List.mapM_cons]
      simp [e1, e3]
  unfold aresults at he
  have hres : ∀ vs', (fn.results.toList.mapM (resOne t)).run P w = .ok vs' w → (results fn t).run P w = .ok (if h : vs'.toArray.size = 1 then vs'.toArray[0] else .tuple vs'.toArray) w := fun vs' hv => by
    have hh : results fn t = (do let vs ← fn.results.mapM (resOne t); pure (if h : vs.size = 1 then vs[0] else .tuple vs)) := by
      unfold results
      congr 1
    rw [hh, Array.mapM_eq_mapM_toList]
    simp [hv]
  cases hv : fn.results.toList.mapM (aresult P h l) with
  | none => rw [hv] at he; cases he
  | some vs =>
    obtain ⟨vs', e1, e2⟩ := key _ hv
    rw [hv] at he
    refine ⟨_, hres vs' e1, ?_⟩
    have hlen := e2.len
    rcases vs with _ | ⟨u, _ | ⟨u2, us⟩⟩
    · have : vs' = [] := by simpa using hlen.symm
      subst this
      obtain ⟨-, he⟩ := bif_some he
      injection he with he
      subst he
      exact VC.undef_
    · obtain ⟨u', rfl⟩ : ∃ u', vs' = [u'] := by
        rcases vs' with _ | ⟨u', _ | _⟩ <;> simp at hlen
        exact ⟨u', rfl⟩
      injection he with he
      subst he
      exact e2.1
    · obtain ⟨hall, he⟩ := bif_some he
      injection he with he
      subst he
      have hne : ¬ vs'.toArray.size = 1 := by simp at hlen ⊢; omega
      rw [dif_neg hne]
      refine ⟨_, rfl, ?_⟩
      refine VL.mk hlen fun k a b h1 h2 => ?_
      obtain ⟨b', h3, h4⟩ := e2.at_ h1
      have h2' : vs'[k]? = some b := h2
      rw [h3] at h2'
      injection h2' with h2'
      subst h2'
      exact VB_of (List.all_eq_true.1 hall a (List.mem_of_getElem? h1)) h4
theorem TR.start {φ : Mp} {args cargs : List Value} {k : Nat} (hv : VL (VC φ) args cargs) : TR φ (args ++ List.replicate (k - args.length) undef) (⟨cargs⟩ ++ Array.replicate (k - (⟨cargs⟩ : Array Value).size) undef) := by
  have hl := hv.len
  have hsz : (⟨cargs⟩ : Array Value).size = cargs.length := rfl
  refine ⟨by simp [hl], fun j => ?_⟩
  rw [lget_eq]
  rcases Nat.lt_or_ge j args.length with h | h
  · have h1 : args[j]? = some args[j] := List.getElem?_eq_getElem h
    obtain ⟨b, h2, h3⟩ := hv.at_ h1
    rw [List.getElem?_append_left h, h1]
    have h4 : (⟨cargs⟩ ++ Array.replicate (k - (⟨cargs⟩ : Array Value).size) undef : Array Value).getD j undef = b := by
      rw [Array.getD_eq_getD_getElem?, Array.getElem?_append_left (by rw [hsz]; omega)]
      simp [h2]
    rw [h4]
    exact h3
  · rw [List.getElem?_append_right h]
    have h5 : ∀ (n m : Nat), ((List.replicate n undef)[m]?).getD undef = undef := fun n m => by
      rw [List.getElem?_replicate]
      split <;> rfl
    rw [h5]
    have h4 : (⟨cargs⟩ ++ Array.replicate (k - (⟨cargs⟩ : Array Value).size) undef : Array Value).getD j undef = undef := by
      rw [Array.getD_eq_getD_getElem?, Array.getElem?_append_right (by rw [hsz]; omega), Array.getElem?_replicate]
      split <;> rfl
    rw [h4]
    exact VC.undef_
abbrev RunQ (P : Program) (S lim : Nat) (φ : Mp) (w : World) (h h' : Hp) (n n' : Nat) (v : Value) : Ending → World → Prop :=
  fun e w' => ∃ v' φ', e = .returned v' ∧ VC φ' v v' ∧ Fr φ φ' h h' n n' (fun id => lim ≤ id) w w' ∧ MemR P φ' h' n' w' S
theorem arun1_wp (hm : P.follows .mixedOrders = true) (hF : SoundF P F) (hF2 : StatF F) {k lim : Nat} {x : Code × Nat × List ResultVar} {fn : Func} {args : List Value} {h h' : Hp} {n n' : Nat} {v : Value}
    (hnt : fn.ntmps = x.2.1) (hrs : fn.results.toList = x.2.2) (he : arun1 P F k lim x args h n = some (v, h', n')) (hl : lim ≤ n)
    {φ : Mp} {w : World} {cargs : List Value} (hv : VL (VC φ) args cargs) (m : MemR P φ h n w S) :
    x.1.wp P (bodyPost P fn (RunQ P S lim φ w h h' n n' v)) { tmps := ⟨cargs⟩ ++ Array.replicate (fn.ntmps - (⟨cargs⟩ : Array Value).size) undef, defers := [] } w := by
  unfold arun1 at he
  obtain ⟨r, hc, he⟩ := bind_some he
  obtain ⟨hr1, he⟩ := bif_some he
  obtain ⟨v0, hres, he⟩ := map_some he
  injection he with e1 e2
  injection e2 with e2 e3
  subst e1; subst e2; subst e3
  rw [← hnt] at hc
  rw [← hrs] at hres
  refine acode_ok hm hF hF2 x.1 hc hl (TR.start hv) m fun a' w' φ' hd ht f m' => ?_
  obtain ⟨v', h1, h2⟩ := results_ok ht m' hres
  have key : a'.defers = [] ∧ ∃ u, (results fn a'.tmps).run P w' = .ok u w' ∧ ∃ v' φ', Ending.returned u = .returned v' ∧ VC φ' v0 v' ∧ Fr φ φ' h r.2.h n r.2.n (fun id => lim ≤ id) w w' ∧ MemR P φ' r.2.h r.2.n w' S :=
    ⟨hd, v', h1, v', φ', rfl, h2, f, m'⟩
  obtain ⟨ex, st⟩ := r
  have hr1' : ex ≤ 1 := by rwa [Nat.ble_eq] at hr1
  match ex, hr1', key with
  | 0, _, key => exact key
  | 1, _, key => exact key
theorem dform_some {c : Code} {x : Code × List Oper × List Oper × Operand × Code} (hd : dform c = some x) :
    ∃ id ops o ats, c = .seq x.1 (.seq (.region id ops false) x.2.2.2.2) ∧ ops.toList = x.2.1 ∧ x.2.1 = x.2.2.1 ++ [o] ∧ o.guard = none ∧ o.dst = none ∧ o.op = .defer ⟨.value x.2.2.2.1, ⟨[]⟩, ats⟩ := by
  unfold dform at hd
  split at hd
  · rename_i c1 id ops y
    split at hd
    · rename_i f ats ty pos af l hrev
      injection hd with hd
      subst hd
      refine ⟨id, ops, ⟨none, .defer ⟨.value f, ⟨[]⟩, ats⟩, ty, pos, af, none⟩, ats, rfl, rfl, ?_, rfl, rfl, rfl⟩
      have h1 := congrArg List.reverse hrev
      rw [List.reverse_reverse] at h1
      show ops.toList = l.reverse ++ [_]
      rw [h1]
      simp
    · cases hd
  · cases hd
theorem adef_some {k lim : Nat} {u : Value} {h : Hp} {n : Nat} {r : Value × Hp × Nat} (he : adef P F k lim u h n = some r) :
    ∃ g first cap x, u = .func (.func g) first cap ∧ first.toList = [] ∧ goodF P g = some x ∧ arun1 P F k lim x cap.toList h n = some r := by
  cases u with
  | func fn first cap =>
    cases fn with
    | func g =>
      unfold adef at he
      dsimp only at he
      cases hfst : first.toList with
      | cons y ys => rw [hfst] at he; cases he
      | nil =>
        rw [hfst] at he
        dsimp only at he
        obtain ⟨x, hg, he⟩ := bind_some he
        exact ⟨g, first, cap, x, rfl, hfst, hg, he⟩
    | _ => cases he
  | _ => cases he
theorem arunD_wp (hm : P.follows .mixedOrders = true) (hF : SoundF P F) (hF2 : StatF F) {k lim : Nat} {x : Code × Nat × List ResultVar} {y : Code × List Oper × List Oper × Operand × Code} {fn : Func} {args : List Value} {h h' : Hp} {n n' : Nat} {v : Value}
    (hnt : fn.ntmps = x.2.1) (hrs : fn.results.toList = x.2.2) (hy : dform x.1 = some y) (he : arunD P F k lim y x args h n = some (v, h', n')) (hl : lim ≤ n)
    {φ : Mp} {w : World} {cargs : List Value} (hv : VL (VC φ) args cargs) (m : MemR P φ h n w S) :
    x.1.wp P (bodyPostD P fn (RunQ P S lim φ w h h' n n' v)) { tmps := ⟨cargs⟩ ++ Array.replicate (fn.ntmps - (⟨cargs⟩ : Array Value).size) undef, defers := [] } w := by
  obtain ⟨id, ops, o, ats, hc0, hops, hpre, hog, hod, hoo⟩ := dform_some hy
  rw [hc0]
  unfold arunD at he
  obtain ⟨r0, hr0, he⟩ := bind_some he
  obtain ⟨hz, he⟩ := bif_some he
  have hz : r0.1 = 0 := Nat.eq_of_beq_eq_true hz
  obtain ⟨s1, hs1, he⟩ := bind_some he
  obtain ⟨r, hr, he⟩ := bind_some he
  obtain ⟨hr1, he⟩ := bif_some he
  obtain ⟨dd, hdd, he⟩ := bind_some he
  obtain ⟨v0, hres, he⟩ := map_some he
  injection he with e1 e2
  injection e2 with e2 e3
  subst e1; subst e2; subst e3
  rw [← hnt] at hr0
  rw [← hrs] at hres
  obtain ⟨g, first, cap, gi, hlev, hfst, hg, hrun⟩ := adef_some hdd
  refine wp_seq (acode_ok hm hF hF2 y.1 hr0 hl (TR.start hv) m fun a1 w1 φ1 hd1 ht1 f1 m1 => ?_)
  rw [hz]
  refine wp_seq (wp_region_list ?_)
  rw [hops, hpre]
  refine aops_okL hF _ (by rw [hops]; exact hs1) (Nat.le_trans hl f1.nle) ht1 m1 fun a2 w2 φ2 hd2 ht2 f2 m2 => ?_
  have f12 := f1.trans f2 (fun _ _ hh => hh) m1
  have hvf := ht2.lev y.2.2.2.1
  rw [hlev] at hvf
  obtain ⟨a', b', hvf, hv1, hv2⟩ := hvf
  have ha' : a' = #[] := by
    rw [hfst] at hv1
    have := hv1.len
    simpa using this.symm
  subst ha'
  have hexec : (execOp a2.eval o).run P w2 = .ok (.defer { target := .fn (.func g) b', args := #[] }) w2 := by
    obtain ⟨dst, op, ty, pos, af, gd⟩ := o
    simp only at hoo
    subst hoo
    simp [execOp, resolve, Deferred.ofValue, hvf]
  unfold wpList
  have hwant : Region.wanted o (yielded ops a2.tmps) = true := by unfold Region.wanted; rw [hog]
  rw [if_pos hwant]
  refine .inl ?_
  unfold Oper.wp
  rw [hexec, Oper.upon_defer, hod]
  show y.2.2.2.2.wp P _ { a2 with defers := [{ target := .fn (.func g) b', args := #[] }] ++ a2.defers } w2
  refine acode_ok hm hF hF2 y.2.2.2.2 hr (Nat.le_trans hl f12.nle) ht2 m2 fun a3 w3 φ3 hd3 ht3 f3 m3 => ?_
  have f123 := f12.trans f3 (fun _ _ hh => hh) m2
  have hle3 := f3.le m2.fn
  obtain ⟨gn, hgf, hgn, hgb, hgt, hgr⟩ := goodF_some hg
  have key : Leaves P fn a3.tmps (RunQ P S lim φ w h dd.2.1 n dd.2.2 v0) a3.defers .returning w3 := by
    have hds : a3.defers = [{ target := .fn (.func g) b', args := #[] }] := by
      rw [hd3]
      show [_] ++ a2.defers = _
      rw [hd2, hd1]
      rfl
    rw [hds]
    refine leaves_cons (f := g) (args := b') (by intro hh; cases hh) ?_ ?_
    · show (callFunc g (#[] ++ b')).run P w3 = _
      rw [run_callFunc hg]
      simp
    · obtain ⟨bl⟩ := b'
      have hw3 := arun1_wp (S := S) hm hF hF2 hgt hgr (v := dd.1) (h' := dd.2.1) (n' := dd.2.2) hrun (Nat.le_trans hl f123.nle) (cargs := bl) ((hv2.imp_ fun _ _ => VB.mono hle3).imp_ fun _ _ hh => hh.vc) m3
      refine CallsD.mono (callsD_of_wp hgf hgb hw3) fun e u' w4 hh => ?_
      obtain ⟨rfl, v', φ4, rfl, hv4, f4, m4⟩ := hh
      obtain ⟨v5, h5, h6⟩ := results_ok (ht3.mono (f4.le m3.fn)) m4 hres
      exact ⟨v5, h5, v5, φ4, rfl, h6, f123.trans f4 (fun _ _ hh => hh) m3, m4⟩
  obtain ⟨ex, st⟩ := r
  have hr1' : ex ≤ 1 := by rwa [Nat.ble_eq] at hr1
  match ex, hr1', key with
  | 0, _, key => exact key
  | 1, _, key => exact key
theorem arun_ok (hm : P.follows .mixedOrders = true) (hF : SoundF P F) (hF2 : StatF F) {k lim : Nat} {g : FuncId} {args : List Value} {h h' : Hp} {n n' : Nat} {v : Value} (he : arun P F k lim g args h n = some (v, h', n')) (hl : lim ≤ n)
    {φ : Mp} {w : World} {cargs : List Value} (hv : VL (VC φ) args cargs) (m : MemR P φ h n w S) :
    Calls P g ⟨cargs⟩ w fun e w' => ∃ v' φ', e = .returned v' ∧ VC φ' v v' ∧ Fr φ φ' h h' n n' (fun id => lim ≤ id) w w' ∧ MemR P φ' h' n' w' S := by
  unfold arun at he
  obtain ⟨x, hg, he⟩ := bind_some he
  obtain ⟨fn, hf, hn, hb, hnt, hrs⟩ := goodF_some hg
  cases hy : dform x.1 with
  | none =>
    rw [hy] at he
    exact calls_of_wp hf hb (arun1_wp hm hF hF2 hnt hrs he hl hv m)
  | some y =>
    rw [hy] at he
    exact calls_of_wp_defers hf hb (arunD_wp hm hF hF2 hnt hrs hy he hl hv m)
theorem arun1_st (hF2 : StatF F) {k lim : Nat} {x : Code × Nat × List ResultVar} {args : List Value} {h h' : Hp} {n n' : Nat} {v : Value} (he : arun1 P F k lim x args h n = some (v, h', n')) (hl : lim ≤ n) (hb : HB h n) : Stat h h' n n' (fun id => lim ≤ id) := by
  unfold arun1 at he
  obtain ⟨r, hc, he⟩ := bind_some he
  obtain ⟨hr1, he⟩ := bif_some he
  obtain ⟨v0, hres, he⟩ := map_some he
  injection he with e1 e2
  injection e2 with e2 e3
  subst e2; subst e3
  exact acode_st hF2 x.1 hc hl hb
theorem arun_st (hF2 : StatF F) {k lim : Nat} {g : FuncId} {args : List Value} {h h' : Hp} {n n' : Nat} {v : Value} (he : arun P F k lim g args h n = some (v, h', n')) (hl : lim ≤ n) (hb : HB h n) : Stat h h' n n' (fun id => lim ≤ id) := by
  unfold arun at he
  obtain ⟨x, hg, he⟩ := bind_some he
  cases hy : dform x.1 with
  | none =>
    rw [hy] at he
    exact arun1_st hF2 he hl hb
  | some y =>
    rw [hy] at he
    change arunD P F k lim y x args h n = _ at he
    unfold arunD at he
    obtain ⟨r0, hr0, he⟩ := bind_some he
    obtain ⟨hz, he⟩ := bif_some he
    obtain ⟨s1, hs1, he⟩ := bind_some he
    obtain ⟨r, hr, he⟩ := bind_some he
    obtain ⟨hr1, he⟩ := bif_some he
    obtain ⟨dd, hdd, he⟩ := bind_some he
    obtain ⟨v0, hres, he⟩ := map_some he
    injection he with e1 e2
    injection e2 with e2 e3
    subst e2; subst e3
    obtain ⟨g', first, cap, gi, hlev, hfst, hg', hrun⟩ := adef_some hdd
    have p1 := acode_st hF2 y.1 hr0 hl hb
    have p2 := aops_st hF2 _ hs1 (Nat.le_trans hl p1.nle) p1.hb
    have p12 := p1.trans p2 fun _ _ hh => hh
    have p3 := acode_st hF2 y.2.2.2.2 hr (Nat.le_trans hl p12.nle) p12.hb
    have p123 := p12.trans p3 fun _ _ hh => hh
    have p4 := arun1_st (v := dd.1) (h' := dd.2.1) (n' := dd.2.2) hF2 hrun (Nat.le_trans hl p123.nle) p123.hb
    exact p123.trans p4 fun _ _ hh => hh
end
end Go.Proofs.Ytkngdfbibffdcaa.Ce
namespace Go.Proofs.Ytkngdfbibffdcaa.Ce
open Go.RowKit
theorem once_mem : ∀ {l : List Nat} {k : Nat}, k ∈ l → k ∈ once l
  | a :: l, k, h => by
    simp only [once, cond_eq_ite]
    split
    · rename_i hc
      rcases List.mem_cons.1 h with rfl | h
      · simpa using hc
      · exact once_mem h
    · rcases List.mem_cons.1 h with rfl | h
      · simp
      · exact List.mem_cons_of_mem _ (once_mem h)
theorem once_sub : ∀ {l : List Nat} {k : Nat}, k ∈ once l → k ∈ l
  | a :: l, k, h => by
    simp only [once, cond_eq_ite] at h
    split at h
    · exact List.mem_cons_of_mem _ (once_sub h)
    · rcases List.mem_cons.1 h with rfl | h
      · simp
      · exact List.mem_cons_of_mem _ (once_sub h)
theorem mem_bif {n id : Nat} (hn : n ≤ id) : id ∈ (bif Nat.ble n id then [id] else ([] : List Nat)) := by
  have : Nat.ble n id = true := by rw [Nat.ble_eq]; exact hn
  rw [this]
  simp
theorem of_bif {n id k : Nat} (hk : k ∈ (bif Nat.ble n id then [id] else ([] : List Nat))) : n ≤ k := by
  cases hb : Nat.ble n id with
  | false => rw [hb] at hk; simp at hk
  | true =>
    rw [hb] at hk
    rw [Nat.ble_eq] at hb
    simp at hk
    omega
theorem idP_ge {n k : Nat} {u : Value} (hk : k ∈ idP n u) : n ≤ k := by
  unfold idP at hk
  split at hk
  · exact of_bif hk
  · simp at hk
theorem idA_ge {n k : Nat} {u : Value} (hk : k ∈ idA n u) : n ≤ k := by
  unfold idA at hk
  split at hk
  · exact of_bif hk
  · exact of_bif hk
  · exact of_bif hk
  · obtain ⟨_, _, h⟩ := List.mem_flatMap.1 hk
    exact idP_ge h
  · simp at hk
theorem idV1_ge {n k : Nat} {u : Value} (hk : k ∈ idV1 n u) : n ≤ k := by
  unfold idV1 at hk
  split at hk
  · obtain ⟨_, _, h⟩ := List.mem_flatMap.1 hk
    exact idA_ge h
  · rcases List.mem_append.1 hk with hk | hk
    · obtain ⟨_, _, h⟩ := List.mem_flatMap.1 hk
      exact idA_ge h
    · obtain ⟨_, _, h⟩ := List.mem_flatMap.1 hk
      exact idA_ge h
  · exact idA_ge hk
theorem idV_ge {n k : Nat} {u : Value} (hk : k ∈ idV n u) : n ≤ k := by
  unfold idV at hk
  split at hk
  · obtain ⟨_, _, h⟩ := List.mem_flatMap.1 hk
    exact idV1_ge h
  · rcases List.mem_append.1 hk with hk | hk
    · obtain ⟨_, _, h⟩ := List.mem_flatMap.1 hk
      exact idV1_ge h
    · obtain ⟨_, _, h⟩ := List.mem_flatMap.1 hk
      exact idV1_ge h
  · exact idV1_ge hk
theorem nodup_inj {l : List Nat} (h : l.Nodup) {i j : Nat} (hi : i < l.length) (hj : j < l.length) (e : l[i] = l[j]) : i = j := by
  have hp := List.pairwise_iff_getElem.1 h
  rcases Nat.lt_trichotomy i j with h1 | h1 | h1
  · exact absurd e (hp i j hi hj h1)
  · exact h1
  · exact absurd e.symm (hp j i hj hi h1)
theorem once_nodup : ∀ (l : List Nat), (once l).Nodup
  | [] => by simp [once]
  | a :: l => by
    simp only [once, cond_eq_ite]
    split
    · exact once_nodup l
    · rename_i hc
      exact List.nodup_cons.2 ⟨by simpa using hc, once_nodup l⟩
theorem reN_out {n : Nat} : ∀ {l : List Nat} {id : Nat}, id ∉ l → ∀ n, reN n l id = id
  | [], _, _, _ => rfl
  | k :: l, id, h, n => by
    have h1 : k ≠ id := fun e => h (by simp [e])
    have h2 : id ∉ l := fun e => h (by simp [e])
    have h3 : Nat.beq k id = false := by
      cases hb : Nat.beq k id with
      | false => rfl
      | true => exact absurd (Nat.eq_of_beq_eq_true hb) h1
    simp only [reN, h3, cond_false]
    exact reN_out (n := n) h2 (n + 1)
theorem reN_in : ∀ {l : List Nat} {id : Nat}, id ∈ l → ∀ n, ∃ j, l[j]? = some id ∧ reN n l id = n + j
  | k :: l, id, h, n => by
    cases hb : Nat.beq k id with
    | true => exact ⟨0, by simp [Nat.eq_of_beq_eq_true hb], by simp [reN, hb]⟩
    | false =>
      have h1 : id ∈ l := by
        rcases List.mem_cons.1 h with rfl | h
        · simp at hb
        · exact h
      obtain ⟨j, h2, h3⟩ := reN_in h1 (n + 1)
      refine ⟨j + 1, by simpa using h2, ?_⟩
      simp only [reN, hb, cond_false]
      omega
section
variable {φ φ' : Mp} {n : Nat} {l : List Nat}
def Ren (φ φ' : Mp) (n : Nat) (l : List Nat) : Prop := ∀ id, (n ≤ id → id ∈ l) → φ' (reN n l id) = φ id
theorem VL.ren {R R' : Value → Value → Prop} {f : Value → Value} : ∀ {us vs : List Value}, VL R us vs → (∀ u v, u ∈ us → R u v → R' (f u) v) → VL R' (us.map f) vs
  | [], [], _, _ => trivial
  | a :: us, b :: vs, h, hf => ⟨hf a b (by simp) h.1, VL.ren h.2 fun u v hu => hf u v (by simp [hu])⟩
  | [], _ :: _, h, _ => h.elim
  | _ :: _, [], h, _ => h.elim
theorem VP.ren {u v : Value} (hR : Ren φ φ' n l) (hid : ∀ k ∈ idP n u, k ∈ l) (hv : VP φ u v) : VP φ' (reP n l u) v := by
  unfold VP at hv
  split at hv
  · rename_i id j
    obtain ⟨g, c, h1, h2⟩ := hv
    refine ⟨g, c, ?_, h2⟩
    rw [hR id fun hn => hid id (mem_bif hn)]
    exact h1
  · exact hv.elim
theorem VA.ren {u v : Value} (hR : Ren φ φ' n l) (hid : ∀ k ∈ idA n u, k ∈ l) (hv : VA φ u v) : VA φ' (reA n l u) v := by
  cases u with
  | pointer a =>
    rcases a with _ | ⟨id, j, s⟩
    · exact hv
    · rcases s with _ | s
      · obtain ⟨g, c, h1, h2⟩ := hv
        refine ⟨g, c, ?_, h2⟩
        rw [hR id fun hn => hid id (mem_bif hn)]
        exact h1
      · exact absurd hv.1 (by simp [flat1])
  | slice a m c =>
    rcases a with _ | ⟨id, j, s⟩
    · exact hv
    · rcases s with _ | s
      · obtain ⟨g, c1, j', c', h1, h2⟩ := hv
        refine ⟨g, c1, j', c', ?_, h2⟩
        rw [hR id fun hn => hid id (mem_bif hn)]
        exact h1
      · exact hv
  | map a =>
    rcases a with _ | id
    · exact hv
    · obtain ⟨g, c, h1, h2⟩ := hv
      refine ⟨g, c, ?_, h2⟩
      rw [hR id fun hn => hid id (mem_bif hn)]
      exact h1
  | func fn a b =>
    obtain ⟨ha, b', h1, h2⟩ := hv
    exact ⟨ha, b', h1, VL.ren h2 fun u v hu hv => hv.ren hR fun k hk => hid k (List.mem_flatMap.2 ⟨u, hu, hk⟩)⟩
  | _ => exact hv
theorem VB.ren {u v : Value} (hR : Ren φ φ' n l) (hid : ∀ k ∈ idV1 n u, k ∈ l) (hv : VB φ u v) : VB φ' (reV1 n l u) v := by
  cases u with
  | agg cs =>
    obtain ⟨ds, h1, h2⟩ := hv
    exact ⟨ds, h1, VL.ren h2 fun u v hu hv => hv.ren hR fun k hk => hid k (List.mem_flatMap.2 ⟨u, hu, hk⟩)⟩
  | func fn a b =>
    have hv' : VA φ (.func fn a b) v := hv
    exact (show VA φ' (reA n l (.func fn a b)) v from VA.ren hR (fun k hk => hid k (by
      obtain ⟨x, hx, hk⟩ := List.mem_flatMap.1 hk
      refine List.mem_append_right _ (List.mem_flatMap.2 ⟨x, hx, ?_⟩)
      unfold idP at hk
      split at hk
      · exact hk
      · simp at hk)) hv').vb
  | pointer a => exact (show VA φ' (reA n l (.pointer a)) v from VA.ren hR hid hv).vb
  | slice a m c => exact (show VA φ' (reA n l (.slice a m c)) v from VA.ren hR hid hv).vb
  | map a => exact (show VA φ' (reA n l (.map a)) v from VA.ren hR hid hv).vb
  | _ => exact hv
theorem VC.ren {u v : Value} (hR : Ren φ φ' n l) (hid : ∀ k ∈ idV n u, k ∈ l) (hn : noFn u = true) (hv : VC φ u v) : VC φ' (reV n l u) v := by
  cases u with
  | tuple cs =>
    obtain ⟨ds, h1, h2⟩ := hv
    exact ⟨ds, h1, VL.ren h2 fun u v hu hv => hv.ren hR fun k hk => hid k (List.mem_flatMap.2 ⟨u, hu, hk⟩)⟩
  | func fn a b => simp [noFn] at hn
  | chan c => trivial
  | agg cs => exact (show VB φ' (reV1 n l (.agg cs)) v from VB.ren hR hid hv).vc
  | pointer a => exact (show VB φ' (reV1 n l (.pointer a)) v from VB.ren hR hid hv).vc
  | slice a m c => exact (show VB φ' (reV1 n l (.slice a m c)) v from VB.ren hR hid hv).vc
  | map a => exact (show VB φ' (reV1 n l (.map a)) v from VB.ren hR hid hv).vc
  | _ => exact hv
theorem VA.plain {u v : Value} (hlow : ∀ id, id < n → φ' id = φ id) (hid : (idA n u).isEmpty = true) (hv : VA φ u v) : VA φ' u v := by
  have hlt : ∀ {id : Nat}, (bif Nat.ble n id then [id] else ([] : List Nat)).isEmpty = true → id < n := fun {id} h => by
    cases hb : Nat.ble n id with
    | true => rw [hb] at h; simp at h
    | false =>
      rcases Nat.lt_or_ge id n with h1 | h1
      · exact h1
      · rw [show Nat.ble n id = true by rw [Nat.ble_eq]; exact h1] at hb; cases hb
  cases u with
  | pointer a =>
    rcases a with _ | ⟨id, j, s⟩
    · exact hv
    · rcases s with _ | s
      · obtain ⟨g, c, h1, h2⟩ := hv
        exact ⟨g, c, by rw [hlow id (hlt hid)]; exact h1, h2⟩
      · exact absurd hv.1 (by simp [flat1])
  | slice a m c =>
    rcases a with _ | ⟨id, j, s⟩
    · exact hv
    · rcases s with _ | s
      · obtain ⟨g, c1, j', c', h1, h2⟩ := hv
        exact ⟨g, c1, j', c', by rw [hlow id (hlt hid)]; exact h1, h2⟩
      · exact hv
  | map a =>
    rcases a with _ | id
    · exact hv
    · obtain ⟨g, c, h1, h2⟩ := hv
      exact ⟨g, c, by rw [hlow id (hlt hid)]; exact h1, h2⟩
  | func fn a b =>
    obtain ⟨ha, b', h1, h2⟩ := hv
    refine ⟨ha, b', h1, ?_⟩
    have hid' : ∀ x ∈ b.toList, (idP n x).isEmpty = true := fun x hx => by
      have h3 : (b.toList.flatMap (idP n)) = [] := List.isEmpty_iff.1 hid
      rw [List.flatMap_eq_nil_iff] at h3
      rw [h3 x hx]
      rfl
    have key : ∀ {us vs : List Value}, (∀ x ∈ us, (idP n x).isEmpty = true) → VL (VP φ) us vs → VL (VP φ') us vs := by
      intro us
      induction us with
      | nil => intro vs _ h; cases vs with
        | nil => trivial
        | cons => exact h.elim
      | cons u us ih => intro vs hx h; cases vs with
        | nil => exact h.elim
        | cons y vs =>
          refine ⟨?_, ih (fun x hx2 => hx x (List.mem_cons_of_mem _ hx2)) h.2⟩
          have h4 := hx u (List.mem_cons_self ..)
          have h5 := h.1
          unfold VP at h5
          split at h5
          · obtain ⟨g, c, h6, h7⟩ := h5
            exact ⟨g, c, by rw [hlow _ (hlt h4)]; exact h6, h7⟩
          · exact h5.elim
    exact key hid' h2
  | _ => exact hv
theorem VL.plain : ∀ {us vs : List Value}, (∀ id, id < n → φ' id = φ id) → us.all (fun v => (idA n v).isEmpty) = true → VL (VA φ) us vs → VL (VA φ') us vs
  | [], [], _, _, _ => trivial
  | a :: us, b :: vs, hl, ha, h => by
    simp only [List.all_cons, Bool.and_eq_true] at ha
    exact ⟨h.1.plain hl ha.1, VL.plain hl ha.2 h.2⟩
  | [], _ :: _, _, _, h => h.elim
  | _ :: _, [], _, _, h => h.elim
theorem ObjR.plain {P : Program} {o : AObj} {w : World} {g c : Nat} (hlow : ∀ id, id < n → φ' id = φ id) (hp : plainO n o = true) (h : ObjR P φ o w g c) : ObjR P φ' o w g c := by
  unfold ObjR at *
  unfold plainO at hp
  split at h
  · trivial
  · rename_i e ro cs
    obtain ⟨ds, fz, h1, h2, h3⟩ := h
    exact ⟨ds, fz, h1, h2.plain hlow hp, h3⟩
  · exact h
end
theorem sweep_get {h2 : Hp} {n : Nat} : ∀ (l : List Nat) (k : Nat) (h : Hp) (id : Nat), ((l.zipIdx k).foldl (fun h x => h.set (n + x.2) (h2.get x.1)) h).get id = if n + k ≤ id ∧ id < n + k + l.length then h2.get (l.getD (id - (n + k)) 0) else h.get id := by
  intro l
  induction l with
  | nil => intro k h id; simp; omega
  | cons a l ih =>
    intro k h id
    simp only [List.zipIdx_cons, List.foldl_cons]
    rw [ih (k + 1), Hp.get_set]
    by_cases h1 : id = n + k
    · subst h1
      simp
      omega
    · by_cases h2 : n + (k + 1) ≤ id ∧ id < n + (k + 1) + l.length
      · have e : id - (n + k) = (id - (n + (k + 1))) + 1 := by omega
        rw [if_pos h2, if_pos ⟨by omega, by simp; omega⟩, e]
        simp
      · rw [if_neg h2, if_neg h1, if_neg (fun h3 => by simp at h3; omega)]
section
variable {P : Program} {F : CallE} {S : Nat}
theorem sweep_ok {φ φ2 : Mp} {h h2 : Hp} {n n2 : Nat} {v v' : Value} {w w' : World} (hv : VC φ2 v v') (f : Fr φ φ2 h h2 n n2 (fun id => n ≤ id) w w') (m0 : MemR P φ h n w S) (m : MemR P φ2 h2 n2 w' S) :
    ∃ φ3, VC φ3 (sweep h n (v, h2, n2)).1 v' ∧ Fr φ φ3 h (sweep h n (v, h2, n2)).2.1 n (sweep h n (v, h2, n2)).2.2 (fun id => n ≤ id) w w' ∧ MemR P φ3 (sweep h n (v, h2, n2)).2.1 (sweep h n (v, h2, n2)).2.2 w' S := by
  unfold sweep
  dsimp only
  generalize hl : once (idV n v) = l
  cases hc : (noFn v && l.all (fun id => Nat.blt id n2 && plainO n (h2.get id))) with
  | false => exact ⟨φ2, hv, f, m⟩
  | true =>
    simp only [cond_true]
    rw [Bool.and_eq_true] at hc
    obtain ⟨hnf, hall⟩ := hc
    have hmem : ∀ k ∈ idV n v, k ∈ l := fun k hk => by rw [← hl]; exact once_mem hk
    have hnd : l.Nodup := by rw [← hl]; exact once_nodup _
    have hpl : ∀ k ∈ l, plainO n (h2.get k) = true := fun k hk => by
      have := List.all_eq_true.1 hall k hk
      rw [Bool.and_eq_true] at this
      exact this.2
    have hge : ∀ k ∈ l, n ≤ k := fun k hk => idV_ge (once_sub (by rw [hl]; exact hk))
    let φ3 : Mp := fun id => if id < n then φ2 id else if id < n + l.length then φ2 (l.getD (id - n) 0) else none
    have h3lt : ∀ id, id < n → φ3 id = φ2 id := fun id h => by simp only [φ3, if_pos h]
    have h3in : ∀ id, n ≤ id → id < n + l.length → φ3 id = φ2 (l.getD (id - n) 0) := fun id h1 h2 => by simp only [φ3, if_neg (show ¬ id < n by omega), if_pos h2]
    have h3ge : ∀ id, n + l.length ≤ id → φ3 id = none := fun id h => by simp only [φ3, if_neg (show ¬ id < n by omega), if_neg (show ¬ id < n + l.length by omega)]
    have hget : ∀ id, ((l.zipIdx).foldl (fun h x => h.set (n + x.2) (h2.get x.1)) h).get id = if n ≤ id ∧ id < n + l.length then h2.get (l.getD (id - n) 0) else h.get id := fun id => by
      have := sweep_get (h2 := h2) (n := n) l 0 h id
      simpa using this
    have hlmem : ∀ id, n ≤ id → id < n + l.length → l.getD (id - n) 0 ∈ l := fun id h1 h2 => by
      have : id - n < l.length := by omega
      simp [this]
    have hR : Ren φ2 φ3 n l := fun id hid => by
      by_cases hin : id ∈ l
      · obtain ⟨j, h1, h2⟩ := reN_in hin n
        have hj : j < l.length := (List.getElem?_eq_some_iff.1 h1).1
        rw [h2, h3in _ (by omega) (by omega), Nat.add_sub_cancel_left]
        simp [h1]
      · rw [reN_out (n := n) hin]
        have : id < n := by
          rcases Nat.lt_or_ge id n with h | h
          · exact h
          · exact absurd (hid h) hin
        exact h3lt id this
    have hkeep : ∀ id, id < n → h2.get id = h.get id := fun id hid => f.keep id hid (by omega)
    have halive : ∀ k ∈ l, h2.get k ≠ none := fun k hk hd => by
      have := hpl k hk
      rw [hd] at this
      simp [plainO] at this
    have hinj : ∀ k k' g c c', k ∈ l → k' ∈ l → k ≠ k' → φ2 k = some (g, c) → φ2 k' = some (g, c') → False := fun k k' g c c' hk hk' hne h1 h2 => by
      rcases Nat.lt_trichotomy k k' with h | h | h
      · exact halive k hk (m.inj k k' g c c' h h1 h2)
      · exact hne h
      · exact halive k' hk' (m.inj k' k g c' c h h2 h1)
    refine ⟨φ3, hv.ren hR hmem hnf, ?_, ?_⟩
    · refine ⟨fun id hid => ?_, f.fr, fun id hid _ => ?_, fun id g c h1 h4 h5 => ?_, fun id id' g c c' h1 h4 h5 h6 h7 => ?_, fun id hid hd => ?_, fun id hid _ => ?_, by omega, f.sz, f.os, f.tape, f.output⟩
      · rcases hid with h1 | h1
        · rw [h3lt id h1]; exact f.ext id (.inl h1)
        · rw [h3ge id h1]; exact (m0.fn id (by omega)).symm
      · rw [hget, if_neg (by omega)]
      · rw [h3in id h1 h4] at h5
        have hm2 := hlmem id h1 h4
        have hn := hge _ hm2
        have hlt2 : l.getD (id - n) 0 < n2 := by
          rcases Nat.lt_or_ge (l.getD (id - n) 0) n2 with h | h
          · exact h
          · rw [m.fn _ h] at h5; cases h5
        rcases f.new _ g c hn hlt2 h5 with h6 | ⟨id0, c0, h6, h7, -⟩
        · exact .inl h6
        · omega
      · exfalso
        rw [h3in id h1 (by omega)] at h6
        rw [h3in id' (by omega) h5] at h7
        refine hinj _ _ g c c' (hlmem id h1 (by omega)) (hlmem id' (by omega) h5) (fun e => ?_) h6 h7
        have ha : id - n < l.length := by omega
        have hb : id' - n < l.length := by omega
        simp [ha, hb] at e
        have := nodup_inj hnd ha hb e
        omega
      · rw [hget, if_neg (by omega)]; exact hd
      · rw [hget, if_neg (by omega)]
    · refine ⟨fun id hid => h3ge id hid, fun id g c hp => ?_, fun id id' g c c' h1 h4 h5 => ?_, fun id hid => ?_, m.hS⟩
      · rw [hget]
        rcases Nat.lt_or_ge id n with h1 | h1
        · rw [h3lt id h1] at hp
          rw [if_neg (by omega), ← hkeep id h1]
          obtain ⟨h4, h5⟩ := m.obj id g c hp
          refine ⟨?_, h5⟩
          rw [hkeep id h1]
          have h6 := (m0.obj id g c (by rw [← f.ext id (.inl h1)]; exact hp)).1
          have h7 : w'.heap[g]? = w.heap[g]? := f.fr g (m0.obj id g c (by rw [← f.ext id (.inl h1)]; exact hp)).2.2 fun id0 c0 h8 h9 => by omega
          refine h6.mono (fun k p hk => ?_) h7
          rcases Nat.lt_or_ge k n with h8 | h8
          · rw [h3lt k h8, f.ext k (.inl h8)]; exact hk
          · rw [m0.fn k h8] at hk; cases hk
        · rcases Nat.lt_or_ge id (n + l.length) with h4 | h4
          · rw [h3in id h1 h4] at hp
            rw [if_pos ⟨h1, h4⟩]
            obtain ⟨h5, h6⟩ := m.obj _ g c hp
            exact ⟨h5.plain h3lt (hpl _ (hlmem id h1 h4)), h6⟩
          · rw [h3ge id h4] at hp; cases hp
      · rw [hget]
        have hp' : id' < n + l.length := by
          rcases Nat.lt_or_ge id' (n + l.length) with h | h
          · exact h
          · rw [h3ge id' h] at h5; cases h5
        rcases Nat.lt_or_ge id n with h6 | h6
        · rw [h3lt id h6] at h4
          rw [if_neg (by omega), ← hkeep id h6]
          rcases Nat.lt_or_ge id' n with h7 | h7
          · rw [h3lt id' h7] at h5
            exact m.inj id id' g c c' h1 h4 h5
          · rw [h3in id' h7 hp'] at h5
            have hm2 := hlmem id' h7 hp'
            exact m.inj id _ g c c' (Nat.lt_of_lt_of_le h6 (hge _ hm2)) h4 h5
        · exfalso
          rw [h3in id h6 (by omega)] at h4
          rw [h3in id' (by omega) hp'] at h5
          refine hinj _ _ g c c' (hlmem id h6 (by omega)) (hlmem id' (by omega) hp') (fun e => ?_) h4 h5
          have ha : id - n < l.length := by omega
          have hb : id' - n < l.length := by omega
          simp [ha, hb] at e
          have := nodup_inj hnd ha hb e
          omega
      · rw [hget, if_neg (by omega)]
        exact m0.hb id (by omega)
theorem sweep_st {h h2 : Hp} {n n2 : Nat} {v : Value} (p : Stat h h2 n n2 (fun id => n ≤ id)) (hb : HB h n) : Stat h (sweep h n (v, h2, n2)).2.1 n (sweep h n (v, h2, n2)).2.2 (fun id => n ≤ id) := by
  unfold sweep
  dsimp only
  generalize hl : once (idV n v) = l
  cases hc : (noFn v && l.all (fun id => Nat.blt id n2 && plainO n (h2.get id))) with
  | false => exact p
  | true =>
    simp only [cond_true]
    have hget : ∀ id, ((l.zipIdx).foldl (fun h x => h.set (n + x.2) (h2.get x.1)) h).get id = if n ≤ id ∧ id < n + l.length then h2.get (l.getD (id - n) 0) else h.get id := fun id => by
      have := sweep_get (h2 := h2) (n := n) l 0 h id
      simpa using this
    refine ⟨by omega, fun id hid _ => ?_, fun id hid hd => ?_, fun id hid => ?_⟩
    · rw [hget, if_neg (by omega)]
    · rw [hget, if_neg (by omega)]; exact hd
    · rw [hget, if_neg (by omega)]; exact hb id (by omega)
theorem afunc_sound (hm : P.follows .mixedOrders = true) (hF : SoundF P F) (hF2 : StatF F) (W : FuncId → Bool) (k : Nat) : SoundF P (afunc P F W k) := by
  intro cl g args h n v h' n' he hg hcl φ w S cargs hv m
  unfold afunc at he
  cases hW : W g with
  | true =>
    rw [hW] at he
    exact arun_ok hm hF hF2 he hcl hv m
  | false =>
    rw [hW] at he
    obtain ⟨r, h1, h2⟩ := map_some he
    obtain ⟨v2, h2', n2⟩ := r
    refine Calls.mono (arun_ok hm hF hF2 h1 (Nat.le_refl _) hv m) fun e w' hh => ?_
    obtain ⟨v', φ2, rfl, hv2, f, m2⟩ := hh
    obtain ⟨φ3, q1, q2, q3⟩ := sweep_ok hv2 f m m2
    rw [h2] at q1 q2 q3
    exact ⟨v', φ3, rfl, q1, q2.weaken fun id h5 h6 => by omega, q3⟩
theorem afunc_stat (hF2 : StatF F) (W : FuncId → Bool) (k : Nat) : StatF (afunc P F W k) := by
  intro cl g args h n v h' n' he hcl hb
  unfold afunc at he
  cases hW : W g with
  | true =>
    rw [hW] at he
    exact arun_st hF2 he hcl hb
  | false =>
    rw [hW] at he
    obtain ⟨r, h1, h2⟩ := map_some he
    obtain ⟨v2, h2', n2⟩ := r
    have p := sweep_st (v := v2) (arun_st hF2 h1 (Nat.le_refl _) hb) hb
    rw [h2] at p
    exact p.weaken fun id h5 h6 => by omega
theorem acall_both (hm : P.follows .mixedOrders = true) (W : FuncId → Bool) (k : Nat) : ∀ d, SoundF P (acall P W k d) ∧ StatF (acall P W k d) := by
  intro d
  induction d with
  | zero => exact ⟨fun cl g args h n v h' n' he => (by cases he), fun cl g args h n v h' n' he => (by cases he)⟩
  | succ d ih => exact ⟨afunc_sound hm ih.1 ih.2 W k, afunc_stat ih.2 W k⟩
def isTrue (r : Option (Value × Hp × Nat)) : Bool := match r with
  | some (.bool b, _) => b
  | _ => false
end
end Go.Proofs.Ytkngdfbibffdcaa.Ce
namespace Go.Proofs.Ytkngdfbibffdcaa.Ce
open Go.RowKit
abbrev odd : Value := .slice (some ⟨0, 0, some 0⟩) 0 0
def vis (B : Nat) (v : Value) : Value := match v with
  | .pointer (some ⟨id, j, none⟩) => if id < B then .pointer (some ⟨id, j, none⟩) else wild
  | .slice (some ⟨id, j, s⟩) n c => if s = none ∧ id < B ∧ n ≤ c ∧ c ≤ maxLen then .slice (some ⟨id, j, none⟩) n c else if n = 0 then odd else wild
  | v => bif flat1 v then v else wild
theorem vis_slice (B id j : Nat) (s : Option Nat) (n c : Nat) : vis B (.slice (some ⟨id, j, s⟩) n c) = if s = none ∧ id < B ∧ n ≤ c ∧ c ≤ maxLen then .slice (some ⟨id, j, none⟩) n c else if n = 0 then odd else wild := by
  cases s <;> rfl
def visV (B : Nat) (v : Value) : Value := match v with
  | .agg cs => .agg ⟨cs.toList.map (vis B)⟩
  | v => vis B v
def here (B : Nat) : Mp := fun id => if id < B then some (id, maxLen + 1) else none
theorem here_lt {B id : Nat} (h : id < B) : here B id = some (id, maxLen + 1) := by simp [here, h]
theorem vis_ok (B : Nat) (v : Value) : VA (here B) (vis B v) v := by
  unfold vis
  split
  · split
    · rename_i h; exact ⟨_, _, here_lt h, rfl⟩
    · trivial
  · split
    · rename_i h
      obtain ⟨rfl, h1, h2, h3⟩ := h
      exact ⟨_, _, _, _, here_lt h1, rfl, h2, h3, .inl rfl, fun _ _ h => by omega, fun h0 h1 => by omega⟩
    · split
      · rename_i h
        subst h
        exact ⟨rfl, _, _, rfl⟩
      · trivial
  · cases hf : flat1 v with
    | true => exact VA.flat hf
    | false => trivial
theorem vis_flat {B : Nat} {v : Value} (h : flat1 v = true) : vis B v = v := by
  unfold vis
  split <;> first | (simp [flat1] at h; done) | (rw [h]; rfl)
theorem VL.vis (B : Nat) : ∀ l : List Value, VL (VA (here B)) (l.map (Ce.vis B)) l
  | [] => trivial
  | v :: l => ⟨vis_ok B v, VL.vis B l⟩
theorem visV_ok (B : Nat) (v : Value) : VC (here B) (visV B v) v := by
  unfold visV
  split
  · rename_i cs
    exact (show VB (here B) (.agg ⟨cs.toList.map (Ce.vis B)⟩) (.agg cs) from ⟨cs, rfl, VL.vis B cs.toList⟩).vc
  · exact (vis_ok B v).vb.vc
theorem VL.visV (B : Nat) : ∀ l : List Value, VL (VC (here B)) (l.map (Ce.visV B)) l
  | [] => trivial
  | v :: l => ⟨visV_ok B v, VL.visV B l⟩
def absO (B : Nat) : Option Obj → AObj
  | some (.cells ds e _) => some (.inl (e, true, ds.toList.map (vis B)))
  | _ => none
def absW (w : World) : Hp := w.heap.toList.map fun o => absO w.heap.size (some o)
theorem absW_get (w : World) (g : Nat) : (absW w).get g = absO w.heap.size w.heap[g]? := by
  unfold Hp.get absW
  rw [lget_eq, List.getElem?_map, Array.getElem?_toList]
  cases w.heap[g]? <;> rfl
theorem absW_mem (P : Program) (w : World) : MemR P (here w.heap.size) (absW w) w.heap.size w 0 := by
  refine ⟨fun id h => by simp [here]; omega, fun id g c hp => ?_, fun id id' g c c' h1 h2 h3 => ?_, fun id h => ?_, Nat.zero_le _⟩
  · unfold here at hp
    split at hp
    · rename_i hlt
      injection hp with hp
      injection hp with h1 h2
      subst h1
      refine ⟨?_, Nat.zero_le _, hlt⟩
      rw [absW_get]
      unfold absO ObjR
      split
      · trivial
      · rename_i e ro cs hx
        split at hx
        · rename_i ds e' fz hg
          injection hx with hx
          injection hx with hx
          injection hx with hx1 hx
          injection hx with hx2 hx3
          subst hx1; subst hx2; subst hx3
          refine ⟨ds, fz, hg, ?_, fun h => by cases h⟩
          rw [List.length_map, List.take_of_length_le (Nat.le_refl _)]
          exact VL.vis _ _
        · cases hx
      · rename_i m hx
        split at hx
        · injection hx with hx; cases hx
        · cases hx
    · cases hp
  · exfalso
    unfold here at h2 h3
    split at h2 <;> split at h3 <;> simp_all
  · rw [absW_get, Array.getElem?_eq_none h]
    rfl
section
variable {P : Program}
theorem calls_in (hm : P.follows .mixedOrders = true) {W : FuncId → Bool} {k d : Nat} {g : FuncId} (hg : (goodF P g).isSome = true) {args : List Value} {w : World}
    (he : isTrue (acall P W k d w.heap.size g (args.map (visV w.heap.size)) (absW w) w.heap.size) = true) :
    Calls P g ⟨args⟩ w fun e w' => e = .returned (.bool true) ∧ Below w.heap.size w w' := by
  cases hr : acall P W k d w.heap.size g (args.map (visV w.heap.size)) (absW w) w.heap.size with
  | none => rw [hr] at he; cases he
  | some r =>
    obtain ⟨v, h', n'⟩ := r
    rw [hr] at he
    have hv : v = .bool true := by
      unfold isTrue at he
      split at he
      · rename_i b _ hx
        injection hx with hx
        injection hx with hx _
        rw [hx, he]
      · cases he
    subst hv
    refine Calls.mono ((acall_both hm W k d).1 w.heap.size g _ _ _ _ h' n' hr (fun h0 => by rw [h0] at hg; cases hg) (Nat.le_refl _) (here w.heap.size) w 0 args (VL.visV _ _) (absW_mem P w)) fun e w' hh => ?_
    obtain ⟨v', φ', rfl, h1, f, m⟩ := hh
    obtain rfl := h1.bool
    exact ⟨rfl, f.os, f.tape, f.output, f.sz, fun g hg => f.fr g hg fun id c h1 h2 => by omega⟩
end
def RdH (h : Hp) (B : Nat) (A : Option Addr) (vs : List Value) : Prop :=
  (∀ id j, A = some ⟨id, j, none⟩ → id < B) ∧ (vs = [] ∨ ∃ id j, A = some ⟨id, j, none⟩ ∧ ∀ k v, vs[k]? = some v → cellAt h id (j + k) = some v)
theorem cellAt_get (h : Hp) (id off : Nat) : cellAt h id off = match h.get id with | some (.inl r) => r.2.2[off]? | _ => none := by
  unfold cellAt rowOf
  cases h.get id with
  | none => rfl
  | some o => cases o with
    | inl r => simp [lget_eq]
    | inr r => rfl
theorem cellAt_here {w : World} {b j : Nat} {v : Value} (h : w.cell? ⟨b, j, none⟩ = some v) : cellAt (absW w) b j = some (vis w.heap.size v) := by
  rw [cellAt_get, absW_get]
  unfold World.cell? at h
  dsimp only at h
  split at h
  · rename_i c e fz hg
    simp only [Option.isSome_none, Bool.false_eq_true, if_false] at h
    rw [hg]
    simp [absO, h]
  · cases h
theorem rd_here {w : World} {A : Option Addr} {n c : Nat} {vs : List Value} (h : Rd w w.heap.size A vs) (hn : vs = [] → n = 0) (hc : n ≤ c) (hm : c ≤ 9223372036854775807) (h0 : A = none → c = 0) :
    ∃ A' c', vis w.heap.size (.slice A n c) = .slice A' n c' ∧ RdH (absW w) w.heap.size A' (vs.map (vis w.heap.size)) ∧ (A' = none ↔ A = none) ∧ (A' = none → c' = 0) ∧ n ≤ c' := by
  rcases A with _ | ⟨b, j, s⟩
  · obtain rfl := h0 rfl
    have hv : vs = [] := by
      rcases h with h | ⟨b, off, h, _⟩
      · exact h
      · cases h
    obtain rfl := hn hv
    subst hv
    exact ⟨none, 0, rfl, ⟨fun _ _ h => (by cases h), .inl rfl⟩, by simp, fun _ => rfl, by omega⟩
  · by_cases hx : s = none ∧ b < w.heap.size
    · obtain ⟨rfl, hb⟩ := hx
      refine ⟨some ⟨b, j, none⟩, c, ?_, ⟨fun id j' e => ?_, ?_⟩, by simp, fun h => (by cases h), hc⟩
      · rw [vis_slice, if_pos ⟨rfl, hb, hc, by unfold maxLen; omega⟩]
      · injection e with e
        injection e with e
        omega
      · rcases h with h | ⟨b', off, e, _, hcell⟩
        · exact .inl (by rw [h]; rfl)
        · injection e with e
          injection e with e1 e2
          subst e1; subst e2
          refine .inr ⟨b, j, rfl, fun k v hk => ?_⟩
          rw [List.getElem?_map] at hk
          cases hvk : vs[k]? with
          | none => rw [hvk] at hk; cases hk
          | some u =>
            rw [hvk] at hk
            injection hk with hk
            rw [← hk]
            exact cellAt_here (hcell k u hvk)
    · have hv : vs = [] := by
        rcases h with h | ⟨b', off, e, hb, _⟩
        · exact h
        · injection e with e
          injection e with e1 e2 e3
          subst e1
          exact absurd ⟨e3, hb⟩ hx
      obtain rfl := hn hv
      subst hv
      refine ⟨some ⟨0, 0, some 0⟩, 0, ?_, ⟨fun id j' e => (by injection e with e; injection e with _ _ e; cases e), .inl rfl⟩, by simp, fun h => (by cases h), by omega⟩
      rw [vis_slice, if_neg (fun hh => hx ⟨hh.1, hh.2.1⟩), if_pos rfl]
end Go.Proofs.Ytkngdfbibffdcaa.Ce
