/- Symbolic runs of the evaluator: frames are functions; what code comes to is a proposition. No program in sight. -/
import Derived.Test.YtcdedegjpfemmaaCh
namespace Go.Proofs.Ytcdedegjpfemmaa.Ce
open Go.RowKit
set_option linter.unusedVariables false
set_option linter.unusedSimpArgs false

abbrev Fm := Nat → Value
def fput (f : Fm) (dst : Option Tmp) (v : Value) : Fm := fun t => if dst = some t then v else f t
noncomputable def lv (f : Fm) : Operand → Value
  | .tmp t => f t
  | .const v => bif scal v then v else wild
  | .global _ => wild
  | .func g => .func (.func g) ⟨[]⟩ ⟨[]⟩
noncomputable def wantsF (ops : List Oper) (g : Option (Nat × Bool)) (f : Fm) : Option Bool :=
  match g with
  | none => some true
  | some (g, want) => match (lget ops g).bind (·.dst) with
    | some t => match f t with
      | .bool b => some (b == want)
      | .chan _ => none
      | _ => some false
    | none => some false

/-- a list of temporaries reads as a function -/
def FR (N : Nat) (a : List Value) (f : Fm) : Prop := a.length = N ∧ ∀ t, (lget a t).getD undef = f t
def dOk (N : Nat) (d : Option Tmp) : Bool := match d with
  | some d => Nat.blt d N
  | none => true
theorem FR.put {N : Nat} {a : List Value} {f : Fm} (h : FR N a f) {d : Option Tmp} (hd : dOk N d = true) (v : Value) : FR N (Ce.put a d v) (fput f d v) := by
  unfold Ce.put fput
  cases d with
  | none => exact ⟨h.1, fun t => by simpa using h.2 t⟩
  | some d =>
    have hd' : d < N := by simpa [dOk, Nat.blt_eq] using hd
    refine ⟨by simp [lset_eq, h.1], fun t => ?_⟩
    have := h.2 t
    rw [lget_eq] at this ⊢
    simp only [lset_eq, List.getElem?_set]
    by_cases e : d = t
    · subst e
      simp [h.1, hd']
    · simp [e, this]
theorem FR.lev {N : Nat} {a : List Value} {f : Fm} (h : FR N a f) : Ce.lev a = lv f := by
  funext x
  cases x with
  | tmp t => exact h.2 t
  | _ => rfl
theorem FR.wants {N : Nat} {a : List Value} {f : Fm} (h : FR N a f) (ops : List Oper) (o : Oper) : Ce.wants ops o a = wantsF ops o.guard f := by
  unfold Ce.wants wantsF
  cases o.guard with
  | none => rfl
  | some g =>
    obtain ⟨g, want⟩ := g
    dsimp only
    cases hd : (lget ops g).bind (·.dst) with
    | none => rfl
    | some t =>
      dsimp only
      have h2 := h.2 t
      cases hl : lget a t with
      | none => rw [hl] at h2; rw [← h2]; rfl
      | some v =>
        rw [hl] at h2
        have h2' : v = f t := h2
        rw [← h2']
        cases v <;> rfl

/-- an operation's end -/
def XA (lim : Nat) (m : Bool) (r : Option Ef) (C : Ef → Prop) : Prop := ∃ e, r = some e ∧ (e.wr.all (Nat.ble lim) && (m || (e.rd.isEmpty && e.wr.isEmpty))) = true ∧ C e

section
variable (P : Program) (F : CallE) (k lim : Nat)

def XO (ops : List Oper) : List Oper → Fm → Hp → Nat → (Fm → Hp → Nat → Prop) → Prop
  | [], f, h, n, K => K f h n
  | o :: l, f, h, n, K => match wantsF ops o.guard f with
    | some true => XA lim (memOp o.op) (aop o.op P F lim lim (lv f) h n) fun e => XO ops l (fput f o.dst e.v) e.h e.n K
    | some false => XO ops l (fput f o.dst undef) h n K
    | none => False
/-- the same in a region that draws its order -/
def XD (us : List (Nat × Nat)) (ops : List Oper) : List Oper → Nat → Fm → Hp → Nat → List Fp → (Fm → Hp → Nat → Prop) → Prop
  | [], i, f, h, n, acc, K => pairsOk us acc.reverse = true ∧ K f h n
  | o :: l, i, f, h, n, acc, K => match wantsF ops o.guard f with
    | some true => XA lim (memOp o.op) (aop o.op P F lim (bif isCall o.op && solo us i then lim else n) (lv f) h n) fun e =>
        XD us ops l (i + 1) (fput f o.dst e.v) e.h e.n (⟨e.rd, bif isCall o.op && solo us i then (bif isCall o.op then List.range' lim (n - lim) else e.wr) else e.wr, isCall o.op, n, e.n⟩ :: acc) K
    | some false => XD us ops l (i + 1) (fput f o.dst undef) h n (⟨[], [], false, n, n⟩ :: acc) K
    | none => False

/-- a loop: one round more, or its end -/
def kLoop (Inv : Nat → Fm → Hp → Nat → Prop) (m : Nat) (K : Ex → Fm → Hp → Nat → Prop) : Ex → Fm → Hp → Nat → Prop :=
  fun ex f h n => (ex = 0 → ∃ m', m' < m ∧ Inv m' f h n) ∧ (ex ≠ 0 → K ex f h n)
def kBlock (id : Nat) (K : Ex → Fm → Hp → Nat → Prop) : Ex → Fm → Hp → Nat → Prop :=
  fun ex f h n => (ex = id + 2 → K 0 f h n) ∧ (ex ≠ id + 2 → K ex f h n)
def kThen (Y : Fm → Hp → Nat → (Ex → Fm → Hp → Nat → Prop) → Prop) (K : Ex → Fm → Hp → Nat → Prop) : Ex → Fm → Hp → Nat → Prop :=
  fun ex f h n => (ex = 0 → Y f h n K) ∧ (ex ≠ 0 → K ex f h n)
abbrev XC := Fm → Hp → Nat → (Ex → Fm → Hp → Nat → Prop) → Prop
def xCond (c : Operand) (x y : XC) : XC := fun f h n K => ∃ b, lv f c = .bool b ∧ (b = true → x f h n K) ∧ (b = false → y f h n K)
def xLoop (x : XC) : XC := fun f h n K => ∃ Inv : Nat → Fm → Hp → Nat → Prop, (∃ m, m < k ∧ Inv m f h n) ∧ ∀ m g h n, Inv m g h n → x g h n (kLoop Inv m K)
def xRegion (ops : Array Oper) (d : Bool) : XC := fun f h n K =>
  bif d then ∃ us, unordered ops = some us ∧ XD P F lim us ops.toList ops.toList 0 f h n [] (K 0) else XO P F lim ops.toList ops.toList f h n (K 0)
/-- what code comes to -/
noncomputable def X (c : Code) : XC :=
  Code.rec (motive := fun _ => XC) (fun f h n K => K 0 f h n) (fun _ ops d => xRegion P F lim ops d) (fun _ _ x y => fun f h n K => x f h n (kThen y K)) (fun c _ _ x y => xCond c x y) (fun id _ x => fun f h n K => x f h n (kBlock id K))
    (fun _ x => xLoop k x) (fun _ _ _ _ _ _ _ _ _ _ => False) (fun id f h n K => K (id + 2) f h n) (fun _ _ _ _ _ _ => False) (fun _ f h n K => K 0 f h n) (fun _ _ _ _ _ => False) (fun f h n K => K 1 f h n) (fun _ _ _ _ _ => False) c

/-- the temporaries that code sets are within a frame -/
noncomputable def within (N : Nat) (c : Code) : Bool :=
  Code.rec (motive := fun _ => Bool) true (fun _ ops _ => ops.toList.all fun o => dOk N o.dst) (fun _ _ x y => x && y) (fun _ _ _ x y => x && y) (fun _ _ x => x) (fun _ x => x)
    (fun _ _ _ _ x y => true) (fun _ => true) (fun _ _ => true) (fun _ => true) (fun _ => true) true (fun _ => true) c
end

section
variable {P : Program} {F : CallE} {k lim : Nat} {N : Nat}

theorem XO_ok {ops : List Oper} : ∀ {l : List Oper} {f : Fm} {h : Hp} {n : Nat} {K : Fm → Hp → Nat → Prop} {a : List Value}, XO P F lim ops l f h n K → FR N a f → (l.all fun o => dOk N o.dst) = true →
    ∃ st, aops P F lim lim ops l ⟨a, h, n⟩ = some st ∧ ∃ f', FR N st.a f' ∧ K f' st.h st.n
  | [], f, h, n, K, a, hx, hf, _ => ⟨_, rfl, f, hf, hx⟩
  | o :: l, f, h, n, K, a, hx, hf, hd => by
    simp only [List.all_cons, Bool.and_eq_true] at hd
    have hw := hf.wants ops o
    unfold XO at hx
    show ∃ st, (aopS P F lim lim ops o ⟨a, h, n⟩).bind (fun r => aops P F lim lim ops l r.1) = some st ∧ _
    unfold aopS
    dsimp only
    rw [hw, hf.lev]
    split at hx
    · rename_i hw1
      obtain ⟨e, he, hok, hx⟩ := hx
      rw [hw1]
      dsimp only
      rw [he]
      simp only [Option.bind_some, hok, fV_eq, fN_eq]
      exact XO_ok hx (hf.put hd.1 e.v) hd.2
    · rename_i hw1
      rw [hw1]
      exact XO_ok hx (hf.put hd.1 undef) hd.2
    · exact hx.elim

theorem XD_ok {us : List (Nat × Nat)} {ops : List Oper} : ∀ {l : List Oper} {i : Nat} {f : Fm} {h : Hp} {n : Nat} {acc : List Fp} {K : Fm → Hp → Nat → Prop} {a : List Value}, XD P F lim us ops l i f h n acc K → FR N a f → (l.all fun o => dOk N o.dst) = true →
    ∃ st fps, aopsD P F lim us ops l i ⟨a, h, n⟩ acc = some (st, fps) ∧ pairsOk us fps = true ∧ ∃ f', FR N st.a f' ∧ K f' st.h st.n
  | [], i, f, h, n, acc, K, a, hx, hf, _ => ⟨_, _, rfl, hx.1, f, hf, hx.2⟩
  | o :: l, i, f, h, n, acc, K, a, hx, hf, hd => by
    simp only [List.all_cons, Bool.and_eq_true] at hd
    have hw := hf.wants ops o
    unfold XD at hx
    show ∃ st fps, (Bool.rec ((aopS P F lim n ops o ⟨a, h, n⟩).bind fun r => aopsD P F lim us ops l (Nat.succ i) r.1 (r.2 :: acc))
      ((aopS P F lim lim ops o ⟨a, h, n⟩).bind fun r => aopsD P F lim us ops l (Nat.succ i) r.1 (wide lim n r.2 :: acc)) (isCall o.op && solo us i) : Option (St × List Fp)) = some (st, fps) ∧ _
    cases hs : (isCall o.op && solo us i) with
    | false =>
      dsimp only
      rw [hs] at hx
      unfold aopS
      dsimp only
      rw [hw, hf.lev]
      split at hx
      · rename_i hw1
        obtain ⟨e, he, hok, hx⟩ := hx
        rw [hw1]
        dsimp only
        simp only [cond_false] at he hx
        rw [he]
        simp only [Option.bind_some, hok, fV_eq, fN_eq]
        exact XD_ok hx (hf.put hd.1 e.v) hd.2
      · rename_i hw1
        rw [hw1]
        exact XD_ok hx (hf.put hd.1 undef) hd.2
      · exact hx.elim
    | true =>
      dsimp only
      rw [hs] at hx
      have hc : isCall o.op = true := by simp only [Bool.and_eq_true] at hs; exact hs.1
      unfold aopS
      dsimp only
      rw [hw, hf.lev]
      split at hx
      · rename_i hw1
        obtain ⟨e, he, hok, hx⟩ := hx
        rw [hw1]
        dsimp only
        simp only [cond_true] at he hx
        rw [he]
        simp only [Option.bind_some, hok, fV_eq, fN_eq]
        rw [hc] at hx ⊢
        exact XD_ok hx (hf.put hd.1 e.v) hd.2
      · rename_i hw1
        rw [hw1]
        exact XD_ok hx (hf.put hd.1 undef) hd.2
      · exact hx.elim

theorem bif_true {b : Bool} (h : b = true) {α : Type} {x y : α} : (bif b then x else y) = x := by rw [h]; rfl
theorem bif_false {b : Bool} (h : b = false) {α : Type} {x y : α} : (bif b then x else y) = y := by rw [h]; rfl

theorem X_ok : ∀ (c : Code) {f : Fm} {h : Hp} {n : Nat} {K : Ex → Fm → Hp → Nat → Prop} {a : List Value}, X P F k lim c f h n K → FR N a f → within N c = true →
    ∃ r, acode P F k lim c ⟨a, h, n⟩ = some r ∧ ∃ f', FR N r.2.a f' ∧ K r.1 f' r.2.h r.2.n := by
  intro c
  induction c with
  | skip => intro f h n K a hx hf hd; exact ⟨_, rfl, f, hf, hx⟩
  | label l => intro f h n K a hx hf hd; exact ⟨_, rfl, f, hf, hx⟩
  | exit id => intro f h n K a hx hf hd; exact ⟨_, rfl, f, hf, hx⟩
  | ret => intro f h n K a hx hf hd; exact ⟨_, rfl, f, hf, hx⟩
  | region id ops d =>
    intro f h n K a hx hf hd
    cases d with
    | false =>
      obtain ⟨st, h1, f', h2, h3⟩ := XO_ok (show XO P F lim ops.toList ops.toList f h n (K 0) from hx) hf hd
      exact ⟨(0, st), by show (aops P F lim lim ops.toList ops.toList ⟨a, h, n⟩).bind (fun r => some (0, r)) = _; rw [h1]; rfl, f', h2, h3⟩
    | true =>
      obtain ⟨us, hu, hx⟩ := (show ∃ us, unordered ops = some us ∧ XD P F lim us ops.toList ops.toList 0 f h n [] (K 0) from hx)
      obtain ⟨st, fps, h1, h2, f', h3, h4⟩ := XD_ok hx hf hd
      exact ⟨(0, st), by
        show (unordered ops).bind (fun us => (aopsD P F lim us ops.toList ops.toList 0 ⟨a, h, n⟩ []).bind fun r => bif pairsOk us r.2 then some (0, r.1) else none) = _
        rw [hu]; dsimp only [Option.bind_some]; rw [h1]; dsimp only [Option.bind_some]; rw [h2]; rfl, f', h3, h4⟩
  | seq x y ihx ihy =>
    intro f h n K a hx hf hd
    replace hd := Bool.and_eq_true_iff.1 hd
    obtain ⟨r, h1, f', h2, h3, h4⟩ := ihx (show X P F k lim x f h n (kThen (X P F k lim y) K) from hx) hf hd.1
    show ∃ r, (acode P F k lim x ⟨a, h, n⟩).bind (fun r => bif Nat.beq r.1 0 then acode P F k lim y r.2 else some r) = some r ∧ _
    rw [h1]
    dsimp only [Option.bind_some]
    by_cases e : r.1 = 0
    · rw [bif_true (by rw [e]; rfl)]
      exact ihy (h3 e) h2 hd.2
    · rw [bif_false (by rw [Bool.eq_false_iff]; intro hh; exact e (Nat.eq_of_beq_eq_true hh))]
      exact ⟨r, rfl, f', h2, h4 e⟩
  | cond c x y ihx ihy =>
    intro f h n K a hx hf hd
    replace hd := Bool.and_eq_true_iff.1 hd
    obtain ⟨b, hb, h1, h2⟩ := (show ∃ b, lv f c = .bool b ∧ (b = true → X P F k lim x f h n K) ∧ (b = false → X P F k lim y f h n K) from hx)
    show ∃ r, cCond c (acode P F k lim x) (acode P F k lim y) ⟨a, h, n⟩ = some r ∧ _
    unfold cCond
    dsimp only
    rw [hf.lev, hb]
    cases b with
    | true => exact ihx (h1 rfl) hf hd.1
    | false => exact ihy (h2 rfl) hf hd.2
  | block id x ih =>
    intro f h n K a hx hf hd
    obtain ⟨r, h1, f', h2, h3, h4⟩ := ih (show X P F k lim x f h n (kBlock id K) from hx) hf hd
    show ∃ r, (acode P F k lim x ⟨a, h, n⟩).bind (fun r => bif Nat.beq r.1 (id + 2) then some (0, r.2) else some r) = some r ∧ _
    rw [h1]
    dsimp only [Option.bind_some]
    by_cases e : r.1 = id + 2
    · rw [bif_true (by rw [e]; exact Nat.beq_refl _)]
      exact ⟨_, rfl, f', h2, h3 e⟩
    · rw [bif_false (by rw [Bool.eq_false_iff]; intro hh; exact e (Nat.eq_of_beq_eq_true hh))]
      exact ⟨r, rfl, f', h2, h4 e⟩
  | loop x ih =>
    intro f h n K a hx hf hd
    obtain ⟨Inv, ⟨m, hm, h0⟩, hs⟩ := (show ∃ Inv : Nat → Fm → Hp → Nat → Prop, (∃ m, m < k ∧ Inv m f h n) ∧ ∀ m g h n, Inv m g h n → X P F k lim x g h n (kLoop Inv m K) from hx)
    show ∃ r, aloop (acode P F k lim x) k ⟨a, h, n⟩ = some r ∧ _
    have key : ∀ (j m : Nat) {f : Fm} {h : Hp} {n : Nat} {a : List Value}, m < j → Inv m f h n → FR N a f → ∃ r, aloop (acode P F k lim x) j ⟨a, h, n⟩ = some r ∧ ∃ f', FR N r.2.a f' ∧ K r.1 f' r.2.h r.2.n := by
      intro j
      induction j with
      | zero => intro m f h n a hm; omega
      | succ j ihj =>
        intro m f h n a hm hi hf
        obtain ⟨r, h1, f', h2, h3, h4⟩ := ih (hs m f h n hi) hf hd
        show ∃ r, (acode P F k lim x ⟨a, h, n⟩).bind (fun r => bif Nat.beq r.1 0 then aloop (acode P F k lim x) j r.2 else some r) = some r ∧ _
        rw [h1]
        dsimp only [Option.bind_some]
        by_cases e : r.1 = 0
        · rw [bif_true (by rw [e]; rfl)]
          obtain ⟨m', hm', hi'⟩ := h3 e
          exact ihj m' (by omega) hi' h2
        · rw [bif_false (by rw [Bool.eq_false_iff]; intro hh; exact e (Nat.eq_of_beq_eq_true hh))]
          exact ⟨r, rfl, f', h2, h4 e⟩
    exact key k m hm h0 hf
  | _ => intro f h n K a hx; exact hx.elim

/-- frames that agree but for some temporaries -/
def keeps (Ws : List Nat) (f g : Fm) : Prop := ∀ t, Ws.elem t = false → g t = f t
noncomputable def wrIn (Ws : List Nat) (c : Code) : Bool :=
  Code.rec (motive := fun _ => Bool) true (fun _ ops _ => ops.toList.all fun o => match o.dst with | some d => Ws.elem d | none => true) (fun _ _ x y => x && y) (fun _ _ _ x y => x && y) (fun _ _ x => x) (fun _ x => x)
    (fun _ _ _ _ x y => true) (fun _ => true) (fun _ _ => true) (fun _ => true) (fun _ => true) true (fun _ => true) c
theorem keeps.refl (Ws : List Nat) (f : Fm) : keeps Ws f f := fun _ _ => rfl
theorem keeps.trans {Ws : List Nat} {f g j : Fm} (h : keeps Ws f g) (h' : keeps Ws g j) : keeps Ws f j := fun t ht => (h' t ht).trans (h t ht)
theorem keeps.put {Ws : List Nat} {d : Option Tmp} (hd : (match d with | some d => Ws.elem d | none => true) = true) (f : Fm) (v : Value) : keeps Ws f (fput f d v) := by
  intro t ht
  unfold fput
  split
  · rename_i e
    subst e
    rw [show Ws.elem t = true from hd] at ht
    cases ht
  · rfl

theorem XO_keeps {Ws : List Nat} {ops : List Oper} : ∀ {l : List Oper} {f : Fm} {h : Hp} {n : Nat} {K : Fm → Hp → Nat → Prop}, XO P F lim ops l f h n K → (l.all fun o => match o.dst with | some d => Ws.elem d | none => true) = true →
    XO P F lim ops l f h n fun g h n => keeps Ws f g ∧ K g h n
  | [], f, h, n, K, hx, _ => ⟨keeps.refl _ _, hx⟩
  | o :: l, f, h, n, K, hx, hd => by
    simp only [List.all_cons, Bool.and_eq_true] at hd
    unfold XO at hx ⊢
    have mono : ∀ {ops l : List Oper} {f : Fm} {h : Hp} {n : Nat} {K K' : Fm → Hp → Nat → Prop}, (∀ f h n, K f h n → K' f h n) → XO P F lim ops l f h n K → XO P F lim ops l f h n K' := by
      intro ops l
      induction l with
      | nil => intro f h n K K' hk hx; exact hk _ _ _ hx
      | cons o l ih =>
        intro f h n K K' hk hx
        unfold XO at hx ⊢
        split at hx
        · rename_i h1; obtain ⟨e, h2, h3, h4⟩ := hx; exact ⟨e, h2, h3, ih hk h4⟩
        · exact ih hk hx
        · exact hx
    split at hx
    · obtain ⟨e, h2, h3, h4⟩ := hx
      exact ⟨e, h2, h3, mono (fun g h n hh => ⟨(keeps.put hd.1 f e.v).trans hh.1, hh.2⟩) (XO_keeps h4 hd.2)⟩
    · exact mono (fun g h n hh => ⟨(keeps.put hd.1 f undef).trans hh.1, hh.2⟩) (XO_keeps hx hd.2)
    · exact hx
theorem XD_mono {us : List (Nat × Nat)} {ops : List Oper} : ∀ {l : List Oper} {i : Nat} {f : Fm} {h : Hp} {n : Nat} {acc : List Fp} {K K' : Fm → Hp → Nat → Prop}, (∀ f h n, K f h n → K' f h n) → XD P F lim us ops l i f h n acc K → XD P F lim us ops l i f h n acc K'
  | [], i, f, h, n, acc, K, K', hk, hx => ⟨hx.1, hk _ _ _ hx.2⟩
  | o :: l, i, f, h, n, acc, K, K', hk, hx => by
    unfold XD at hx ⊢
    split at hx
    · obtain ⟨e, h2, h3, h4⟩ := hx; exact ⟨e, h2, h3, XD_mono hk h4⟩
    · exact XD_mono hk hx
    · exact hx
theorem XD_keeps {Ws : List Nat} {us : List (Nat × Nat)} {ops : List Oper} : ∀ {l : List Oper} {i : Nat} {f : Fm} {h : Hp} {n : Nat} {acc : List Fp} {K : Fm → Hp → Nat → Prop}, XD P F lim us ops l i f h n acc K → (l.all fun o => match o.dst with | some d => Ws.elem d | none => true) = true →
    XD P F lim us ops l i f h n acc fun g h n => keeps Ws f g ∧ K g h n
  | [], i, f, h, n, acc, K, hx, _ => ⟨hx.1, keeps.refl _ _, hx.2⟩
  | o :: l, i, f, h, n, acc, K, hx, hd => by
    simp only [List.all_cons, Bool.and_eq_true] at hd
    unfold XD at hx ⊢
    split at hx
    · obtain ⟨e, h2, h3, h4⟩ := hx
      exact ⟨e, h2, h3, XD_mono (fun g h n hh => ⟨(keeps.put hd.1 f e.v).trans hh.1, hh.2⟩) (XD_keeps h4 hd.2)⟩
    · exact XD_mono (fun g h n hh => ⟨(keeps.put hd.1 f undef).trans hh.1, hh.2⟩) (XD_keeps hx hd.2)
    · exact hx

theorem X_mono : ∀ (c : Code) {f : Fm} {h : Hp} {n : Nat} {K K' : Ex → Fm → Hp → Nat → Prop}, (∀ e f h n, K e f h n → K' e f h n) → X P F k lim c f h n K → X P F k lim c f h n K' := by
  intro c
  induction c with
  | skip => intro f h n K K' hk hx; exact hk _ _ _ _ hx
  | label l => intro f h n K K' hk hx; exact hk _ _ _ _ hx
  | exit id => intro f h n K K' hk hx; exact hk _ _ _ _ hx
  | ret => intro f h n K K' hk hx; exact hk _ _ _ _ hx
  | region id ops d =>
    intro f h n K K' hk hx
    cases d with
    | false =>
      have mono : ∀ {ops l : List Oper} {f : Fm} {h : Hp} {n : Nat} {K K' : Fm → Hp → Nat → Prop}, (∀ f h n, K f h n → K' f h n) → XO P F lim ops l f h n K → XO P F lim ops l f h n K' := by
        intro ops l
        induction l with
        | nil => intro f h n K K' hk hx; exact hk _ _ _ hx
        | cons o l ih =>
          intro f h n K K' hk hx
          unfold XO at hx ⊢
          split at hx
          · rename_i h1; obtain ⟨e, h2, h3, h4⟩ := hx; exact ⟨e, h2, h3, ih hk h4⟩
          · exact ih hk hx
          · exact hx
      exact mono (fun f h n => hk 0 f h n) (show XO P F lim ops.toList ops.toList f h n (K 0) from hx)
    | true =>
      obtain ⟨us, hu, hx⟩ := (show ∃ us, unordered ops = some us ∧ XD P F lim us ops.toList ops.toList 0 f h n [] (K 0) from hx)
      exact ⟨us, hu, XD_mono (fun f h n => hk 0 f h n) hx⟩
  | seq x y ihx ihy =>
    intro f h n K K' hk hx
    exact ihx (fun e f h n hh => ⟨fun e0 => ihy hk (hh.1 e0), fun e0 => hk _ _ _ _ (hh.2 e0)⟩) (show X P F k lim x f h n (kThen (X P F k lim y) K) from hx)
  | cond c x y ihx ihy =>
    intro f h n K K' hk hx
    obtain ⟨b, hb, h1, h2⟩ := (show ∃ b, lv f c = .bool b ∧ (b = true → X P F k lim x f h n K) ∧ (b = false → X P F k lim y f h n K) from hx)
    exact ⟨b, hb, fun e => ihx hk (h1 e), fun e => ihy hk (h2 e)⟩
  | block id x ih =>
    intro f h n K K' hk hx
    exact ih (fun e f h n hh => ⟨fun e0 => hk _ _ _ _ (hh.1 e0), fun e0 => hk _ _ _ _ (hh.2 e0)⟩) (show X P F k lim x f h n (kBlock id K) from hx)
  | loop x ih =>
    intro f h n K K' hk hx
    obtain ⟨Inv, h0, hs⟩ := (show ∃ Inv : Nat → Fm → Hp → Nat → Prop, (∃ m, m < k ∧ Inv m f h n) ∧ ∀ m g h n, Inv m g h n → X P F k lim x g h n (kLoop Inv m K) from hx)
    exact ⟨Inv, h0, fun m g h n hi => ih (fun e f h n hh => ⟨hh.1, fun e0 => hk _ _ _ _ (hh.2 e0)⟩) (hs m g h n hi)⟩
  | _ => intro f h n K K' hk hx; exact hx.elim

theorem X_keeps {Ws : List Nat} : ∀ (c : Code) {f : Fm} {h : Hp} {n : Nat} {K : Ex → Fm → Hp → Nat → Prop}, X P F k lim c f h n K → wrIn Ws c = true → X P F k lim c f h n fun e g h n => keeps Ws f g ∧ K e g h n := by
  intro c
  induction c with
  | skip => intro f h n K hx hd; exact ⟨keeps.refl _ _, hx⟩
  | label l => intro f h n K hx hd; exact ⟨keeps.refl _ _, hx⟩
  | exit id => intro f h n K hx hd; exact ⟨keeps.refl _ _, hx⟩
  | ret => intro f h n K hx hd; exact ⟨keeps.refl _ _, hx⟩
  | region id ops d =>
    intro f h n K hx hd
    cases d with
    | false => exact XO_keeps (show XO P F lim ops.toList ops.toList f h n (K 0) from hx) hd
    | true =>
      obtain ⟨us, hu, hx⟩ := (show ∃ us, unordered ops = some us ∧ XD P F lim us ops.toList ops.toList 0 f h n [] (K 0) from hx)
      exact ⟨us, hu, XD_keeps hx hd⟩
  | seq x y ihx ihy =>
    intro f h n K hx hd
    replace hd := Bool.and_eq_true_iff.1 hd
    refine X_mono x (fun e g h n hh => ?_) (ihx (show X P F k lim x f h n (kThen (X P F k lim y) K) from hx) hd.1)
    exact ⟨fun e0 => X_mono y (fun e j h n h2 => ⟨hh.1.trans h2.1, h2.2⟩) (ihy (hh.2.1 e0) hd.2), fun e0 => ⟨hh.1, hh.2.2 e0⟩⟩
  | cond c x y ihx ihy =>
    intro f h n K hx hd
    replace hd := Bool.and_eq_true_iff.1 hd
    obtain ⟨b, hb, h1, h2⟩ := (show ∃ b, lv f c = .bool b ∧ (b = true → X P F k lim x f h n K) ∧ (b = false → X P F k lim y f h n K) from hx)
    exact ⟨b, hb, fun e => ihx (h1 e) hd.1, fun e => ihy (h2 e) hd.2⟩
  | block id x ih =>
    intro f h n K hx hd
    refine X_mono x (fun e g h n hh => ?_) (ih (show X P F k lim x f h n (kBlock id K) from hx) hd)
    exact ⟨fun e0 => ⟨hh.1, hh.2.1 e0⟩, fun e0 => ⟨hh.1, hh.2.2 e0⟩⟩
  | loop x ih =>
    intro f h n K hx hd
    obtain ⟨Inv, ⟨m, hm, h0⟩, hs⟩ := (show ∃ Inv : Nat → Fm → Hp → Nat → Prop, (∃ m, m < k ∧ Inv m f h n) ∧ ∀ m g h n, Inv m g h n → X P F k lim x g h n (kLoop Inv m K) from hx)
    refine ⟨fun m g h n => keeps Ws f g ∧ Inv m g h n, ⟨m, hm, keeps.refl _ _, h0⟩, fun m g h n hi => ?_⟩
    refine X_mono x (fun e j h n hh => ?_) (ih (hs m g h n hi.2) hd)
    refine ⟨fun e0 => ?_, fun e0 => ⟨hi.1.trans hh.1, hh.2.2 e0⟩⟩
    obtain ⟨m', h1, h2⟩ := hh.2.1 e0
    exact ⟨m', h1, hi.1.trans hh.1, h2⟩
  | _ => intro f h n K hx; exact hx.elim

/-- a frame that is known but for some temporaries -/
def mix (Ws : List Nat) (g f : Fm) : Fm := fun t => bif Ws.elem t then g t else f t
theorem mix_of_keeps {Ws : List Nat} {f g : Fm} (h : keeps Ws f g) : mix Ws g f = g := by
  funext t
  unfold mix
  cases ht : Ws.elem t with
  | true => rfl
  | false => exact (h t ht).symm

/-- A loop: Ws are the temporaries that its rounds set. -/
theorem x_loop (Ws : List Nat) (Inv : Nat → Fm → Hp → Nat → Prop) {x : Code} {f : Fm} {h : Hp} {n : Nat} {K : Ex → Fm → Hp → Nat → Prop} (m : Nat) (hw : wrIn Ws x = true) (hm : m < k) (h0 : Inv m f h n)
    (hs : ∀ m g h n, Inv m (mix Ws g f) h n → X P F k lim x (mix Ws g f) h n (kLoop Inv m K)) : X P F k lim (.loop x) f h n K := by
  refine ⟨fun m g h n => keeps Ws f g ∧ Inv m g h n, ⟨m, hm, keeps.refl _ _, h0⟩, fun m g h n hi => ?_⟩
  have he := mix_of_keeps hi.1
  have := hs m g h n (by rw [he]; exact hi.2)
  rw [he] at this
  refine X_mono x (fun e j h n hh => ?_) (X_keeps x this hw)
  refine ⟨fun e0 => ?_, fun e0 => hh.2.2 e0⟩
  obtain ⟨m', h1, h2⟩ := hh.2.1 e0
  exact ⟨m', h1, hi.1.trans hh.1, h2⟩
end
end Go.Proofs.Ytcdedegjpfemmaa.Ce
