/- The evaluator of closed calls: memory as a whole, and steps one after another. No program in sight. -/
import Derived.Test.YtcdedegjpfemmaaCs
import Derived.Below
namespace Go.Proofs.Ytcdedegjpfemmaa.Ce
open Go.RowKit
set_option linter.unusedVariables false
set_option linter.unusedSimpArgs false

/-- the evaluator's heap and the machine's -/
structure MemR (P : Program) (φ : Mp) (h : Hp) (n : Nat) (w : World) (S : Nat) : Prop where
  fn : ∀ id, n ≤ id → φ id = none
  obj : ∀ id g c, φ id = some (g, c) → ObjR P φ (h.get id) w g c ∧ S ≤ g ∧ g < w.heap.size
  inj : ∀ id id' g c c', id < id' → φ id = some (g, c) → φ id' = some (g, c') → h.get id = none
  hb : HB h n
  hS : S ≤ w.heap.size

/-- what steps leave: as PO, but for what the blocks say -/
structure Fr (φ φ' : Mp) (h h' : Hp) (n n' : Nat) (Wr : Nat → Prop) (w w' : World) : Prop where
  ext : ∀ id, (id < n ∨ n' ≤ id) → φ' id = φ id
  fr : ∀ g, g < w.heap.size → (∀ id c, id < n → Wr id → h.get id ≠ none → φ id ≠ some (g, c)) → w'.heap[g]? = w.heap[g]?
  keep : ∀ id, id < n → ¬ Wr id → h'.get id = h.get id
  new : ∀ id g c, n ≤ id → id < n' → φ' id = some (g, c) → w.heap.size ≤ g ∨ ∃ id0 c0, id0 < n ∧ Wr id0 ∧ φ id0 = some (g, c0) ∧ h.get id0 ≠ none ∧ h'.get id0 = none
  injn : ∀ id id' g c c', n ≤ id → id < id' → id' < n' → φ' id = some (g, c) → φ' id' = some (g, c') → h'.get id = none
  dd : ∀ id, id < n → h.get id = none → h'.get id = none
  un : ∀ id, id < n → φ id = none → h'.get id = h.get id
  nle : n ≤ n'
  sz : w.heap.size ≤ w'.heap.size
  os : w'.os = w.os
  tape : w'.tape = w.tape
  output : w'.output = w.output

section
variable {P : Program} {φ φ' φ2 : Mp} {h h' h2 : Hp} {n n' n2 : Nat} {w w' w2 : World} {S : Nat} {Wr Wr' : Nat → Prop}

theorem PO.toFr (p : PO P φ φ' h h' n n' Wr w w' S) : Fr φ φ' h h' n n' Wr w w' :=
  ⟨p.ext, p.fr, p.keep, p.new, p.injn, p.dd, p.un, p.nle, p.sz, p.os, p.tape, p.output⟩
theorem Fr.weaken (p : Fr φ φ' h h' n n' Wr w w') (hw : ∀ id, id < n → Wr id → Wr' id) : Fr φ φ' h h' n n' Wr' w w' :=
  ⟨p.ext, fun g hg hh => p.fr g hg fun id c h1 h2 h3 => hh id c h1 (hw id h1 h2) h3, fun id h1 h2 => p.keep id h1 fun h3 => h2 (hw id h1 h3),
    fun id g c h1 h2 h3 => (p.new id g c h1 h2 h3).imp_right fun ⟨id0, c0, a, b, r⟩ => ⟨id0, c0, a, hw _ a b, r⟩, p.injn, p.dd, p.un, p.nle, p.sz, p.os, p.tape, p.output⟩
theorem Fr.refl (φ : Mp) (h : Hp) (n : Nat) (w : World) : Fr φ φ h h n n Wr w w :=
  ⟨fun _ _ => rfl, fun _ _ _ => rfl, fun _ _ _ => rfl, fun id g c h1 h2 => by omega, fun id id' g c c' h1 h2 => by omega, fun _ _ hd => hd, fun _ _ _ => rfl, Nat.le_refl _, Nat.le_refl _, rfl, rfl, rfl⟩
theorem Fr.le (p : Fr φ φ' h h' n n' Wr w w') (hf : ∀ id, n ≤ id → φ id = none) : le_ φ φ' := fun id q hq => by
  rcases Nat.lt_or_ge id n with h1 | h1
  · rw [p.ext id (.inl h1)]; exact hq
  · rw [hf id h1] at hq; cases hq

/-- one after another -/
theorem Fr.trans (p : Fr φ φ' h h' n n' Wr w w') (q : Fr φ' φ2 h' h2 n' n2 Wr' w' w2) (hw : ∀ id, id < n → Wr' id → Wr id) (m : MemR P φ' h' n' w' S) : Fr φ φ2 h h2 n n2 Wr w w2 := by
  have hn := p.nle
  have hn2 := q.nle
  have hal : ∀ id, id < n → h'.get id ≠ none → h.get id ≠ none := fun id h1 h2 h3 => h2 (p.dd id h1 h3)
  -- a block of the middle that is in the old heap is an old one that was written, or not written now
  refine ⟨fun id hid => ?_, fun g hg1 hh => ?_, fun id h1 h2 => ?_, fun id g c h1 h2 h3 => ?_, fun id id' g c c' h1 h2 h3 h4 h5 => ?_, fun id h1 h2 => ?_, fun id h1 h2 => ?_, by omega, Nat.le_trans p.sz q.sz, q.os.trans p.os, q.tape.trans p.tape, q.output.trans p.output⟩
  · rcases hid with h1 | h1
    · rw [q.ext id (.inl (by omega)), p.ext id (.inl h1)]
    · rw [q.ext id (.inr h1), p.ext id (.inr (by omega))]
  · have e1 := p.fr g hg1 hh
    rw [← e1]
    refine q.fr g (Nat.lt_of_lt_of_le hg1 p.sz) fun id c h1 h2 h3 h4 => ?_
    rcases Nat.lt_or_ge id n with h5 | h5
    · rw [p.ext id (.inl h5)] at h4
      exact hh id c h5 (hw id h5 h2) (hal id h5 h3) h4
    · rcases p.new id g c h5 h1 h4 with h6 | ⟨id0, c0, a, b, r, s, t⟩
      · omega
      · exact hh id0 c0 a b s r
  · rw [q.keep id (by omega) fun h3 => h2 (hw id h1 h3), p.keep id h1 h2]
  · rcases Nat.lt_or_ge id n' with h4 | h4
    · rw [q.ext id (.inl h4)] at h3
      rcases p.new id g c h1 h4 h3 with h6 | ⟨id0, c0, a, b, r, s, t⟩
      · exact .inl h6
      · exact .inr ⟨id0, c0, a, b, r, s, q.dd id0 (by omega) t⟩
    · rcases q.new id g c h4 h2 h3 with h6 | ⟨id0, c0, a, b, r, s, t⟩
      · exact .inl (Nat.le_trans p.sz h6)
      · rcases Nat.lt_or_ge id0 n with h5 | h5
        · rw [p.ext id0 (.inl h5)] at r
          exact .inr ⟨id0, c0, h5, hw _ h5 b, r, hal id0 h5 s, t⟩
        · rcases p.new id0 g c0 h5 a r with h6 | ⟨id1, c1, a1, b1, r1, s1, t1⟩
          · exact .inl h6
          · exact .inr ⟨id1, c1, a1, b1, r1, s1, q.dd id1 (by omega) t1⟩
  · rcases Nat.lt_or_ge id' n' with h6 | h6
    · rw [q.ext id (.inl (by omega))] at h4
      rw [q.ext id' (.inl h6)] at h5
      exact q.dd id (by omega) (p.injn id id' g c c' h1 h2 h6 h4 h5)
    · rcases Nat.lt_or_ge id n' with h7 | h7
      · rw [q.ext id (.inl h7)] at h4
        -- id of the middle, id' of the last
        rcases q.new id' g c' h6 h3 h5 with h8 | ⟨id0, c0, a, b, r, s, t⟩
        · have := (m.obj id g c h4).2.2
          omega
        · rcases Nat.lt_trichotomy id id0 with h9 | h9 | h9
          · exact q.dd id h7 (m.inj id id0 g c c0 h9 h4 r)
          · rw [h9]; exact t
          · exact absurd (m.inj id0 id g c0 c h9 r h4) s
      · exact q.injn id id' g c c' h7 h2 h3 h4 h5
  · exact q.dd id (by omega) (p.dd id h1 h2)
  · rw [q.un id (by omega) (by rw [p.ext id (.inl h1)]; exact h2), p.un id h1 h2]

/-- memory after a step -/
theorem MemR.step (m : MemR P φ h n w S) (p : Fr φ φ' h h' n n' Wr w w') (hb : HB h' n')
    (ho : ∀ id g c, (id < n ∧ Wr id ∨ n ≤ id ∧ id < n') → φ' id = some (g, c) → ObjR P φ' (h'.get id) w' g c ∧ S ≤ g ∧ g < w'.heap.size) : MemR P φ' h' n' w' S := by
  have hle := p.le m.fn
  refine ⟨fun id h1 => ?_, fun id g c h1 => ?_, fun id id' g c c' h1 h2 h3 => ?_, hb, Nat.le_trans m.hS p.sz⟩
  · rw [p.ext id (.inr h1)]
    exact m.fn id (Nat.le_trans p.nle h1)
  · rcases Nat.lt_or_ge id n' with h2 | h2
    · by_cases h3 : id < n ∧ ¬ Wr id
      · have h4 : φ id = some (g, c) := by rw [← p.ext id (.inl h3.1)]; exact h1
        obtain ⟨h5, h6, h7⟩ := m.obj id g c h4
        refine ⟨?_, h6, Nat.lt_of_lt_of_le h7 p.sz⟩
        rw [p.keep id h3.1 h3.2]
        by_cases hd : h.get id = none
        · rw [hd]; trivial
        · refine h5.mono hle (p.fr g h7 fun id0 c0 a b r hp => ?_)
          rcases Nat.lt_trichotomy id id0 with h9 | h9 | h9
          · exact hd (m.inj id id0 g c c0 h9 h4 hp)
          · exact h3.2 (h9 ▸ b)
          · exact r (m.inj id0 id g c0 c h9 hp h4)
      · refine ho id g c ?_ h1
        rcases Nat.lt_or_ge id n with h4 | h4
        · exact .inl ⟨h4, Classical.not_not.1 fun h5 => h3 ⟨h4, h5⟩⟩
        · exact .inr ⟨h4, h2⟩
    · rw [p.ext id (.inr h2), m.fn id (Nat.le_trans p.nle h2)] at h1
      cases h1
  · rcases Nat.lt_or_ge id' n with h4 | h4
    · rw [p.ext id (.inl (by omega))] at h2
      rw [p.ext id' (.inl h4)] at h3
      exact p.dd id (by omega) (m.inj id id' g c c' h1 h2 h3)
    · rcases Nat.lt_or_ge id' n' with h5 | h5
      · rcases Nat.lt_or_ge id n with h6 | h6
        · rw [p.ext id (.inl h6)] at h2
          rcases p.new id' g c' h4 h5 h3 with h8 | ⟨id0, c0, a, b, r, s, t⟩
          · have := (m.obj id g c h2).2.2
            omega
          · rcases Nat.lt_trichotomy id id0 with h9 | h9 | h9
            · exact p.dd id h6 (m.inj id id0 g c c0 h9 h2 r)
            · rw [h9]; exact t
            · exact absurd (m.inj id0 id g c0 c h9 r h2) s
        · exact p.injn id id' g c c' h6 h1 h5 h2 h3
      · rw [p.ext id' (.inr h5), m.fn id' h4] at h3
        cases h3
theorem MemR.po (m : MemR P φ h n w S) (p : PO P φ φ' h h' n n' Wr w w' S) (hb : HB h' n') : MemR P φ' h' n' w' S := m.step p.toFr hb p.objn
theorem MemR.drew (m : MemR P φ h n w S) (hh : w'.heap = w.heap) : MemR P φ h n w' S :=
  ⟨m.fn, fun id g c h1 => by rw [hh]; exact ⟨(m.obj id g c h1).1.mono (le_.refl _) (by rw [hh]), (m.obj id g c h1).2⟩, m.inj, m.hb, by rw [hh]; exact m.hS⟩
theorem MemR.tou {e : Ef} (m : MemR P φ h n w S) : Tou P φ h w S e := fun id g c _ h1 => m.obj id g c h1

/-- what a call of a function comes to -/
def SoundF (P : Program) (F : CallE) : Prop :=
  ∀ cl g args h n v h' n', F cl g args h n = some (v, h', n') → goodF P g ≠ none → cl ≤ n → ∀ φ w S (cargs : List Value), VL (VC φ) args cargs → MemR P φ h n w S →
    Calls P g ⟨cargs⟩ w fun e w' => ∃ v' φ', e = .returned v' ∧ VC φ' v v' ∧ Fr φ φ' h h' n n' (fun id => cl ≤ id) w w' ∧ MemR P φ' h' n' w' S

/-- the temporaries -/
def TR (φ : Mp) (a : List Value) (t : Array Value) : Prop := a.length = t.size ∧ ∀ k, VC φ ((lget a k).getD undef) (t.getD k undef)
theorem TR.mono {a : List Value} {t : Array Value} (hle : le_ φ φ') (ht : TR φ a t) : TR φ' a t := ⟨ht.1, fun k => (ht.2 k).mono hle⟩
theorem lev_ok {a : List Value} {b : Act} {x : Operand} (ht : ∀ k, x = .tmp k → VC φ ((lget a k).getD undef) (b.tmps.getD k undef)) : VC φ (lev a x) (b.eval x) := by
  cases x with
  | tmp t => exact ht t rfl
  | const v =>
    show VC φ (bif scal v then v else wild) v
    cases hs : scal v with
    | false => exact VC.wild _
    | true =>
      show VC φ v v
      cases v with
      | agg cs => exact ⟨cs, rfl, VL.flat_refl hs⟩
      | _ => exact VB.vc (VA.vb (VA.flat hs))
  | global g => exact VC.wild _
  | func f => exact ⟨_, _, rfl, trivial, trivial⟩
theorem TR.lev {a : List Value} {b : Act} (ht : TR φ a b.tmps) (x : Operand) : VC φ (lev a x) (b.eval x) := lev_ok fun k _ => ht.2 k
theorem put_len (a : List Value) (d : Option Tmp) (v : Value) : (put a d v).length = a.length := by
  cases d with
  | none => rfl
  | some d => show (lset v d a).length = _; rw [lset_eq]; simp
theorem put_ne {a : List Value} {d : Option Tmp} {t : Tmp} (v : Value) (h : d ≠ some t) : lget (put a d v) t = lget a t := by
  cases d with
  | none => rfl
  | some d =>
    show lget (lset v d a) t = _
    rw [lset_eq, lget_eq, lget_eq, List.getElem?_set_ne (fun e => h (by rw [e]))]
theorem Act.put_ne {b : Act} {d : Option Tmp} {t : Tmp} (v : Value) (h : d ≠ some t) : (b.put d v).tmps.getD t undef = b.tmps.getD t undef := by
  cases d with
  | none => rfl
  | some d => simp [Act.put, Array.getElem?_setIfInBounds_ne (fun e => h (by rw [e]) : d ≠ t)]
theorem Act.put_size (b : Act) (d : Option Tmp) (v : Value) : (b.put d v).tmps.size = b.tmps.size := by cases d <;> simp [Act.put]
theorem put_eq {a : List Value} {b : Act} {t : Tmp} {v v' : Value} (hlen : a.length = b.tmps.size) (hv : VC φ v v') : VC φ ((lget (Ce.put a (some t) v) t).getD undef) ((b.put (some t) v').tmps.getD t undef) := by
  show VC φ ((lget (lset v t a) t).getD undef) ((b.tmps.setIfInBounds t v').getD t undef)
  rw [lset_eq, lget_eq, List.getElem?_set]
  by_cases hlt : t < a.length
  · have hlt' : t < b.tmps.size := Nat.lt_of_lt_of_eq hlt hlen
    simp [hlt, hlt']
    exact hv
  · have hlt' : ¬ t < b.tmps.size := fun h => hlt (Nat.lt_of_lt_of_eq h hlen.symm)
    simp [hlt, hlt']
    exact VC.undef_
theorem TR.put {a : List Value} {b : Act} {v v' : Value} (ht : TR φ a b.tmps) (dst : Option Tmp) (hv : VC φ v v') : TR φ (put a dst v) (b.put dst v').tmps := by
  cases dst with
  | none => exact ht
  | some d =>
    show TR φ (lset v d a) (b.tmps.setIfInBounds d v')
    rw [lset_eq]
    refine ⟨by simp [ht.1], fun k => ?_⟩
    have h1 := ht.2 k
    rw [lget_eq] at h1 ⊢
    rw [List.getElem?_set]
    by_cases hk : d = k
    · subst hk
      have hsz := ht.1
      by_cases hlt : d < a.length
      · have hlt' : d < b.tmps.size := Nat.lt_of_lt_of_eq hlt hsz
        simp [hlt, hlt']
        exact hv
      · have hlt' : ¬ d < b.tmps.size := fun h => hlt (Nat.lt_of_lt_of_eq h hsz.symm)
        simp [hlt, hlt']
        exact VC.undef_
    · simpa [hk, Array.getElem?_setIfInBounds_ne hk] using h1
theorem wants_ok {a : List Value} {b : Act} {ops : Array Oper} {o : Oper} {t : Bool} (hlen : a.length = b.tmps.size) (ht : ∀ g want d, o.guard = some (g, want) → (ops[g]?).bind (·.dst) = some d → VC φ ((lget a d).getD undef) (b.tmps.getD d undef))
    (hw : wants ops.toList o a = some t) : Region.wanted o (yielded ops b.tmps) = t := by
  unfold Ce.wants at hw
  unfold Region.wanted
  cases hg : o.guard with
  | none => rw [hg] at hw; injection hw
  | some gw =>
    obtain ⟨g, want⟩ := gw
    rw [hg] at hw
    simp only [lget_eq, Array.getElem?_toList] at hw
    show (yielded ops b.tmps g == some want) = t
    unfold yielded
    cases hd : (ops[g]?).bind (·.dst) with
    | none => rw [hd] at hw; injection hw with hw
    | some d =>
      rw [hd] at hw
      dsimp only at hw
      have h1 := ht g want d hg hd
      rw [lget_eq] at h1
      simp only [Option.bind_some]
      cases ha : a[d]? with
      | none =>
        rw [ha] at hw
        injection hw with hw
        subst hw
        have : b.tmps[d]? = none := by
          have := hlen
          rw [List.getElem?_eq_none_iff] at ha
          exact Array.getElem?_eq_none (by omega)
        rw [this]
        simp
      | some u =>
        rw [ha] at hw h1
        obtain ⟨u', hu'⟩ : ∃ u', b.tmps[d]? = some u' := by
          have := hlen
          have h2 := (List.getElem?_eq_some_iff.1 ha).1
          exact ⟨b.tmps[d], Array.getElem?_eq_getElem (by omega)⟩
        rw [hu']
        have h1 : VC φ u u' := by simpa [hu'] using h1
        cases u' with
        | bool c =>
          rcases h1.of_bool with rfl | ⟨c, rfl⟩
          · injection hw with hw
          · cases hw
        | _ =>
          have hnb : ∀ c, u ≠ .bool c := fun c hc => by subst hc; cases h1.bool
          cases u with
          | bool c => exact absurd rfl (hnb c)
          | chan c => cases hw
          | _ => injection hw
theorem TR.wants {a : List Value} {b : Act} {ops : Array Oper} {o : Oper} {t : Bool} (ht : TR φ a b.tmps) (hw : wants ops.toList o a = some t) : Region.wanted o (yielded ops b.tmps) = t :=
  wants_ok ht.1 (fun _ _ d _ _ => ht.2 d) hw
end
end Go.Proofs.Ytcdedegjpfemmaa.Ce
