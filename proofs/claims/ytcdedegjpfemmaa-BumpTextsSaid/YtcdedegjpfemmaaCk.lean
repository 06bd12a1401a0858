/- The evaluator of closed calls: a drawn region, in any order: the invariant holds step by step. No program in sight. -/
import Derived.Test.YtcdedegjpfemmaaCz
namespace Go.Proofs.Ytcdedegjpfemmaa.Ce
open Go.RowKit
set_option linter.unusedVariables false
set_option linter.unusedSimpArgs false
set_option linter.unusedSectionVars false

/-- in the midst of a drawn region -/
structure Inv (P : Program) (lim : Nat) (ops : Array Oper) (sts : Nat → St) (fpf : Nat → Fp) (S : Nat) (φ0 : Mp) (a0 : Act) (w0 : World) (L : Array Bool) (φ : Mp) (a : Act) (w : World) : Prop where
  sz : L.size = ops.size
  down : Closed ops L
  df : a.defers = a0.defers
  ts : a.tmps.size = (sts 0).a.length
  ta : ∀ t k, k ≤ ops.size → ConsT ops L t k → VC (cut φ (sts k).n) ((lget (sts k).a t).getD undef) (a.tmps.getD t undef)
  me : ∀ id g c k, φ id = some (g, c) → id < (sts k).n → k ≤ ops.size → ConsM ops fpf L id k → ObjR P (cut φ (sts k).n) ((sts k).h.get id) w g c
  gb : ∀ id g c, φ id = some (g, c) → S ≤ g ∧ g < w.heap.size
  inj : ∀ id id' g c c' k, id < id' → φ id = some (g, c) → φ id' = some (g, c') → id < (sts k).n → k ≤ ops.size → ConsM ops fpf L id k → (sts k).h.get id = none
  kn : ∀ id, φ id ≠ none → id < (sts 0).n ∨ ∃ j, j < ops.size ∧ Dn L j ∧ (sts j).n ≤ id ∧ id < (sts (j + 1)).n
  un : ∀ j id, j < ops.size → Dn L j → id < (sts j).n → φ id = none → (sts (j + 1)).h.get id = (sts j).h.get id
  phi0 : ∀ id, id < (sts 0).n → φ id = φ0 id
  fr : ∀ g, g < w0.heap.size → (∀ id c, id < (sts 0).n → lim ≤ id → (sts 0).h.get id ≠ none → φ0 id ≠ some (g, c)) → w.heap[g]? = w0.heap[g]?
  new : ∀ id g c, (sts 0).n ≤ id → φ id = some (g, c) → w0.heap.size ≤ g ∨ ∃ id0 c0, id0 < (sts 0).n ∧ lim ≤ id0 ∧ φ0 id0 = some (g, c0) ∧ (sts 0).h.get id0 ≠ none
  szw : w0.heap.size ≤ w.heap.size
  hS : S ≤ w0.heap.size
  os : w.os = w0.os
  tape : w.tape = w0.tape
  output : w.output = w0.output

theorem getD_set {L : Array Bool} {i j : Nat} (hi : i < L.size) : Dn (L.setIfInBounds i true) j ↔ Dn L j ∨ j = i := by
  unfold Dn
  by_cases hij : i = j
  · subst hij
    simp [hi]
  · rw [Array.getD_eq_getD_getElem?, Array.getElem?_setIfInBounds_ne hij, ← Array.getD_eq_getD_getElem?]
    constructor
    · exact .inl
    · rintro (h | h)
      · exact h
      · exact absurd h.symm hij

section
variable {P : Program} {F : CallE} {lim : Nat} {ops : Array Oper} {sts : Nat → St} {fpf : Nat → Fp} {S : Nat} {φ0 φ : Mp} {a0 a : Act} {w0 w : World} {L : Array Bool}

theorem Inv.step (T : Trace P F lim ops sts fpf) (I : Inv P lim ops sts fpf S φ0 a0 w0 L φ a w) {i : Nat} {oi : Oper} (hi : ops[i]? = some oi) (hni : ¬ Dn L i)
    (hr : ∀ e ∈ oi.after, Region.binds .any e = true → Dn L e.on) {ev v' : Value} {w' : World} {φ' : Mp} (hsa : (sts (i + 1)).a = put (sts i).a oi.dst ev) (hv : VC φ' ev v')
    (p : PO P (cut φ (sts i).n) φ' (sts i).h (sts (i + 1)).h (sts i).n (sts (i + 1)).n (· ∈ (fpf i).wr) w w' S) :
    ∃ φ2, Inv P lim ops sts fpf S φ0 a0 w0 (L.setIfInBounds i true) φ2 (a.put oi.dst v') w' := by
  have hiN : i < ops.size := (Array.getElem?_eq_some_iff.1 hi).1
  have hD : ∀ j, Dn (L.setIfInBounds i true) j ↔ Dn L j ∨ j = i := fun j => getD_set (by rw [I.sz]; exact hiN)
  have hnle := p.nle
  have h0i : (sts 0).n ≤ (sts i).n := T.le (by omega) (by omega)
  -- what is made is not yet known
  have hfresh : ∀ id, (sts i).n ≤ id → id < (sts (i + 1)).n → φ id = none := fun id h1 h2 => by
    cases hp : φ id with
    | none => rfl
    | some q =>
      exfalso
      rcases I.kn id (by rw [hp]; simp) with h | ⟨j, hj, hdj, h3, h4⟩
      · omega
      · rcases Nat.lt_trichotomy j i with h | h | h
        · have := T.le (i := j + 1) (k := i) (by omega) (by omega)
          omega
        · subst h; exact hni hdj
        · have := T.le (i := i + 1) (k := j) (by omega) (by omega)
          omega
  let φ2 : Mp := fun id => if (sts i).n ≤ id ∧ id < (sts (i + 1)).n then φ' id else φ id
  have hold : ∀ id, ¬ ((sts i).n ≤ id ∧ id < (sts (i + 1)).n) → φ2 id = φ id := fun id h => by simp only [φ2, if_neg h]
  have hnew : ∀ id, (sts i).n ≤ id → id < (sts (i + 1)).n → φ2 id = φ' id := fun id h1 h2 => by simp only [φ2, if_pos (And.intro h1 h2)]
  have hle : le_ φ φ2 := fun id q hq => by
    by_cases h : (sts i).n ≤ id ∧ id < (sts (i + 1)).n
    · rw [hfresh id h.1 h.2] at hq; cases hq
    · rw [hold id h]; exact hq
  have hcut : cut φ2 (sts (i + 1)).n = φ' := by
    funext id
    rcases Nat.lt_or_ge id (sts i).n with h1 | h1
    · rw [cut_lt (by omega), hold id (by omega), p.ext id (.inl h1), cut_lt h1]
    · rcases Nat.lt_or_ge id (sts (i + 1)).n with h2 | h2
      · rw [cut_lt h2, hnew id h1 h2]
      · rw [cut_ge h2, p.ext id (.inr h2), cut_ge h1]
  have hupk : ∀ k, i + 1 ≤ k → k ≤ ops.size → le_ φ' (cut φ2 (sts k).n) := fun k h1 h2 => by
    rw [← hcut]
    exact cut_mono (T.le h1 h2) (le_.refl _)
  -- old ones
  have hoM : ∀ {id k : Nat}, id ∉ (fpf i).wr → ConsM ops fpf (L.setIfInBounds i true) id k → ConsM ops fpf L id k := fun {id k} hw hc j hj hwj => by
    have hne : j ≠ i := fun e => hw (e ▸ hwj)
    rw [← hc j hj hwj, hD]
    exact ⟨.inl, fun h => h.resolve_right hne⟩
  have hlt : ∀ {id k : Nat}, id ∈ (fpf i).wr → ConsM ops fpf (L.setIfInBounds i true) id k → i < k := fun {id k} hw hc => (hc i hiN hw).1 ((hD i).2 (.inr rfl))
  have hready : ∀ {id : Nat}, id ∈ (fpf i).wr → ConsM ops fpf L id i := fun {id} hw => consM_ready T I.down hi hni hr (T.mem_of_wr hi hw) (.inr (.inl hw))
  -- no one writes it between i and k
  have hstay : ∀ {id k : Nat}, id < (sts (i + 1)).n → i < k → k ≤ ops.size → ConsM ops fpf (L.setIfInBounds i true) id k → (id ∈ (fpf i).wr ∨ φ id = none) → (sts k).h.get id = (sts (i + 1)).h.get id := fun {id k} hid hik hk hc hor => by
    refine T.same (by omega) hk fun j h1 h2 => ?_
    have hnj : id < (sts j).n := Nat.lt_of_lt_of_le hid (T.le h1 (by omega))
    by_cases hw : id ∈ (fpf j).wr
    · have hdj : Dn L j := by
        have := (hc j (by omega) hw).2 h2
        rw [hD] at this
        exact this.resolve_right (by omega)
      rcases hor with hor | hor
      · exact absurd hw (no_later_wr T I.down hi hni hr (by omega) (by omega) hdj hor)
      · exact I.un j id (by omega) hdj hnj hor
    · exact (T.st j (by omega)).keep id hnj hw
  have hifb : ∀ {id : Nat}, id ∈ (fpf i).wr → id < (sts i).n := fun {id} hw => (T.wr i hiN id hw).2
  have hgt : ∀ {id k : Nat}, (sts i).n ≤ id → id < (sts k).n → i < k := fun {id k} h1 h2 => by
    rcases Nat.lt_or_ge i k with h | h
    · exact h
    · have := T.le (i := k) (k := i) h (by omega)
      omega
  -- inj among old ones at k, after the step
  have hinjO : ∀ id id' g c c' k, id < id' → φ id = some (g, c) → φ id' = some (g, c') → id < (sts k).n → k ≤ ops.size → ConsM ops fpf (L.setIfInBounds i true) id k → (sts k).h.get id = none := fun id id' g c c' k h1 h2 h3 h4 h5 h6 => by
    by_cases hw : id ∈ (fpf i).wr
    · have hik := hlt hw h6
      exact T.dead (Nat.le_of_lt hik) h5 (hifb hw) (I.inj id id' g c c' i h1 h2 h3 (hifb hw) (by omega) (hready hw))
    · exact I.inj id id' g c c' k h1 h2 h3 h4 h5 (hoM hw h6)
  -- who is written and alive shares with none that comes later
  have hshare : ∀ id0 id' g c0 c', id0 < (sts i).n → id0 ∈ (fpf i).wr → cut φ (sts i).n id0 = some (g, c0) → (sts i).h.get id0 ≠ none → id0 < id' → φ id' = some (g, c') → False := fun id0 id' g c0 c' h1 h2 h3 h4 h5 h6 =>
    h4 (I.inj id0 id' g c0 c' i h5 (cut_some h3).2 h6 h1 (by omega) (hready h2))
  refine ⟨φ2, ?_⟩
  constructor
  · simp [I.sz]
  · intro j o e hdj ho he hb
    rw [hD] at hdj ⊢
    rcases hdj with hdj | rfl
    · exact .inl (I.down j o e hdj ho he hb)
    · rw [hi] at ho
      injection ho with ho
      subst ho
      exact .inl (hr e he hb)
  · exact (put_defers _ _ _).trans I.df
  · rw [Act.put_size]; exact I.ts
  · -- temporaries
    intro t k hk hc
    by_cases ht : oi.dst = some t
    · have hik : i < k := (hc i oi hi ht).1 ((hD i).2 (.inr rfl))
      have e1 : lget (sts k).a t = lget (sts (i + 1)).a t := T.tmp (by omega) hk fun j oj h1 h2 hoj hd => by
        have hdj : Dn L j := by
          have := (hc j oj hoj hd).2 h2
          rw [hD] at this
          exact this.resolve_right (by omega)
        exact no_later_dst T I.down hi hni hr (by omega) hoj hdj ht hd
      rw [e1, hsa, ht]
      exact put_eq (by rw [I.ts]; exact T.len (by omega)) (hv.mono (hupk k (by omega) hk))
    · rw [Act.put_ne v' ht]
      refine (I.ta t k hk fun j o ho hd => ?_).mono (cut_mono (Nat.le_refl _) hle)
      have hne : j ≠ i := fun e => by subst e; rw [hi] at ho; injection ho with ho; subst ho; exact ht hd
      rw [← hc j o ho hd, hD]
      exact ⟨.inl, fun h => h.resolve_right hne⟩
  · -- blocks
    intro id g c k hp hid hk hc
    by_cases hin : (sts i).n ≤ id ∧ id < (sts (i + 1)).n
    · rw [hnew id hin.1 hin.2] at hp
      have hik := hgt hin.1 hid
      rw [hstay hin.2 hik hk hc (.inr (hfresh id hin.1 hin.2))]
      exact (p.objn id g c (.inr hin) hp).1.mono (hupk k (by omega) hk) rfl
    · rw [hold id hin] at hp
      by_cases hw : id ∈ (fpf i).wr
      · have hik := hlt hw hc
        have hidn := hifb hw
        rw [hstay (by omega) hik hk hc (.inl hw)]
        exact (p.objn id g c (.inl ⟨hidn, hw⟩) (by rw [p.ext id (.inl hidn), cut_lt hidn]; exact hp)).1.mono (hupk k (by omega) hk) rfl
      · have hcl := hoM hw hc
        have h1 := I.me id g c k hp hid hk hcl
        by_cases hd : (sts k).h.get id = none
        · rw [hd]; trivial
        · refine h1.mono (cut_mono (Nat.le_refl _) hle) (p.fr g (I.gb id g c hp).2 fun id0 c0 h2 h3 h4 h5 => ?_)
          rcases Nat.lt_trichotomy id id0 with h6 | h6 | h6
          · exact hd (I.inj id id0 g c c0 k h6 hp (cut_some h5).2 hid hk hcl)
          · subst h6; exact hw h3
          · exact hshare id0 id g c0 c h2 h3 h5 h4 h6 hp
  · intro id g c hp
    by_cases hin : (sts i).n ≤ id ∧ id < (sts (i + 1)).n
    · rw [hnew id hin.1 hin.2] at hp
      exact (p.objn id g c (.inr hin) hp).2
    · rw [hold id hin] at hp
      exact ⟨(I.gb id g c hp).1, Nat.lt_of_lt_of_le (I.gb id g c hp).2 p.sz⟩
  · -- blocks that share
    intro id id' g c c' k hlt' hp hp' hid hk hc
    by_cases hin : (sts i).n ≤ id ∧ id < (sts (i + 1)).n
    · rw [hnew id hin.1 hin.2] at hp
      have hik := hgt hin.1 hid
      by_cases hin' : (sts i).n ≤ id' ∧ id' < (sts (i + 1)).n
      · rw [hnew id' hin'.1 hin'.2] at hp'
        exact T.dead (by omega) hk hin.2 (p.injn id id' g c c' hin.1 hlt' hin'.2 hp hp')
      · rw [hold id' hin'] at hp'
        exfalso
        rcases p.new id g c hin.1 hin.2 hp with h1 | ⟨id0, c0, h1, h2, h3, h4, h5⟩
        · have := (I.gb id' g c' hp').2
          omega
        · exact hshare id0 id' g c0 c' h1 h2 h3 h4 (by omega) hp'
    · rw [hold id hin] at hp
      by_cases hin' : (sts i).n ≤ id' ∧ id' < (sts (i + 1)).n
      · rw [hnew id' hin'.1 hin'.2] at hp'
        rcases p.new id' g c' hin'.1 hin'.2 hp' with h1 | ⟨id0, c0, h1, h2, h3, h4, h5⟩
        · have := (I.gb id g c hp).2
          omega
        · rcases Nat.lt_trichotomy id id0 with h6 | h6 | h6
          · exact hinjO id id0 g c c0 k h6 hp (cut_some h3).2 hid hk hc
          · subst h6
            exact T.dead (i := i + 1) (by have := hlt h2 hc; omega) hk (by omega) h5
          · exact (hshare id0 id g c0 c h1 h2 h3 h4 h6 hp).elim
      · rw [hold id' hin'] at hp'
        exact hinjO id id' g c c' k hlt' hp hp' hid hk hc
  · intro id hp
    by_cases hin : (sts i).n ≤ id ∧ id < (sts (i + 1)).n
    · exact .inr ⟨i, hiN, (hD i).2 (.inr rfl), hin.1, hin.2⟩
    · rw [hold id hin] at hp
      exact (I.kn id hp).imp_right fun ⟨j, h1, h2, h3⟩ => ⟨j, h1, (hD j).2 (.inl h2), h3⟩
  · intro j id hj hdj hid hp
    have hp1 : φ id = none := by
      cases h : φ id with
      | none => rfl
      | some q => rw [hle id q h] at hp; cases hp
    rcases (hD j).1 hdj with h | h
    · exact I.un j id hj h hid hp1
    · subst h
      exact p.un id hid (by rw [cut_lt hid]; exact hp1)
  · intro id hid
    rw [hold id (by omega)]
    exact I.phi0 id hid
  · intro g hg hh
    rw [← I.fr g hg hh]
    refine p.fr g (Nat.lt_of_lt_of_le hg I.szw) fun id0 c0 h2 h3 h4 h5 => ?_
    have h6 := (cut_some h5).2
    rcases Nat.lt_or_ge id0 (sts 0).n with h7 | h7
    · exact hh id0 c0 h7 (T.wr i hiN id0 h3).1 (fun h8 => h4 (T.dead (by omega) (by omega) h7 h8)) (by rw [← I.phi0 id0 h7]; exact h6)
    · rcases I.new id0 g c0 h7 h6 with h8 | ⟨id1, c1, h8, h9, h10, h11⟩
      · omega
      · exact hh id1 c1 h8 h9 h11 h10
  · intro id g c hid hp
    by_cases hin : (sts i).n ≤ id ∧ id < (sts (i + 1)).n
    · rw [hnew id hin.1 hin.2] at hp
      rcases p.new id g c hin.1 hin.2 hp with h1 | ⟨id0, c0, h1, h2, h3, h4, h5⟩
      · exact .inl (Nat.le_trans I.szw h1)
      · have h6 := (cut_some h3).2
        rcases Nat.lt_or_ge id0 (sts 0).n with h7 | h7
        · exact .inr ⟨id0, c0, h7, (T.wr i hiN id0 h2).1, by rw [← I.phi0 id0 h7]; exact h6, fun h8 => h4 (T.dead (by omega) (by omega) h7 h8)⟩
        · exact I.new id0 g c0 h7 h6
    · rw [hold id hin] at hp
      exact I.new id g c hid hp
  · exact Nat.le_trans I.szw p.sz
  · exact I.hS
  · exact p.os.trans I.os
  · exact p.tape.trans I.tape
  · exact p.output.trans I.output
end
end Go.Proofs.Ytcdedegjpfemmaa.Ce
