/- The evaluator of closed calls: a drawn region, in any order. No program in sight. -/
import Derived.Test.YtcdedegjpfemmaaCk
namespace Go.Proofs.Ytcdedegjpfemmaa.Ce
open Go.RowKit
set_option linter.unusedVariables false
set_option linter.unusedSimpArgs false
set_option linter.unusedSectionVars false

theorem filter_lt {p q : Nat → Bool} {i : Nat} (hpi : p i = true) (hqi : q i = false) (hle : ∀ j, q j = true → p j = true) : ∀ (l : List Nat), i ∈ l → (l.filter q).length < (l.filter p).length := by
  have le : ∀ l : List Nat, (l.filter q).length ≤ (l.filter p).length := by
    intro l
    induction l with
    | nil => simp
    | cons a l ih =>
      cases hq : q a with
      | true => simp [hq, hle a hq]; exact ih
      | false =>
        cases hp : p a with
        | true => simp [hq, hp]; omega
        | false => simp [hq, hp]; exact ih
  intro l
  induction l with
  | nil => simp
  | cons a l ih =>
    intro hi
    rcases List.mem_cons.1 hi with rfl | hi
    · have := le l
      simp [hpi, hqi]
      omega
    · have h1 := ih hi
      cases hq : q a with
      | true => simp [hq, hle a hq]; exact h1
      | false =>
        cases hp : p a with
        | true => simp [hq, hp]; omega
        | false => simp [hq, hp]; exact h1

section
variable {P : Program} {F : CallE} {lim : Nat} {ops : Array Oper} {sts : Nat → St} {fpf : Nat → Fp} {S : Nat} {φ0 φ : Mp} {a0 a : Act} {w0 w : World} {L : Array Bool}

theorem getD_tf {j : Nat} (hj : j < L.size) : L.getD j true = L.getD j false := by simp [hj]

theorem ready_nil (T : Trace P F lim ops sts fpf) (hsz : L.size = ops.size) (h : Region.ready .any ops L = []) : ∀ j, j < ops.size → Dn L j := by
  intro j
  induction j using Nat.strongRecOn with
  | _ j ih =>
    intro hj
    cases hd : L.getD j false with
    | true => exact hd
    | false =>
      have hm : j ∈ Region.ready .any ops L := mem_ready.2 ⟨by rw [getD_tf (by omega)]; exact hd, ops[j], Array.getElem?_eq_getElem hj, fun e he hb => by
        have := T.back j _ e (Array.getElem?_eq_getElem hj) he hb
        exact ih e.on this (by omega)⟩
      rw [h] at hm
      cases hm

def left (N : Nat) (L : Array Bool) : Nat := ((List.range N).filter fun j => !L.getD j false).length

theorem drawn_go (hF : SoundF P F) (T : Trace P F lim ops sts fpf) {Q : Exit → Act → World → Prop}
    (hQ : ∀ L φ a w, Inv P lim ops sts fpf S φ0 a0 w0 L φ a w → (∀ j, j < ops.size → Dn L j) → Q .normal a w) :
    ∀ (fuel : Nat) (L : Array Bool) (φ : Mp) (a : Act) (w : World), Inv P lim ops sts fpf S φ0 a0 w0 L φ a w → left ops.size L ≤ fuel → wpAny P .any ops Q fuel L a w := by
  intro fuel
  induction fuel with
  | zero =>
    intro L φ a w I hl
    have hall : ∀ j, j < ops.size → Dn L j := fun j hj => by
      have h1 : (List.range ops.size).filter (fun j => !L.getD j false) = [] := List.eq_nil_of_length_eq_zero (by unfold left at hl; omega)
      have h2 := List.filter_eq_nil_iff.1 h1 j (by simpa using hj)
      simpa [Dn] using h2
    refine ⟨?_, hQ L φ a w I hall⟩
    cases hr : Region.ready .any ops L with
    | nil => rfl
    | cons j rest =>
      have hm : j ∈ Region.ready .any ops L := by rw [hr]; simp
      obtain ⟨h1, o, ho, -⟩ := mem_ready.1 hm
      have hj : j < ops.size := (Array.getElem?_eq_some_iff.1 ho).1
      rw [getD_tf (by rw [I.sz]; exact hj), hall j hj] at h1
      cases h1
  | succ fuel ih =>
    intro L φ a w I hl
    refine ⟨fun hr => hQ L φ a w I (ready_nil T I.sz hr), fun i hm => ?_⟩
    obtain ⟨h1, o, hi, hr⟩ := mem_ready.1 hm
    have hiN : i < ops.size := (Array.getElem?_eq_some_iff.1 hi).1
    rw [getD_tf (by rw [I.sz]; exact hiN)] at h1
    have hni : ¬ Dn L i := by unfold Dn; rw [h1]; simp
    have hcT := fun t ht => consT_ready (t := t) T I.down hi hni hr ht
    have hta : ∀ t, t ∈ o.looksAt ops → VC (cut φ (sts i).n) ((lget (sts i).a t).getD undef) (a.tmps.getD t undef) := fun t ht => I.ta t i (by omega) (hcT t ht)
    have hlen : (sts i).a.length = a.tmps.size := by rw [I.ts]; exact T.len (by omega)
    have hwt : ∀ t, wants ops.toList o (sts i).a = some t → Region.wanted o (yielded ops a.tmps) = t := fun t => wants_ok hlen fun g want d hg hd => hta d (by
      unfold Oper.looksAt
      rw [hg]
      simp [hd])
    have hleft : left ops.size (L.setIfInBounds i true) ≤ fuel := by
      have h2 := filter_lt (p := fun j => !L.getD j false) (q := fun j => !(L.setIfInBounds i true).getD j false) (i := i) (by rw [h1]; rfl) (by
        have : Dn (L.setIfInBounds i true) i := (getD_set (by rw [I.sz]; exact hiN)).2 (.inr rfl)
        unfold Dn at this
        rw [this]; rfl) (fun j hj => by
        cases hd : L.getD j false with
        | false => rfl
        | true =>
          have : Dn (L.setIfInBounds i true) j := (getD_set (by rw [I.sz]; exact hiN)).2 (.inl hd)
          unfold Dn at this
          rw [this] at hj; cases hj) (List.range ops.size) (by simpa using hiN)
      unfold left at hl ⊢
      omega
    unfold wpOp
    rw [hi]
    dsimp only
    obtain ⟨cl, fp, pd⟩ := T.run i o hi
    rcases aopS_inv pd.run with ⟨hw, hst, hfp⟩ | ⟨hw, e, hop, hwr, hmm, hst, hfp⟩
    · rw [hwt _ hw]
      simp only [Bool.false_eq_true, if_false]
      obtain ⟨φ2, I2⟩ := I.step T hi hni hr (ev := undef) (v' := undef) (w' := w) (φ' := cut φ (sts i).n) (by rw [hst]) VC.undef_ (by
        rw [hst]
        exact PO.same _ fun id hid => by
          have := pd.sup id hid
          rw [hfp] at this
          simp at this)
      exact ih _ φ2 _ _ I2 hleft
    · rw [hwt _ hw]
      simp only [if_true]
      have hsub : ∀ id, id < (sts i).n → id ∈ e.wr ∨ isCall o.op = true ∧ cl ≤ id → id ∈ (fpf i).wr := fun id h2 h3 => pd.sub id h2 (by rw [hfp]; exact h3)
      have hsup : ∀ id, id ∈ (fpf i).wr → id ∈ e.wr ∨ isCall o.op = true ∧ cl ≤ id := fun id h2 => by have := pd.sup id h2; rw [hfp] at this; exact this
      have hrd : ∀ id, id < (sts i).n → id ∈ e.rd ∨ id ∈ e.wr ∨ isCall o.op = true → ConsM ops fpf L id i := fun id hlt hid => by
        have h3 : id ∈ (fpf i).rd ∨ id ∈ (fpf i).wr ∨ (fpf i).cl = true := by
          rw [pd.rd, pd.cl_, hfp]
          rcases hid with h | h | h
          · exact .inl h
          · exact .inr (.inl (hsub id hlt (.inl h)))
          · exact .inr (.inr h)
        refine consM_ready T I.down hi hni hr ?_ h3
        rcases hmm with hmm | ⟨hm1, hm2⟩
        · exact hmm
        · rw [hm1, hm2] at hid
          rcases hid with hid | hid | hid
          · simp at hid
          · simp at hid
          · exact memOp_call hid
      refine .inl (aop_wp (φ := cut φ (sts i).n) (S := S) hF hop pd.le (fun x hx => lev_ok fun k hk => hta k ?_) (fun id g c hid hp => ?_) (fun hcall => ?_) (T.hb i (by omega)) (fun id hid => cut_ge hid) (Nat.le_trans I.hS I.szw) fun v' w1 φ1 hv p hb1 => ?_)
      · subst hk
        unfold Oper.looksAt
        exact List.mem_append_left _ (List.mem_filterMap.2 ⟨.tmp k, by simpa using hx, rfl⟩)
      · obtain ⟨h2, h3⟩ := cut_some hp
        exact ⟨I.me id g c i h3 h2 (by omega) (hrd id h2 (by rcases hid with h | h; exact .inl h; exact .inr (.inl h))), I.gb id g c h3⟩
      · refine ⟨fun id hid => cut_ge hid, fun id g c hp => ?_, fun id id' g c c' h2 h3 h4 => ?_, T.hb i (by omega), Nat.le_trans I.hS I.szw⟩
        · obtain ⟨h2, h3⟩ := cut_some hp
          exact ⟨I.me id g c i h3 h2 (by omega) (hrd id h2 (.inr (.inr hcall))), I.gb id g c h3⟩
        · exact I.inj id id' g c c' i h2 (cut_some h3).2 (cut_some h4).2 (cut_some h3).1 (by omega) (hrd id (cut_some h3).1 (.inr (.inr hcall)))
      · obtain ⟨φ2, I2⟩ := I.step T hi hni hr (ev := e.v) (v' := v') (w' := w1) (φ' := φ1) (by rw [hst]) hv (by
          rw [hst]
          refine ⟨p.ext, fun g hg hh => p.fr g hg fun id c h2 h3 h4 => hh id c h2 (hsub id h2 h3) h4, fun id h2 h3 => p.keep id h2 fun h4 => h3 (hsub id h2 h4),
            fun id g c hh hp => p.objn id g c (hh.imp_left fun h2 => ⟨h2.1, hsup id h2.2⟩) hp, fun id g c h2 h3 h4 => (p.new id g c h2 h3 h4).imp_right fun ⟨id0, c0, x1, x2, x3⟩ => ⟨id0, c0, x1, hsub id0 x1 x2, x3⟩,
            p.injn, p.dd, p.un, p.nle, p.sz, p.os, p.tape, p.output⟩)
        exact ih _ φ2 _ _ I2 hleft

/-- a region whose order is drawn -/
theorem region_drawn (hm : P.follows .mixedOrders = true) (hF : SoundF P F) (hF2 : StatF F) {id : Nat} {st : St} {r : Ex × St} {Q : Exit → Act → World → Prop}
    (he : cRegion P F lim ops true st = some r) (hl : lim ≤ st.n) (ht : TR φ st.a a.tmps) (m : MemR P φ st.h st.n w S)
    (hQ : ∀ a' w' φ', r.1 = 0 → a'.defers = a.defers → TR φ' r.2.a a'.tmps → Fr φ φ' st.h r.2.h st.n r.2.n (fun id => lim ≤ id) w w' → MemR P φ' r.2.h r.2.n w' S → Q .normal a' w') : (Code.region id ops true).wp P Q a w := by
  change ((unordered ops).bind fun us => (aopsD P F lim us ops.toList ops.toList 0 st []).bind fun r => bif pairsOk us r.2 then some (0, r.1) else none) = some r at he
  obtain ⟨us, hu, he⟩ := bind_some he
  obtain ⟨x, h1, h2⟩ := bind_some he
  obtain ⟨hp, h2⟩ := bif_some h2
  injection h2 with h2
  subst h2
  obtain ⟨sts, fpf, e0, e1, e2, e3⟩ := aopsD_trace ops.toList (st' := x.1) (fps := x.2) h1
  have hst := trace_st hF2 (N := ops.size) (by simp) e2 (by rw [e0]; exact hl) (by rw [e0]; exact m.hb)
  have hfps : ∀ i, i < ops.size → x.2[i]? = some (fpf i) := fun i hi => by rw [e3]; simp [hi]
  obtain ⟨hbk, hap⟩ := unordered_spec hu hp hfps
  have T : Trace P F lim ops sts fpf := ⟨fun i o ho => e2 i o (by simpa using ho) (hst i (Nat.le_of_lt (Array.getElem?_eq_some_iff.1 ho).1)).1, fun i hi => (hst i hi).2.1, fun i hi => ((hst i (by omega)).2.2 hi).1, fun i hi => ((hst i (by omega)).2.2 hi).2, hbk, hap⟩
  have e1' : sts ops.size = x.1 := by simpa using e1
  subst e0
  refine wp_region_any hm (drawn_go (S := S) (φ0 := φ) (a0 := a) (w0 := { w with drawn := w.drawn + 1 }) hF T ?_ _ _ φ a _ ?_ ?_)
  · -- at the end
    intro L φ' a' w' I hall
    have hcM : ∀ id, ConsM ops fpf L id ops.size := fun id j hj _ => ⟨fun _ => hj, fun _ => hall j hj⟩
    have hcT : ∀ t, ConsT ops L t ops.size := fun t j o ho _ => ⟨fun _ => (Array.getElem?_eq_some_iff.1 ho).1, fun h => hall j h⟩
    have h0N := T.le (Nat.zero_le _) (Nat.le_refl _)
    rw [← e1'] at *
    refine hQ a' w' (cut φ' (sts ops.size).n) rfl I.df ⟨by rw [T.len (Nat.le_refl _)]; exact I.ts.symm, fun t => I.ta t _ (Nat.le_refl _) (hcT t)⟩ ?_ ?_
    · refine ⟨fun id hid => ?_, fun g hg hh => I.fr g hg hh, fun id h2 h3 => ?_, fun id g c h2 h3 h4 => ?_, fun id id' g c c' h2 h3 h4 h5 h6 => ?_, fun id h2 h3 => T.dead (Nat.zero_le _) (Nat.le_refl _) h2 h3, fun id h2 h3 => ?_, h0N, I.szw, I.os, I.tape, I.output⟩
      · have hid : id < (sts 0).n ∨ (sts ops.size).n ≤ id := hid
        rcases hid with h2 | h2
        · rw [cut_lt (by omega)]; exact I.phi0 id h2
        · rw [cut_ge h2]; exact (m.fn id (by omega)).symm
      · refine T.same (Nat.zero_le _) (Nat.le_refl _) fun j _ h4 => (T.st j h4).keep id (Nat.lt_of_lt_of_le h2 (T.le (Nat.zero_le _) (by omega))) fun h5 => h3 (T.wr j h4 id h5).1
      · have h5 := (cut_some h4).2
        rcases I.new id g c h2 h5 with h6 | ⟨id0, c0, h6, h7, h8, h9⟩
        · exact .inl h6
        · exact .inr ⟨id0, c0, h6, h7, h8, h9, I.inj id0 id g c0 c _ (by omega) (by rw [I.phi0 id0 h6]; exact h8) h5 (by omega) (Nat.le_refl _) (hcM _)⟩
      · exact I.inj id id' g c c' _ h3 (cut_some h5).2 (cut_some h6).2 (cut_some h5).1 (Nat.le_refl _) (hcM _)
      · refine T.same (Nat.zero_le _) (Nat.le_refl _) fun j _ h4 => I.un j id h4 (hall j h4) (Nat.lt_of_lt_of_le h2 (T.le (Nat.zero_le _) (by omega))) (by rw [I.phi0 id h2]; exact h3)
    · refine ⟨fun id hid => cut_ge hid, fun id g c hp => ?_, fun id id' g c c' h2 h3 h4 => I.inj id id' g c c' _ h2 (cut_some h3).2 (cut_some h4).2 (cut_some h3).1 (Nat.le_refl _) (hcM _), T.hb _ (Nat.le_refl _), Nat.le_trans I.hS I.szw⟩
      obtain ⟨h2, h3⟩ := cut_some hp
      exact ⟨I.me id g c _ h3 h2 (Nat.le_refl _) (hcM _), I.gb id g c h3⟩
  · -- at the beginning
    have hnd : ∀ j, ¬ Dn (Array.replicate ops.size false) j := fun j => by
      unfold Dn
      by_cases hj : j < ops.size
      · simp [hj]
      · simp [hj]
    have hcut0 : ∀ k, k ≤ ops.size → cut φ (sts k).n = φ := fun k hk => by
      funext id
      rcases Nat.lt_or_ge id (sts k).n with h | h
      · exact cut_lt h
      · rw [cut_ge h, m.fn id (Nat.le_trans (T.le (Nat.zero_le _) hk) h)]
    have hk0 : ∀ k id, k ≤ ops.size → id < (sts 0).n → ConsM ops fpf (Array.replicate ops.size false) id k → (sts k).h.get id = (sts 0).h.get id := fun k id hk hid hc =>
      T.same (Nat.zero_le _) hk fun j _ h4 => (T.st j (by omega)).keep id (Nat.lt_of_lt_of_le hid (T.le (Nat.zero_le _) (by omega))) fun h5 => hnd j ((hc j (by omega) h5).2 h4)
    have hsome : ∀ {id : Nat} {p : Nat × Nat}, φ id = some p → id < (sts 0).n := fun {id p} hp => by
      rcases Nat.lt_or_ge id (sts 0).n with h | h
      · exact h
      · rw [m.fn id h] at hp; cases hp
    refine ⟨by simp, fun j o e hd => absurd hd (hnd j), rfl, ht.1.symm, fun t k hk hc => ?_, fun id g c k hp hid hk hc => ?_, fun id g c hp => (m.obj id g c hp).2, fun id id' g c c' k h2 h3 h4 h5 h6 h7 => ?_, fun id hp => ?_, fun j id _ hd => absurd hd (hnd j), fun _ _ => rfl, fun _ _ _ => rfl, fun id g c h2 h3 => ?_, Nat.le_refl _, m.hS, rfl, rfl, rfl⟩
    · rw [hcut0 k hk, T.tmp (Nat.zero_le _) hk fun j o _ h4 ho hd => hnd j ((hc j o ho hd).2 h4)]
      exact ht.2 t
    · rw [hcut0 k hk, hk0 k id hk (hsome hp) hc]
      exact (m.obj id g c hp).1.mono (le_.refl _) rfl
    · rw [hk0 k id h6 (hsome h3) h7]
      exact m.inj id id' g c c' h2 h3 h4
    · cases h : φ id with
      | none => exact absurd h hp
      | some q => exact .inl (hsome h)
    · rw [m.fn id h2] at h3; cases h3
  · unfold left
    exact Nat.le_trans (List.length_filter_le _ _) (by simp)
end
end Go.Proofs.Ytcdedegjpfemmaa.Ce
