/- Parts of the proof of TopCode: Cy. No condition of its own. -/
import Derived.Test.YtkngdfbibffdcaaTae
set_option linter.unusedVariables false
set_option linter.unusedSimpArgs false
set_option maxRecDepth 100000
set_option maxHeartbeats 4000000
namespace Go.Proofs.Ytkngdfbibffdcaa.Ce
open Go.RowKit
section before
variable {ops : Array Oper}
def gB (acc : Array Nat) (o : Oper) : Nat := o.after.foldl (fun s e => if Region.binds .any e then s ||| 2 ^ e.on ||| acc.getD e.on 0 else s) 0
theorem before_go : ∀ (l : List Oper) (acc : Array Nat), ∃ r : Array Nat, l.foldl (fun acc o => acc.push (gB acc o)) acc = r ∧ r.size = acc.size + l.length ∧ (∀ k, k < acc.size → r.getD k 0 = acc.getD k 0) ∧
    ∀ (j : Nat) (o : Oper), l[j]? = some o → ∃ acc' : Array Nat, acc'.size = acc.size + j ∧ (∀ k, k < acc'.size → r.getD k 0 = acc'.getD k 0) ∧ r.getD (acc.size + j) 0 = gB acc' o := by
  intro l
  induction l with
  | nil => intro acc; exact ⟨acc, rfl, by simp, fun _ _ => rfl, by simp⟩
  | cons x rest ih =>
    intro acc
    obtain ⟨r, h1, h2, h3, h4⟩ := ih (acc.push (gB acc x))
    have hlt : ∀ k, k < acc.size → r.getD k 0 = acc.getD k 0 := fun k hk => by
      rw [h3 k (by simp; omega)]
      simp [Array.getElem?_push, show k ≠ acc.size by omega]
    refine ⟨r, h1, by rw [h2]; simp; omega, hlt, fun j o hj => ?_⟩
    cases j with
    | zero =>
      simp at hj
      subst hj
      refine ⟨acc, by simp, hlt, ?_⟩
      rw [Nat.add_zero, h3 acc.size (by simp)]
      simp
    | succ j =>
      obtain ⟨acc', e1, e2, e3⟩ := h4 j o (by simpa using hj)
      refine ⟨acc', by rw [e1]; simp; omega, e2, ?_⟩
      have : acc.size + (j + 1) = (acc.push (gB acc x)).size + j := by simp; omega
      rw [this]
      exact e3
theorem gB_bit {acc : Array Nat} {o : Oper} {i : Nat} (h : (gB acc o).testBit i = true) : ∃ e ∈ o.after, Region.binds .any e = true ∧ (e.on = i ∨ (acc.getD e.on 0).testBit i = true) := by
  unfold gB at h
  rw [← Array.foldl_toList] at h
  have key : ∀ (l : List Edge) (s : Nat), (l.foldl (fun s e => if Region.binds .any e then s ||| 2 ^ e.on ||| acc.getD e.on 0 else s) s).testBit i = true → s.testBit i = true ∨ ∃ e ∈ l, Region.binds .any e = true ∧ (e.on = i ∨ (acc.getD e.on 0).testBit i = true) := by
    intro l
    induction l with
    | nil => intro s h; exact .inl h
    | cons e rest ih =>
      intro s h
      rw [List.foldl_cons] at h
      rcases ih _ h with h | ⟨e', h1, h2⟩
      · by_cases hb : Region.binds .any e = true
        · simp only [hb, if_true, Nat.testBit_or, Bool.or_eq_true, Nat.testBit_two_pow, decide_eq_true_eq] at h
          rcases h with (h | h) | h
          · exact .inl h
          · exact .inr ⟨e, by simp, hb, .inl h⟩
          · exact .inr ⟨e, by simp, hb, .inr h⟩
        · simp only [hb] at h
          exact .inl h
      · exact .inr ⟨e', by simp [h1], h2⟩
  rcases key _ _ h with h | ⟨e, h1, h2⟩
  · simp at h
  · exact ⟨e, by simpa using h1, h2⟩
theorem before_spec {j i : Nat} {o : Oper} (ho : ops[j]? = some o) (hb : ((Region.before ops).getD j 0).testBit i = true) :
    ∃ e ∈ o.after, Region.binds .any e = true ∧ (e.on = i ∨ e.on < j ∧ ((Region.before ops).getD e.on 0).testBit i = true) := by
  obtain ⟨r, h1, h2, h3, h4⟩ := before_go ops.toList #[]
  have hr : Region.before ops = r := by
    rw [← h1]
    unfold Region.before
    rw [← Array.foldl_toList]
    rfl
  rw [hr] at hb ⊢
  obtain ⟨acc', e1, e2, e3⟩ := h4 j o (by simpa using ho)
  simp at e1 e3
  rw [show r.getD j 0 = gB acc' o by simpa using e3] at hb
  obtain ⟨e, h5, h6, h7⟩ := gB_bit hb
  refine ⟨e, h5, h6, h7.imp_right fun h8 => ?_⟩
  rcases Nat.lt_or_ge e.on j with h9 | h9
  · exact ⟨h9, by rw [e2 e.on (by omega)]; exact h8⟩
  · simp [Array.getElem?_eq_none (by omega : acc'.size ≤ e.on)] at h8
theorem before_down {D : Nat → Prop} (hD : ∀ j o e, D j → ops[j]? = some o → e ∈ o.after → Region.binds .any e = true → D e.on) {i : Nat} :
    ∀ j o, ops[j]? = some o → (∀ e ∈ o.after, Region.binds .any e = true → D e.on) → ((Region.before ops).getD j 0).testBit i = true → D i := by
  intro j
  induction j using Nat.strongRecOn with
  | _ j ih =>
    intro o ho hr hb
    obtain ⟨e, h1, h2, h3⟩ := before_spec ho hb
    rcases h3 with h3 | ⟨h3, h4⟩
    · rw [← h3]; exact hr e h1 h2
    · have hj : j < ops.size := (Array.getElem?_eq_some_iff.1 ho).1
      have ho' : ops[e.on]? = some ops[e.on] := Array.getElem?_eq_getElem (by omega)
      exact ih e.on h3 _ ho' (fun e' h5 h6 => hD e.on _ e' (hr e h1 h2) ho' h5 h6) h4
end before
theorem unordered_spec {ops : Array Oper} {us : List (Nat × Nat)} {fps : List Fp} {fpf : Nat → Fp} (hu : unordered ops = some us) (hp : pairsOk us fps = true) (hf : ∀ i, i < ops.size → fps[i]? = some (fpf i)) :
    (∀ j o e, ops[j]? = some o → e ∈ o.after → Region.binds .any e = true → e.on < j) ∧
    ∀ i j x y, i < j → ops[i]? = some x → ops[j]? = some y → ((Region.before ops).getD j 0).testBit i = false → Oper.apart ops x y = true ∧ (memOp x.op = true → memOp y.op = true → apartB (fpf i) (fpf j) = true) := by
  unfold pairsOk at hp
  · generalize us = l at hu hp
    unfold unordered at hu
    dsimp only at hu
    split at hu
    · rename_i hc
      injection hu with hu
      rw [Bool.and_eq_true] at hc
      obtain ⟨hc1, hc2⟩ := hc
      refine ⟨fun j o e ho he hb => ?_, fun i j x y hij hx hy hbit => ?_⟩
      · have hm : (o, j) ∈ ops.toList.zipIdx := List.mem_zipIdx_iff_getElem?.2 (by simpa using ho)
        have h1 := List.all_eq_true.1 hc1 _ hm
        have h2 := List.all_eq_true.1 h1 e (by simpa using he)
        simpa [hb] using h2
      · have hmx : (x, i) ∈ ops.toList.zipIdx := List.mem_zipIdx_iff_getElem?.2 (by simpa using hx)
        have hmy : (y, j) ∈ ops.toList.zipIdx := List.mem_zipIdx_iff_getElem?.2 (by simpa using hy)
        have hps : ((x, i), (y, j)) ∈ (ops.toList.zipIdx.flatMap fun y => (ops.toList.zipIdx.filter fun x => Nat.blt x.2 y.2 && !(((Region.before ops).getD y.2 0).testBit x.2)).map fun x => (x, y)) := by
          rw [List.mem_flatMap]
          refine ⟨(y, j), hmy, List.mem_map.2 ⟨(x, i), List.mem_filter.2 ⟨hmx, ?_⟩, rfl⟩⟩
          simp only [Bool.and_eq_true, Bool.not_eq_true']
          exact ⟨by simpa using hij, hbit⟩
        refine ⟨List.all_eq_true.1 hc2 _ hps, fun h1 h2 => ?_⟩
        have hl : (i, j) ∈ l := by
          rw [← hu]
          refine List.mem_map.2 ⟨((x, i), (y, j)), List.mem_filter.2 ⟨hps, ?_⟩, rfl⟩
          simp [h1, h2]
        have h3 := List.all_eq_true.1 hp _ hl
        have hi : i < ops.size := (Array.getElem?_eq_some_iff.1 hx).1
        have hj : j < ops.size := (Array.getElem?_eq_some_iff.1 hy).1
        simp only [lget_eq, hf i hi, hf j hj] at h3
        exact h3
    · cases hu
theorem apartB_spec {x y : Fp} (h : apartB x y = true) :
    (∀ b, b ∈ x.wr → b ∉ y.rd ∧ b ∉ y.wr ∧ y.cl = false) ∧ (∀ b, b ∈ y.wr → b ∉ x.rd ∧ b ∉ x.wr ∧ x.cl = false) := by
  unfold apartB at h
  simp only [Bool.and_eq_true, List.all_eq_true] at h
  obtain ⟨⟨h1, h2⟩, h3⟩ := h
  refine ⟨fun b hb => ?_, fun b hb => ?_⟩
  · have := h1 b hb
    simp [touches] at this
    exact ⟨this.1.1, this.1.2, this.2⟩
  · have := h2 b hb
    simp [touches] at this
    exact ⟨this.1.1.1, this.1.1.2, this.1.2⟩
def cut (φ : Mp) (n : Nat) : Mp := fun id => if id < n then φ id else none
section
variable {φ φ' : Mp} {n m : Nat}
theorem cut_lt {id : Nat} (h : id < n) : cut φ n id = φ id := by simp [cut, h]
theorem cut_ge {id : Nat} (h : n ≤ id) : cut φ n id = none := by simp [cut, show ¬ id < n by omega]
theorem cut_some {id : Nat} {p : Nat × Nat} (h : cut φ n id = some p) : id < n ∧ φ id = some p := by
  rcases Nat.lt_or_ge id n with h1 | h1
  · exact ⟨h1, (cut_lt h1).symm.trans h⟩
  · rw [cut_ge h1] at h; cases h
theorem cut_mono (h : n ≤ m) (hle : le_ φ φ') : le_ (cut φ n) (cut φ' m) := fun id p hp => by
  obtain ⟨h1, h2⟩ := cut_some hp
  rw [cut_lt (by omega)]
  exact hle id p h2
end
end Go.Proofs.Ytkngdfbibffdcaa.Ce
namespace Go.Proofs.Ytkngdfbibffdcaa.Ce
open Go.RowKit
set_option linter.unusedSectionVars false
structure Trace (P : Program) (F : CallE) (lim : Nat) (ops : Array Oper) (sts : Nat → St) (fpf : Nat → Fp) : Prop where
  run : ∀ i o, ops[i]? = some o → ∃ cl fp, OpD P F lim ops.toList o (sts i) (sts (i + 1)) (fpf i) cl fp
  hb : ∀ i, i ≤ ops.size → HB (sts i).h (sts i).n
  st : ∀ i, i < ops.size → Stat (sts i).h (sts (i + 1)).h (sts i).n (sts (i + 1)).n (· ∈ (fpf i).wr)
  wr : ∀ i, i < ops.size → ∀ id ∈ (fpf i).wr, lim ≤ id ∧ id < (sts i).n
  back : ∀ j o e, ops[j]? = some o → e ∈ o.after → Region.binds .any e = true → e.on < j
  apart : ∀ i j x y, i < j → ops[i]? = some x → ops[j]? = some y → ((Region.before ops).getD j 0).testBit i = false → Oper.apart ops x y = true ∧ (memOp x.op = true → memOp y.op = true → apartB (fpf i) (fpf j) = true)
section
variable {P : Program} {F : CallE} {lim : Nat} {ops : Array Oper} {sts : Nat → St} {fpf : Nat → Fp}
theorem Trace.le (T : Trace P F lim ops sts fpf) {i k : Nat} (hik : i ≤ k) (hk : k ≤ ops.size) : (sts i).n ≤ (sts k).n := by
  induction k with
  | zero => obtain rfl : i = 0 := by omega
            exact Nat.le_refl _
  | succ k ih =>
    rcases Nat.lt_or_ge i (k + 1) with h | h
    · exact Nat.le_trans (ih (by omega) (by omega)) (T.st k (by omega)).nle
    · obtain rfl : i = k + 1 := by omega
      exact Nat.le_refl _
theorem Trace.same (T : Trace P F lim ops sts fpf) {i k id : Nat} (hik : i ≤ k) (hk : k ≤ ops.size) (hs : ∀ j, i ≤ j → j < k → (sts (j + 1)).h.get id = (sts j).h.get id) : (sts k).h.get id = (sts i).h.get id := by
  induction k with
  | zero => obtain rfl : i = 0 := by omega
            rfl
  | succ k ih =>
    rcases Nat.lt_or_ge i (k + 1) with h | h
    · rw [hs k (by omega) (by omega), ih (by omega) (by omega) fun j h1 h2 => hs j h1 (by omega)]
    · obtain rfl : i = k + 1 := by omega
      rfl
theorem Trace.dead (T : Trace P F lim ops sts fpf) {i k id : Nat} (hik : i ≤ k) (hk : k ≤ ops.size) (hid : id < (sts i).n) (hd : (sts i).h.get id = none) : (sts k).h.get id = none := by
  induction k with
  | zero => obtain rfl : i = 0 := by omega
            exact hd
  | succ k ih =>
    rcases Nat.lt_or_ge i (k + 1) with h | h
    · exact (T.st k (by omega)).dd id (Nat.lt_of_lt_of_le hid (T.le (by omega) (by omega))) (ih (by omega) (by omega))
    · obtain rfl : i = k + 1 := by omega
      exact hd
theorem Trace.a_step (T : Trace P F lim ops sts fpf) {i : Nat} {o : Oper} (ho : ops[i]? = some o) : ∃ v, (sts (i + 1)).a = put (sts i).a o.dst v := by
  obtain ⟨cl, fp, p⟩ := T.run i o ho
  rcases aopS_inv p.run with ⟨-, h, -⟩ | ⟨-, e, -, -, -, h, -⟩
  · exact ⟨undef, by rw [h]⟩
  · exact ⟨e.v, by rw [h]⟩
theorem Trace.len (T : Trace P F lim ops sts fpf) {k : Nat} (hk : k ≤ ops.size) : (sts k).a.length = (sts 0).a.length := by
  induction k with
  | zero => rfl
  | succ k ih =>
    obtain ⟨v, hv⟩ := T.a_step (i := k) (Array.getElem?_eq_getElem (by omega))
    rw [hv, put_len, ih (by omega)]
theorem Trace.tmp (T : Trace P F lim ops sts fpf) {i k : Nat} {t : Tmp} (hik : i ≤ k) (hk : k ≤ ops.size) (hs : ∀ j o, i ≤ j → j < k → ops[j]? = some o → o.dst ≠ some t) : lget (sts k).a t = lget (sts i).a t := by
  induction k with
  | zero => obtain rfl : i = 0 := by omega
            rfl
  | succ k ih =>
    rcases Nat.lt_or_ge i (k + 1) with h | h
    · have ho : ops[k]? = some ops[k] := Array.getElem?_eq_getElem (by omega)
      obtain ⟨v, hv⟩ := T.a_step ho
      rw [hv, Ce.put_ne v (hs k _ (by omega) (by omega) ho), ih (by omega) (by omega) fun j o h1 h2 => hs j o h1 (by omega)]
    · obtain rfl : i = k + 1 := by omega
      rfl
theorem memOp_call {o : Op} (h : isCall o = true) : memOp o = true := by
  cases o with
  | call c =>
    obtain ⟨callee, args, ts⟩ := c
    cases callee with
    | value f => rfl
    | _ => simp [isCall] at h
  | _ => simp [isCall] at h
theorem Trace.mem_of_wr (T : Trace P F lim ops sts fpf) {j id : Nat} {o : Oper} (ho : ops[j]? = some o) (hw : id ∈ (fpf j).wr) : memOp o.op = true := by
  obtain ⟨cl, fp, p⟩ := T.run j o ho
  have hw2 := p.sup id hw
  rcases aopS_inv p.run with ⟨-, -, h⟩ | ⟨-, e, -, -, hm, -, h⟩
  · rw [h] at hw2; simp at hw2
  · rw [h] at hw2
    rcases hm with hm | ⟨-, hm⟩
    · exact hm
    · rcases hw2 with hw2 | hw2
      · rw [hm] at hw2; simp at hw2
      · exact memOp_call hw2.1
abbrev Dn (L : Array Bool) (j : Nat) : Prop := L.getD j false = true
def Closed (ops : Array Oper) (L : Array Bool) : Prop := ∀ j o e, Dn L j → ops[j]? = some o → e ∈ o.after → Region.binds .any e = true → Dn L e.on
def ConsM (ops : Array Oper) (fpf : Nat → Fp) (L : Array Bool) (id k : Nat) : Prop := ∀ j, j < ops.size → id ∈ (fpf j).wr → (Dn L j ↔ j < k)
def ConsT (ops : Array Oper) (L : Array Bool) (t k : Nat) : Prop := ∀ j o, ops[j]? = some o → o.dst = some t → (Dn L j ↔ j < k)
section
variable (T : Trace P F lim ops sts fpf) {L : Array Bool} (hc : Closed ops L) {i : Nat} {oi : Oper} (hi : ops[i]? = some oi) (hni : ¬ Dn L i)
  (hr : ∀ e ∈ oi.after, Region.binds .any e = true → Dn L e.on)
include T hc hi hni hr
theorem consM_ready {id : Nat} (hm : memOp oi.op = true) (ht : id ∈ (fpf i).rd ∨ id ∈ (fpf i).wr ∨ (fpf i).cl = true) : ConsM ops fpf L id i := by
  intro j hj hw
  have hoj : ops[j]? = some ops[j] := Array.getElem?_eq_getElem hj
  have hmj := T.mem_of_wr hoj hw
  rcases Nat.lt_trichotomy j i with h | h | h
  · refine ⟨fun _ => h, fun _ => ?_⟩
    cases hb : ((Region.before ops).getD i 0).testBit j with
    | true => exact before_down hc i oi hi hr hb
    | false =>
      obtain ⟨h1, -⟩ := apartB_spec ((T.apart j i _ _ h hoj hi hb).2 hmj hm)
      obtain ⟨h2, h3, h4⟩ := h1 id hw
      rcases ht with ht | ht | ht
      · exact absurd ht h2
      · exact absurd ht h3
      · rw [h4] at ht; cases ht
  · subst h
    exact ⟨fun h => absurd h hni, fun h => by omega⟩
  · refine ⟨fun hd => ?_, fun h => by omega⟩
    cases hb : ((Region.before ops).getD j 0).testBit i with
    | true => exact absurd (before_down hc j _ hoj (fun e h1 h2 => hc j _ e hd hoj h1 h2) hb) hni
    | false =>
      obtain ⟨-, h1⟩ := apartB_spec ((T.apart i j _ _ h hi hoj hb).2 hm hmj)
      obtain ⟨h2, h3, h4⟩ := h1 id hw
      rcases ht with ht | ht | ht
      · exact absurd ht h2
      · exact absurd ht h3
      · rw [h4] at ht; cases ht
theorem consT_ready {t : Tmp} (ht : t ∈ oi.looksAt ops) : ConsT ops L t i := by
  intro j oj hoj hd
  rcases Nat.lt_trichotomy j i with h | h | h
  · refine ⟨fun _ => h, fun _ => ?_⟩
    cases hb : ((Region.before ops).getD i 0).testBit j with
    | true => exact before_down hc i oi hi hr hb
    | false => exact absurd ht ((Oper.apart_spec (T.apart j i _ _ h hoj hi hb).1).1 t hd)
  · subst h
    exact ⟨fun h => absurd h hni, fun h => by omega⟩
  · refine ⟨fun hdn => ?_, fun h => by omega⟩
    cases hb : ((Region.before ops).getD j 0).testBit i with
    | true => exact absurd (before_down hc j _ hoj (fun e h1 h2 => hc j _ e hdn hoj h1 h2) hb) hni
    | false => exact absurd ht ((Oper.apart_spec (T.apart i j _ _ h hi hoj hb).1).2.2 t hd)
theorem no_later_wr {j id : Nat} (hij : i < j) (hj : j < ops.size) (hd : Dn L j) (hw : id ∈ (fpf i).wr) : id ∉ (fpf j).wr := fun hw2 => by
  have := (consM_ready T hc hi hni hr (T.mem_of_wr hi hw) (.inr (.inl hw)) j hj hw2).1 hd
  omega
theorem no_later_dst {j : Nat} {oj : Oper} {t : Tmp} (hij : i < j) (hoj : ops[j]? = some oj) (hd : Dn L j) (hw : oi.dst = some t) : oj.dst ≠ some t := fun hw2 => by
  cases hb : ((Region.before ops).getD j 0).testBit i with
  | true => exact absurd (before_down hc j _ hoj (fun e h1 h2 => hc j _ e hd hoj h1 h2) hb) hni
  | false => exact absurd hw2 ((Oper.apart_spec (T.apart i j _ _ hij hi hoj hb).1).2.1 t hw)
end
end
end Go.Proofs.Ytkngdfbibffdcaa.Ce
namespace Go.Proofs.Ytkngdfbibffdcaa.Ce
open Go.RowKit
set_option linter.unusedSectionVars false
structure Inv (P : Program) (lim : Nat) (ops : Array Oper) (sts : Nat → St) (fpf : Nat → Fp) (S : Nat) (φ0 : Mp) (a0 : Act) (w0 : World) (L : Array Bool) (φ : Mp) (a : Act) (w : World) : Prop where
  sz : L.size = ops.size
  down : Closed ops L
  df : a.defers = a0.defers
  ts : a.tmps.size = (sts 0).a.length
  ta : ∀ t k, k ≤ ops.size → ConsT ops L t k → VC (cut φ (sts k).n) ((lget (sts k).a t).getD undef) (a.tmps.getD t undef)
  me : ∀ id g c k, φ id = some (g, c) → id < (sts k).n → k ≤ ops.size → ConsM ops fpf L id k → ObjR P (cut φ (sts k).n) ((sts k).h.get id) w g c
  gb : ∀ id g c, φ id = some (g, c) → S ≤ g ∧ g < w.heap.size
  inj : ∀ id id' g c c' k, id < id' → φ id = some (g, c) → φ id' = some (g, c') → id < (sts k).n → k ≤ ops.size → ConsM ops fpf L id k → (sts k).h.get id = none
  kn : ∀ id, φ id ≠ none → id < (sts 0).n ∨ ∃ j, j < ops.size ∧ Dn L j ∧ (sts j).n ≤ id ∧ id < (sts (j + 1)).n
  un : ∀ j id, j < ops.size → Dn L j → id < (sts j).n → φ id = none → (sts (j + 1)).h.get id = (sts j).h.get id
  phi0 : ∀ id, id < (sts 0).n → φ id = φ0 id
  fr : ∀ g, g < w0.heap.size → (∀ id c, id < (sts 0).n → lim ≤ id → (sts 0).h.get id ≠ none → φ0 id ≠ some (g, c)) → w.heap[g]? = w0.heap[g]?
  new : ∀ id g c, (sts 0).n ≤ id → φ id = some (g, c) → w0.heap.size ≤ g ∨ ∃ id0 c0, id0 < (sts 0).n ∧ lim ≤ id0 ∧ φ0 id0 = some (g, c0) ∧ (sts 0).h.get id0 ≠ none
  szw : w0.heap.size ≤ w.heap.size
  hS : S ≤ w0.heap.size
  os : w.os = w0.os
  tape : w.tape = w0.tape
  output : w.output = w0.output
theorem getD_set {L : Array Bool} {i j : Nat} (hi : i < L.size) : Dn (L.setIfInBounds i true) j ↔ Dn L j ∨ j = i := by
  unfold Dn
  by_cases hij : i = j
  · subst hij
    simp [hi]
  · rw [Array.getD_eq_getD_getElem?, Array.getElem?_setIfInBounds_ne hij, ← Array.getD_eq_getD_getElem?]
    constructor
    · exact .inl
    · rintro (h | h)
      · exact h
      · exact absurd h.symm hij
section
variable {P : Program} {F : CallE} {lim : Nat} {ops : Array Oper} {sts : Nat → St} {fpf : Nat → Fp} {S : Nat} {φ0 φ : Mp} {a0 a : Act} {w0 w : World} {L : Array Bool}
theorem Inv.step (T : Trace P F lim ops sts fpf) (I : Inv P lim ops sts fpf S φ0 a0 w0 L φ a w) {i : Nat} {oi : Oper} (hi : ops[i]? = some oi) (hni : ¬ Dn L i)
    (hr : ∀ e ∈ oi.after, Region.binds .any e = true → Dn L e.on) {ev v' : Value} {w' : World} {φ' : Mp} (hsa : (sts (i + 1)).a = put (sts i).a oi.dst ev) (hv : VC φ' ev v')
    (p : PO P (cut φ (sts i).n) φ' (sts i).h (sts (i + 1)).h (sts i).n (sts (i + 1)).n (· ∈ (fpf i).wr) w w' S) :
    ∃ φ2, Inv P lim ops sts fpf S φ0 a0 w0 (L.setIfInBounds i true) φ2 (a.put oi.dst v') w' := by
  have hiN : i < ops.size := (Array.getElem?_eq_some_iff.1 hi).1
  have hD : ∀ j, Dn (L.setIfInBounds i true) j ↔ Dn L j ∨ j = i := fun j => getD_set (by rw [I.sz]; exact hiN)
  have hnle := p.nle
  have h0i : (sts 0).n ≤ (sts i).n := T.le (by omega) (by omega)
  -- what is made is not yet known
  have hfresh : ∀ id, (sts i).n ≤ id → id < (sts (i + 1)).n → φ id = none := fun id h1 h2 => by
    cases hp : φ id with
    | none => rfl
    | some q =>
      exfalso
      rcases I.kn id (by rw [hp]; simp) with h | ⟨j, hj, hdj, h3, h4⟩
      · omega
      · rcases Nat.lt_trichotomy j i with h | h | h
        · have := T.le (i := j + 1) (k := i) (by omega) (by omega)
          omega
        · subst h; exact hni hdj
        · have := T.le (i := i + 1) (k := j) (by omega) (by omega)
          omega
  let φ2 : Mp := fun id => if (sts i).n ≤ id ∧ id < (sts (i + 1)).n then φ' id else φ id
  have hold : ∀ id, ¬ ((sts i).n ≤ id ∧ id < (sts (i + 1)).n) → φ2 id = φ id := fun id h => by simp only [φ2, if_neg h]
  have hnew : ∀ id, (sts i).n ≤ id → id < (sts (i + 1)).n → φ2 id = φ' id := fun id h1 h2 => by simp only [φ2, if_pos (And.intro h1 h2)]
  have hle : le_ φ φ2 := fun id q hq => by
    by_cases h : (sts i).n ≤ id ∧ id < (sts (i + 1)).n
    · rw [hfresh id h.1 h.2] at hq; cases hq
    · rw [hold id h]; exact hq
  have hcut : cut φ2 (sts (i + 1)).n = φ' := by
    funext id
    rcases Nat.lt_or_ge id (sts i).n with h1 | h1
    · rw [cut_lt (by omega), hold id (by omega), p.ext id (.inl h1), cut_lt h1]
    · rcases Nat.lt_or_ge id (sts (i + 1)).n with h2 | h2
      · rw [cut_lt h2, hnew id h1 h2]
      · rw [cut_ge h2, p.ext id (.inr h2), cut_ge h1]
  have hupk : ∀ k, i + 1 ≤ k → k ≤ ops.size → le_ φ' (cut φ2 (sts k).n) := fun k h1 h2 => by
    rw [← hcut]
    exact cut_mono (T.le h1 h2) (le_.refl _)
  -- old ones
  have hoM : ∀ {id k : Nat}, id ∉ (fpf i).wr → ConsM ops fpf (L.setIfInBounds i true) id k → ConsM ops fpf L id k := fun {id k} hw hc j hj hwj => by
    have hne : j ≠ i := fun e => hw (e ▸ hwj)
    rw [← hc j hj hwj, hD]
    exact ⟨.inl, fun h => h.resolve_right hne⟩
  have hlt : ∀ {id k : Nat}, id ∈ (fpf i).wr → ConsM ops fpf (L.setIfInBounds i true) id k → i < k := fun {id k} hw hc => (hc i hiN hw).1 ((hD i).2 (.inr rfl))
  have hready : ∀ {id : Nat}, id ∈ (fpf i).wr → ConsM ops fpf L id i := fun {id} hw => consM_ready T I.down hi hni hr (T.mem_of_wr hi hw) (.inr (.inl hw))
  -- no one writes it between i and k
  have hstay : ∀ {id k : Nat}, id < (sts (i + 1)).n → i < k → k ≤ ops.size → ConsM ops fpf (L.setIfInBounds i true) id k → (id ∈ (fpf i).wr ∨ φ id = none) → (sts k).h.get id = (sts (i + 1)).h.get id := fun {id k} hid hik hk hc hor => by
    refine T.same (by omega) hk fun j h1 h2 => ?_
    have hnj : id < (sts j).n := Nat.lt_of_lt_of_le hid (T.le h1 (by omega))
    by_cases hw : id ∈ (fpf j).wr
    · have hdj : Dn L j := by
        have := (hc j (by omega) hw).2 h2
        rw [hD] at this
        exact this.resolve_right (by omega)
      rcases hor with hor | hor
      · exact absurd hw (no_later_wr T I.down hi hni hr (by omega) (by omega) hdj hor)
      · exact I.un j id (by omega) hdj hnj hor
    · exact (T.st j (by omega)).keep id hnj hw
  have hifb : ∀ {id : Nat}, id ∈ (fpf i).wr → id < (sts i).n := fun {id} hw => (T.wr i hiN id hw).2
  have hgt : ∀ {id k : Nat}, (sts i).n ≤ id → id < (sts k).n → i < k := fun {id k} h1 h2 => by
    rcases Nat.lt_or_ge i k with h | h
    · exact h
    · have := T.le (i := k) (k := i) h (by omega)
      omega
  -- inj among old ones at k, after the step
  have hinjO : ∀ id id' g c c' k, id < id' → φ id = some (g, c) → φ id' = some (g, c') → id < (sts k).n → k ≤ ops.size → ConsM ops fpf (L.setIfInBounds i true) id k → (sts k).h.get id = none := fun id id' g c c' k h1 h2 h3 h4 h5 h6 => by
    by_cases hw : id ∈ (fpf i).wr
    · have hik := hlt hw h6
      exact T.dead (Nat.le_of_lt hik) h5 (hifb hw) (I.inj id id' g c c' i h1 h2 h3 (hifb hw) (by omega) (hready hw))
    · exact I.inj id id' g c c' k h1 h2 h3 h4 h5 (hoM hw h6)
  -- who is written and alive shares with none that comes later
  have hshare : ∀ id0 id' g c0 c', id0 < (sts i).n → id0 ∈ (fpf i).wr → cut φ (sts i).n id0 = some (g, c0) → (sts i).h.get id0 ≠ none → id0 < id' → φ id' = some (g, c') → False := fun id0 id' g c0 c' h1 h2 h3 h4 h5 h6 =>
    h4 (I.inj id0 id' g c0 c' i h5 (cut_some h3).2 h6 h1 (by omega) (hready h2))
  refine ⟨φ2, ?_⟩
  constructor
  · simp [I.sz]
  · intro j o e hdj ho he hb
    rw [hD] at hdj ⊢
    rcases hdj with hdj | rfl
    · exact .inl (I.down j o e hdj ho he hb)
    · rw [hi] at ho
      injection ho with ho
      subst ho
      exact .inl (hr e he hb)
  · exact (put_defers _ _ _).trans I.df
  · rw [Act.put_size]; exact I.ts
  · -- temporaries
    intro t k hk hc
    by_cases ht : oi.dst = some t
    · have hik : i < k := (hc i oi hi ht).1 ((hD i).2 (.inr rfl))
      have e1 : lget (sts k).a t = lget (sts (i + 1)).a t := T.tmp (by omega) hk fun j oj h1 h2 hoj hd => by
        have hdj : Dn L j := by
          have := (hc j oj hoj hd).2 h2
          rw [hD] at this
          exact this.resolve_right (by omega)
        exact no_later_dst T I.down hi hni hr (by omega) hoj hdj ht hd
      rw [e1, hsa, ht]
      exact put_eq (by rw [I.ts]; exact T.len (by omega)) (hv.mono (hupk k (by omega) hk))
    · rw [Act.put_ne v' ht]
      refine (I.ta t k hk fun j o ho hd => ?_).mono (cut_mono (Nat.le_refl _) hle)
      have hne : j ≠ i := fun e => by subst e; rw [hi] at ho; injection ho with ho; subst ho; exact ht hd
      rw [← hc j o ho hd, hD]
      exact ⟨.inl, fun h => h.resolve_right hne⟩
  · -- blocks
    intro id g c k hp hid hk hc
    by_cases hin : (sts i).n ≤ id ∧ id < (sts (i + 1)).n
    · rw [hnew id hin.1 hin.2] at hp
      have hik := hgt hin.1 hid
      rw [hstay hin.2 hik hk hc (.inr (hfresh id hin.1 hin.2))]
      exact (p.objn id g c (.inr hin) hp).1.mono (hupk k (by omega) hk) rfl
    · rw [hold id hin] at hp
      by_cases hw : id ∈ (fpf i).wr
      · have hik := hlt hw hc
        have hidn := hifb hw
        rw [hstay (by omega) hik hk hc (.inl hw)]
        exact (p.objn id g c (.inl ⟨hidn, hw⟩) (by rw [p.ext id (.inl hidn), cut_lt hidn]; exact hp)).1.mono (hupk k (by omega) hk) rfl
      · have hcl := hoM hw hc
        have h1 := I.me id g c k hp hid hk hcl
        by_cases hd : (sts k).h.get id = none
        · rw [hd]; trivial
        · refine h1.mono (cut_mono (Nat.le_refl _) hle) (p.fr g (I.gb id g c hp).2 fun id0 c0 h2 h3 h4 h5 => ?_)
          rcases Nat.lt_trichotomy id id0 with h6 | h6 | h6
          · exact hd (I.inj id id0 g c c0 k h6 hp (cut_some h5).2 hid hk hcl)
          · subst h6; exact hw h3
          · exact hshare id0 id g c0 c h2 h3 h5 h4 h6 hp
  · intro id g c hp
    by_cases hin : (sts i).n ≤ id ∧ id < (sts (i + 1)).n
    · rw [hnew id hin.1 hin.2] at hp
      exact (p.objn id g c (.inr hin) hp).2
    · rw [hold id hin] at hp
      exact ⟨(I.gb id g c hp).1, Nat.lt_of_lt_of_le (I.gb id g c hp).2 p.sz⟩
  · -- blocks that share
    intro id id' g c c' k hlt' hp hp' hid hk hc
    by_cases hin : (sts i).n ≤ id ∧ id < (sts (i + 1)).n
    · rw [hnew id hin.1 hin.2] at hp
      have hik := hgt hin.1 hid
      by_cases hin' : (sts i).n ≤ id' ∧ id' < (sts (i + 1)).n
      · rw [hnew id' hin'.1 hin'.2] at hp'
        exact T.dead (by omega) hk hin.2 (p.injn id id' g c c' hin.1 hlt' hin'.2 hp hp')
      · rw [hold id' hin'] at hp'
        exfalso
        rcases p.new id g c hin.1 hin.2 hp with h1 | ⟨id0, c0, h1, h2, h3, h4, h5⟩
        · have := (I.gb id' g c' hp').2
          omega
        · exact hshare id0 id' g c0 c' h1 h2 h3 h4 (by omega) hp'
    · rw [hold id hin] at hp
      by_cases hin' : (sts i).n ≤ id' ∧ id' < (sts (i + 1)).n
      · rw [hnew id' hin'.1 hin'.2] at hp'
        rcases p.new id' g c' hin'.1 hin'.2 hp' with h1 | ⟨id0, c0, h1, h2, h3, h4, h5⟩
        · have := (I.gb id g c hp).2
          omega
        · rcases Nat.lt_trichotomy id id0 with h6 | h6 | h6
          · exact hinjO id id0 g c c0 k h6 hp (cut_some h3).2 hid hk hc
          · subst h6
            exact T.dead (i := i + 1) (by have := hlt h2 hc; omega) hk (by omega) h5
          · exact (hshare id0 id g c0 c h1 h2 h3 h4 h6 hp).elim
      · rw [hold id' hin'] at hp'
        exact hinjO id id' g c c' k hlt' hp hp' hid hk hc
  · intro id hp
    by_cases hin : (sts i).n ≤ id ∧ id < (sts (i + 1)).n
    · exact .inr ⟨i, hiN, (hD i).2 (.inr rfl), hin.1, hin.2⟩
    · rw [hold id hin] at hp
      exact (I.kn id hp).imp_right fun ⟨j, h1, h2, h3⟩ => ⟨j, h1, (hD j).2 (.inl h2), h3⟩
  · intro j id hj hdj hid hp
    have hp1 : φ id = none := by
      cases h : φ id with
      | none => rfl
      | some q => rw [hle id q h] at hp; cases hp
    rcases (hD j).1 hdj with h | h
    · exact I.un j id hj h hid hp1
    · subst h
      exact p.un id hid (by rw [cut_lt hid]; exact hp1)
  · intro id hid
    rw [hold id (by omega)]
    exact I.phi0 id hid
  · intro g hg hh
    rw [← I.fr g hg hh]
    refine p.fr g (Nat.lt_of_lt_of_le hg I.szw) fun id0 c0 h2 h3 h4 h5 => ?_
    have h6 := (cut_some h5).2
    rcases Nat.lt_or_ge id0 (sts 0).n with h7 | h7
    · exact hh id0 c0 h7 (T.wr i hiN id0 h3).1 (fun h8 => h4 (T.dead (by omega) (by omega) h7 h8)) (by rw [← I.phi0 id0 h7]; exact h6)
    · rcases I.new id0 g c0 h7 h6 with h8 | ⟨id1, c1, h8, h9, h10, h11⟩
      · omega
      · exact hh id1 c1 h8 h9 h11 h10
  · intro id g c hid hp
    by_cases hin : (sts i).n ≤ id ∧ id < (sts (i + 1)).n
    · rw [hnew id hin.1 hin.2] at hp
      rcases p.new id g c hin.1 hin.2 hp with h1 | ⟨id0, c0, h1, h2, h3, h4, h5⟩
      · exact .inl (Nat.le_trans I.szw h1)
      · have h6 := (cut_some h3).2
        rcases Nat.lt_or_ge id0 (sts 0).n with h7 | h7
        · exact .inr ⟨id0, c0, h7, (T.wr i hiN id0 h2).1, by rw [← I.phi0 id0 h7]; exact h6, fun h8 => h4 (T.dead (by omega) (by omega) h7 h8)⟩
        · exact I.new id0 g c0 h7 h6
    · rw [hold id hin] at hp
      exact I.new id g c hid hp
  · exact Nat.le_trans I.szw p.sz
  · exact I.hS
  · exact p.os.trans I.os
  · exact p.tape.trans I.tape
  · exact p.output.trans I.output
end
end Go.Proofs.Ytkngdfbibffdcaa.Ce
namespace Go.Proofs.Ytkngdfbibffdcaa.Ce
open Go.RowKit
set_option linter.unusedSectionVars false
theorem filter_lt {p q : Nat → Bool} {i : Nat} (hpi : p i = true) (hqi : q i = false) (hle : ∀ j, q j = true → p j = true) : ∀ (l : List Nat), i ∈ l → (l.filter q).length < (l.filter p).length := by
  have le : ∀ l : List Nat, (l.filter q).length ≤ (l.filter p).length := by
    intro l
    induction l with
    | nil => simp
    | cons a l ih =>
      cases hq : q a with
      | true => simp [hq, hle a hq]; exact ih
      | false =>
        cases hp : p a with
        | true => simp [hq, hp]; omega
        | false => simp [hq, hp]; exact ih
  intro l
  induction l with
  | nil => simp
  | cons a l ih =>
    intro hi
    rcases List.mem_cons.1 hi with rfl | hi
    · have := le l
      simp [hpi, hqi]
      omega
    · have h1 := ih hi
      cases hq : q a with
      | true => simp [hq, hle a hq]; exact h1
      | false =>
        cases hp : p a with
        | true => simp [hq, hp]; omega
        | false => simp [hq, hp]; exact h1
section
variable {P : Program} {F : CallE} {lim : Nat} {ops : Array Oper} {sts : Nat → St} {fpf : Nat → Fp} {S : Nat} {φ0 φ : Mp} {a0 a : Act} {w0 w : World} {L : Array Bool}
theorem getD_tf {j : Nat} (hj : j < L.size) : L.getD j true = L.getD j false := by simp [hj]
theorem ready_nil (T : Trace P F lim ops sts fpf) (hsz : L.size = ops.size) (h : Region.ready .any ops L = []) : ∀ j, j < ops.size → Dn L j := by
  intro j
  induction j using Nat.strongRecOn with
  | _ j ih =>
    intro hj
    cases hd : L.getD j false with
    | true => exact hd
    | false =>
      have hm : j ∈ Region.ready .any ops L := mem_ready.2 ⟨by rw [getD_tf (by omega)]; exact hd, ops[j], Array.getElem?_eq_getElem hj, fun e he hb => by
        have := T.back j _ e (Array.getElem?_eq_getElem hj) he hb
        exact ih e.on this (by omega)⟩
      rw [h] at hm
      cases hm
def left (N : Nat) (L : Array Bool) : Nat := ((List.range N).filter fun j => !L.getD j false).length
theorem drawn_go (hF : SoundF P F) (T : Trace P F lim ops sts fpf) {Q : Exit → Act → World → Prop}
    (hQ : ∀ L φ a w, Inv P lim ops sts fpf S φ0 a0 w0 L φ a w → (∀ j, j < ops.size → Dn L j) → Q .normal a w) :
    ∀ (fuel : Nat) (L : Array Bool) (φ : Mp) (a : Act) (w : World), Inv P lim ops sts fpf S φ0 a0 w0 L φ a w → left ops.size L ≤ fuel → wpAny P .any ops Q fuel L a w := by
  intro fuel
  induction fuel with
  | zero =>
    intro L φ a w I hl
    have hall : ∀ j, j < ops.size → Dn L j := fun j hj => by
      have h1 : (List.range ops.size).filter (fun j => !L.getD j false) = [] := List.eq_nil_of_length_eq_zero (by unfold left at hl; omega)
      have h2 := List.filter_eq_nil_iff.1 h1 j (by simpa using hj)
      simpa [Dn] using h2
    refine ⟨?_, hQ L φ a w I hall⟩
    cases hr : Region.ready .any ops L with
    | nil => rfl
    | cons j rest =>
      have hm : j ∈ Region.ready .any ops L := by rw [hr]; simp
      obtain ⟨h1, o, ho, -⟩ := mem_ready.1 hm
      have hj : j < ops.size := (Array.getElem?_eq_some_iff.1 ho).1
      rw [getD_tf (by rw [I.sz]; exact hj), hall j hj] at h1
      cases h1
  | succ fuel ih =>
    intro L φ a w I hl
    refine ⟨fun hr => hQ L φ a w I (ready_nil T I.sz hr), fun i hm => ?_⟩
    obtain ⟨h1, o, hi, hr⟩ := mem_ready.1 hm
    have hiN : i < ops.size := (Array.getElem?_eq_some_iff.1 hi).1
    rw [getD_tf (by rw [I.sz]; exact hiN)] at h1
    have hni : ¬ Dn L i := by unfold Dn; rw [h1]; simp
    have hcT := fun t ht => consT_ready (t := t) T I.down hi hni hr ht
    have hta : ∀ t, t ∈ o.looksAt ops → VC (cut φ (sts i).n) ((lget (sts i).a t).getD undef) (a.tmps.getD t undef) := fun t ht => I.ta t i (by omega) (hcT t ht)
    have hlen : (sts i).a.length = a.tmps.size := by rw [I.ts]; exact T.len (by omega)
    have hwt : ∀ t, wants ops.toList o (sts i).a = some t → Region.wanted o (yielded ops a.tmps) = t := fun t => wants_ok hlen fun g want d hg hd => hta d (by
      unfold Oper.looksAt
      rw [hg]
      simp [hd])
    have hleft : left ops.size (L.setIfInBounds i true) ≤ fuel := by
      have h2 := filter_lt (p := fun j => !L.getD j false) (q := fun j => !(L.setIfInBounds i true).getD j false) (i := i) (by rw [h1]; rfl) (by
        have : Dn (L.setIfInBounds i true) i := (getD_set (by rw [I.sz]; exact hiN)).2 (.inr rfl)
        unfold Dn at this
        rw [this]; rfl) (fun j hj => by
        cases hd : L.getD j false with
        | false => rfl
        | true =>
          have : Dn (L.setIfInBounds i true) j := (getD_set (by rw [I.sz]; exact hiN)).2 (.inl hd)
          unfold Dn at this
          rw [this] at hj; cases hj) (List.range ops.size) (by simpa using hiN)
      unfold left at hl ⊢
      omega
    unfold wpOp
    rw [hi]
    dsimp only
    obtain ⟨cl, fp, pd⟩ := T.run i o hi
    rcases aopS_inv pd.run with ⟨hw, hst, hfp⟩ | ⟨hw, e, hop, hwr, hmm, hst, hfp⟩
    · rw [hwt _ hw]
      simp only [Bool.false_eq_true, if_false]
      obtain ⟨φ2, I2⟩ := I.step T hi hni hr (ev := undef) (v' := undef) (w' := w) (φ' := cut φ (sts i).n) (by rw [hst]) VC.undef_ (by
        rw [hst]
        exact PO.same _ fun id hid => by
          have := pd.sup id hid
          rw [hfp] at this
          simp at this)
      exact ih _ φ2 _ _ I2 hleft
    · rw [hwt _ hw]
      simp only [if_true]
      have hsub : ∀ id, id < (sts i).n → id ∈ e.wr ∨ isCall o.op = true ∧ cl ≤ id → id ∈ (fpf i).wr := fun id h2 h3 => pd.sub id h2 (by rw [hfp]; exact h3)
      have hsup : ∀ id, id ∈ (fpf i).wr → id ∈ e.wr ∨ isCall o.op = true ∧ cl ≤ id := fun id h2 => by have := pd.sup id h2; rw [hfp] at this; exact this
      have hrd : ∀ id, id < (sts i).n → id ∈ e.rd ∨ id ∈ e.wr ∨ isCall o.op = true → ConsM ops fpf L id i := fun id hlt hid => by
        have h3 : id ∈ (fpf i).rd ∨ id ∈ (fpf i).wr ∨ (fpf i).cl = true := by
          rw [pd.rd, pd.cl_, hfp]
          rcases hid with h | h | h
          · exact .inl h
          · exact .inr (.inl (hsub id hlt (.inl h)))
          · exact .inr (.inr h)
        refine consM_ready T I.down hi hni hr ?_ h3
        rcases hmm with hmm | ⟨hm1, hm2⟩
        · exact hmm
        · rw [hm1, hm2] at hid
          rcases hid with hid | hid | hid
          · simp at hid
          · simp at hid
          · exact memOp_call hid
      refine .inl (aop_wp (φ := cut φ (sts i).n) (S := S) hF hop pd.le (fun x hx => lev_ok fun k hk => hta k ?_) (fun id g c hid hp => ?_) (fun hcall => ?_) (T.hb i (by omega)) (fun id hid => cut_ge hid) (Nat.le_trans I.hS I.szw) fun v' w1 φ1 hv p hb1 => ?_)
      · subst hk
        unfold Oper.looksAt
        exact List.mem_append_left _ (List.mem_filterMap.2 ⟨.tmp k, by simpa using hx, rfl⟩)
      · obtain ⟨h2, h3⟩ := cut_some hp
        exact ⟨I.me id g c i h3 h2 (by omega) (hrd id h2 (by rcases hid with h | h; exact .inl h; exact .inr (.inl h))), I.gb id g c h3⟩
      · refine ⟨fun id hid => cut_ge hid, fun id g c hp => ?_, fun id id' g c c' h2 h3 h4 => ?_, T.hb i (by omega), Nat.le_trans I.hS I.szw⟩
        · obtain ⟨h2, h3⟩ := cut_some hp
          exact ⟨I.me id g c i h3 h2 (by omega) (hrd id h2 (.inr (.inr hcall))), I.gb id g c h3⟩
        · exact I.inj id id' g c c' i h2 (cut_some h3).2 (cut_some h4).2 (cut_some h3).1 (by omega) (hrd id (cut_some h3).1 (.inr (.inr hcall)))
      · obtain ⟨φ2, I2⟩ := I.step T hi hni hr (ev := e.v) (v' := v') (w' := w1) (φ' := φ1) (by rw [hst]) hv (by
          rw [hst]
          refine ⟨p.ext, fun g hg hh => p.fr g hg fun id c h2 h3 h4 => hh id c h2 (hsub id h2 h3) h4, fun id h2 h3 => p.keep id h2 fun h4 => h3 (hsub id h2 h4),
            fun id g c hh hp => p.objn id g c (hh.imp_left fun h2 => ⟨h2.1, hsup id h2.2⟩) hp, fun id g c h2 h3 h4 => (p.new id g c h2 h3 h4).imp_right fun ⟨id0, c0, x1, x2, x3⟩ => ⟨id0, c0, x1, hsub id0 x1 x2, x3⟩,
            p.injn, p.dd, p.un, p.nle, p.sz, p.os, p.tape, p.output⟩)
        exact ih _ φ2 _ _ I2 hleft
theorem region_drawn (hm : P.follows .mixedOrders = true) (hF : SoundF P F) (hF2 : StatF F) {id : Nat} {st : St} {r : Ex × St} {Q : Exit → Act → World → Prop}
    (he : cRegion P F lim ops true st = some r) (hl : lim ≤ st.n) (ht : TR φ st.a a.tmps) (m : MemR P φ st.h st.n w S)
    (hQ : ∀ a' w' φ', r.1 = 0 → a'.defers = a.defers → TR φ' r.2.a a'.tmps → Fr φ φ' st.h r.2.h st.n r.2.n (fun id => lim ≤ id) w w' → MemR P φ' r.2.h r.2.n w' S → Q .normal a' w') : (Code.region id ops true).wp P Q a w := by
  change ((unordered ops).bind fun us => (aopsD P F lim us ops.toList ops.toList 0 st []).bind fun r => bif pairsOk us r.2 then some (0, r.1) else none) = some r at he
  obtain ⟨us, hu, he⟩ := bind_some he
  obtain ⟨x, h1, h2⟩ := bind_some he
  obtain ⟨hp, h2⟩ := bif_some h2
  injection h2 with h2
  subst h2
  obtain ⟨sts, fpf, e0, e1, e2, e3⟩ := aopsD_trace ops.toList (st' := x.1) (fps := x.2) h1
  have hst := trace_st hF2 (N := ops.size) (by simp) e2 (by rw [e0]; exact hl) (by rw [e0]; exact m.hb)
  have hfps : ∀ i, i < ops.size → x.2[i]? = some (fpf i) := fun i hi => by rw [e3]; simp [hi]
  obtain ⟨hbk, hap⟩ := unordered_spec hu hp hfps
  have T : Trace P F lim ops sts fpf := ⟨fun i o ho => e2 i o (by simpa using ho) (hst i (Nat.le_of_lt (Array.getElem?_eq_some_iff.1 ho).1)).1, fun i hi => (hst i hi).2.1, fun i hi => ((hst i (by omega)).2.2 hi).1, fun i hi => ((hst i (by omega)).2.2 hi).2, hbk, hap⟩
  have e1' : sts ops.size = x.1 := by simpa using e1
  subst e0
  refine wp_region_any hm (drawn_go (S := S) (φ0 := φ) (a0 := a) (w0 := { w with drawn := w.drawn + 1 }) hF T ?_ _ _ φ a _ ?_ ?_)
  · -- at the end
    intro L φ' a' w' I hall
    have hcM : ∀ id, ConsM ops fpf L id ops.size := fun id j hj _ => ⟨fun _ => hj, fun _ => hall j hj⟩
    have hcT : ∀ t, ConsT ops L t ops.size := fun t j o ho _ => ⟨fun _ => (Array.getElem?_eq_some_iff.1 ho).1, fun h => hall j h⟩
    have h0N := T.le (Nat.zero_le _) (Nat.le_refl _)
    rw [← e1'] at *
    refine hQ a' w' (cut φ' (sts ops.size).n) rfl I.df ⟨by rw [T.len (Nat.le_refl _)]; exact I.ts.symm, fun t => I.ta t _ (Nat.le_refl _) (hcT t)⟩ ?_ ?_
    · refine ⟨fun id hid => ?_, fun g hg hh => I.fr g hg hh, fun id h2 h3 => ?_, fun id g c h2 h3 h4 => ?_, fun id id' g c c' h2 h3 h4 h5 h6 => ?_, fun id h2 h3 => T.dead (Nat.zero_le _) (Nat.le_refl _) h2 h3, fun id h2 h3 => ?_, h0N, I.szw, I.os, I.tape, I.output⟩
      · have hid : id < (sts 0).n ∨ (sts ops.size).n ≤ id := hid
        rcases hid with h2 | h2
        · rw [cut_lt (by omega)]; exact I.phi0 id h2
        · rw [cut_ge h2]; exact (m.fn id (by omega)).symm
      · refine T.same (Nat.zero_le _) (Nat.le_refl _) fun j _ h4 => (T.st j h4).keep id (Nat.lt_of_lt_of_le h2 (T.le (Nat.zero_le _) (by omega))) fun h5 => h3 (T.wr j h4 id h5).1
      · have h5 := (cut_some h4).2
        rcases I.new id g c h2 h5 with h6 | ⟨id0, c0, h6, h7, h8, h9⟩
        · exact .inl h6
        · exact .inr ⟨id0, c0, h6, h7, h8, h9, I.inj id0 id g c0 c _ (by omega) (by rw [I.phi0 id0 h6]; exact h8) h5 (by omega) (Nat.le_refl _) (hcM _)⟩
      · exact I.inj id id' g c c' _ h3 (cut_some h5).2 (cut_some h6).2 (cut_some h5).1 (Nat.le_refl _) (hcM _)
      · refine T.same (Nat.zero_le _) (Nat.le_refl _) fun j _ h4 => I.un j id h4 (hall j h4) (Nat.lt_of_lt_of_le h2 (T.le (Nat.zero_le _) (by omega))) (by rw [I.phi0 id h2]; exact h3)
    · refine ⟨fun id hid => cut_ge hid, fun id g c hp => ?_, fun id id' g c c' h2 h3 h4 => I.inj id id' g c c' _ h2 (cut_some h3).2 (cut_some h4).2 (cut_some h3).1 (Nat.le_refl _) (hcM _), T.hb _ (Nat.le_refl _), Nat.le_trans I.hS I.szw⟩
      obtain ⟨h2, h3⟩ := cut_some hp
      exact ⟨I.me id g c _ h3 h2 (Nat.le_refl _) (hcM _), I.gb id g c h3⟩
  · -- at the beginning
    have hnd : ∀ j, ¬ Dn (Array.replicate ops.size false) j := fun j => by
      unfold Dn
      by_cases hj : j < ops.size
      · simp [hj]
      · simp [hj]
    have hcut0 : ∀ k, k ≤ ops.size → cut φ (sts k).n = φ := fun k hk => by
      funext id
      rcases Nat.lt_or_ge id (sts k).n with h | h
      · exact cut_lt h
      · rw [cut_ge h, m.fn id (Nat.le_trans (T.le (Nat.zero_le _) hk) h)]
    have hk0 : ∀ k id, k ≤ ops.size → id < (sts 0).n → ConsM ops fpf (Array.replicate ops.size false) id k → (sts k).h.get id = (sts 0).h.get id := fun k id hk hid hc =>
      T.same (Nat.zero_le _) hk fun j _ h4 => (T.st j (by omega)).keep id (Nat.lt_of_lt_of_le hid (T.le (Nat.zero_le _) (by omega))) fun h5 => hnd j ((hc j (by omega) h5).2 h4)
    have hsome : ∀ {id : Nat} {p : Nat × Nat}, φ id = some p → id < (sts 0).n := fun {id p} hp => by
      rcases Nat.lt_or_ge id (sts 0).n with h | h
      · exact h
      · rw [m.fn id h] at hp; cases hp
    refine ⟨by simp, fun j o e hd => absurd hd (hnd j), rfl, ht.1.symm, fun t k hk hc => ?_, fun id g c k hp hid hk hc => ?_, fun id g c hp => (m.obj id g c hp).2, fun id id' g c c' k h2 h3 h4 h5 h6 h7 => ?_, fun id hp => ?_, fun j id _ hd => absurd hd (hnd j), fun _ _ => rfl, fun _ _ _ => rfl, fun id g c h2 h3 => ?_, Nat.le_refl _, m.hS, rfl, rfl, rfl⟩
    · rw [hcut0 k hk, T.tmp (Nat.zero_le _) hk fun j o _ h4 ho hd => hnd j ((hc j o ho hd).2 h4)]
      exact ht.2 t
    · rw [hcut0 k hk, hk0 k id hk (hsome hp) hc]
      exact (m.obj id g c hp).1.mono (le_.refl _) rfl
    · rw [hk0 k id h6 (hsome h3) h7]
      exact m.inj id id' g c c' h2 h3 h4
    · cases h : φ id with
      | none => exact absurd h hp
      | some q => exact .inl (hsome h)
    · rw [m.fn id h2] at h3; cases h3
  · unfold left
    exact Nat.le_trans (List.length_filter_le _ _) (by simp)
end
end Go.Proofs.Ytkngdfbibffdcaa.Ce
