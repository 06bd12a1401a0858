/- The evaluator of closed calls: results swept; calls within a depth; the law. No program in sight. -/
import Derived.Test.YtgdokjfjmcleeaaCm
namespace Go.Proofs.Ytgdokjfjmcleeaa.Ce
open Go.RowKit
set_option linter.unusedVariables false
set_option linter.unusedSimpArgs false

theorem once_mem : ∀ {l : List Nat} {k : Nat}, k ∈ l → k ∈ once l
  | a :: l, k, h => by
    simp only [once, cond_eq_ite]
    split
    · rename_i hc
      rcases List.mem_cons.1 h with rfl | h
      · simpa using hc
      · exact once_mem h
    · rcases List.mem_cons.1 h with rfl | h
      · simp
      · exact List.mem_cons_of_mem _ (once_mem h)
theorem once_sub : ∀ {l : List Nat} {k : Nat}, k ∈ once l → k ∈ l
  | a :: l, k, h => by
    simp only [once, cond_eq_ite] at h
    split at h
    · exact List.mem_cons_of_mem _ (once_sub h)
    · rcases List.mem_cons.1 h with rfl | h
      · simp
      · exact List.mem_cons_of_mem _ (once_sub h)
theorem mem_bif {n id : Nat} (hn : n ≤ id) : id ∈ (bif Nat.ble n id then [id] else ([] : List Nat)) := by
  have : Nat.ble n id = true := by rw [Nat.ble_eq]; exact hn
  rw [this]
  simp
theorem of_bif {n id k : Nat} (hk : k ∈ (bif Nat.ble n id then [id] else ([] : List Nat))) : n ≤ k := by
  cases hb : Nat.ble n id with
  | false => rw [hb] at hk; simp at hk
  | true =>
    rw [hb] at hk
    rw [Nat.ble_eq] at hb
    simp at hk
    omega
theorem idA_ge {n k : Nat} {u : Value} (hk : k ∈ idA n u) : n ≤ k := by
  unfold idA at hk
  split at hk
  · exact of_bif hk
  · exact of_bif hk
  · exact of_bif hk
  · simp at hk
theorem idV1_ge {n k : Nat} {u : Value} (hk : k ∈ idV1 n u) : n ≤ k := by
  unfold idV1 at hk
  split at hk
  · obtain ⟨_, _, h⟩ := List.mem_flatMap.1 hk
    exact idA_ge h
  · rcases List.mem_append.1 hk with hk | hk
    · obtain ⟨_, _, h⟩ := List.mem_flatMap.1 hk
      exact idA_ge h
    · obtain ⟨_, _, h⟩ := List.mem_flatMap.1 hk
      exact idA_ge h
  · exact idA_ge hk
theorem idV_ge {n k : Nat} {u : Value} (hk : k ∈ idV n u) : n ≤ k := by
  unfold idV at hk
  split at hk
  · obtain ⟨_, _, h⟩ := List.mem_flatMap.1 hk
    exact idV1_ge h
  · rcases List.mem_append.1 hk with hk | hk
    · obtain ⟨_, _, h⟩ := List.mem_flatMap.1 hk
      exact idV1_ge h
    · obtain ⟨_, _, h⟩ := List.mem_flatMap.1 hk
      exact idV1_ge h
  · exact idV1_ge hk
theorem nodup_inj {l : List Nat} (h : l.Nodup) {i j : Nat} (hi : i < l.length) (hj : j < l.length) (e : l[i] = l[j]) : i = j := by
  have hp := List.pairwise_iff_getElem.1 h
  rcases Nat.lt_trichotomy i j with h1 | h1 | h1
  · exact absurd e (hp i j hi hj h1)
  · exact h1
  · exact absurd e.symm (hp j i hj hi h1)
theorem once_nodup : ∀ (l : List Nat), (once l).Nodup
  | [] => by simp [once]
  | a :: l => by
    simp only [once, cond_eq_ite]
    split
    · exact once_nodup l
    · rename_i hc
      exact List.nodup_cons.2 ⟨by simpa using hc, once_nodup l⟩
theorem reN_out {n : Nat} : ∀ {l : List Nat} {id : Nat}, id ∉ l → ∀ n, reN n l id = id
  | [], _, _, _ => rfl
  | k :: l, id, h, n => by
    have h1 : k ≠ id := fun e => h (by simp [e])
    have h2 : id ∉ l := fun e => h (by simp [e])
    have h3 : Nat.beq k id = false := by
      cases hb : Nat.beq k id with
      | false => rfl
      | true => exact absurd (Nat.eq_of_beq_eq_true hb) h1
    simp only [reN, h3, cond_false]
    exact reN_out (n := n) h2 (n + 1)
theorem reN_in : ∀ {l : List Nat} {id : Nat}, id ∈ l → ∀ n, ∃ j, l[j]? = some id ∧ reN n l id = n + j
  | k :: l, id, h, n => by
    cases hb : Nat.beq k id with
    | true => exact ⟨0, by simp [Nat.eq_of_beq_eq_true hb], by simp [reN, hb]⟩
    | false =>
      have h1 : id ∈ l := by
        rcases List.mem_cons.1 h with rfl | h
        · simp at hb
        · exact h
      obtain ⟨j, h2, h3⟩ := reN_in h1 (n + 1)
      refine ⟨j + 1, by simpa using h2, ?_⟩
      simp only [reN, hb, cond_false]
      omega

section
variable {φ φ' : Mp} {n : Nat} {l : List Nat}
/-- numbers anew -/
def Ren (φ φ' : Mp) (n : Nat) (l : List Nat) : Prop := ∀ id, (n ≤ id → id ∈ l) → φ' (reN n l id) = φ id
theorem VA.ren {u v : Value} (hR : Ren φ φ' n l) (hid : ∀ k ∈ idA n u, k ∈ l) (hv : VA φ u v) : VA φ' (reA n l u) v := by
  cases u with
  | pointer a =>
    rcases a with _ | ⟨id, j, s⟩
    · exact hv
    · rcases s with _ | s
      · obtain ⟨g, c, h1, h2⟩ := hv
        refine ⟨g, c, ?_, h2⟩
        rw [hR id fun hn => hid id (mem_bif hn)]
        exact h1
      · exact absurd hv.1 (by simp [flat1])
  | slice a m c =>
    rcases a with _ | ⟨id, j, s⟩
    · exact hv
    · rcases s with _ | s
      · obtain ⟨g, c1, j', c', h1, h2⟩ := hv
        refine ⟨g, c1, j', c', ?_, h2⟩
        rw [hR id fun hn => hid id (mem_bif hn)]
        exact h1
      · exact hv
  | map a =>
    rcases a with _ | id
    · exact hv
    · obtain ⟨g, c, h1, h2⟩ := hv
      refine ⟨g, c, ?_, h2⟩
      rw [hR id fun hn => hid id (mem_bif hn)]
      exact h1
  | _ => exact hv
theorem VL.ren {R R' : Value → Value → Prop} {f : Value → Value} : ∀ {us vs : List Value}, VL R us vs → (∀ u v, u ∈ us → R u v → R' (f u) v) → VL R' (us.map f) vs
  | [], [], _, _ => trivial
  | a :: us, b :: vs, h, hf => ⟨hf a b (by simp) h.1, VL.ren h.2 fun u v hu => hf u v (by simp [hu])⟩
  | [], _ :: _, h, _ => h.elim
  | _ :: _, [], h, _ => h.elim
theorem VB.ren {u v : Value} (hR : Ren φ φ' n l) (hid : ∀ k ∈ idV1 n u, k ∈ l) (hv : VB φ u v) : VB φ' (reV1 n l u) v := by
  cases u with
  | agg cs =>
    obtain ⟨ds, h1, h2⟩ := hv
    exact ⟨ds, h1, VL.ren h2 fun u v hu hv => hv.ren hR fun k hk => hid k (List.mem_flatMap.2 ⟨u, hu, hk⟩)⟩
  | func fn a b => exact absurd (show VA φ (.func fn a b) v from hv).1 (by simp [flat1])
  | pointer a => exact (show VA φ' (reA n l (.pointer a)) v from VA.ren hR hid hv).vb
  | slice a m c => exact (show VA φ' (reA n l (.slice a m c)) v from VA.ren hR hid hv).vb
  | map a => exact (show VA φ' (reA n l (.map a)) v from VA.ren hR hid hv).vb
  | _ => exact hv
theorem VC.ren {u v : Value} (hR : Ren φ φ' n l) (hid : ∀ k ∈ idV n u, k ∈ l) (hn : noFn u = true) (hv : VC φ u v) : VC φ' (reV n l u) v := by
  cases u with
  | tuple cs =>
    obtain ⟨ds, h1, h2⟩ := hv
    exact ⟨ds, h1, VL.ren h2 fun u v hu hv => hv.ren hR fun k hk => hid k (List.mem_flatMap.2 ⟨u, hu, hk⟩)⟩
  | func fn a b => simp [noFn] at hn
  | chan c => trivial
  | agg cs => exact (show VB φ' (reV1 n l (.agg cs)) v from VB.ren hR hid hv).vc
  | pointer a => exact (show VB φ' (reV1 n l (.pointer a)) v from VB.ren hR hid hv).vc
  | slice a m c => exact (show VB φ' (reV1 n l (.slice a m c)) v from VB.ren hR hid hv).vc
  | map a => exact (show VB φ' (reV1 n l (.map a)) v from VB.ren hR hid hv).vc
  | _ => exact hv
/-- a cell without new addresses -/
theorem VA.plain {u v : Value} (hlow : ∀ id, id < n → φ' id = φ id) (hid : (idA n u).isEmpty = true) (hv : VA φ u v) : VA φ' u v := by
  have hlt : ∀ {id : Nat}, (bif Nat.ble n id then [id] else ([] : List Nat)).isEmpty = true → id < n := fun {id} h => by
    cases hb : Nat.ble n id with
    | true => rw [hb] at h; simp at h
    | false =>
      rcases Nat.lt_or_ge id n with h1 | h1
      · exact h1
      · rw [show Nat.ble n id = true by rw [Nat.ble_eq]; exact h1] at hb; cases hb
  cases u with
  | pointer a =>
    rcases a with _ | ⟨id, j, s⟩
    · exact hv
    · rcases s with _ | s
      · obtain ⟨g, c, h1, h2⟩ := hv
        exact ⟨g, c, by rw [hlow id (hlt hid)]; exact h1, h2⟩
      · exact absurd hv.1 (by simp [flat1])
  | slice a m c =>
    rcases a with _ | ⟨id, j, s⟩
    · exact hv
    · rcases s with _ | s
      · obtain ⟨g, c1, j', c', h1, h2⟩ := hv
        exact ⟨g, c1, j', c', by rw [hlow id (hlt hid)]; exact h1, h2⟩
      · exact hv
  | map a =>
    rcases a with _ | id
    · exact hv
    · obtain ⟨g, c, h1, h2⟩ := hv
      exact ⟨g, c, by rw [hlow id (hlt hid)]; exact h1, h2⟩
  | _ => exact hv
theorem VL.plain : ∀ {us vs : List Value}, (∀ id, id < n → φ' id = φ id) → us.all (fun v => (idA n v).isEmpty) = true → VL (VA φ) us vs → VL (VA φ') us vs
  | [], [], _, _, _ => trivial
  | a :: us, b :: vs, hl, ha, h => by
    simp only [List.all_cons, Bool.and_eq_true] at ha
    exact ⟨h.1.plain hl ha.1, VL.plain hl ha.2 h.2⟩
  | [], _ :: _, _, _, h => h.elim
  | _ :: _, [], _, _, h => h.elim
theorem ObjR.plain {P : Program} {o : AObj} {w : World} {g c : Nat} (hlow : ∀ id, id < n → φ' id = φ id) (hp : plainO n o = true) (h : ObjR P φ o w g c) : ObjR P φ' o w g c := by
  unfold ObjR at *
  unfold plainO at hp
  split at h
  · trivial
  · rename_i e ro cs
    obtain ⟨ds, fz, h1, h2, h3⟩ := h
    exact ⟨ds, fz, h1, h2.plain hlow hp, h3⟩
  · exact h
end

/-- the heap after a sweep -/
theorem sweep_get {h2 : Hp} {n : Nat} : ∀ (l : List Nat) (k : Nat) (h : Hp) (id : Nat), ((l.zipIdx k).foldl (fun h x => h.set (n + x.2) (h2.get x.1)) h).get id = if n + k ≤ id ∧ id < n + k + l.length then h2.get (l.getD (id - (n + k)) 0) else h.get id := by
  intro l
  induction l with
  | nil => intro k h id; simp; omega
  | cons a l ih =>
    intro k h id
    simp only [List.zipIdx_cons, List.foldl_cons]
    rw [ih (k + 1), Hp.get_set]
    by_cases h1 : id = n + k
    · subst h1
      simp
      omega
    · by_cases h2 : n + (k + 1) ≤ id ∧ id < n + (k + 1) + l.length
      · have e : id - (n + k) = (id - (n + (k + 1))) + 1 := by omega
        rw [if_pos h2, if_pos ⟨by omega, by simp; omega⟩, e]
        simp
      · rw [if_neg h2, if_neg h1, if_neg (fun h3 => by simp at h3; omega)]

section
variable {P : Program} {F : CallE} {S : Nat}

theorem sweep_ok {φ φ2 : Mp} {h h2 : Hp} {n n2 : Nat} {v v' : Value} {w w' : World} (hv : VC φ2 v v') (f : Fr φ φ2 h h2 n n2 (fun id => n ≤ id) w w') (m0 : MemR P φ h n w S) (m : MemR P φ2 h2 n2 w' S) :
    ∃ φ3, VC φ3 (sweep h n (v, h2, n2)).1 v' ∧ Fr φ φ3 h (sweep h n (v, h2, n2)).2.1 n (sweep h n (v, h2, n2)).2.2 (fun id => n ≤ id) w w' ∧ MemR P φ3 (sweep h n (v, h2, n2)).2.1 (sweep h n (v, h2, n2)).2.2 w' S := by
  unfold sweep
  dsimp only
  generalize hl : once (idV n v) = l
  cases hc : (noFn v && l.all (fun id => Nat.blt id n2 && plainO n (h2.get id))) with
  | false => exact ⟨φ2, hv, f, m⟩
  | true =>
    simp only [cond_true]
    rw [Bool.and_eq_true] at hc
    obtain ⟨hnf, hall⟩ := hc
    have hmem : ∀ k ∈ idV n v, k ∈ l := fun k hk => by rw [← hl]; exact once_mem hk
    have hnd : l.Nodup := by rw [← hl]; exact once_nodup _
    have hpl : ∀ k ∈ l, plainO n (h2.get k) = true := fun k hk => by
      have := List.all_eq_true.1 hall k hk
      rw [Bool.and_eq_true] at this
      exact this.2
    have hge : ∀ k ∈ l, n ≤ k := fun k hk => idV_ge (once_sub (by rw [hl]; exact hk))
    let φ3 : Mp := fun id => if id < n then φ2 id else if id < n + l.length then φ2 (l.getD (id - n) 0) else none
    have h3lt : ∀ id, id < n → φ3 id = φ2 id := fun id h => by simp only [φ3, if_pos h]
    have h3in : ∀ id, n ≤ id → id < n + l.length → φ3 id = φ2 (l.getD (id - n) 0) := fun id h1 h2 => by simp only [φ3, if_neg (show ¬ id < n by omega), if_pos h2]
    have h3ge : ∀ id, n + l.length ≤ id → φ3 id = none := fun id h => by simp only [φ3, if_neg (show ¬ id < n by omega), if_neg (show ¬ id < n + l.length by omega)]
    have hget : ∀ id, ((l.zipIdx).foldl (fun h x => h.set (n + x.2) (h2.get x.1)) h).get id = if n ≤ id ∧ id < n + l.length then h2.get (l.getD (id - n) 0) else h.get id := fun id => by
      have := sweep_get (h2 := h2) (n := n) l 0 h id
      simpa using this
    have hlmem : ∀ id, n ≤ id → id < n + l.length → l.getD (id - n) 0 ∈ l := fun id h1 h2 => by
      have : id - n < l.length := by omega
      simp [this]
    have hR : Ren φ2 φ3 n l := fun id hid => by
      by_cases hin : id ∈ l
      · obtain ⟨j, h1, h2⟩ := reN_in hin n
        have hj : j < l.length := (List.getElem?_eq_some_iff.1 h1).1
        rw [h2, h3in _ (by omega) (by omega), Nat.add_sub_cancel_left]
        simp [h1]
      · rw [reN_out (n := n) hin]
        have : id < n := by
          rcases Nat.lt_or_ge id n with h | h
          · exact h
          · exact absurd (hid h) hin
        exact h3lt id this
    have hkeep : ∀ id, id < n → h2.get id = h.get id := fun id hid => f.keep id hid (by omega)
    have halive : ∀ k ∈ l, h2.get k ≠ none := fun k hk hd => by
      have := hpl k hk
      rw [hd] at this
      simp [plainO] at this
    have hinj : ∀ k k' g c c', k ∈ l → k' ∈ l → k ≠ k' → φ2 k = some (g, c) → φ2 k' = some (g, c') → False := fun k k' g c c' hk hk' hne h1 h2 => by
      rcases Nat.lt_trichotomy k k' with h | h | h
      · exact halive k hk (m.inj k k' g c c' h h1 h2)
      · exact hne h
      · exact halive k' hk' (m.inj k' k g c' c h h2 h1)
    refine ⟨φ3, hv.ren hR hmem hnf, ?_, ?_⟩
    · refine ⟨fun id hid => ?_, f.fr, fun id hid _ => ?_, fun id g c h1 h4 h5 => ?_, fun id id' g c c' h1 h4 h5 h6 h7 => ?_, fun id hid hd => ?_, fun id hid _ => ?_, by omega, f.sz, f.os, f.tape, f.output⟩
      · rcases hid with h1 | h1
        · rw [h3lt id h1]; exact f.ext id (.inl h1)
        · rw [h3ge id h1]; exact (m0.fn id (by omega)).symm
      · rw [hget, if_neg (by omega)]
      · rw [h3in id h1 h4] at h5
        have hm2 := hlmem id h1 h4
        have hn := hge _ hm2
        have hlt2 : l.getD (id - n) 0 < n2 := by
          rcases Nat.lt_or_ge (l.getD (id - n) 0) n2 with h | h
          · exact h
          · rw [m.fn _ h] at h5; cases h5
        rcases f.new _ g c hn hlt2 h5 with h6 | ⟨id0, c0, h6, h7, -⟩
        · exact .inl h6
        · omega
      · exfalso
        rw [h3in id h1 (by omega)] at h6
        rw [h3in id' (by omega) h5] at h7
        refine hinj _ _ g c c' (hlmem id h1 (by omega)) (hlmem id' (by omega) h5) (fun e => ?_) h6 h7
        have ha : id - n < l.length := by omega
        have hb : id' - n < l.length := by omega
        simp [ha, hb] at e
        have := nodup_inj hnd ha hb e
        omega
      · rw [hget, if_neg (by omega)]; exact hd
      · rw [hget, if_neg (by omega)]
    · refine ⟨fun id hid => h3ge id hid, fun id g c hp => ?_, fun id id' g c c' h1 h4 h5 => ?_, fun id hid => ?_, m.hS⟩
      · rw [hget]
        rcases Nat.lt_or_ge id n with h1 | h1
        · rw [h3lt id h1] at hp
          rw [if_neg (by omega), ← hkeep id h1]
          obtain ⟨h4, h5⟩ := m.obj id g c hp
          refine ⟨?_, h5⟩
          rw [hkeep id h1]
          have h6 := (m0.obj id g c (by rw [← f.ext id (.inl h1)]; exact hp)).1
          have h7 : w'.heap[g]? = w.heap[g]? := f.fr g (m0.obj id g c (by rw [← f.ext id (.inl h1)]; exact hp)).2.2 fun id0 c0 h8 h9 => by omega
          refine h6.mono (fun k p hk => ?_) h7
          rcases Nat.lt_or_ge k n with h8 | h8
          · rw [h3lt k h8, f.ext k (.inl h8)]; exact hk
          · rw [m0.fn k h8] at hk; cases hk
        · rcases Nat.lt_or_ge id (n + l.length) with h4 | h4
          · rw [h3in id h1 h4] at hp
            rw [if_pos ⟨h1, h4⟩]
            obtain ⟨h5, h6⟩ := m.obj _ g c hp
            exact ⟨h5.plain h3lt (hpl _ (hlmem id h1 h4)), h6⟩
          · rw [h3ge id h4] at hp; cases hp
      · rw [hget]
        have hp' : id' < n + l.length := by
          rcases Nat.lt_or_ge id' (n + l.length) with h | h
          · exact h
          · rw [h3ge id' h] at h5; cases h5
        rcases Nat.lt_or_ge id n with h6 | h6
        · rw [h3lt id h6] at h4
          rw [if_neg (by omega), ← hkeep id h6]
          rcases Nat.lt_or_ge id' n with h7 | h7
          · rw [h3lt id' h7] at h5
            exact m.inj id id' g c c' h1 h4 h5
          · rw [h3in id' h7 hp'] at h5
            have hm2 := hlmem id' h7 hp'
            exact m.inj id _ g c c' (Nat.lt_of_lt_of_le h6 (hge _ hm2)) h4 h5
        · exfalso
          rw [h3in id h6 (by omega)] at h4
          rw [h3in id' (by omega) hp'] at h5
          refine hinj _ _ g c c' (hlmem id h6 (by omega)) (hlmem id' (by omega) hp') (fun e => ?_) h4 h5
          have ha : id - n < l.length := by omega
          have hb : id' - n < l.length := by omega
          simp [ha, hb] at e
          have := nodup_inj hnd ha hb e
          omega
      · rw [hget, if_neg (by omega)]
        exact m0.hb id (by omega)

theorem sweep_st {h h2 : Hp} {n n2 : Nat} {v : Value} (p : Stat h h2 n n2 (fun id => n ≤ id)) (hb : HB h n) : Stat h (sweep h n (v, h2, n2)).2.1 n (sweep h n (v, h2, n2)).2.2 (fun id => n ≤ id) := by
  unfold sweep
  dsimp only
  generalize hl : once (idV n v) = l
  cases hc : (noFn v && l.all (fun id => Nat.blt id n2 && plainO n (h2.get id))) with
  | false => exact p
  | true =>
    simp only [cond_true]
    have hget : ∀ id, ((l.zipIdx).foldl (fun h x => h.set (n + x.2) (h2.get x.1)) h).get id = if n ≤ id ∧ id < n + l.length then h2.get (l.getD (id - n) 0) else h.get id := fun id => by
      have := sweep_get (h2 := h2) (n := n) l 0 h id
      simpa using this
    refine ⟨by omega, fun id hid _ => ?_, fun id hid hd => ?_, fun id hid => ?_⟩
    · rw [hget, if_neg (by omega)]
    · rw [hget, if_neg (by omega)]; exact hd
    · rw [hget, if_neg (by omega)]; exact hb id (by omega)

theorem afunc_sound (hm : P.follows .mixedOrders = true) (hF : SoundF P F) (hF2 : StatF F) (W : FuncId → Bool) (k : Nat) : SoundF P (afunc P F W k) := by
  intro cl g args h n v h' n' he hg hcl φ w S cargs hv m
  unfold afunc at he
  cases hW : W g with
  | true =>
    rw [hW] at he
    exact arun_ok hm hF hF2 he hcl hv m
  | false =>
    rw [hW] at he
    obtain ⟨r, h1, h2⟩ := map_some he
    obtain ⟨v2, h2', n2⟩ := r
    refine Calls.mono (arun_ok hm hF hF2 h1 (Nat.le_refl _) hv m) fun e w' hh => ?_
    obtain ⟨v', φ2, rfl, hv2, f, m2⟩ := hh
    obtain ⟨φ3, q1, q2, q3⟩ := sweep_ok hv2 f m m2
    rw [h2] at q1 q2 q3
    exact ⟨v', φ3, rfl, q1, q2.weaken fun id h5 h6 => by omega, q3⟩
theorem afunc_stat (hF2 : StatF F) (W : FuncId → Bool) (k : Nat) : StatF (afunc P F W k) := by
  intro cl g args h n v h' n' he hcl hb
  unfold afunc at he
  cases hW : W g with
  | true =>
    rw [hW] at he
    exact arun_st hF2 he hcl hb
  | false =>
    rw [hW] at he
    obtain ⟨r, h1, h2⟩ := map_some he
    obtain ⟨v2, h2', n2⟩ := r
    have p := sweep_st (v := v2) (arun_st hF2 h1 (Nat.le_refl _) hb) hb
    rw [h2] at p
    exact p.weaken fun id h5 h6 => by omega
theorem acall_both (hm : P.follows .mixedOrders = true) (W : FuncId → Bool) (k : Nat) : ∀ d, SoundF P (acall P W k d) ∧ StatF (acall P W k d) := by
  intro d
  induction d with
  | zero => exact ⟨fun cl g args h n v h' n' he => (by cases he), fun cl g args h n v h' n' he => (by cases he)⟩
  | succ d ih => exact ⟨afunc_sound hm ih.1 ih.2 W k, afunc_stat ih.2 W k⟩

/-- does a call without arguments return true? -/
def isTrue (r : Option (Value × Hp × Nat)) : Bool := match r with
  | some (.bool b, _) => b
  | _ => false
/-- THE LAW: what the evaluator says of a call without arguments, the machine does; nothing that was there turns. -/
theorem calls_true (hm : P.follows .mixedOrders = true) {W : FuncId → Bool} {k d : Nat} {g : FuncId} (hg : (goodF P g).isSome = true) (he : isTrue (acall P W k d 0 g [] [] 0) = true) (w : World) :
    Calls P g #[] w fun e w' => e = .returned (.bool true) ∧ Below w.heap.size w w' := by
  cases hr : acall P W k d 0 g [] [] 0 with
  | none => rw [hr] at he; cases he
  | some r =>
    obtain ⟨v, h', n'⟩ := r
    rw [hr] at he
    have hv : v = .bool true := by
      unfold isTrue at he
      split at he
      · rename_i b _ hx
        injection hx with hx
        injection hx with hx _
        rw [hx, he]
      · cases he
    subst hv
    have hgd : ∀ id, Hp.get ([] : Hp) id = none := fun id => by unfold Hp.get; rw [lget_eq]; simp
    refine Calls.mono ((acall_both hm W k d).1 0 g [] [] 0 _ h' n' hr (fun h0 => by rw [h0] at hg; cases hg) (Nat.le_refl _) (fun _ => none) w w.heap.size [] trivial ⟨fun _ _ => rfl, fun id g c hp => (by cases hp), fun id id' g c c' _ hp => (by cases hp), fun id _ => hgd id, Nat.le_refl _⟩) fun e w' hh => ?_
    obtain ⟨v', φ', rfl, h1, f, m⟩ := hh
    obtain rfl := h1.bool
    exact ⟨rfl, f.os, f.tape, f.output, f.sz, fun g hg => f.fr g hg fun id c h2 => by omega⟩
end
end Go.Proofs.Ytgdokjfjmcleeaa.Ce
