/- Parts of the proof of TopCode: Co. No condition of its own. -/
import Derived.Maps.AppendAt
import Derived.Laws.CopyRow
import Derived.Laws.Tables
import Derived.Great.BuildSlice
import Derived.Laws.MakeOwn
import Derived.Test.YtkngdfbibffdcaaTaa
set_option linter.unusedVariables false
set_option linter.unusedSimpArgs false
set_option maxRecDepth 100000
set_option maxHeartbeats 4000000
namespace Go.Proofs.Ytkngdfbibffdcaa.Ce
open Go.RowKit
structure PO (P : Program) (φ φ' : Mp) (h h' : Hp) (n n' : Nat) (Wr : Nat → Prop) (w w' : World) (S : Nat) : Prop where
  ext : ∀ id, (id < n ∨ n' ≤ id) → φ' id = φ id
  fr : ∀ g, g < w.heap.size → (∀ id c, id < n → Wr id → h.get id ≠ none → φ id ≠ some (g, c)) → w'.heap[g]? = w.heap[g]?
  keep : ∀ id, id < n → ¬ Wr id → h'.get id = h.get id
  objn : ∀ id g c, (id < n ∧ Wr id ∨ n ≤ id ∧ id < n') → φ' id = some (g, c) → ObjR P φ' (h'.get id) w' g c ∧ S ≤ g ∧ g < w'.heap.size
  new : ∀ id g c, n ≤ id → id < n' → φ' id = some (g, c) → w.heap.size ≤ g ∨ ∃ id0 c0, id0 < n ∧ Wr id0 ∧ φ id0 = some (g, c0) ∧ h.get id0 ≠ none ∧ h'.get id0 = none
  injn : ∀ id id' g c c', n ≤ id → id < id' → id' < n' → φ' id = some (g, c) → φ' id' = some (g, c') → h'.get id = none
  dd : ∀ id, id < n → h.get id = none → h'.get id = none
  un : ∀ id, id < n → φ id = none → h'.get id = h.get id
  nle : n ≤ n'
  sz : w.heap.size ≤ w'.heap.size
  os : w'.os = w.os
  tape : w'.tape = w.tape
  output : w'.output = w.output
section
variable {P : Program} {φ : Mp} {h : Hp} {n : Nat} {w w' : World} {S : Nat}
theorem PO.same (Wr : Nat → Prop) (hWr : ∀ id, ¬ Wr id) : PO P φ φ h h n n Wr w w S :=
  ⟨fun _ _ => rfl, fun _ _ _ => rfl, fun _ _ _ => rfl, fun id g c hh => (by rcases hh with ⟨_, h2⟩ | ⟨h1, h2⟩; exact absurd h2 (hWr _); omega), fun id g c h1 h2 => by omega, fun id id' g c c' h1 h2 => by omega, fun _ _ hd => hd, fun _ _ _ => rfl,
    Nat.le_refl _, Nat.le_refl _, rfl, rfl, rfl⟩
theorem PO.fresh {o : AObj} {c : Nat} {Wr : Nat → Prop} (hWr : ∀ id, ¬ Wr id) (hφ : φ n = none) (hw : ∀ k, k < w.heap.size → w'.heap[k]? = w.heap[k]?) (hsz : w'.heap.size = w.heap.size + 1)
    (hos : w'.os = w.os) (ht : w'.tape = w.tape) (ho : w'.output = w.output) (hS : S ≤ w.heap.size) (hobj : ObjR P (upd φ n (w.heap.size, c)) o w' w.heap.size c) :
    PO P φ (upd φ n (w.heap.size, c)) h (h.set n o) n (n + 1) Wr w w' S := by
  refine ⟨fun id hid => upd_ne _ _ (by omega), fun g hg _ => hw g hg, fun id hid _ => Hp.get_ne _ _ (by omega), ?_, ?_, ?_, fun id hid hd => (by rw [Hp.get_ne _ _ (by omega)]; exact hd), fun id hid _ => Hp.get_ne _ _ (by omega), by omega, by omega, hos, ht, ho⟩
  · intro id g c' hh hp
    rcases hh with ⟨_, h2⟩ | ⟨h1, h2⟩
    · exact absurd h2 (hWr _)
    · obtain rfl : id = n := by omega
      rw [upd_same] at hp
      injection hp with hp
      injection hp with h3 h4
      subst h3; subst h4
      rw [Hp.get_same]
      exact ⟨hobj, hS, by omega⟩
  · intro id g c' h1 h2 hp
    obtain rfl : id = n := by omega
    rw [upd_same] at hp
    injection hp with hp
    injection hp with h3 h4
    exact .inl (by omega)
  · intro id id' g c' c'' h1 h2 h3
    omega
theorem PO.write {o : AObj} {id : Nat} (hid : id < n) (hal : h.get id ≠ none) {Wr : Nat → Prop} (hWr : ∀ k, Wr k ↔ k = id) {g c : Nat} (hφ : φ id = some (g, c)) (hw : ∀ k, k ≠ g → w'.heap[k]? = w.heap[k]?) (hsz : w'.heap.size = w.heap.size)
    (hos : w'.os = w.os) (ht : w'.tape = w.tape) (ho : w'.output = w.output) (hS : S ≤ g) (hg : g < w.heap.size) (hobj : ObjR P φ o w' g c) :
    PO P φ φ h (h.set id o) n n Wr w w' S := by
  refine ⟨fun _ _ => rfl, fun g' hg' hh => ?_, fun k hk hne => Hp.get_ne _ _ fun e => hne ((hWr _).2 e), ?_, ?_, ?_, fun k hk hd => (by rw [Hp.get_ne _ _ (fun e => hal (by rw [← e]; exact hd))]; exact hd), fun k hk hn => Hp.get_ne _ _ (fun e => by rw [e, hφ] at hn; cases hn), Nat.le_refl _, by omega, hos, ht, ho⟩
  · by_cases e : g' = g
    · subst e
      exact absurd hφ (hh id c hid ((hWr _).2 rfl) hal)
    · exact hw g' e
  · intro k g' c' hh hp
    rcases hh with ⟨h1, h2⟩ | ⟨h1, h2⟩
    · obtain rfl := (hWr _).1 h2
      rw [hφ] at hp
      injection hp with hp
      injection hp with h3 h4
      subst h3; subst h4
      rw [Hp.get_same]
      exact ⟨hobj, hS, by omega⟩
    · omega
  · intro k g' c' h1 h2; omega
  · intro k k' g' c' c'' h1 h2; omega
end
def HB (h : Hp) (n : Nat) : Prop := ∀ id, n ≤ id → h.get id = none
theorem HB.lt {h : Hp} {n id : Nat} (hb : HB h n) (hne : h.get id ≠ none) : id < n := by
  rcases Nat.lt_or_ge id n with hlt | hge
  · exact hlt
  · exact absurd (hb id hge) hne
theorem HB.set_ {h : Hp} {n id : Nat} {o : AObj} (hb : HB h n) (hid : id < n) : HB (h.set id o) n := fun k hk => by
  rw [Hp.get_ne _ _ (by omega)]; exact hb k hk
theorem HB.new {h : Hp} {n : Nat} {o : AObj} (hb : HB h n) : HB (h.set n o) (n + 1) := fun k hk => by
  rw [Hp.get_ne _ _ (by omega)]; exact hb k (by omega)
def Good (P : Program) (φ : Mp) (h : Hp) (n : Nat) (w : World) (S : Nat) (e : Ef) (r : Result Value) : Prop :=
  ∃ v' w' φ', r = .ok v' w' ∧ VC φ' e.v v' ∧ PO P φ φ' h e.h n e.n (· ∈ e.wr) w w' S ∧ HB e.h e.n
def GoodU (P : Program) (φ : Mp) (h : Hp) (n : Nat) (w : World) (S : Nat) (e : Ef) (r : Result Unit) : Prop :=
  ∃ w' φ', r = .ok () w' ∧ e.v = undef ∧ PO P φ φ' h e.h n e.n (· ∈ e.wr) w w' S ∧ HB e.h e.n
def Tou (P : Program) (φ : Mp) (h : Hp) (w : World) (S : Nat) (e : Ef) : Prop :=
  ∀ id g c, id ∈ e.rd ∨ id ∈ e.wr → φ id = some (g, c) → ObjR P φ (h.get id) w g c ∧ S ≤ g ∧ g < w.heap.size
section
variable {P : Program} {φ : Mp} {h : Hp} {n : Nat} {w : World} {S : Nat} {e : Ef}
theorem mV_ok {v v' : Value} (hv : VC φ v v') (he : mV v h n = some e) (hb : HB h n) : Good P φ h n w S e (.ok v' w) := by
  injection he with he
  subst he
  exact ⟨v', w, φ, rfl, hv, PO.same _ (by simp), hb⟩
theorem rowOf_some {h : Hp} {id : Nat} {r : Nat × Bool × List Value} (hr : rowOf h id = some r) : h.get id = some (.inl r) := by
  unfold rowOf at hr
  cases hg : h.get id with
  | none => rw [hg] at hr; cases hr
  | some o =>
    rw [hg] at hr
    cases o with
    | inl r' => injection hr with hr; rw [hr]
    | inr m => cases hr
theorem rwOf_some {h : Hp} {id : Nat} {r : Nat × List Value} (hr : rwOf h id = some r) : h.get id = some (.inl (r.1, false, r.2)) := by
  unfold rwOf at hr
  cases hg : rowOf h id with
  | none => rw [hg] at hr; cases hr
  | some o =>
    rw [hg] at hr
    obtain ⟨e, b, cs⟩ := o
    cases b with
    | false => injection hr with hr; rw [← hr]; exact rowOf_some hg
    | true => cases hr
theorem mapOf_some {h : Hp} {id : Nat} {m : Array MapEntry × Nat} (hr : mapOf h id = some m) : h.get id = some (.inr m) := by
  unfold mapOf at hr
  cases hg : h.get id with
  | none => rw [hg] at hr; cases hr
  | some o =>
    rw [hg] at hr
    cases o with
    | inl r' => cases hr
    | inr m' => injection hr with hr; rw [hr]
theorem cells_read {id off k : Nat} {cs : List Value} {g c : Nat} (hc : cellsAt h id off k = some cs) (ho : ObjR P φ (h.get id) w g c) :
    ∃ ds : List Value, VL (VA φ) cs ds ∧ ds.length = k ∧ ∀ (j : Nat) (v : Value), ds[j]? = some v → w.cell? ⟨g, off + j, none⟩ = some v := by
  unfold cellsAt at hc
  cases hr : rowOf h id with
  | none => rw [hr] at hc; cases hc
  | some r =>
    rw [hr] at hc
    obtain ⟨e, ro, row⟩ := r
    change ltake k (ldrop off row) = some cs at hc
    rw [ldrop_eq] at hc
    obtain ⟨h1, h2⟩ := ltake_some _ hc
    rw [rowOf_some hr] at ho
    obtain ⟨ds, fz, hg, hv, -⟩ := ho
    have hlen := hv.len
    refine ⟨((ds.toList.take row.length).drop off).take k, ?_, ?_, fun j v hj => ?_⟩
    · rw [h2]; exact (hv.drop_ off).take_ k
    · have := ((hv.drop_ off).take_ k).len
      rw [← this, List.length_take]; omega
    · have hx : (ds.toList)[off + j]? = some v := by
        rw [List.getElem?_take] at hj
        split at hj
        · rw [List.getElem?_drop, List.getElem?_take] at hj
          split at hj
          · exact hj
          · cases hj
        · cases hj
      rw [cell_of_row w g (off + j) ds e fz hg]
      simpa using hx
theorem run_pair_load {t : TypeId} {g off : Nat} {ds : List Value} (hag : tyAgg P t = some true) (hsz : tySize P t = some ds.length) (hc : ∀ (j : Nat) (v : Value), ds[j]? = some v → w.cell? ⟨g, off + j, none⟩ = some v) :
    (loadVar t ⟨g, off, none⟩).run P w = .ok (.agg ⟨ds⟩) w := by
  have hl := run_loadCells_list (P := P) w ⟨g, off, none⟩ ds (fun j v hv => by rw [add_none]; exact hc j v hv)
  unfold tySize at hsz
  cases hi : P.info? t with
  | none => rw [hi] at hsz; cases hsz
  | some i =>
    rw [hi] at hsz
    injection hsz with hsz
    cases hu : P.underlying t with
    | none => unfold tyAgg at hag; rw [hu] at hag; cases hag
    | some d =>
      unfold tyAgg at hag
      rw [hu] at hag
      cases d <;> first
        | (simp [loadVar, isAgg, run_underlying hu, sizeOf, typeInfo, hi, hsz, hl]; done)
        | (simp at hag; done)
theorem run_one_load {t : TypeId} {g off : Nat} {v : Value} (hag : tyAgg P t = some false) (hc : w.cell? ⟨g, off, none⟩ = some v) :
    (loadVar t ⟨g, off, none⟩).run P w = .ok v w := by
  cases hu : P.underlying t with
  | none => unfold tyAgg at hag; rw [hu] at hag; cases hag
  | some d =>
    unfold tyAgg at hag
    rw [hu] at hag
    cases d <;> first
      | (simp at hag; done)
      | (simp [loadVar, isAgg, run_underlying hu, hc]; done)
theorem cell_read {id off : Nat} {v : Value} {g c : Nat} (hc : cellAt h id off = some v) (ho : ObjR P φ (h.get id) w g c) : ∃ v', VA φ v v' ∧ w.cell? ⟨g, off, none⟩ = some v' := by
  unfold cellAt at hc
  cases hr : rowOf h id with
  | none => rw [hr] at hc; cases hc
  | some r =>
    rw [hr] at hc
    obtain ⟨e, ro, row⟩ := r
    change lget row off = some v at hc
    rw [lget_eq] at hc
    rw [rowOf_some hr] at ho
    obtain ⟨ds, fz, hg, hv, -⟩ := ho
    obtain ⟨v', h1, h2⟩ := hv.at_ hc
    refine ⟨v', h2, ?_⟩
    rw [cell_of_row w g off ds e fz hg]
    rw [List.getElem?_take] at h1
    split at h1
    · simpa using h1
    · cases h1
theorem mLoad_ok {t : TypeId} {x x' : Value} (hx : VC φ x x') (he : mLoad P t x h n = some e) (ht : Tou P φ h w S e) (hb : HB h n) : Good P φ h n w S e ((Instr.loadAt t x').run P w) := by
  unfold mLoad at he
  split at he
  · rename_i id off
    obtain ⟨g, c, hφ, rfl⟩ := hx
    have hrun : ∀ r, (loadVar t ⟨g, off, none⟩).run P w = r → (Instr.loadAt t (.pointer (some ⟨g, off, none⟩))).run P w = r := fun r hr => by
      simp [Instr.loadAt, Instr.sureAddr, hr]
    split at he
    · rename_i hag
      cases hs : tySize P t with
      | none => rw [hs] at he; cases he
      | some sz =>
        rw [hs] at he
        change (cellsAt h id off sz).bind _ = some e at he
        cases hc : cellsAt h id off sz with
        | none => rw [hc] at he; cases he
        | some cs =>
          rw [hc] at he
          injection he with he
          subst he
          obtain ⟨ho, -, -⟩ := ht id g c (.inl (by simp)) hφ
          obtain ⟨ds, hv, hl, hcell⟩ := cells_read hc ho
          refine ⟨_, w, φ, hrun _ (run_pair_load hag (by rw [hs, hl]) hcell), ?_, PO.same _ (by simp), hb⟩
          exact ⟨⟨ds⟩, rfl, hv⟩
    · rename_i hag
      cases hc : cellAt h id off with
      | none => rw [hc] at he; cases he
      | some v =>
        rw [hc] at he
        injection he with he
        subst he
        obtain ⟨ho, -, -⟩ := ht id g c (.inl (by simp)) hφ
        obtain ⟨v', hv, hcell⟩ := cell_read hc ho
        exact ⟨v', w, φ, hrun _ (run_one_load hag hcell), hv.vb.vc, PO.same _ (by simp), hb⟩
    · cases he
  · cases he
theorem size_of {t : TypeId} {k : Nat} (hs : tySize P t = some k) : ∃ i, P.info? t = some i ∧ i.size = k := by
  unfold tySize at hs
  cases hi : P.info? t with
  | none => rw [hi] at hs; cases hs
  | some i => rw [hi] at hs; injection hs with hs; exact ⟨i, rfl, hs⟩
theorem run_storeVar_at {t ty : TypeId} {g off : Nat} {cur : Array Value} {v : Value} (hg : w.heap[g]? = some (.cells cur ty (0, 0))) (hs : tySize P t = some v.cells.toList.length)
    (hl : off + v.cells.toList.length ≤ cur.size) (h1 : ∀ x ∈ v.cells.toList, x.oneCell' = true) :
    (storeVar t ⟨g, off, none⟩ v).run P w = .ok () (w.setRow g (cur.toList.take off ++ v.cells.toList ++ cur.toList.drop (off + v.cells.toList.length)).toArray) := by
  obtain ⟨i, hi, hsz⟩ := size_of hs
  have hst := run_storeCells_at P g off ty v.cells.toList 0 cur w hg (by simpa using hl) h1
  have hsz' : v.cells.size = i.size := by simpa using hsz.symm
  simp [storeVar, sizeOf, typeInfo, hi, hsz']
  rw [← hsz']
  simpa using hst
theorem row_put {id : Nat} {r : Nat × List Value} {vs vs' cs' : List Value} {off g c : Nat} (hr : rwOf h id = some r) (ho : ObjR P φ (h.get id) w g c) (hov : overAt off vs r.2 = some cs') (hv : VL (VA φ) vs vs') :
    ∃ (cur : Array Value), w.heap[g]? = some (.cells cur r.1 (0, 0)) ∧ off + vs'.length ≤ cur.size ∧
      ∀ w' : World, w'.heap[g]? = some (.cells (cur.toList.take off ++ vs' ++ cur.toList.drop (off + vs'.length)).toArray r.1 (0, 0)) → ObjR P φ (.row r.1 false cs') w' g c := by
  obtain ⟨h1, h2⟩ := overAt_some _ _ hov
  rw [rwOf_some hr] at ho
  obtain ⟨ds, fz, hg, hvl, hrw⟩ := ho
  obtain ⟨hcm, rfl, sz, hsz, hds⟩ := hrw rfl
  have hlen := hvl.len
  have hvlen := hv.len
  rw [List.length_take] at hlen
  have hle : r.2.length ≤ ds.size := by have : ds.toList.length = ds.size := by simp
                                        omega
  refine ⟨ds, hg, by omega, fun w' hw' => ?_⟩
  have hcl : cs'.length = r.2.length := by rw [h2]; simp; omega
  have hsize : (ds.toList.take off ++ vs' ++ ds.toList.drop (off + vs'.length)).length = ds.size := by simp; omega
  refine ⟨_, _, hw', ?_, fun _ => ⟨hcm, rfl, sz, hsz, by rw [List.size_toArray, hsize, hds]⟩⟩
  have hv2 : VL (VA φ) cs' ((ds.toList.take r.2.length).take off ++ (vs' ++ (ds.toList.take r.2.length).drop (off + vs'.length))) := by
    rw [h2, hvlen]
    exact (hvl.take_ off).app (hv.app (hvl.drop_ _))
  have heq : (ds.toList.take off ++ vs' ++ ds.toList.drop (off + vs'.length)).take cs'.length = (ds.toList.take r.2.length).take off ++ (vs' ++ (ds.toList.take r.2.length).drop (off + vs'.length)) := by
    rw [hcl]
    apply List.ext_getElem?
    intro i
    simp only [List.getElem?_take, List.getElem?_append, List.getElem?_drop, List.length_take, List.length_append, Array.length_toList]
    grind
  show VL (VA φ) cs' ((ds.toList.take off ++ vs' ++ ds.toList.drop (off + vs'.length)).toArray.toList.take cs'.length)
  rw [List.toList_toArray, heq]
  exact hv2
theorem mStore_ok {lim : Nat} {t : TypeId} {x x' y y' : Value} (hx : VC φ x x') (hy : VC φ y y') (he : mStore P lim t x y h n = some e) (ht : Tou P φ h w S e) (hb : HB h n) : GoodU P φ h n w S e ((Instr.storeAt t x' y').run P w) := by
  unfold mStore at he
  split at he
  · rename_i id off
    obtain ⟨g, c, hφ, rfl⟩ := hx
    simp only [cond_eq_ite, Bool.and_eq_true] at he
    split at he
    · rename_i hc
      obtain ⟨⟨-, hs⟩, hcok⟩ := hc
      have hs' : tySize P t = some y.cells.toList.length := by simpa using hs
      cases hr : rwOf h id with
      | none => rw [hr] at he; cases he
      | some r =>
        rw [hr] at he
        change (overAt off y.cells.toList r.2).bind _ = some e at he
        cases hov : overAt off y.cells.toList r.2 with
        | none => rw [hov] at he; cases he
        | some cs' =>
          rw [hov] at he
          injection he with he
          subst he
          have hcells := hy.cells hcok
          obtain ⟨ho, hS, hgs⟩ := ht id g c (.inr (by simp)) hφ
          obtain ⟨cur, hg, hle, hnew⟩ := row_put hr ho hov hcells
          have hal : h.get id ≠ none := by rw [rwOf_some hr]; simp
          have hid : id < n := hb.lt hal
          have hrun := run_storeVar_at (P := P) (t := t) hg (by rw [hs', hcells.len]) hle (hcells.one_cells hcok)
          have hrun2 : (Instr.storeAt t (.pointer (some ⟨g, off, none⟩)) y').run P w = (storeVar t ⟨g, off, none⟩ y').run P w := by
            simp [Instr.storeAt, Instr.sureAddr]
          rw [hrun2, hrun]
          refine ⟨_, φ, rfl, rfl, PO.write (g := g) (c := c) hid hal (by simp) hφ ?_ ?_ rfl rfl rfl hS hgs (hnew _ (setRow_heap w g cur _ r.1 _ hg)), hb.set_ hid⟩
          · intro k hk
            exact setRow_other w g k _ hk
          · simp
    · cases he
  · cases he
theorem mNew_ok {t : TypeId} {cs cs' : List Value} (hcs : VL (VA φ) cs cs') (he : mNew P t cs h n = some e) (hb : HB h n) (hφ : n < e.n → φ n = none) (hS : S ≤ w.heap.size) :
    Good P φ h n w S e (.ok (.pointer (some ⟨w.heap.size, 0, none⟩)) (w.alloc (.cells ⟨cs'⟩ t))) := by
  unfold mNew at he
  simp only [cond_eq_ite, Bool.and_eq_true] at he
  split at he
  · rename_i hc
    obtain ⟨hcok, hs⟩ := hc
    have hs' : tySize P t = some cs.length := by simpa using hs
    injection he with he
    subst he
    replace hφ := hφ (Nat.lt_succ_self n)
    refine ⟨_, _, upd φ n (w.heap.size, 1), rfl, ⟨w.heap.size, 1, upd_same _ _ _, rfl⟩, PO.fresh (by simp) hφ (fun k hk => Below.heap_alloc _ _ _ hk) (by simp) rfl rfl rfl hS ?_, hb.new⟩
    refine ⟨⟨cs'⟩, (0, 0), heap_alloc_new _ _, ?_, fun _ => ⟨by unfold maxLen; omega, rfl, cs.length, hs', ?_⟩⟩
    · rw [List.take_of_length_le (by simp [hcs.len])]
      exact hcs.imp_ fun _ _ => VA.mono (upd_le _ hφ)
    · simp [hcs.len]
  · cases he
theorem zero_of {t : TypeId} {z : List Value} (hz : tyZero P t = some z) : ∃ i v, P.info? t = some i ∧ i.zero = some v ∧ v.cells.toList = z ∧ z.all flat1 = true := by
  unfold tyZero at hz
  cases hi : P.info? t with
  | none => rw [hi] at hz; cases hz
  | some i =>
    rw [hi] at hz
    change (i.zero).bind _ = some z at hz
    cases hv : i.zero with
    | none => rw [hv] at hz; cases hz
    | some v =>
      rw [hv] at hz
      simp only [Option.bind_some, cond_eq_ite] at hz
      split at hz
      · rename_i hf
        injection hz with hz
        exact ⟨i, v, rfl, hv, hz, by rw [← hz]; exact hf⟩
      · cases hz
theorem mAlloc_ok {t : TypeId} (he : mAlloc P t h n = some e) (hb : HB h n) (hφ : n < e.n → φ n = none) (hS : S ≤ w.heap.size) : Good P φ h n w S e ((Instr.alloc t true (.tuple #[])).run P w) := by
  unfold mAlloc at he
  cases hz : tyZero P t with
  | none => rw [hz] at he; cases he
  | some z =>
    rw [hz] at he
    obtain ⟨i, v, hi, hv, hvz, hf⟩ := zero_of hz
    have := mNew_ok (P := P) (φ := φ) (S := S) (w := w) (VL.flat_refl hf) he hb hφ hS
    have hrun : (Instr.alloc t true (.tuple #[])).run P w = .ok (.pointer (some ⟨w.heap.size, 0, none⟩)) (w.alloc (.cells ⟨z⟩ t)) := by
      have hvc : v.cells = ⟨z⟩ := by rw [← hvz]
      simp [Instr.alloc, zeroValue, typeInfo, hi, hv, newVar, newRow, hvc]
    rw [hrun]
    exact this
theorem run_box {t : TypeId} {v : Value} : (Instr.box t v).run P w = .ok (.pointer (some ⟨w.heap.size, 0, none⟩)) (w.alloc (.cells v.cells t)) := by
  simp [Instr.box, newVar, newRow]
theorem mPick_ok {c c' x x' y y' : Value} (hc : VC φ c c') (hx : VC φ x x') (hy : VC φ y y') (he : mPick c x y h n = some e) (hb : HB h n) : ∃ b, c' = .bool b ∧ Good P φ h n w S e (.ok (if b then x' else y') w) := by
  unfold mPick at he
  split at he
  · rename_i b
    refine ⟨b, hc.bool, ?_⟩
    cases b
    · exact mV_ok hy he hb
    · exact mV_ok hx he hb
  · cases he
theorem mExtract_ok {x x' : Value} {i : Nat} (hx : VC φ x x') (he : mExtract x i h n = some e) (hb : HB h n) : Good P φ h n w S e ((Instr.extract x' i).run P w) := by
  unfold mExtract at he
  split at he
  · rename_i vs
    rw [lget_eq] at he
    cases hg : vs.toList[i]? with
    | none => rw [hg] at he; cases he
    | some v =>
      rw [hg] at he
      obtain ⟨ds, rfl, hv⟩ := hx
      obtain ⟨v', h1, h2⟩ := hv.at_ hg
      have hd : ds[i]? = some v' := by simpa using h1
      have hrun : (Instr.extract (.tuple ds) i).run P w = .ok v' w := by simp [Instr.extract, hd]
      rw [hrun]
      exact mV_ok h2.vc he hb
  · cases he
theorem elem_of {t e : TypeId} (h : tyElem P t = some e) : P.underlying t = some (.slice e) := by
  unfold tyElem at h
  split at h
  · rename_i e' hu; injection h with h; rw [hu, h]
  · cases h
theorem arr_of {t : TypeId} {p : Nat × Nat} (h : tyArr P t = some p) : ∃ e, P.underlying t = some (.array p.1 e) ∧ tySize P e = some p.2 := by
  unfold tyArr at h
  split at h
  · rename_i k e' hu
    cases hs : tySize P e' with
    | none => rw [hs] at h; cases h
    | some s => rw [hs] at h; injection h with h; subst h; exact ⟨e', hu, hs⟩
  · cases h
theorem places_of {fields : List Field} : ∀ {l : List (Nat × Nat)}, (fields.mapM fun f => (tySize P f.type).map fun s => (f.offset, s)) = some l → ∀ {i : Nat} {p : Nat × Nat}, l[i]? = some p → ∃ f, fields[i]? = some f ∧ f.offset = p.1 ∧ tySize P f.type = some p.2 := by
  induction fields with
  | nil => intro l h i p hp; simp at h; subst h; simp at hp
  | cons f fs ih =>
    intro l h i p hp
    rw [List.mapM_cons] at h
    cases hs : tySize P f.type with
    | none => rw [hs] at h; simp at h
    | some s =>
      rw [hs] at h
      cases hr : fs.mapM (fun f => (tySize P f.type).map fun s => (f.offset, s)) with
      | none => rw [hr] at h; simp at h
      | some l' =>
        rw [hr] at h
        simp at h
        subst h
        cases i with
        | zero => simp at hp; subst hp; exact ⟨f, by simp, rfl, hs⟩
        | succ i => simpa using ih hr (by simpa using hp)
theorem fields_of {t : TypeId} {l : List (Nat × Nat)} (h : tyFields P t = some l) : ∃ fields, P.underlying t = some (.struct fields) ∧ (fields.toList.mapM fun f => (tySize P f.type).map fun s => (f.offset, s)) = some l := by
  unfold tyFields at h
  split at h
  · rename_i fields hu; exact ⟨fields, hu, h⟩
  · cases h
theorem mFieldAddr_ok {s : TypeId} {x x' : Value} {f : Nat} (hx : VC φ x x') (he : mFieldAddr P s x f h n = some e) (hb : HB h n) : Good P φ h n w S e ((Instr.fieldAt s x' f).run P w) := by
  unfold mFieldAddr at he
  split at he
  · rename_i id off
    obtain ⟨g, c, hφ, rfl⟩ := hx
    cases hf : tyFields P s with
    | none => rw [hf] at he; cases he
    | some l =>
      rw [hf] at he
      simp only [Option.bind_some] at he
      rw [lget_eq] at he
      cases hl : l[f]? with
      | none => rw [hl] at he; cases he
      | some p =>
        rw [hl] at he
        simp only [Option.bind_some, cond_eq_ite] at he
        split at he
        · rename_i hpos
          obtain ⟨fields, hu, hm⟩ := fields_of hf
          obtain ⟨fl, h1, h2, h3⟩ := places_of hm hl
          obtain ⟨i, hi, hsz⟩ := size_of h3
          have hfl : fields[f]? = some fl := by simpa using h1
          have hpos' : 0 < p.2 := by simpa using hpos
          have hrun : (Instr.fieldAt s (.pointer (some ⟨g, off, none⟩)) f).run P w = .ok (.pointer (some ⟨g, off + p.1, none⟩)) w := by
            have hne : ¬ i.size = 0 := by omega
            simp [Instr.fieldAt, run_underlying hu, hfl, Instr.sureAddr, fieldPlace, sizeOf, typeInfo, hi, hne, add_none, h2]
          rw [hrun]
          exact mV_ok (show VC φ (.pointer (some ⟨id, off + p.1, none⟩)) _ from ⟨g, c, hφ, rfl⟩) he hb
        · cases he
  · cases he
theorem mIndexAddr_ok {t : TypeId} {x x' ix ix' : Value} (hx : VC φ x x') (hi : VC φ ix ix') (he : mIndexAddr P t x ix h n = some e) (hb : HB h n) : Good P φ h n w S e ((Instr.indexAt t x' ix').run P w) := by
  unfold mIndexAddr at he
  split at he
  · rename_i id off k i
    obtain rfl := hi.int
    obtain ⟨g, c, hφ, rfl⟩ := hx
    cases hf : tyArr P t with
    | none => rw [hf] at he; cases he
    | some p =>
      rw [hf] at he
      simp only [Option.bind_some, cond_eq_ite] at he
      split at he
      · rename_i hlt
        obtain ⟨el, hu, hs⟩ := arr_of hf
        obtain ⟨inf, hinf, hsz⟩ := size_of hs
        have hlt' : i < p.1 := by simpa [Nat.blt_eq] using hlt
        have hrun : (Instr.indexAt t (.pointer (some ⟨g, off, none⟩)) (.int k (.ofNat i))).run P w = .ok (.pointer (some ⟨g, off + i * p.2, none⟩)) w := by
          have h0 : (0 : Int) ≤ (i : Int) ∧ (i : Int) < (p.1 : Int) := by omega
          have h1 : ¬ p.1 ≤ i := by omega
          simp [h1, Instr.indexAt, asIntOf, run_underlying hu, Instr.sureAddr, sizeOf, typeInfo, hinf, hsz, h0, add_none]
        rw [hrun]
        exact mV_ok (show VC φ (.pointer (some ⟨id, off + i * p.2, none⟩)) _ from ⟨g, c, hφ, rfl⟩) he hb
      · cases he
  · rename_i id off len cap k i
    obtain rfl := hi.int
    obtain ⟨g, c, j', c', hφ, rfl, hn, hm, hj, hz⟩ := hx
    cases hf : tyElem P t with
    | none => rw [hf] at he; cases he
    | some el =>
      rw [hf] at he
      simp only [Option.bind_some] at he
      cases hs : tySize P el with
      | none => rw [hs] at he; cases he
      | some sz =>
        rw [hs] at he
        simp only [Option.bind_some, cond_eq_ite] at he
        split at he
        · rename_i hlt
          have hu := elem_of hf
          obtain ⟨inf, hinf, hsz⟩ := size_of hs
          have hlt' : i < len := by simpa [Nat.blt_eq] using hlt
          have hjj : j' = off := by
            rcases hj with hj | ⟨hj, -⟩
            · exact hj
            · omega
          have hrun : (Instr.indexAt t (.slice (some ⟨g, j', none⟩) len c') (.int k (.ofNat i))).run P w = .ok (.pointer (some ⟨g, off + i * sz, none⟩)) w := by
            have h0 : (0 : Int) ≤ (i : Int) ∧ (i : Int) < (len : Int) := by omega
            have h1 : ¬ len ≤ i := by omega
            simp [h1, Instr.indexAt, asIntOf, run_underlying hu, sizeOf, typeInfo, hinf, hsz, h0, add_none, hjj]
          rw [hrun]
          exact mV_ok (show VC φ (.pointer (some ⟨id, off + i * sz, none⟩)) _ from ⟨g, c, hφ, rfl⟩) he hb
        · cases he
  · cases he
theorem mUn_ok {op : UnOp} {x x' : Value} (hx : VC φ x x') (he : mUn P op x h n = some e) (hb : HB h n) : Good P φ h n w S e ((Op.unary op x').run P w) := by
  unfold mUn at he
  split at he
  · rename_i b
    obtain rfl := hx.bool
    have hrun : (Op.unary .not (.bool b)).run P w = .ok (.bool (cond b false true)) w := by cases b <;> simp [Op.unary]
    rw [hrun]
    exact mV_ok (VB.vc (VA.vb (VA.flat rfl))) he hb
  · simp only [cond_eq_ite] at he
    split at he
    · rename_i hf
      have hxe := hx.flat_eq hf
      subst hxe
      cases hr : prun P (Op.unary op x') with
      | none => rw [hr] at he; cases he
      | some v =>
        rw [hr] at he
        simp only [Option.bind_some] at he
        split at he
        · rename_i hv
          rw [prun_run hr w]
          exact mV_ok (VB.vc (VA.vb (VA.flat hv))) he hb
        · cases he
    · cases he
theorem str_of {t : TypeId} (h : tyStr P t = true) : P.underlying t = some .string := by
  unfold tyStr at h
  split at h
  · assumption
  · cases h
theorem u8_of {t : TypeId} (h : tyU8 P t = true) : P.underlying t = some (.int .u8) := by
  unfold tyU8 at h
  split at h
  · assumption
  · cases h
theorem mLen_ok {t ty : TypeId} {x x' : Value} (hx : VC φ x x') (he : mLen P t x h n = some e) (hb : HB h n) : Good P φ h n w S e ((Builtin.len_ #[t] ty #[x']).run P w) := by
  unfold mLen at he
  split at he
  · rename_i a m c
    cases hf : tyElem P t with
    | none => rw [hf] at he; cases he
    | some el =>
      rw [hf] at he
      have hu := elem_of hf
      have hx2 : ∃ a' c', x' = .slice a' m c' := by
        rcases a with _ | ⟨id, j, s⟩
        · exact ⟨none, c, hx.2⟩
        · rcases s with _ | s
          · obtain ⟨g, c1, j', c', _, rfl, _⟩ := hx; exact ⟨_, _, rfl⟩
          · obtain ⟨rfl, a', c', rfl⟩ := hx; exact ⟨_, _, rfl⟩
      obtain ⟨a', c', rfl⟩ := hx2
      have hrun : (Builtin.len_ #[t] ty #[.slice a' m c']).run P w = .ok (goInt m) w := by
        simp [Builtin.len_, run_underlying hu]
      rw [hrun]
      exact mV_ok (VB.vc (VA.vb (VA.flat rfl))) he hb
  · rename_i s
    obtain rfl := hx.str
    simp only [cond_eq_ite] at he
    split at he
    · rename_i hs
      have hu := str_of hs
      have hrun : (Builtin.len_ #[t] ty #[.string s]).run P w = .ok (goInt s.size) w := by
        simp [Builtin.len_, run_underlying hu]
      rw [hrun]
      exact mV_ok (VB.vc (VA.vb (VA.flat rfl))) he hb
    · cases he
  · cases he
theorem mMax_ok {b : Bool} {t ty : TypeId} {ts : Array TypeId} {x x' y y' : Value} (hx : VC φ x x') (hy : VC φ y y') (he : mMax b x y h n = some e) (hb : HB h n) :
    Good P φ h n w S e (((if b then Builtin.max_ ts ty #[x', y'] else Builtin.min_ ts ty #[x', y']) : Sem Value).run P w) := by
  unfold mMax at he
  split at he
  · rename_i k a k' c
    obtain rfl := hx.int
    obtain rfl := hy.int
    cases b
    · have hrun : (Builtin.min_ ts ty #[.int k a, .int k' c]).run P w = .ok (.int k (if c < a then c else a)) w := by simp [Builtin.min_, Builtin.min2]
      simp only [Bool.false_eq_true, if_false]
      rw [hrun]
      exact mV_ok (VB.vc (VA.vb (VA.flat rfl))) he hb
    · have hrun : (Builtin.max_ ts ty #[.int k a, .int k' c]).run P w = .ok (.int k (if c > a then c else a)) w := by simp [Builtin.max_, Builtin.max2]
      simp only [if_true]
      rw [hrun]
      exact mV_ok (VB.vc (VA.vb (VA.flat rfl))) he hb
  · cases he
theorem sliceB_some {v v' : Option Value} {d k : Nat} (hv : ∀ x, v = some x → ∃ x', v' = some x' ∧ VC φ x x') (hn : v = none → v' = none) (h : sliceB v d = some k) :
    (v' = none ∧ k = d) ∨ ∃ kd, v' = some (.int kd (k : Int)) := by
  unfold sliceB at h
  split at h
  · injection h with h; exact .inl ⟨hn rfl, h.symm⟩
  · injection h with h
    subst h
    obtain ⟨x', h1, h2⟩ := hv _ rfl
    exact .inr ⟨_, by rw [h1, h2.int]; rfl⟩
  · cases h
theorem mSlice_ok {t : TypeId} {x x' : Value} {lo lo' hi hi' : Option Value} (hx : VC φ x x') (hlo : ∀ x, lo = some x → ∃ x', lo' = some x' ∧ VC φ x x') (hlo0 : lo = none → lo' = none)
    (hhi : ∀ x, hi = some x → ∃ x', hi' = some x' ∧ VC φ x x') (hhi0 : hi = none → hi' = none) (he : mSlice P t x lo hi h n = some e) (hb : HB h n) : Good P φ h n w S e ((Instr.sliceAt t x' lo' hi' none).run P w) := by
  unfold mSlice at he
  split at he
  · rename_i a len cap
    cases hf : tyElem P t with
    | none => rw [hf] at he; cases he
    | some el =>
      rw [hf] at he
      simp only [Option.bind_some] at he
      have hu := elem_of hf
      split at he
      · rename_i l k size hl hk hs
        obtain ⟨inf, hinf, hsz⟩ := size_of hs
        simp only [cond_eq_ite, Bool.and_eq_true] at he
        split at he
        · rename_i hc
          obtain ⟨⟨hlk, hkl⟩, hpos⟩ := hc
          rw [Nat.ble_eq] at hlk hkl
          rw [Nat.blt_eq] at hpos
          have hbounds : ∀ c', len ≤ c' → (Instr.sliceBounds true len c' lo' hi' none).run P w = .ok (l, k, c') w := by
            intro c' hc'
            have ek : (k : Int) ≤ (c' : Int) := by omega
            have el' : (l : Int) ≤ (k : Int) := by omega
            have n1 : ¬ c' < k := by omega
            have n2 : ¬ k < l := by omega
            have m1 : k ≤ c' := by omega
            rcases sliceB_some hlo hlo0 hl with ⟨rfl, rfl⟩ | ⟨kd, rfl⟩ <;> rcases sliceB_some hhi hhi0 hk with ⟨rfl, rfl⟩ | ⟨kd', rfl⟩ <;>
              simp [m1, hlk, Instr.sliceBounds, Instr.sliceBound, asIntOf, ek, el', n1, n2]
          split at he
          · -- nil
            obtain rfl : x' = .slice none len cap := hx.2
            have hfl : flat1 (.slice none len cap) = true := hx.1
            have h00 : len = 0 ∧ cap = 0 := by
              rcases len with _ | len
              · rcases cap with _ | cap
                · exact ⟨rfl, rfl⟩
                · simp [flat1] at hfl
              · simp [flat1] at hfl
            obtain ⟨rfl, rfl⟩ := h00
            obtain rfl : k = 0 := by omega
            obtain rfl : l = 0 := by omega
            have hrun : (Instr.sliceAt t (.slice none 0 0) lo' hi' none).run P w = .ok (.slice none 0 0) w := by
              simp [Instr.sliceAt, Instr.slice, run_underlying hu, hbounds 0 (Nat.le_refl _), sizeOf, typeInfo, hinf]
            rw [hrun]
            exact mV_ok (VB.vc (VA.vb (VA.flat rfl))) he hb
          · rename_i id off
            obtain ⟨g, c, j', c', hφ, rfl, hn, hm, hj, hz⟩ := hx
            have hrun : (Instr.sliceAt t (.slice (some ⟨g, j', none⟩) len c') lo' hi' none).run P w = .ok (.slice (some ⟨g, if c' = l then j' else j' + l * size, none⟩) (k - l) (c' - l)) w := by
              simp only [Instr.sliceAt, Sem.run_bind, run_underlying hu, Result.andThen_ok, Instr.slice, hbounds c' hn, sizeOf, typeInfo]
              simp [hinf, hsz]
              split <;> simp [add_none]
            rw [hrun]
            refine mV_ok (show VC φ (.slice (some ⟨id, off + l * size, none⟩) (k - l) ((k - l) + (cap - len))) _ from ⟨g, c, _, _, hφ, rfl, by omega, by omega, ?_, ?_, fun h0 h1 => by omega⟩) he hb
            · split
              · exact .inr ⟨by omega, by omega⟩
              · rcases hj with hj | ⟨h1, h2⟩
                · exact .inl (by rw [hj])
                · omega
            · intro h0 hkn hcm0
              obtain ⟨h1, h2⟩ := hz.1 (by omega) (by omega) hcm0
              have hl0 : l = 0 := by
                rcases Nat.eq_zero_or_pos l with h3 | h3
                · exact h3
                · have := Nat.mul_pos h3 hpos; omega
              subst hl0
              refine ⟨?_, by omega⟩
              split <;> omega
          · rename_i id off sp
            obtain ⟨rfl, a', c', rfl⟩ := hx
            obtain rfl : k = 0 := by omega
            obtain rfl : l = 0 := by omega
            have hrun : ∃ a'', (Instr.sliceAt t (.slice (some a') 0 c') lo' hi' none).run P w = .ok (.slice (some a'') 0 c') w := by
              refine ⟨if c' = 0 then a' else a'.add 0, ?_⟩
              simp only [Instr.sliceAt, Sem.run_bind, run_underlying hu, Result.andThen_ok, Instr.slice, hbounds c' (Nat.zero_le _), sizeOf, typeInfo]
              simp [hinf, hsz]
              split <;> simp
            obtain ⟨a'', hrun⟩ := hrun
            rw [hrun]
            exact mV_ok (show VC φ (.slice (some ⟨id, off, some sp⟩) (0 - 0) (0 - 0)) _ from ⟨rfl, a'', c', rfl⟩) he hb
        · cases he
      · cases he
  · rename_i s
    obtain rfl := hx.str
    simp only [cond_eq_ite] at he
    split at he
    · rename_i hst
      have hu := str_of hst
      split at he
      · rename_i l k hl hk
        simp only [Bool.and_eq_true] at he
        split at he
        · rename_i hc
          obtain ⟨hlk, hkl⟩ := hc
          rw [Nat.ble_eq] at hlk hkl
          have hbounds : (Instr.sliceBounds false s.size s.size lo' hi' none).run P w = .ok (l, k, s.size) w := by
            have ek : (k : Int) ≤ (s.size : Int) := by omega
            have el' : (l : Int) ≤ (k : Int) := by omega
            have n1 : ¬ s.size < k := by omega
            have n2 : ¬ k < l := by omega
            rcases sliceB_some hlo hlo0 hl with ⟨rfl, rfl⟩ | ⟨kd, rfl⟩ <;> rcases sliceB_some hhi hhi0 hk with ⟨rfl, rfl⟩ | ⟨kd', rfl⟩ <;>
              simp [hkl, hlk, Instr.sliceBounds, Instr.sliceBound, asIntOf, ek, el', n1, n2]
          have hrun : (Instr.sliceAt t (.string s) lo' hi' none).run P w = .ok (.string (s.extract l k)) w := by
            simp [Instr.sliceAt, Instr.slice, run_underlying hu, hbounds]
          rw [hrun]
          exact mV_ok (VB.vc (VA.vb (VA.flat rfl))) he hb
        · cases he
      · cases he
    · cases he
  · rename_i id off
    obtain ⟨g, c, hφ, rfl⟩ := hx
    obtain ⟨p, hpa, he⟩ := Option.bind_eq_some_iff.1 he
    obtain ⟨el, hu, hs⟩ := arr_of hpa
    obtain ⟨inf, hinf, hsz⟩ := size_of hs
    split at he
    · rename_i l k hl hk
      simp only [cond_eq_ite, Bool.and_eq_true] at he
      split at he
      · rename_i hc
        obtain ⟨⟨hlk, hkl⟩, hmx⟩ := hc
        rw [Nat.ble_eq] at hlk hkl hmx
        have hbounds : (Instr.sliceBounds false p.1 p.1 lo' hi' none).run P w = .ok (l, k, p.1) w := by
          have ek : (k : Int) ≤ (p.1 : Int) := by omega
          have el' : (l : Int) ≤ (k : Int) := by omega
          have n1 : ¬ p.1 < k := by omega
          have n2 : ¬ k < l := by omega
          rcases sliceB_some hlo hlo0 hl with ⟨rfl, rfl⟩ | ⟨kd, rfl⟩ <;> rcases sliceB_some hhi hhi0 hk with ⟨rfl, rfl⟩ | ⟨kd', rfl⟩ <;>
            simp [hkl, hlk, Instr.sliceBounds, Instr.sliceBound, asIntOf, ek, el', n1, n2]
        have hrun : (Instr.sliceAt t (.pointer (some ⟨g, off, none⟩)) lo' hi' none).run P w = .ok (.slice (some ⟨g, if p.1 = l then off else off + l * p.2, none⟩) (k - l) (p.1 - l)) w := by
          simp only [Instr.sliceAt, Sem.run_bind, run_underlying hu, Result.andThen_ok]
          simp [Instr.sureAddr, hbounds, sizeOf, typeInfo, hinf, hsz]
          split <;> simp [add_none]
        rw [hrun]
        refine mV_ok (show VC φ (.slice (some ⟨id, off + l * p.2, none⟩) (k - l) (k - l + 1)) _ from ⟨g, c, _, _, hφ, rfl, by omega, by unfold maxLen; omega, ?_, fun _ hh => absurd hh (by omega), fun h0 => absurd h0 (by omega)⟩) he hb
        split
        · exact .inr ⟨by omega, by omega⟩
        · exact .inl rfl
      · cases he
    · cases he
  · cases he
theorem VC.scal_eq {u v : Value} (hs : scal u = true) (hv : VC φ u v) : v = u := by
  cases u with
  | agg cs =>
    obtain ⟨ds, rfl, h2⟩ := hv
    have := VL.flat_eq hs h2
    exact congrArg Value.agg (Array.toList_inj.1 this)
  | _ => exact hv.flat_eq hs
theorem bool_ok {t : TypeId} {x y : Value} {b : Bool} (hr : prun P (Op.equal t x y) = some b) : (Op.equal t x y).run P w = .ok b w := prun_run hr w
theorem ibits_ok {op : BinOp} {f : Nat → Nat → Nat} (hop : (op = .and ∧ f = Nat.land) ∨ (op = .or ∧ f = Nat.lor)) {k : IntKind} {a b : Int} {v : Value} (hv : ibits P op f k a b = some v) : (Op.intBits op k a b).run P w = .ok v w := by
  unfold ibits at hv
  cases hk : isU64 k with
  | false => rw [hk] at hv; exact prun_run hv w
  | true =>
    rw [hk] at hv
    have hk' : k = .u64 := by cases k <;> first | rfl | (simp [isU64] at hk; done) | cases hk
    subst hk'
    cases a with
    | negSucc m => cases hv
    | ofNat m =>
      cases b with
      | negSucc m' => cases hv
      | ofNat m' =>
        simp only [cond_eq_ite, Bool.and_eq_true, Nat.blt_eq] at hv
        split at hv
        · rename_i hlt
          injection hv with hv
          subst hv
          rcases hop with ⟨rfl, rfl⟩ | ⟨rfl, rfl⟩
          · have hx := u64_and_nat m m' hlt.1 hlt.2
            simp only [Op.intBits, Sem.run_pure]
            exact congrArg (fun z => Result.ok (Value.int .u64 z) w) hx
          · have hx := u64_or_nat m m' hlt.1 hlt.2
            simp only [Op.intBits, Sem.run_pure]
            exact congrArg (fun z => Result.ok (Value.int .u64 z) w) hx
        · cases hv
theorem eql_run {t : TypeId} {x y : Value} {b : Bool} (hd : binOp .eql t x y = (do pure (Value.bool (← Op.equal t x y)))) (hr : (Op.equal t x y).run P w = .ok b w) : (binOp .eql t x y).run P w = .ok (.bool b) w := by
  rw [hd, Sem.run_bind, hr]; rfl
theorem neq_run {t : TypeId} {x y : Value} {b : Bool} (hd : binOp .neq t x y = (do pure (Value.bool (!(← Op.equal t x y))))) (hr : (Op.equal t x y).run P w = .ok b w) : (binOp .neq t x y).run P w = .ok (.bool (!b)) w := by
  rw [hd, Sem.run_bind, hr]; rfl
theorem asI_some {x : Value} {p : IntKind × Int} (hx : asI x = some p) : x = .int p.1 p.2 := by
  unfold asI at hx
  split at hx
  · injection hx with hx; rw [← hx]
  · cases hx
theorem kindNo_eq {k k' : IntKind} (hk : Nat.beq (kindNo k) (kindNo k') = true) : k = k' := by
  cases k <;> cases k' <;> first | rfl | (exfalso; revert hk; decide)
theorem iop_ok {op : BinOp} {t : TypeId} {k : IntKind} {a b : Int} {v : Value} (hv : iop P op k a b = some v) : (binOp op t (.int k a) (.int k b)).run P w = .ok v w := by
  cases op with
  | add => injection hv with hv; subst hv; simp [binOp, Op.intArith]
  | sub => injection hv with hv; subst hv; simp [binOp, Op.intArith]
  | mul => injection hv with hv; subst hv; simp [binOp, Op.intArith]
  | quo => simpa [binOp] using prun_run (P := P) hv w
  | rem => simpa [binOp] using prun_run (P := P) hv w
  | and => simpa [binOp] using ibits_ok (P := P) (w := w) (.inl ⟨rfl, rfl⟩) hv
  | or => simpa [binOp] using ibits_ok (P := P) (w := w) (.inr ⟨rfl, rfl⟩) hv
  | xor => simpa [binOp] using prun_run (P := P) hv w
  | shl => cases hv
  | shr => cases hv
  | andNot => simpa [binOp] using prun_run (P := P) hv w
  | eql => injection hv with hv; subst hv; simp [binOp, Op.intCmp]
  | neq => injection hv with hv; subst hv; simp [binOp, Op.intCmp]
  | lss => injection hv with hv; subst hv; simp [binOp, Op.intCmp]
  | leq => injection hv with hv; subst hv; simp [binOp, Op.intCmp]
  | gtr => injection hv with hv; subst hv; simp [binOp, Op.intCmp]
  | geq => injection hv with hv; subst hv; simp [binOp, Op.intCmp]
theorem map_some {α β : Type} {f : α → β} {o : Option α} {v : β} (hv : o.map f = some v) : ∃ b, o = some b ∧ f b = v := by
  cases o with
  | none => cases hv
  | some b => injection hv with hv; exact ⟨b, rfl, hv⟩
theorem abin2_ok {op : BinOp} {t : TypeId} {x x' y y' : Value} {X Y : Operand} {v : Value} (hx : VC φ x x') (hy : VC φ y y') (hv : abin2 P op t x y = some v) :
    (eqGuard op t X Y x' y').run P w = .ok () w ∧ (binOp op t x' y').run P w = .ok v w := by
  unfold abin2 at hv
  split at hv
  · -- texts
    obtain rfl := hx.str
    obtain rfl := hy.str
    refine ⟨?_, ?_⟩
    · cases op <;> simp [eqGuard]
    · cases op <;> simpa [binOp] using prun_run (P := P) hv w
  · obtain rfl := hx.bool
    obtain rfl := hy.bool
    obtain ⟨r, h1, rfl⟩ := map_some hv
    exact ⟨by simp [eqGuard], eql_run rfl (bool_ok h1)⟩
  · rename_i a n c
    obtain ⟨el, h1, rfl⟩ := map_some hv
    have hu := elem_of h1
    obtain rfl : y' = .slice none 0 0 := hy.2
    have hx2 : ∃ b m c', x' = .slice (some b) m c' := by
      obtain ⟨id, j, s⟩ := a
      rcases s with _ | s
      · obtain ⟨g, c1, j', c', _, rfl, _⟩ := hx; exact ⟨_, _, _, rfl⟩
      · obtain ⟨_, a', c', rfl⟩ := hx; exact ⟨_, _, _, rfl⟩
    obtain ⟨b, m, c', rfl⟩ := hx2
    exact ⟨by simp [eqGuard], by have := Lib.run_eql_slice_nil (P := P) w t el (some b) m c' 0 0 hu; simpa using this⟩
  · rename_i a n c
    obtain ⟨el, h1, rfl⟩ := map_some hv
    have hu := elem_of h1
    obtain rfl : y' = .slice none 0 0 := hy.2
    have hx2 : ∃ b m c', x' = .slice (some b) m c' := by
      obtain ⟨id, j, s⟩ := a
      rcases s with _ | s
      · obtain ⟨g, c1, j', c', _, rfl, _⟩ := hx; exact ⟨_, _, _, rfl⟩
      · obtain ⟨_, a', c', rfl⟩ := hx; exact ⟨_, _, _, rfl⟩
    obtain ⟨b, m, c', rfl⟩ := hx2
    exact ⟨by simp [eqGuard], by have := run_neq_slice_nil_any (P := P) w t el (some b) m c' 0 0 hu; simpa using this⟩
  · rename_i a b
    split at hv
    · cases hv
    · rename_i hcond
      have hc3 : P.eqGuardType P.depth t = false ∧ scal (.agg a) = true ∧ scal (.agg b) = true := by
        cases h1 : P.eqGuardType P.depth t <;> cases h2 : scal (.agg a) <;> cases h3 : scal (.agg b) <;> simp_all
      obtain ⟨hg, hsx, hsy⟩ := hc3
      obtain rfl := hx.scal_eq hsx
      obtain rfl := hy.scal_eq hsy
      obtain ⟨r, h1, rfl⟩ := map_some hv
      have hp : ∀ w, (program).run P w = .ok P w := fun _ => rfl
      exact ⟨by simp [eqGuard, hp, hg], eql_run rfl (bool_ok h1)⟩
  · rename_i a b
    split at hv
    · cases hv
    · rename_i hcond
      have hc3 : P.eqGuardType P.depth t = false ∧ scal (.agg a) = true ∧ scal (.agg b) = true := by
        cases h1 : P.eqGuardType P.depth t <;> cases h2 : scal (.agg a) <;> cases h3 : scal (.agg b) <;> simp_all
      obtain ⟨hg, hsx, hsy⟩ := hc3
      obtain rfl := hx.scal_eq hsx
      obtain rfl := hy.scal_eq hsy
      obtain ⟨r, h1, rfl⟩ := map_some hv
      have hp : ∀ w, (program).run P w = .ok P w := fun _ => rfl
      exact ⟨by simp [eqGuard, hp, hg], neq_run rfl (bool_ok h1)⟩
  · obtain rfl := hx.bool
    obtain rfl := hy.bool
    obtain ⟨r, h1, rfl⟩ := map_some hv
    exact ⟨by simp [eqGuard], neq_run rfl (bool_ok h1)⟩
  · obtain ⟨el, h1, rfl⟩ := map_some hv
    have hu := elem_of h1
    obtain rfl : x' = .slice none 0 0 := hx.2
    obtain rfl : y' = .slice none 0 0 := hy.2
    exact ⟨by simp [eqGuard], by have := Lib.run_eql_slice_nil (P := P) w t el none 0 0 0 0 hu; simpa using this⟩
  · obtain ⟨el, h1, rfl⟩ := map_some hv
    have hu := elem_of h1
    obtain rfl : x' = .slice none 0 0 := hx.2
    obtain rfl : y' = .slice none 0 0 := hy.2
    exact ⟨by simp [eqGuard], by have := run_neq_slice_nil_any (P := P) w t el none 0 0 0 0 hu; simpa using this⟩
  · cases hv
theorem mBin_ok {op : BinOp} {t : TypeId} {x x' y y' : Value} {X Y : Operand} (hx : VC φ x x') (hy : VC φ y y') (he : mBin P op t x y h n = some e) (hb : HB h n) :
    Good P φ h n w S e ((do eqGuard op t X Y x' y'; binOp op t x' y' : Sem Value).run P w) := by
  unfold mBin at he
  cases hv : abin P op t x y with
  | none => rw [hv] at he; cases he
  | some v =>
    rw [hv] at he
    simp only [Option.bind_some, cond_eq_ite] at he
    split at he
    · rename_i hf
      have key : (eqGuard op t X Y x' y').run P w = .ok () w ∧ (binOp op t x' y').run P w = .ok v w := by
        unfold abin at hv
        cases h1 : asI x with
        | none => rw [h1] at hv; exact abin2_ok hx hy hv
        | some p =>
          rw [h1] at hv
          cases h2 : asI y with
          | none => rw [h2] at hv; cases hv
          | some q =>
            rw [h2] at hv
            obtain ⟨k, a⟩ := p
            obtain ⟨k', b⟩ := q
            have e1 := asI_some h1
            have e2 := asI_some h2
            subst e1; subst e2
            obtain rfl := hx.int
            obtain rfl := hy.int
            have hg : (eqGuard op t X Y (.int k a) (.int k' b)).run P w = .ok () w := by cases op <;> simp [eqGuard]
            refine ⟨hg, ?_⟩
            cases hs : isSh op with
            | true =>
              rw [hs] at hv
              have hr := prun_run (P := P) hv w
              cases op <;> first | (simpa [binOp] using hr) | (exfalso; revert hs; decide)
            | false =>
              rw [hs] at hv
              cases hk : Nat.beq (kindNo k) (kindNo k') with
              | false => simp only [hk] at hv; cases hv
              | true =>
                obtain rfl := kindNo_eq hk
                simp only [hk] at hv
                exact iop_ok hv
      have hrun : (do eqGuard op t X Y x' y'; binOp op t x' y' : Sem Value).run P w = .ok v w := by
        simp [key.1, key.2]
      rw [hrun]
      exact mV_ok (VB.vc (VA.vb (VA.flat hf))) he hb
    · cases he
theorem flat_str (s : ByteArray) : VC φ (.string s) (.string s) := VB.vc (VA.vb (VA.flat rfl))
theorem bytesOf_some : ∀ {vs : List Value} {l : List UInt8}, bytesOf vs = some l → vs = bv l
  | [], l, hl => by simp [bytesOf] at hl; subst hl; rfl
  | .int .u8 (.ofNat m) :: vs, l, hl => by
    simp only [bytesOf, cond_eq_ite] at hl
    split at hl
    · rename_i hm
      obtain ⟨l', h1, rfl⟩ := map_some hl
      rw [bytesOf_some h1]
      rw [Nat.blt_eq] at hm
      simp only [bv, List.map_cons]
      congr 2
      simp [Nat.mod_eq_of_lt hm]
    · cases hl
  | .int .u8 (.negSucc m) :: vs, l, hl => by simp [bytesOf] at hl
  | .int .i8 _ :: vs, l, hl => by simp [bytesOf] at hl
  | .int .i16 _ :: vs, l, hl => by simp [bytesOf] at hl
  | .int .i32 _ :: vs, l, hl => by simp [bytesOf] at hl
  | .int .i64 _ :: vs, l, hl => by simp [bytesOf] at hl
  | .int .u16 _ :: vs, l, hl => by simp [bytesOf] at hl
  | .int .u32 _ :: vs, l, hl => by simp [bytesOf] at hl
  | .int .u64 _ :: vs, l, hl => by simp [bytesOf] at hl
  | .bool _ :: vs, l, hl => by simp [bytesOf] at hl
  | .float _ _ :: vs, l, hl => by simp [bytesOf] at hl
  | .complex _ _ _ :: vs, l, hl => by simp [bytesOf] at hl
  | .string _ :: vs, l, hl => by simp [bytesOf] at hl
  | .pointer _ :: vs, l, hl => by simp [bytesOf] at hl
  | .slice _ _ _ :: vs, l, hl => by simp [bytesOf] at hl
  | .map _ :: vs, l, hl => by simp [bytesOf] at hl
  | .chan _ :: vs, l, hl => by simp [bytesOf] at hl
  | .func _ _ _ :: vs, l, hl => by simp [bytesOf] at hl
  | .nilFunc :: vs, l, hl => by simp [bytesOf] at hl
  | .iface _ _ :: vs, l, hl => by simp [bytesOf] at hl
  | .nilIface :: vs, l, hl => by simp [bytesOf] at hl
  | .agg _ :: vs, l, hl => by simp [bytesOf] at hl
  | .tuple _ :: vs, l, hl => by simp [bytesOf] at hl
theorem bv_flat (l : List UInt8) : (bv l).all flat1 = true := by
  simp only [bv, List.all_map, List.all_eq_true]
  intro x _
  rfl
theorem run_string_at (src dst el : TypeId) (hs : P.underlying src = some (.slice el)) (he : P.underlying el = some (.int .u8)) (hd : P.underlying dst = some .string)
    (b off : Nat) (xs : List UInt8) (c : Nat) (hc : ∀ (j : Nat) (v : Value), (bv xs)[j]? = some v → w.cell? ⟨b, off + j, none⟩ = some v) : (convert src dst (.slice (some ⟨b, off, none⟩) xs.length c)).run P w = .ok (.string ⟨xs.toArray⟩) w := by
  have hl : (loadCells ⟨b, off, none⟩ xs.length).run P w = .ok ((xs.map fun x => (x.toNat : Int)).map (Value.int .u8)).toArray w := by
    have := run_loadCells_list (P := P) w ⟨b, off, none⟩ (bv xs) (fun j v hv => by rw [add_none]; exact hc j v hv)
    rw [bv_length] at this
    rw [this]
    simp [bv]
  rw [run_convert_bytes_string w src dst el _ _ _ hs he hd, run_bytesToString w _ _ _ _ hl]
  congr 2
  have key : ∀ (l : List UInt8) (r : ByteArray), (l.map fun x => (x.toNat : Int)).foldl (fun r n => r.push (UInt8.ofNat n.toNat)) r = ⟨r.data ++ l.toArray⟩ := by
    intro l
    induction l with
    | nil => intro r; simp
    | cons x l ih =>
      intro r
      simp only [List.map_cons, List.foldl_cons]
      rw [ih]
      simp [ByteArray.push]
  rw [key]
  simp [ByteArray.empty, ByteArray.emptyWithCapacity]
  rfl
theorem kind_of {t : TypeId} {k : IntKind} (h : tyInt P t = some k) : P.underlying t = some (.int k) := by
  unfold tyInt at h
  split at h
  · rename_i k' hu; injection h with h; rw [hu, h]
  · cases h
end
end Go.Proofs.Ytkngdfbibffdcaa.Ce
namespace Go.Proofs.Ytkngdfbibffdcaa.Ce
open Go.RowKit
section
variable {P : Program} {φ : Mp} {h : Hp} {n : Nat} {w : World} {S : Nat} {e : Ef}
theorem appendCap_ge (w : World) (need old : Nat) (el : TypeId) (hn : need ≤ 1000000) : ∃ cap w1, (choose (.appendCap need old el)).run P w = .ok cap w1 ∧ need ≤ cap ∧ w1.heap = w.heap ∧ w1.os = w.os ∧ w1.tape = w.tape ∧ w1.output = w.output ∧ cap < 9223372036854775808 := by
  refine ⟨_, _, rfl, ?_, rfl, rfl, rfl, rfl, ?_⟩
  · simp only [Question.cut]; omega
  · have hpos : 0 < 2 ^ 63 - need := by omega
    have := Nat.mod_lt (w.tape w.drawn (.appendCap need old el)) hpos
    simp only [Question.cut]
    omega
theorem run_bytes_of (s : ByteArray) (el : TypeId) (hsz : s.size ≤ 1000000) : ∃ (w2 : World) (cap : Nat) (ds : Array Value) (fz : Nat × Nat), (Conv.stringToBytes el s).run P w = .ok (.slice (some ⟨w.heap.size, 0, none⟩) s.size cap) w2 ∧
    w2.heap[w.heap.size]? = some (.cells ds el fz) ∧ ds.toList.take (bvals s).length = bvals s ∧ s.size ≤ cap ∧ cap ≤ maxLen ∧ (∀ k, k < w.heap.size → w2.heap[k]? = w.heap[k]?) ∧ w2.heap.size = w.heap.size + 1 ∧ w2.os = w.os ∧ w2.tape = w.tape ∧ w2.output = w.output := by
  obtain ⟨cap, w1, hch, hge, hh, hos, htp, hou, hlt⟩ := appendCap_ge (P := P) w s.size 0 el hsz
  have hz : w1.heap.size = w.heap.size := by rw [hh]
  obtain ⟨D, hD⟩ : ∃ D : Array Value, D = (s.data.map fun b : UInt8 => Value.int .u8 (b.toNat : Int)) ++ Array.replicate (cap - s.size) (Value.int .u8 0) := ⟨_, rfl⟩
  have hDs : D.size = cap := by rw [hD]; simp; show s.size + _ = _; omega
  have hnew : (w1.alloc (.cells D el)).heap[w1.heap.size]? = some (.cells D el (0, 0)) := heap_alloc_new _ _
  refine ⟨(w1.alloc (.cells D el)).freeze ⟨w1.heap.size, cap, none⟩ 1, cap, D, (cap, cap + 1), ?_, ?_, ?_, hge, ?_, ?_, ?_, hos, htp, hou⟩
  · have hsh : (w1.alloc (.cells D el)).shape? w1.heap.size = some (el, cap) := by
      unfold World.shape?
      rw [hnew]
      simp [hDs]
    simp only [Conv.stringToBytes, Sem.run_bind, hch, Result.andThen_ok, newRow, run_newObj_alloc, Sem.run_pure, markStringish, shape, Sem.run, freeze, ← hD, hsh]
    rw [hz]
  · rw [← hz]
    unfold World.freeze
    rw [if_neg (by decide)]
    show ((w1.alloc (.cells D el)).heap.modify w1.heap.size _)[w1.heap.size]? = _
    rw [Array.getElem?_modify, if_pos rfl, hnew]
    rfl
  · rw [hD]
    simp [bvals, List.take_append_of_le_length]
  · unfold maxLen; omega
  · intro k hk
    have h1 : (w1.alloc (.cells D el)).heap[k]? = w.heap[k]? := by rw [Below.heap_alloc _ _ _ (by omega), hh]
    have hne : w1.heap.size ≠ k := by omega
    rw [← h1]
    unfold World.freeze
    rw [if_neg (by decide)]
    show ((w1.alloc (.cells D el)).heap.modify w1.heap.size _)[k]? = _
    rw [Array.getElem?_modify, if_neg hne]
  · simp [World.freeze, hz]
theorem run_self (t el : TypeId) (hu : P.underlying t = some (.slice el)) (hu8 : P.underlying el = some (.int .u8)) (g len c : Nat) (ds : Array Value) (e0 : TypeId) (hg : w.heap[g]? = some (.cells ds e0 (0, 0))) :
    ∃ w' : World, (convert t t (.slice (some ⟨g, 0, none⟩) len c)).run P w = .ok (.slice (some ⟨g, 0, none⟩) len c) w' ∧ (∃ fz, w'.heap[g]? = some (.cells ds e0 fz)) ∧ (∀ k, k ≠ g → w'.heap[k]? = w.heap[k]?) ∧ w'.heap.size = w.heap.size ∧ w'.os = w.os ∧ w'.tape = w.tape ∧ w'.output = w.output := by
  refine ⟨w.freeze { block := g, off := ds.size } 1, ?_, ?_, ?_, ?_, rfl, rfl, rfl⟩
  · have hsh : w.shape? g = some (e0, ds.size) := by simp [World.shape?, hg]
    simp [convert, run_underlying hu, run_underlying hu8, markStringish, shape, Sem.run, freeze, hsh]
  · unfold World.freeze
    rw [if_neg (by decide)]
    apply Exists.intro
    show (w.heap.modify g _)[g]? = _
    rw [Array.getElem?_modify, if_pos rfl, hg]
    rfl
  · intro k hk
    unfold World.freeze
    rw [if_neg (by decide)]
    show (w.heap.modify g _)[k]? = _
    rw [Array.getElem?_modify, if_neg (Ne.symm hk)]
  · simp [World.freeze]
theorem mConvert_ok {src dst : TypeId} {x x' : Value} (hx : VC φ x x') (he : mConvert P src dst x h n = some e) (ht : Tou P φ h w S e) (hb : HB h n) (hφ : n < e.n → φ n = none) (hS : S ≤ w.heap.size) :
    Good P φ h n w S e ((convert src dst x').run P w) := by
  unfold mConvert at he
  split at he
  · rename_i k i
    obtain rfl := hx.int
    split at he
    · rename_i d hk hd hkk
      have hu := kind_of hkk
      have hrun : (convert src dst (.int k i)).run P w = (Conv.intToInt hk i).run P w := by
        simp [convert, run_underlying hd, run_underlying hu]
      rw [hrun]
      cases hr : prun P (Conv.intToInt hk i) with
      | none => rw [hr] at he; cases he
      | some v =>
        rw [hr] at he
        rw [prun_run hr w]
        have hv : v = .int hk (hk.wrap i) := by injection hr with hr; exact hr.symm
        subst hv
        exact mV_ok (VB.vc (VA.vb (VA.flat rfl))) he hb
    · rename_i d hd hno hst
      have hu := str_of hst
      have hrun : (convert src dst (.int k i)).run P w = (Conv.intToString i).run P w := by
        simp [convert, run_underlying hd, run_underlying hu]
      rw [hrun]
      cases hr : prun P (Conv.intToString i) with
      | none => rw [hr] at he; cases he
      | some v =>
        rw [hr] at he
        rw [prun_run hr w]
        have hv : v = .string (Utf8.encode i) := by injection hr with hr; exact hr.symm
        subst hv
        exact mV_ok (VB.vc (VA.vb (VA.flat rfl))) he hb
    · cases he
  · rename_i s
    obtain rfl := hx.str
    split at he
    · rename_i d el hd hel
      simp only [cond_eq_ite, Bool.and_eq_true] at he
      split at he
      · rename_i hc
        obtain ⟨h8, hsz⟩ := hc
        rw [Nat.ble_eq] at hsz
        injection he with he
        subst he
        replace hφ := hφ (Nat.lt_succ_self n)
        have hu8 := u8_of h8
        have hu := elem_of hel
        have hconv : (convert src dst (.string s)).run P w = (Conv.stringToBytes el s).run P w := by
          simp [convert, run_underlying hd, run_underlying hu, run_underlying hu8]
        obtain ⟨w2, cap, ds, fz, hrun, hg2, hv, hge, hle, hk2, hs2, ho2, ht2, hu2⟩ := run_bytes_of (P := P) (w := w) s el hsz
        refine ⟨_, w2, upd φ n (w.heap.size, cap), hconv.trans hrun, ⟨w.heap.size, cap, 0, cap, upd_same _ _ _, rfl, hge, hle, .inl rfl, fun _ _ _ => ⟨rfl, rfl⟩, fun h0 h1 => absurd h1 (by omega)⟩, PO.fresh (by simp) hφ hk2 hs2 ho2 ht2 hu2 hS ⟨ds, fz, hg2, ?_, fun hh => by cases hh⟩, hb.new⟩
        rw [hv]
        exact VL.flat_refl (bv_flat _)
      · cases he
    · cases he
  · obtain ⟨a', c', rfl⟩ := hx.empty
    split at he
    · rename_i h8 hst
      have hd := str_of hst
      obtain ⟨el, hel, hu8⟩ := map_some h8
      have hu := elem_of hel
      have hu8' := u8_of hu8
      have hrun : (convert src dst (.slice (some a') 0 c')).run P w = .ok (.string ⟨#[]⟩) w := by
        rw [run_convert_bytes_string w src dst el _ _ _ hu hu8' hd]
        simp [Conv.bytesToString, Builtin.firstCells, loadCells, loadCellsFrom]
        rfl
      rw [hrun]
      exact mV_ok (flat_str _) he hb
    · cases he
  · rename_i id off len cap hne
    obtain ⟨g, c, j', c', hp, rfl, hn, hm, hj, hz⟩ := hx
    split at he
    · rename_i h8 hst
      dsimp only at he
      have hd := str_of hst
      obtain ⟨el, hel, hu8⟩ := map_some h8
      have hu := elem_of hel
      have hu8' := u8_of hu8
      cases hc : cellsAt h id off len with
      | none => rw [hc] at he; cases he
      | some cs =>
        rw [hc] at he
        simp only [Option.bind_some] at he
        cases hl : bytesOf cs with
        | none => rw [hl] at he; cases he
        | some l =>
          rw [hl] at he
          injection he with he
          subst he
          obtain ⟨ho, -, -⟩ := ht id g c (.inl (by simp)) hp
          obtain ⟨ds, hv, hlen, hcell⟩ := cells_read hc ho
          obtain rfl := bytesOf_some hl
          obtain rfl := VL.flat_eq (bv_flat l) hv
          rw [bv_length] at hlen
          subst hlen
          by_cases hl0 : l.length = 0
          · have : l = [] := List.eq_nil_of_length_eq_zero hl0
            subst this
            have hrun : (convert src dst (.slice (some ⟨g, j', none⟩) 0 c')).run P w = .ok (.string ⟨#[]⟩) w := by
              have := run_string_at (P := P) (w := w) src dst el hu hu8' hd g j' [] c' (fun j v hj => by simp [bv] at hj)
              exact this
            exact ⟨_, w, φ, hrun, flat_str _, PO.same _ (by simp), hb⟩
          · have hjj : j' = off := by
              rcases hj with hj | ⟨hj, -⟩
              · exact hj
              · omega
            subst hjj
            exact ⟨_, w, φ, run_string_at src dst el hu hu8' hd g j' l c' hcell, flat_str _, PO.same _ (by simp), hb⟩
    · rename_i h8 hst
      simp only [cond_eq_ite, Bool.and_eq_true] at he
      split at he
      · rename_i hcnd
        obtain ⟨⟨e1, e2⟩, e3⟩ := hcnd
        rw [Nat.beq_eq] at e1 e2 e3
        subst e1; subst e2; subst e3
        cases hr : rwOf h id with
        | none => rw [hr] at he; cases he
        | some r =>
          rw [hr] at he
          injection he with he
          subst he
          replace hφ := hφ (Nat.lt_succ_self n)
          obtain ⟨el, hel, hu8⟩ := map_some h8
          have hu := elem_of hel
          have hu8' := u8_of hu8
          obtain ⟨ho, hSg, hgs⟩ := ht id g c (.inr (by simp)) hp
          rw [rwOf_some hr] at ho
          obtain ⟨ds, fz, hg0, hv0, hrw⟩ := ho
          obtain ⟨hcm0, rfl, sz, hsz, hds⟩ := hrw rfl
          obtain ⟨rfl, rfl⟩ := hz.1 rfl (Nat.zero_le _) hcm0
          have hal : h.get id ≠ none := by rw [rwOf_some hr]; simp
          have hid : id < n := hb.lt hal
          have hids : id ≠ n := by omega
          obtain ⟨w', hrun, hg', hoth, hsize, ho1, ho2, ho3⟩ := run_self (P := P) (w := w) src el hu hu8' g len c' ds r.1 hg0
          unfold Good
          dsimp only
          refine ⟨_, w', upd φ n (g, c'), hrun, ⟨g, c', 0, c', upd_same _ _ _, rfl, hn, hm, .inl rfl, fun _ _ _ => ⟨rfl, rfl⟩, hz.2⟩, ⟨fun k hk => upd_ne _ _ (by omega), fun k hk hh => hoth k (fun hk2 => ?_), fun k hk hne => ?_, ?_, ?_, ?_, fun k hk hd => ?_, fun k hk hn2 => ?_, by omega, Nat.le_of_eq hsize.symm, ho1, ho2, ho3⟩, fun k hk => ?_⟩
          · subst hk2
            exact hh id c' hid (by simp) hal hp
          · rw [Hp.get_ne _ _ (by omega), Hp.get_ne _ _ (fun hk2 => hne (by simp [hk2]))]
          · intro k g2 c2 hh hp2
            rcases hh with ⟨hk, hh⟩ | ⟨hh1, hh2⟩
            · obtain rfl : k = id := by simpa using hh
              rw [upd_ne _ _ hids, hp] at hp2
              injection hp2 with hp2
              injection hp2 with hp3 hp4
              subst hp3; subst hp4
              rw [Hp.get_ne _ _ hids, Hp.get_same]
              exact ⟨trivial, hSg, by rw [hsize]; exact hgs⟩
            · obtain rfl : k = n := by omega
              rw [upd_same] at hp2
              injection hp2 with hp2
              injection hp2 with hp3 hp4
              subst hp3; subst hp4
              rw [Hp.get_same]
              obtain ⟨fz2, hg'⟩ := hg'
              exact ⟨⟨ds, fz2, hg', hv0.imp_ fun _ _ => VA.mono (upd_le _ hφ), fun hh => by cases hh⟩, hSg, by rw [hsize]; exact hgs⟩
          · intro k g2 c2 h1 h2 hp2
            obtain rfl : k = n := by omega
            rw [upd_same] at hp2
            injection hp2 with hp2
            injection hp2 with hp3 hp4
            refine .inr ⟨id, c', hid, by simp, by rw [hp, ← hp3], hal, ?_⟩
            rw [Hp.get_ne _ _ hids, Hp.get_same]
          · intro k k' g2 c2 c3 h1 h2 h3; omega
          · have hkid : k ≠ id := fun e => hal (by rw [← e]; exact hd)
            rw [Hp.get_ne _ _ (by omega), Hp.get_ne _ _ hkid]
            exact hd
          · have hkid : k ≠ id := fun e => by rw [e, hp] at hn2; cases hn2
            rw [Hp.get_ne _ _ (by omega), Hp.get_ne _ _ hkid]
          · have hk' : n + 1 ≤ k := hk
            rw [Hp.get_ne _ _ (by omega), Hp.get_ne _ _ (by omega)]
            exact hb k (by omega)
      · cases he
    · cases he
  · obtain rfl : x' = .slice none 0 0 := hx.2
    split at he
    · rename_i h8 hst
      have hd := str_of hst
      obtain ⟨el, hel, hu8⟩ := map_some h8
      have hu := elem_of hel
      have hu8' := u8_of hu8
      have hrun : (convert src dst (.slice none 0 0)).run P w = .ok (.string ⟨#[]⟩) w := by
        rw [run_convert_bytes_string w src dst el _ _ _ hu hu8' hd]
        simp [Conv.bytesToString]
        rfl
      rw [hrun]
      exact mV_ok (flat_str _) he hb
    · cases he
  · cases he
theorem mIndex_ok {t : TypeId} {x x' ix ix' : Value} (hx : VC φ x x') (hi : VC φ ix ix') (he : mIndex P t x ix h n = some e) (hb : HB h n) : Good P φ h n w S e ((Instr.index t x' ix').run P w) := by
  unfold mIndex at he
  split at he
  · rename_i s k i
    obtain rfl := hx.str
    obtain rfl := hi.int
    simp only [cond_eq_ite] at he
    split at he
    · rename_i hst
      have hu := str_of hst
      rw [lget_eq] at he
      cases hg : s.data.toList[i]? with
      | none => rw [hg] at he; cases he
      | some b =>
        rw [hg] at he
        have hlt : i < s.data.toList.length := by
          rcases Nat.lt_or_ge i s.data.toList.length with hlt | hge
          · exact hlt
          · rw [List.getElem?_eq_none hge] at hg; cases hg
        have hsz : i < s.size := by simpa using hlt
        have hb' : s[i]? = some b := by
          have h1 : s.data[i]? = some b := by simpa using hg
          have h2 : i < s.data.size := by simpa using hlt
          have h3 : s[i]? = some (s.data[i]) := by simp [getElem?_pos, hsz]; rfl
          rw [h3, ← h1]
          simp [h2]
        have hrun : (Instr.index t (.string s) (.int k (.ofNat i))).run P w = .ok (.int .u8 b.toNat) w := by
          have h0 : (0 : Int) ≤ (i : Int) := by omega
          simp [Instr.index, asIntOf, run_underlying hu, h0, hb']
        rw [hrun]
        exact mV_ok (VB.vc (VA.vb (VA.flat rfl))) he hb
    · cases he
  · rename_i cs k i
    obtain rfl := hi.int
    obtain ⟨ds, rfl, hv⟩ := hx
    cases hf : tyArr P t with
    | none => rw [hf] at he; cases he
    | some p =>
      rw [hf] at he
      simp only [Option.bind_some, cond_eq_ite, Bool.and_eq_true] at he
      split at he
      · rename_i hc
        obtain ⟨h1, hlt⟩ := hc
        rw [Nat.beq_eq] at h1
        rw [Nat.blt_eq] at hlt
        obtain ⟨el, hu, hs⟩ := arr_of hf
        obtain ⟨inf, hinf, hsz⟩ := size_of hs
        rw [hu] at he
        simp only at he
        split at he
        · rename_i hag
          rw [lget_eq] at he
          cases hg : cs.toList[i]? with
          | none => rw [hg] at he; cases he
          | some v =>
            rw [hg] at he
            obtain ⟨v', h2, h3⟩ := hv.at_ hg
            have hd : ds[i]? = some v' := by simpa using h2
            have hagr : (isAgg el).run P w = .ok false w := by
              unfold tyAgg at hag
              cases hue : P.underlying el with
              | none => rw [hue] at hag; cases hag
              | some d =>
                rw [hue] at hag
                cases d <;> first
                  | (simp at hag; done)
                  | (simp [isAgg, run_underlying hue]; done)
            have hrun : (Instr.index t (.agg ds) (.int k (.ofNat i))).run P w = .ok v' w := by
              have h0 : (0 : Int) ≤ (i : Int) ∧ (i : Int) < (p.1 : Int) := by omega
              have h4 : ¬ p.1 ≤ i := by omega
              simp [Instr.index, asIntOf, run_underlying hu, hlt, h4, sizeOf, typeInfo, hinf, hsz, h1, part, hagr, hd]
            rw [hrun]
            exact mV_ok h3.vb.vc he hb
        · cases he
      · cases he
  · cases he
theorem set_run (off : Nat) : ∀ (l : List Value) (k : Nat) (cells : Array Value), off + k + l.length ≤ cells.size →
    ((l.zipIdx k).foldl (fun cs p => cs.setIfInBounds (off + p.2) p.1) cells).toList = cells.toList.take (off + k) ++ (l ++ cells.toList.drop (off + k + l.length))
  | [], k, cells, hl => by simp
  | v :: l, k, cells, hl => by
    rw [List.zipIdx_cons, List.foldl_cons, set_run off l (k + 1) _ (by simp at hl ⊢; omega)]
    simp only [Array.toList_setIfInBounds]
    simp at hl
    apply List.ext_getElem?
    intro i
    simp only [List.getElem?_append, List.getElem?_take, List.getElem?_drop, List.getElem?_set, List.length_take, List.length_set, Array.length_toList, List.length_cons, List.getElem?_cons]
    grind
def PL (φ : Mp) : List (Nat × Value) → List (Nat × Value) → Prop
  | [], [] => True
  | a :: l, b :: m => (a.1 = b.1 ∧ VC φ a.2 b.2) ∧ PL φ l m
  | _, _ => False
theorem fill_ok {place : Nat → Option (Nat × Nat)} : ∀ {ps ps' : List (Nat × Value)} {us us' : List Value} {cells : Array Value}, PL φ ps ps' → VL (VA φ) us cells.toList → fillL place us ps = some us' →
    ∃ cells', Instr.fill place cells ps' = some cells' ∧ VL (VA φ) us' cells'.toList
  | [], [], us, us', cells, _, hv, hf => by injection hf with hf; subst hf; exact ⟨cells, rfl, hv⟩
  | (i, u) :: ps, (i', v) :: ps', us, us', cells, hp, hv, hf => by
    obtain ⟨⟨hi, huv⟩, hrest⟩ := hp
    simp only at hi huv
    subst hi
    simp only [fillL] at hf
    cases hpl : place i with
    | none => rw [hpl] at hf; cases hf
    | some p =>
      obtain ⟨off, size⟩ := p
      rw [hpl] at hf
      simp only [cond_eq_ite, Bool.and_eq_true] at hf
      split at hf
      · rename_i hc
        obtain ⟨h1, hcok⟩ := hc
        rw [Nat.beq_eq] at h1
        have hcells := huv.cells hcok
        cases hov : overAt off u.cells.toList us with
        | none => rw [hov] at hf; cases hf
        | some us1 =>
          rw [hov] at hf
          simp only [Option.bind_some] at hf
          obtain ⟨h2, h3⟩ := overAt_some _ _ hov
          have hl1 := hcells.len
          have hl2 := hv.len
          have hsz : off + v.cells.toList.length ≤ cells.size := by simp at hl2; omega
          have hrun := set_run off v.cells.toList 0 cells (by simpa using hsz)
          have hv1 : VL (VA φ) us1 (v.cells.zipIdx.foldl (fun cs p => cs.setIfInBounds (off + p.2) p.1) cells).toList := by
            rw [← Array.foldl_toList, Array.toList_zipIdx, hrun, h3, hl1]
            simp only [Nat.add_zero]
            exact (hv.take_ off).app (hcells.app (hv.drop_ _))
          obtain ⟨cells', h4, h5⟩ := fill_ok hrest hv1 hf
          refine ⟨cells', ?_, h5⟩
          simp only [Instr.fill, hpl]
          have hx1 : v.cells.toList.length = v.cells.size := by simp
          have hA : v.cells.size = size := by omega
          have hB : ¬ off + v.cells.size > cells.size := by omega
          rw [if_neg (by simp [hA]; simp at hB; omega)]
          exact h4
      · cases hf
  | [], _ :: _, _, _, _, h, _, _ => h.elim
  | _ :: _, [], _, _, _, h, _, _ => h.elim
theorem PL.mk {ρ ρ' : Operand → Value} : ∀ {l : List (Nat × Operand)}, (∀ x ∈ l, VC φ (ρ x.2) (ρ' x.2)) → PL φ (l.map fun p => (p.1, ρ p.2)) (l.map fun p => (p.1, ρ' p.2))
  | [], _ => trivial
  | x :: l, hx => ⟨⟨rfl, hx x (by simp)⟩, PL.mk fun y hy => hx y (by simp [hy])⟩
theorem mBuild_ok {t : TypeId} {ps : List (Nat × Value)} {ps' : Array (Nat × Value)} (hp : PL φ ps ps'.toList) (he : mBuild P t ps h n = some e) (hb : HB h n) : Good P φ h n w S e ((Instr.build t ps').run P w) := by
  unfold mBuild at he
  have fin : ∀ {z us' : List Value} {cells' : Array Value}, P.built t ps'.toList = some cells' → VL (VA φ) us' cells'.toList → mV (.agg ⟨us'⟩) h n = some e → Good P φ h n w S e ((Instr.build t ps').run P w) := by
    intro z us' cells' h1 h2 h3
    rw [run_build w t ps' cells' h1]
    exact mV_ok (show VC φ (.agg ⟨us'⟩) (.agg cells') from ⟨cells', rfl, h2⟩) h3 hb
  cases hz : tyZero P t with
  | none => rw [hz] at he; simp at he
  | some z =>
    obtain ⟨i, v, hi, hiz, hvz, hf⟩ := zero_of hz
    cases hpl : tyFields P t with
    | some places =>
      rw [hz, hpl] at he
      simp only at he
      obtain ⟨fields, hu, hm⟩ := fields_of hpl
      cases hfl : fillL (lget places) z ps with
      | none => rw [hfl] at he; cases he
      | some us' =>
        rw [hfl] at he
        have hpl' : (lget places : Nat → Option (Nat × Nat)) = (places.toArray[·]?) := by funext i; rw [lget_eq]; simp
        rw [hpl'] at hfl
        obtain ⟨cells', h1, h2⟩ := fill_ok hp (cells := v.cells) (by rw [hvz]; exact VL.flat_refl hf) hfl
        refine fin (z := z) ?_ h2 he
        unfold Program.built
        rw [hi, hu]
        simp only [hiz]
        have hm' : (fields.toList.mapM fun f => (P.info? f.type).map fun i => (f.offset, i.size)) = some places := by
          rw [← hm]
          congr 1
          funext f
          unfold tySize
          cases P.info? f.type <;> rfl
        rw [hm']
        exact h1
    | none =>
      cases harr : tyArr P t with
      | none => rw [hz, hpl, harr] at he; simp at he
      | some p =>
        obtain ⟨a, size⟩ := p
        rw [hz, hpl, harr] at he
        simp only at he
        obtain ⟨el, hu, hs⟩ := arr_of harr
        obtain ⟨inf, hinf, hsz⟩ := size_of hs
        simp only at hsz
        cases hfl : fillL (fun i => some (i * size, size)) z ps with
        | none => rw [hfl] at he; cases he
        | some us' =>
          rw [hfl] at he
          obtain ⟨cells', h1, h2⟩ := fill_ok hp (cells := v.cells) (by rw [hvz]; exact VL.flat_refl hf) hfl
          refine fin (z := z) ?_ h2 he
          unfold Program.built
          rw [hi, hu]
          simp only [hiz, hinf, hsz]
          exact h1
end
end Go.Proofs.Ytkngdfbibffdcaa.Ce
