/- Parts of the proof of ValueStores: Ot, Ow. No condition of its own. -/
import Derived.Deep.SlicePairs
import Derived.Test.YtcpkdjikembpnaaVtai
import Derived.Test.YtcpkdjikembpnaaVtal
import Derived.Test.YtcpkdjikembpnaaVtam
import Derived.Test.YtcpkdjikembpnaaVtbe
set_option linter.unusedVariables false
set_option linter.unusedSimpArgs false
set_option maxRecDepth 100000
set_option maxHeartbeats 4000000
namespace Go.Proofs.Ytcpkdjikembpnaa
open Go.ChangeShapes Go.WideShapes Go.ChangeAt Go.RowKit Go.Joins Go.Deep
section
variable {H : Type} {enc : TypeId × Value → H} {P : Program} {w : World} {base : Nat}
end
end Go.Proofs.Ytcpkdjikembpnaa
namespace Go.Proofs.Ytcpkdjikembpnaa
open Go.ChangeShapes Go.WideShapes Go.ChangeAt Go.RowKit Go.Joins Go.Deep
theorem list_of {α : Type} {Q : Nat → α → Prop} : ∀ {m : Nat}, (∀ i, i < m → ∃ r, Q i r) → ∃ l : List α, l.length = m ∧ ∀ i (hi : i < l.length), Q i l[i]
 | 0, _ => ⟨[], rfl, fun i hi => by simp at hi⟩
 | n + 1, h => by
  obtain ⟨l, hl, hx⟩ := list_of fun i (hi : i < n) => h i (by omega)
  obtain ⟨r, hr⟩ := h n (by omega)
  refine ⟨l ++ [r], by simp [hl], fun i hi => ?_⟩
  by_cases hlt : i < l.length
  ·rw [List.getElem_append_left hlt]; exact hx i hlt
  ·have : i = l.length := by simp at hi; omega
   subst this
   rw [List.getElem_append_right (Nat.le_refl _)]
   simp only [Nat.sub_self, List.getElem_singleton, hl]
   exact hr
section
variable {H : Type} {enc : TypeId × Value → H} {P : Program} {w : World} {base : Nat}
theorem open_fields_cell {t e ts ti : TypeId} {f0 f1 : Field} {held : Bool} {fuel : Nat} {v : Value} {x : DataW H × List MemPlace} (ht : P.underlying t = some (.slice e)) (he : P.underlying e = some (.struct #[f0, f1]))
  (ce : P.cellsOf e = 2) (o0 : f0.offset = 0) (o1 : f1.offset = 1) (c0 : P.cellsOf f0.type = 1) (c1 : P.cellsOf f1.type = 1) (h0 : f0.type = ts) (h1 : f1.type = ti) (hs : P.underlying ts = some .string) (hi : P.underlying ti = some (.int .i64))
  (h : DataW.trod enc P w base (fun _ => true) held fuel t [v] = some x) :
  ∃ (A : Option Addr) (fs : List (List UInt8 × Int)) (c : Nat), v = .slice A fs.length c ∧ Rd w w.heap.size A (Ce.fv fs) ∧ fs.length ≤ c ∧ c ≤ 9223372036854775807 ∧ (A = none → c = 0) ∧ ∀ f ∈ fs, Ce.I64 f.2 := by
 rcases open_slice_pairs ht he ce o0 o1 c0 c1 h with ⟨hcs, _⟩ | ⟨a, len, cap, m, n, V0, V1, D0, D1, P0, P1, hcs, _, hl, hmx, hmm, _, hx⟩
 ·injection hcs with hcs _
  exact ⟨none, [], 0, hcs, Rd.nil_, by simp, by omega, fun _ => rfl, by simp⟩
 ·injection hcs with hcs _
  simp at hmm
  obtain ⟨fs, hfl, hfx⟩ := list_of (m := len) (Q := fun i (f : List UInt8 × Int) => w.cell? (a.add (i * 2)) = some (.string ⟨⟨f.1⟩⟩) ∧ w.cell? (a.add (i * 2 + 1)) = some (.int .i64 f.2) ∧ Ce.I64 f.2) fun i hi' => by
   obtain ⟨k0, k1, t0, t1⟩ := hx i (by omega)
   rw [h0] at t0
   rw [h1] at t1
   obtain ⟨s, e0, _, _⟩ := DataW.trod_string hs t0
   obtain ⟨b, e1, _, wb⟩ := DataW.trod_int hi t1
   injection e0 with e0 _
   injection e1 with e1 _
   exact ⟨(s.data.toList, b), by rw [k0, e0], by rw [k1, e1], bounds_i64 wb⟩
  refine ⟨some a, fs, cap, by rw [hfl, hcs], rd_of_cells fun q v hq => ?_, by omega, by unfold maxLen at hmx; omega, fun hh => (by cases hh), fun f hf => ?_⟩
  ·have hql : q < fs.length * 2 := by
    rcases Nat.lt_or_ge q (fs.length * 2) with hlt | hge
    ·exact hlt
    ·rw [List.getElem?_eq_none (by rw [Ce.fv_length]; exact hge)] at hq; cases hq
   obtain ⟨i, j, hj, rfl⟩ : ∃ i j, j < 2 ∧ q = i * 2 + j := ⟨q / 2, q % 2, by omega, by omega⟩
   have hil : i < fs.length := by omega
   obtain ⟨k0, k1, _⟩ := hfx i hil
   unfold Ce.fv at hq
   rw [Ce.rows_get Ce.fcell Ce.fcell_length hil hj] at hq
   match j, hj with
   | 0, _ =>
    injection hq with hq
    rw [← hq]
    exact k0
   | 1, _ =>
    injection hq with hq
    rw [← hq]
    exact k1
  ·obtain ⟨i, hi', rfl⟩ := List.getElem_of_mem hf
   exact (hfx i hi').2.2
def TpW (w : World) (t : Ce.Tp) : Prop := Rd w w.heap.size t.A (Ce.fv t.fs) ∧ t.fs.length ≤ t.c ∧ t.c ≤ 9223372036854775807 ∧ (t.A = none → t.c = 0) ∧ Ce.TpOk t
theorem open_types {r : Reach} {b0 : Nat} {t e tk ti tf ef ts : TypeId} {g0 g1 g2 g3 f0 f1 : Field} {v : Value} {d : DataW H} {p : List MemPlace} (ht : P.underlying t = some (.slice e)) (he : P.underlying e = some (.struct #[g0, g1, g2, g3]))
  (ce : P.cellsOf e = 4) (o0 : g0.offset = 0) (o1 : g1.offset = 1) (o2 : g2.offset = 2) (o3 : g3.offset = 3) (c0 : P.cellsOf g0.type = 1) (c1 : P.cellsOf g1.type = 1) (c2 : P.cellsOf g2.type = 1) (c3 : P.cellsOf g3.type = 1)
  (h0 : g0.type = tk) (h1 : g1.type = ti) (h2 : g2.type = ti) (h3 : g3.type = tf) (hk : P.underlying tk = some (.int .u8)) (hi : P.underlying ti = some (.int .i64))
  (hf : P.underlying tf = some (.slice ef)) (hef : P.underlying ef = some (.struct #[f0, f1])) (cef : P.cellsOf ef = 2) (of0 : f0.offset = 0) (of1 : f1.offset = 1) (cf0 : P.cellsOf f0.type = 1) (cf1 : P.cellsOf f1.type = 1) (hf0 : f0.type = ts) (hf1 : f1.type = ti) (hs : P.underlying ts = some .string)
  (hv : Value.okWide P w r b0 t v) (h : DataW.Trod enc P w base (fun _ => true) true t v d p) :
  ∃ (A : Option Addr) (T : List Ce.Tp) (c : Nat), v = .slice A T.length c ∧ Rd w w.heap.size A (Ce.tv T) ∧ T.length ≤ c ∧ c ≤ 9223372036854775807 ∧ (A = none → c = 0) ∧ ∀ x ∈ T, TpW w x := by
 obtain ⟨a, len, cap, rfl⟩ := okWide_slice ht hv
 obtain ⟨fuel, hm⟩ := h
 rcases open_slice ht hm with ⟨hcs, _⟩ | ⟨a, len, cap, m, n, D, Pl, hcs, hb, hl, hmx, hmm, _, hx⟩
 ·injection hcs with hcs _
  exact ⟨none, [], 0, hcs, Rd.nil_, by simp, by omega, fun _ => rfl, by simp⟩
 ·injection hcs with hcs _
  simp at hmm
  obtain ⟨T, hTl, hTx⟩ := list_of (m := len) (Q := fun i (x : Ce.Tp) => (∀ j v, x.v[j]? = some v → w.cell? (a.add (i * 4 + j)) = some v) ∧ TpW w x) fun i hi' => by
   obtain ⟨cs', e1, e2⟩ := hx i (by omega)
   rw [ce] at e1
   obtain ⟨_, hlen, hcell⟩ := World.cells?_some e1
   obtain ⟨xs, k, hk', hxy, _, hxl, hg⟩ := DataW.trod_struct he e2
   match xs, hxl, cs', hlen with
   | [y0, y1, y2, y3], _, [v0, v1, v2, v3], _ =>
    have q0 := hg 0 g0 rfl
    have q1 := hg 1 g1 rfl
    have q2 := hg 2 g2 rfl
    have q3 := hg 3 g3 rfl
    simp [o0, c0] at q0
    simp [o1, c1] at q1
    simp [o2, c2] at q2
    simp [o3, c3] at q3
    rw [h0] at q0
    rw [h1] at q1
    rw [h2] at q2
    rw [h3] at q3
    obtain ⟨kd, z0, _, w0⟩ := DataW.trod_int hk q0
    obtain ⟨el, z1, _, w1⟩ := DataW.trod_int hi q1
    obtain ⟨ln, z2, _, w2⟩ := DataW.trod_int hi q2
    obtain ⟨A, fs, c, z3, r1, r2, r3, r4, r5⟩ := open_fields_cell hf hef cef of0 of1 cf0 cf1 hf0 hf1 hs hi q3
    injection z0 with z0 _
    injection z1 with z1 _
    injection z2 with z2 _
    have b0 := bounds_u8 w0
    refine ⟨⟨kd, el, ln, fs, A, c⟩, fun j v hj => ?_, r1, r2, r3, r4, ⟨by show 0 ≤ kd ∧ kd < 256; omega, bounds_i64 w1, bounds_i64 w2, r5⟩⟩
    have hj4 : j < 4 := (List.getElem?_eq_some_iff.1 hj).1
    have e := hcell j hj4
    rw [add_add] at e
    rw [e, ← hj, z0, z1, z2, z3]
    rfl
  refine ⟨some a, T, cap, by rw [hTl, hcs], rd_of_cells fun q v hq => ?_, by omega, by unfold maxLen at hmx; omega, fun hh => (by cases hh), fun x hx' => ?_⟩
  ·have hql : q < T.length * 4 := by
    rcases Nat.lt_or_ge q (T.length * 4) with hlt | hge
    ·exact hlt
    ·rw [List.getElem?_eq_none (by rw [Ce.tv_length]; exact hge)] at hq; cases hq
   obtain ⟨i, j, hj, rfl⟩ : ∃ i j, j < 4 ∧ q = i * 4 + j := ⟨q / 4, q % 4, by omega, by omega⟩
   have hil : i < T.length := by omega
   unfold Ce.tv at hq
   rw [Ce.rows_get Ce.Tp.v Ce.Tp.v_length hil hj] at hq
   exact (hTx i hil).1 j v hq
  ·obtain ⟨i, hi', rfl⟩ := List.getElem_of_mem hx'
   exact (hTx i hi').2
end
namespace Ce
theorem fv_vis (B : Nat) (fs : List (List UInt8 × Int)) : (fv fs).map (vis B) = fv fs := by
 unfold fv
 rw [List.map_flatMap]
 congr 1
theorem fields_here {w : World} {A : Option Addr} {c : Nat} {fs : List (List UInt8 × Int)} (h : Rd w w.heap.size A (fv fs)) (hc : fs.length ≤ c) (hm : c ≤ 9223372036854775807) (h0 : A = none → c = 0) :
  ∃ A' c', vis w.heap.size (.slice A fs.length c) = .slice A' fs.length c' ∧ RdH (absW w) w.heap.size A' (fv fs) ∧ (A' = none → c' = 0) := by
 obtain ⟨A', c', h1, h2, _, h3, _⟩ := rd_here h (fun hh => by have := fv_length fs; rw [hh] at this; simp at this; omega) hc hm h0
 rw [fv_vis] at h2
 exact ⟨A', c', h1, h2, h3⟩
theorem types_vis {w : World} : ∀ T : List Tp, (∀ t ∈ T, TpW w t) → ∃ T' : List Tp, T'.length = T.length ∧ (tv T).map (vis w.heap.size) = tv T' ∧ ∀ t ∈ T', RdH (absW w) w.heap.size t.A (fv t.fs) ∧ (t.A = none → t.c = 0) ∧ TpOk t ∧ t.fs.length ≤ 9223372036854775807
 | [], _ => ⟨[], rfl, rfl, by simp⟩
 | t :: T, h => by
  obtain ⟨T', i1, i2, i3⟩ := types_vis T fun x hx => h x (List.mem_cons_of_mem _ hx)
  obtain ⟨t1, t2, t3, t4, t5⟩ := h t List.mem_cons_self
  obtain ⟨A', c', e1, e2, e3⟩ := fields_here t1 t2 t3 t4
  refine ⟨⟨t.kd, t.el, t.ln, t.fs, A', c'⟩ :: T', by simp [i1], ?_, fun x hx => ?_⟩
  ·unfold tv at i2 ⊢
   rw [List.flatMap_cons, List.flatMap_cons, List.map_append, i2]
   congr 1
   unfold Tp.v
   simp only [List.map_cons, List.map_nil, e1]
   rfl
  ·rcases List.mem_cons.1 hx with rfl | hx
   ·exact ⟨e2, e3, t5, by show t.fs.length ≤ _; omega⟩
   ·exact i3 x hx
theorem types_here {w : World} {A : Option Addr} {c : Nat} {T : List Tp} (h : Rd w w.heap.size A (tv T)) (hc : T.length ≤ c) (hm : c ≤ 9223372036854775807) (h0 : A = none → c = 0) (ht : ∀ t ∈ T, TpW w t) :
  ∃ A' c' T', vis w.heap.size (.slice A T.length c) = .slice A' (List.length T') c' ∧ TabH (absW w) w.heap.size A' T' ∧ (A' = none → c' = 0) ∧ T'.length ≤ 9223372036854775807 ∧ ∀ t ∈ T', t.fs.length ≤ 9223372036854775807 := by
 obtain ⟨A', c', h1, h2, _, h3, _⟩ := rd_here h (fun hh => by have := tv_length T; rw [hh] at this; simp at this; omega) hc hm h0
 obtain ⟨T', i1, i2, i3⟩ := types_vis T ht
 rw [i2] at h2
 exact ⟨A', c', T', by rw [i1]; exact h1, ⟨h2, fun t ht => (i3 t ht).1, fun t ht => (i3 t ht).2.1, fun t ht => (i3 t ht).2.2.1⟩, h3, by omega, fun t ht => (i3 t ht).2.2.2⟩
end Ce
end Go.Proofs.Ytcpkdjikembpnaa
namespace Go.Proofs.Ytcpkdjikembpnaa
open Go.ChangeShapes Go.WideShapes Go.ChangeAt Go.RowKit Go.Joins Go.Deep
section
variable {H : Type} {enc : TypeId × Value → H} {P : Program} {w : World} {base : Nat}
def five (l : List Value) : List Value := [l.getD 0 undef, l.getD 1 undef, l.getD 2 undef, l.getD 3 undef, l.getD 4 undef]
theorem five_of {l : List Value} (h : l.length = 5) : five l = l := by
 match l, h with
 | [a, b, c, d, e], _ => rfl
theorem open_vcell {t tk ti ts tl tb : TypeId} {g0 g1 g2 g3 g4 : Field} {held : Bool} (he : P.underlying t = some (.struct #[g0, g1, g2, g3, g4])) (ce : P.cellsOf t = 5)
  (o0 : g0.offset = 0) (o1 : g1.offset = 1) (o2 : g2.offset = 2) (o3 : g3.offset = 3) (o4 : g4.offset = 4) (c0 : P.cellsOf g0.type = 1) (c1 : P.cellsOf g1.type = 1) (c2 : P.cellsOf g2.type = 1) (c3 : P.cellsOf g3.type = 1) (c4 : P.cellsOf g4.type = 1)
  (h0 : g0.type = tk) (h1 : g1.type = ti) (h2 : g2.type = ts) (h3 : g3.type = tl) (h4 : g4.type = tb) (hk : P.underlying tk = some (.int .u8)) (hi : P.underlying ti = some (.int .i64)) (hs : P.underlying ts = some .string) (hl : P.underlying tl = some (.slice t)) (hb : P.underlying tb = some .bool) :
  ∀ (fuel : Nat) (cs : List Value) (y : DataW H × List MemPlace), DataW.trod enc P w base (fun _ => true) held fuel t cs = some y → ∃ x : Ce.V, Ce.VH (Ce.absW w) w.heap.size x (cs.map (Ce.vis w.heap.size)) := by
 intro fuel
 induction fuel using Nat.strongRecOn with
 | ind fuel ih =>
 intro cs y h
 obtain ⟨xs, n, hn, _, hlen, hxl, hg⟩ := DataW.trod_struct he h
 rw [ce] at hlen
 match xs, hxl, cs, hlen with
 | [y0, y1, y2, y3, y4], _, [v0, v1, v2, v3, v4], _ =>
  have q0 := hg 0 g0 rfl
  have q1 := hg 1 g1 rfl
  have q2 := hg 2 g2 rfl
  have q3 := hg 3 g3 rfl
  have q4 := hg 4 g4 rfl
  simp [o0, c0] at q0
  simp [o1, c1] at q1
  simp [o2, c2] at q2
  simp [o3, c3] at q3
  simp [o4, c4] at q4
  rw [h0] at q0
  rw [h1] at q1
  rw [h2] at q2
  rw [h3] at q3
  rw [h4] at q4
  obtain ⟨kd, z0, _, _⟩ := DataW.trod_int hk q0
  obtain ⟨i, z1, _, _⟩ := DataW.trod_int hi q1
  obtain ⟨s, z2, _, _⟩ := DataW.trod_string hs q2
  obtain ⟨c, z4, _⟩ := DataW.trod_bool hb q4
  injection z0 with z0 _
  injection z1 with z1 _
  injection z2 with z2 _
  injection z4 with z4 _
  subst z0
  subst z1
  subst z2
  subst z4
  rcases DataW.trod_slice hl q3 with ⟨z3, _⟩ | ⟨a, len, cap, elems, rest, n2, hn2, z3, _, hbs, hlc, hcm, hel, hx, _, _⟩
  ·injection z3 with z3 _
   subst z3
   exact ⟨.mk kd i s.data.toList [] c, Ce.VH.leaf kd i s.data.toList c none 0 fun _ => rfl⟩
  ·injection z3 with z3 _
   subst z3
   rw [ce] at hx
   obtain ⟨L, hLl, hLx⟩ := list_of (m := len) (Q := fun j (p : Ce.V × List Value) => p.2.length = 5 ∧ (∀ q v, p.2[q]? = some v → w.cell? (a.add (j * 5 + q)) = some v) ∧ Ce.VH (Ce.absW w) w.heap.size p.1 (p.2.map (Ce.vis w.heap.size))) fun j hj => by
    have e1 := hx j hj
    rw [List.getElem?_eq_getElem (by omega)] at e1
    obtain ⟨cs', e2, e3⟩ := Option.bind_eq_some_iff.1 e1
    obtain ⟨_, hl5, hcell⟩ := World.cells?_some e2
    obtain ⟨x, hxv⟩ := ih n2 (by omega) cs' _ e3
    refine ⟨(x, cs'), hl5, fun q v hq => ?_, hxv⟩
    have hq2 : q < 5 := by
     have := (List.getElem?_eq_some_iff.1 hq).1
     dsimp only at this
     omega
    have e := hcell q hq2
    rw [add_add] at e
    rw [e, ← hq]
   have hflen : (L.flatMap fun p => five p.2).length = L.length * 5 := by
    clear hLx hLl
    induction L with
    | nil => rfl
    | cons p L ihL => rw [List.flatMap_cons, List.length_append, ihL, List.length_cons]; show 5 + _ = _; omega
   have hrd : Rd w w.heap.size (some a) (L.flatMap fun p => five p.2) := rd_of_cells fun q v hq => by
    have hql : q < L.length * 5 := by
     rcases Nat.lt_or_ge q (L.length * 5) with hlt | hge
     ·exact hlt
     ·rw [List.getElem?_eq_none (by rw [hflen]; exact hge)] at hq; cases hq
    obtain ⟨j, m, hm, rfl⟩ : ∃ j m, m < 5 ∧ q = j * 5 + m := ⟨q / 5, q % 5, by omega, by omega⟩
    have hjl : j < L.length := by omega
    rw [Ce.rows_get (fun p : Ce.V × List Value => five p.2) (fun _ => rfl) hjl hm, five_of (hLx j hjl).1] at hq
    exact (hLx j hjl).2.1 m v hq
   obtain ⟨A', c', f1, f2, _, f3, _⟩ := Ce.rd_here (n := len) (c := cap) hrd (fun hh => by rw [hh, List.length_nil] at hflen; omega) hlc (by unfold maxLen at hcm; omega) (fun hh => by cases hh)
   by_cases hl0 : len = 0
   ·subst hl0
    refine ⟨.mk kd i s.data.toList [] c, ?_⟩
    have e : ([.int .u8 kd, .int .i64 i, .string s, .slice (some a) 0 cap, .bool c] : List Value).map (Ce.vis w.heap.size) = Ce.vcell kd i s.data.toList A' 0 c' c := by
     simp only [List.map_cons, List.map_nil, f1]
     rfl
    rw [e]
    exact Ce.VH.leaf kd i s.data.toList c A' c' f3
   ·rw [List.map_flatMap] at f2
    obtain ⟨id, off, rfl, hid, hcells, _⟩ := Ce.RdH.rows (f := fun p : Ce.V × List Value => (five p.2).map (Ce.vis w.heap.size)) (w := 5) (fun _ => rfl) (by omega) f2 (by omega)
    refine ⟨.mk kd i s.data.toList (L.map (·.1)) c, ?_⟩
    have e : ([.int .u8 kd, .int .i64 i, .string s, .slice (some a) len cap, .bool c] : List Value).map (Ce.vis w.heap.size) = Ce.vcell kd i s.data.toList (some ⟨id, off, none⟩) (L.map (·.1)).length c' c := by
     simp only [List.map_cons, List.map_nil, f1, List.length_map, hLl]
     rfl
    rw [e]
    refine Ce.VH.node kd i s.data.toList c (L.map (·.1)) id off c' (fun j => (five ((L[j]?).map (·.2) |>.getD [])).map (Ce.vis w.heap.size)) (fun hh => hl0 (by rw [← hLl]; simpa using hh)) hid (fun j hj => ?_) fun j hj => ?_
    ·have hj' : j < L.length := by simpa using hj
     rw [hcells j hj', List.getElem?_eq_getElem hj']
     rfl
    ·have hj' : j < L.length := by simpa using hj
     have := hLx j hj'
     rw [List.getElem_map, List.getElem?_eq_getElem hj']
     show Ce.VH _ _ _ ((five L[j].2).map _)
     rw [five_of this.1]
     exact this.2.2
theorem open_value {r : Reach} {b0 : Nat} {t tk ti ts tl tb : TypeId} {g0 g1 g2 g3 g4 : Field} {v : Value} {d : DataW H} {p : List MemPlace} (he : P.underlying t = some (.struct #[g0, g1, g2, g3, g4])) (ce : P.cellsOf t = 5)
  (o0 : g0.offset = 0) (o1 : g1.offset = 1) (o2 : g2.offset = 2) (o3 : g3.offset = 3) (o4 : g4.offset = 4) (c0 : P.cellsOf g0.type = 1) (c1 : P.cellsOf g1.type = 1) (c2 : P.cellsOf g2.type = 1) (c3 : P.cellsOf g3.type = 1) (c4 : P.cellsOf g4.type = 1)
  (h0 : g0.type = tk) (h1 : g1.type = ti) (h2 : g2.type = ts) (h3 : g3.type = tl) (h4 : g4.type = tb) (hk : P.underlying tk = some (.int .u8)) (hi : P.underlying ti = some (.int .i64)) (hs : P.underlying ts = some .string) (hl : P.underlying tl = some (.slice t)) (hb : P.underlying tb = some .bool)
  (hv : Value.okWide P w r b0 t v) (h : DataW.Trod enc P w base (fun _ => true) true t v d p) :
  ∃ (x : Ce.V) (cs : List Value), Ce.visV w.heap.size v = .agg ⟨cs⟩ ∧ Ce.VH (Ce.absW w) w.heap.size x cs := by
 obtain ⟨cs, rfl, hsz⟩ := okWide_struct he hv
 obtain ⟨l⟩ := cs
 obtain ⟨fuel, hf⟩ := h
 obtain ⟨x, hx⟩ := open_vcell he ce o0 o1 o2 o3 o4 c0 c1 c2 c3 c4 h0 h1 h2 h3 h4 hk hi hs hl hb fuel l _ hf
 exact ⟨x, _, rfl, hx⟩
end
end Go.Proofs.Ytcpkdjikembpnaa
