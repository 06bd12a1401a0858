/- Parts of the proof of ValueLoads: Ov. No condition of its own. -/
import Derived.Test.YtcpkdjikembpnaaVlak
import Derived.Test.YtcpkdjikembpnaaVlbd
set_option linter.unusedVariables false
set_option linter.unusedSimpArgs false
set_option maxRecDepth 100000
set_option maxHeartbeats 4000000
namespace Go.Proofs.Ytcpkdjikembpnaa
open Go.ChangeShapes Go.WideShapes Go.ChangeAt Go.RowKit Go.Joins Go.Deep
section
variable {H : Type} {enc : TypeId × Value → H} {P : Program} {w : World} {base : Nat}
def RgW (w : World) (g : Ce.Rg) : Prop := Rd w w.heap.size g.A (bv g.xs) ∧ g.xs.length ≤ g.c ∧ g.c ≤ 9223372036854775807 ∧ (g.A = none → g.c = 0) ∧ 0 ≤ g.b ∧ g.b < 18446744073709551616
theorem open_rgs {r : Reach} {b0 : Nat} {t e tu tb u : TypeId} {g0 g1 : Field} {v : Value} {d : DataW H} {p : List MemPlace} (ht : P.underlying t = some (.slice e)) (he : P.underlying e = some (.struct #[g0, g1]))
    (ce : P.cellsOf e = 2) (o0 : g0.offset = 0) (o1 : g1.offset = 1) (c0 : P.cellsOf g0.type = 1) (c1 : P.cellsOf g1.type = 1)
    (h0 : g0.type = tu) (h1 : g1.type = tb) (hu : P.underlying tu = some (.int .u64)) (hb : P.underlying tb = some (.slice u)) (h8 : P.underlying u = some (.int .u8)) (hc8 : P.cellsOf u = 1)
    (hv : Value.okWide P w r b0 t v) (h : DataW.Trod enc P w base (fun _ => true) true t v d p) :
    ∃ (A : Option Addr) (L : List Ce.Rg) (c : Nat), v = .slice A L.length c ∧ Rd w w.heap.size A (Ce.gv L) ∧ L.length ≤ c ∧ c ≤ 9223372036854775807 ∧ (A = none → c = 0) ∧ ∀ x ∈ L, RgW w x := by
  obtain ⟨a, len, cap, rfl⟩ := okWide_slice ht hv
  obtain ⟨fuel, hm⟩ := h
  rcases open_slice ht hm with ⟨hcs, _⟩ | ⟨a, len, cap, m, n, D, Pl, hcs, hb', hl, hmx, hmm, _, hx⟩
  · injection hcs with hcs _
    exact ⟨none, [], 0, hcs, Rd.nil_, by simp, by omega, fun _ => rfl, by simp⟩
  · injection hcs with hcs _
    simp at hmm
    obtain ⟨T, hTl, hTx⟩ := list_of (m := len) (Q := fun i (x : Ce.Rg) => (∀ j v, (Ce.gcell x)[j]? = some v → w.cell? (a.add (i * 2 + j)) = some v) ∧ RgW w x) fun i hi' => by
      obtain ⟨cs', e1, e2⟩ := hx i (by omega)
      rw [ce] at e1
      obtain ⟨_, hlen, hcell⟩ := World.cells?_some e1
      obtain ⟨xs, k, hk', hxy, _, hxl, hg⟩ := DataW.trod_struct he e2
      match xs, hxl, cs', hlen with
      | [y0, y1], _, [v0, v1], _ =>
        have q0 := hg 0 g0 rfl
        have q1 := hg 1 g1 rfl
        simp [o0, c0] at q0
        simp [o1, c1] at q1
        rw [h0] at q0
        rw [h1] at q1
        obtain ⟨b, z0, _, w0⟩ := DataW.trod_int hu q0
        obtain ⟨A, bs, c, z1, r1, r2, r3, r4⟩ := open_bytes_cell hb h8 hc8 q1
        injection z0 with z0 _
        have b0 := bounds_u64 w0
        refine ⟨⟨b, bs, A, c⟩, fun j v hj => ?_, r1, r2, r3, r4, b0.1, by show b < _; omega⟩
        have hj2 : j < 2 := (List.getElem?_eq_some_iff.1 hj).1
        have e := hcell j hj2
        rw [add_add] at e
        rw [e, ← hj, z0, z1]
    refine ⟨some a, T, cap, by rw [hTl, hcs], rd_of_cells fun q v hq => ?_, by omega, by unfold maxLen at hmx; omega, fun hh => (by cases hh), fun x hx' => ?_⟩
    · have hql : q < T.length * 2 := by
        rcases Nat.lt_or_ge q (T.length * 2) with hlt | hge
        · exact hlt
        · rw [List.getElem?_eq_none (by rw [Ce.gv_length]; exact hge)] at hq; cases hq
      obtain ⟨i, j, hj, rfl⟩ : ∃ i j, j < 2 ∧ q = i * 2 + j := ⟨q / 2, q % 2, by omega, by omega⟩
      have hil : i < T.length := by omega
      unfold Ce.gv at hq
      rw [Ce.rows_get Ce.gcell Ce.gcell_length hil hj] at hq
      exact (hTx i hil).1 j v hq
    · obtain ⟨i, hi', rfl⟩ := List.getElem_of_mem hx'
      exact (hTx i hi').2
end
namespace Ce
theorem rgs_vis {w : World} : ∀ T : List Rg, (∀ t ∈ T, RgW w t) → ∃ T' : List Rg, T'.length = T.length ∧ (gv T).map (vis w.heap.size) = gv T' ∧ ∀ t ∈ T', RdH (absW w) w.heap.size t.A (bv t.xs) ∧ (t.A = none → t.c = 0) ∧ (0 ≤ t.b ∧ t.b < 18446744073709551616) ∧ t.xs.length ≤ 9223372036854775807
  | [], _ => ⟨[], rfl, rfl, by simp⟩
  | t :: T, h => by
    obtain ⟨T', i1, i2, i3⟩ := rgs_vis T fun x hx => h x (List.mem_cons_of_mem _ hx)
    obtain ⟨t1, t2, t3, t4, t5⟩ := h t List.mem_cons_self
    obtain ⟨A', c', e1, e2, e3⟩ := bytes_here t1 t2 t3 t4
    refine ⟨⟨t.b, t.xs, A', c'⟩ :: T', by simp [i1], ?_, fun x hx => ?_⟩
    · unfold gv at i2 ⊢
      rw [List.flatMap_cons, List.flatMap_cons, List.map_append, i2]
      congr 1
      unfold gcell
      simp only [List.map_cons, List.map_nil, e1]
      rfl
    · rcases List.mem_cons.1 hx with rfl | hx
      · exact ⟨e2, e3, t5, by show t.xs.length ≤ _; omega⟩
      · exact i3 x hx
theorem rgs_here {w : World} {A : Option Addr} {c : Nat} {T : List Rg} (h : Rd w w.heap.size A (gv T)) (hc : T.length ≤ c) (hm : c ≤ 9223372036854775807) (h0 : A = none → c = 0) (ht : ∀ t ∈ T, RgW w t) :
    ∃ A' c' T', vis w.heap.size (.slice A T.length c) = .slice A' (List.length T') c' ∧ RgH (absW w) w.heap.size A' T' ∧ (A' = none → c' = 0) ∧ T'.length ≤ 9223372036854775807 := by
  obtain ⟨A', c', h1, h2, _, h3, _⟩ := rd_here h (fun hh => by have := gv_length T; rw [hh] at this; simp at this; omega) hc hm h0
  obtain ⟨T', i1, i2, i3⟩ := rgs_vis T ht
  rw [i2] at h2
  exact ⟨A', c', T', by rw [i1]; exact h1, ⟨h2, fun t ht => (i3 t ht).1, fun t ht => (i3 t ht).2.1, fun t ht => (i3 t ht).2.2.1, fun t ht => (i3 t ht).2.2.2⟩, h3, by omega⟩
end Ce
end Go.Proofs.Ytcpkdjikembpnaa
