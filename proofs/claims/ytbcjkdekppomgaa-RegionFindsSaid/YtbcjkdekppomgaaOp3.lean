/- Arguments opened: slices of regions. No program in sight. -/
import Derived.Test.YtbcjkdekppomgaaOp2
import Derived.Test.YtbcjkdekppomgaaSf
import Derived.Deep.SlicePairs
namespace Go.Proofs.Ytbcjkdekppomgaa
open Go.ChangeShapes Go.WideShapes Go.ChangeAt Go.RowKit Go.Joins Go.Deep

section
variable {H : Type} {enc : TypeId × Value → H} {P : Program} {w : World} {base : Nat}

theorem heads_of {V0 V1 : Nat → Value} {m : Nat} (h : ∀ i, i < m → ∃ r : Hd, V0 i = .int .u64 r.b ∧ V1 i = .slice r.A r.n r.c ∧ HdOk r) :
    ∀ n, n ≤ m → ∃ l : List Hd, l.length = n ∧ ∀ i (hi : i < l.length), V0 i = .int .u64 (l[i]).b ∧ V1 i = .slice (l[i]).A (l[i]).n (l[i]).c ∧ HdOk l[i]
  | 0, _ => ⟨[], rfl, fun i hi => by simp at hi⟩
  | n + 1, hn => by
    obtain ⟨l, hl, hx⟩ := heads_of h n (by omega)
    obtain ⟨r, h0, h1, h2⟩ := h n (by omega)
    refine ⟨l ++ [r], by simp [hl], fun i hi => ?_⟩
    by_cases hlt : i < l.length
    · rw [List.getElem_append_left hlt]; exact hx i hlt
    · have : i = l.length := by simp at hi; omega
      subst this
      rw [List.getElem_append_right (Nat.le_refl _)]
      simp only [Nat.sub_self, List.getElem_singleton, hl]
      exact ⟨h0, h1, h2⟩

theorem open_regions {r : Reach} {b0 : Nat} {t e tu tb u : TypeId} {n0 n1 : Field} {v : Value} {d : DataW H} {p : List MemPlace} (ht : P.underlying t = some (.slice e)) (he : P.underlying e = some (.struct #[n0, n1]))
    (ce : P.cellsOf e = 2) (o0 : n0.offset = 0) (o1 : n1.offset = 1) (c0 : P.cellsOf n0.type = 1) (c1 : P.cellsOf n1.type = 1)
    (h0 : n0.type = tu) (h1 : n1.type = tb) (hu : P.underlying tu = some (.int .u64)) (hb : P.underlying tb = some (.slice u)) (h8 : P.underlying u = some (.int .u8)) (hc8 : P.cellsOf u = 1)
    (hv' : Value.okWide P w r b0 t v) (h : DataW.Trod enc P w base (fun _ => true) true t v d p) :
    ∃ (A : Option Addr) (l : List Hd) (c : Nat), v = .slice A l.length c ∧ Rd w w.heap.size A (hv l) ∧ l.length ≤ c ∧ c ≤ 9223372036854775807 ∧ ∀ x ∈ l, HdOk x := by
  obtain ⟨a, len, cap, rfl⟩ := okWide_slice ht hv'
  obtain ⟨m, hm⟩ := h
  rcases open_slice_pairs ht he ce o0 o1 c0 c1 hm with ⟨hcs, _⟩ | ⟨a, len, cap, m, n, V0, V1, D0, D1, P0, P1, hcs, _, hl, hmx, hmm, _, hx⟩
  · injection hcs with hcs _
    exact ⟨none, [], 0, hcs, Rd.nil_, by simp, by omega, by simp⟩
  · injection hcs with hcs _
    simp at hmm
    have hheads := heads_of (V0 := V0) (V1 := V1) (m := m) (fun i hi => by
      obtain ⟨_, _, t0, t1⟩ := hx i hi
      rw [h0] at t0
      rw [h1] at t1
      obtain ⟨b, e0, _, wb⟩ := DataW.trod_int hu t0
      injection e0 with e0 _
      obtain ⟨A, xs, c, e1, _, hl1, hcm⟩ := open_bytes_cell hb h8 hc8 t1
      have hbb := bounds_u64 wb
      exact ⟨⟨b, A, xs.length, c⟩, e0, e1, hbb.1, by show b < _; omega, by show xs.length ≤ _; omega⟩) len (by omega)
    obtain ⟨l, hll, hlx⟩ := hheads
    refine ⟨some a, l, cap, by rw [hll, hcs], rd_of_cells fun q v hq => ?_, by omega, by unfold maxLen at hmx; omega, fun x hx' => ?_⟩
    · have hql : q < l.length * 2 := by
        rcases Nat.lt_or_ge q (l.length * 2) with hlt | hge
        · exact hlt
        · rw [List.getElem?_eq_none (by rw [hv_length]; exact hge)] at hq; cases hq
      obtain ⟨i, hi⟩ : ∃ i, q = i * 2 ∨ q = i * 2 + 1 := ⟨q / 2, by omega⟩
      have hil : i < l.length := by omega
      obtain ⟨k0, k1, _, _⟩ := hx i (by omega)
      obtain ⟨g0, g1, _⟩ := hlx i hil
      rcases hi with rfl | rfl
      · rw [hv_get0 l i hil] at hq
        injection hq with hq
        rw [k0, g0, hq]
      · rw [hv_get1 l i hil] at hq
        injection hq with hq
        rw [k1, g1, hq]
    · obtain ⟨i, hi, rfl⟩ := List.getElem_of_mem hx'
      exact (hlx i hi).2.2
end
end Go.Proofs.Ytbcjkdekppomgaa
