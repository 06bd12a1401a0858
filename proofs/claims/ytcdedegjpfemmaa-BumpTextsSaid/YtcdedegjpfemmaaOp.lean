/- Arguments opened: a slice of bytes, a region. No program in sight. -/
import Derived.Test.YtcdedegjpfemmaaMem
import Derived.ProofKit
import Derived.Lib.SmallJoins
import Derived.OpenShut
import Derived.ChangeOld
namespace Go.Proofs.Ytcdedegjpfemmaa
open Go.ChangeShapes Go.WideShapes Go.ChangeAt Go.RowKit Go.Joins Go.Deep
set_option linter.unusedVariables false
set_option linter.unusedSimpArgs false

section
variable {H : Type} {enc : TypeId × Value → H} {P : Program} {w : World} {base : Nat}

/-- a cell's value that reads as a slice of bytes -/
theorem open_bytes_cell {t e : TypeId} {held : Bool} {fuel : Nat} {v : Value} {x : DataW H × List MemPlace} (ht : P.underlying t = some (.slice e)) (he : P.underlying e = some (.int .u8)) (hc : P.cellsOf e = 1)
    (h : DataW.trod enc P w base (fun _ => true) held fuel t [v] = some x) :
    ∃ (A : Option Addr) (xs : List UInt8) (c : Nat), v = .slice A xs.length c ∧ Rd w w.heap.size A (bv xs) ∧ xs.length ≤ c ∧ c ≤ 9223372036854775807 ∧ (A = none → c = 0) := by
  rcases open_ints ht he hc h with ⟨hcs, _⟩ | ⟨a, len, cap, zs, hcs, _, hl, hm, hz, _, hcell, hwz⟩
  · injection hcs with hcs _
    exact ⟨none, [], 0, hcs, Rd.nil_, by simp, by omega, fun _ => rfl⟩
  · injection hcs with hcs _
    simp at hz
    have hzl : ((zs.take len).map fun n => UInt8.ofNat n.toNat).length = len := by simp; omega
    refine ⟨some a, (zs.take len).map fun n => UInt8.ofNat n.toNat, cap, by rw [hzl, hcs], ?_, by rw [hzl]; exact hl, by unfold maxLen at hm; omega, fun h => (by cases h)⟩
    by_cases h0 : len = 0
    · subst h0; exact .inl (by simp [bv])
    · obtain ⟨b, off, spot⟩ := a
      have hc0 := hcell 0 (by omega)
      have hspot : spot = none := by simpa [Addr.add] using World.cell?_spot hc0
      subst hspot
      have hbl : b < w.heap.size := by
        have := World.block_lt_of_cell? w _ hc0
        rw [add_none] at this
        exact this
      refine .inr ⟨b, off, rfl, hbl, fun j v hj => ?_⟩
      have hjl : j < len := by
        rcases Nat.lt_or_ge j len with hlt | hge
        · exact hlt
        · rw [List.getElem?_eq_none (by rw [bv_length, hzl]; exact hge)] at hj; cases hj
      have hjz : j < zs.length := by omega
      have hcj := hcell j hjz
      rw [add_none] at hcj
      rw [hcj]
      have hw := hwz (zs[j]) (List.getElem_mem _)
      have hb := bounds_u8 hw
      simp only [bv, List.getElem?_map, List.getElem?_take, hjl, if_true, List.getElem?_eq_getElem hjz, Option.map_some] at hj
      rw [← hj]
      simp only [List.getD, List.getElem?_eq_getElem hjz, Option.getD_some]
      congr 2
      simp
      omega

theorem open_region {r : Reach} {b0 : Nat} {t tb tu e : TypeId} {n0 n1 : Field} {v : Value} {d : DataW H} {p : List MemPlace} (hs : P.underlying t = some (.struct #[n0, n1])) (hone : oneCellFields P #[n0, n1] = true) (hC : P.cellsOf t = 2)
    (h0 : n0.type = tu) (h1 : n1.type = tb) (hu : P.underlying tu = some (.int .u64)) (hb : P.underlying tb = some (.slice e)) (he : P.underlying e = some (.int .u8)) (hc : P.cellsOf e = 1)
    (hv : Value.okWide P w r b0 t v) (h : DataW.Trod enc P w base (fun _ => true) true t v d p) :
    ∃ (b : Int) (A : Option Addr) (xs : List UInt8) (c : Nat), v = .agg #[.int .u64 b, .slice A xs.length c] ∧ Rd w w.heap.size A (bv xs) ∧ 0 ≤ b ∧ b < 18446744073709551616 ∧ xs.length ≤ c ∧ c ≤ 9223372036854775807 ∧ (A = none → c = 0) := by
  obtain ⟨c0, c1, y0, y1, m, rfl, _, _, hy0, hy1⟩ := open_agg2 hs hone hC hv h
  subst h0; subst h1
  obtain ⟨b, e0, _, wb⟩ := DataW.trod_int hu hy0
  injection e0 with e0 _
  obtain ⟨A, xs, c, rfl, hr, hl, hcm, hn⟩ := open_bytes_cell hb he hc hy1
  have hbb := bounds_u64 wb
  exact ⟨b, A, xs, c, by rw [e0], hr, hbb.1, by omega, hl, hcm, hn⟩
end
end Go.Proofs.Ytcdedegjpfemmaa
