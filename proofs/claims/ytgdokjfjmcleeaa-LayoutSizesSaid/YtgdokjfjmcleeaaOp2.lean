/- Arguments opened: slices of bytes, of integers, of strings. No program in sight. -/
import Derived.Test.YtgdokjfjmcleeaaOp
import Derived.SliceStrings
namespace Go.Proofs.Ytgdokjfjmcleeaa
open Go.ChangeShapes Go.WideShapes Go.ChangeAt Go.RowKit Go.Joins Go.Deep
set_option linter.unusedVariables false
set_option linter.unusedSimpArgs false

def iv (l : List Int) : List Value := l.map fun z => .int .i64 z
theorem iv_length (l : List Int) : (iv l).length = l.length := by simp [iv]
def sv (l : List ByteArray) : List Value := l.map fun s => .string s
theorem sv_length (l : List ByteArray) : (sv l).length = l.length := by simp [sv]

theorem rd_of_cells {w : World} {a : Addr} {vs : List Value} (h : ∀ i v, vs[i]? = some v → w.cell? (a.add i) = some v) : Rd w w.heap.size (some a) vs := by
  by_cases hx : vs = []
  · exact .inl hx
  · obtain ⟨b, off, spot⟩ := a
    obtain ⟨v0, hv0⟩ : ∃ v, vs[0]? = some v := by
      cases vs with
      | nil => exact absurd rfl hx
      | cons v _ => exact ⟨v, rfl⟩
    have hc0 := h 0 v0 hv0
    have hspot : spot = none := by simpa [Addr.add] using World.cell?_spot hc0
    subst hspot
    have hbl : b < w.heap.size := by
      have := World.block_lt_of_cell? w _ hc0
      rw [add_none] at this
      exact this
    exact .inr ⟨b, off, rfl, hbl, fun j v hj => by have := h j v hj; rwa [add_none] at this⟩

section
variable {H : Type} {enc : TypeId × Value → H} {P : Program} {w : World} {base : Nat}

theorem open_bytes {r : Reach} {b0 : Nat} {t e : TypeId} {v : Value} {d : DataW H} {p : List MemPlace} (ht : P.underlying t = some (.slice e)) (he : P.underlying e = some (.int .u8)) (hc : P.cellsOf e = 1)
    (hv : Value.okWide P w r b0 t v) (h : DataW.Trod enc P w base (fun _ => true) true t v d p) :
    ∃ (A : Option Addr) (xs : List UInt8) (c : Nat), v = .slice A xs.length c ∧ Rd w w.heap.size A (bv xs) ∧ xs.length ≤ c ∧ c ≤ 9223372036854775807 := by
  obtain ⟨a, len, cap, rfl⟩ := okWide_slice ht hv
  obtain ⟨m, hm⟩ := h
  obtain ⟨A, xs, c, h1, h2, h3, h4, _⟩ := open_bytes_cell ht he hc hm
  exact ⟨A, xs, c, h1, h2, h3, h4⟩

theorem open_intlist {r : Reach} {b0 : Nat} {t e : TypeId} {v : Value} {d : DataW H} {p : List MemPlace} (ht : P.underlying t = some (.slice e)) (he : P.underlying e = some (.int .i64)) (hc : P.cellsOf e = 1)
    (hv : Value.okWide P w r b0 t v) (h : DataW.Trod enc P w base (fun _ => true) true t v d p) :
    ∃ (A : Option Addr) (zs : List Int) (c : Nat), v = .slice A zs.length c ∧ Rd w w.heap.size A (iv zs) ∧ zs.length ≤ c ∧ c ≤ 9223372036854775807 ∧ ∀ z ∈ zs, -9223372036854775808 ≤ z ∧ z ≤ 9223372036854775807 := by
  obtain ⟨a, len, cap, rfl⟩ := okWide_slice ht hv
  obtain ⟨m, hm⟩ := h
  rcases open_ints ht he hc hm with ⟨hcs, _⟩ | ⟨a, len, cap, zs, hcs, _, hl, hm, hz, _, hcell, hwz⟩
  · injection hcs with hcs _
    exact ⟨none, [], 0, hcs, Rd.nil_, by simp, by omega, by simp⟩
  · injection hcs with hcs _
    simp at hz
    have hzl : (zs.take len).length = len := by simp; omega
    refine ⟨some a, zs.take len, cap, by rw [hzl, hcs], rd_of_cells fun j v hj => ?_, by rw [hzl]; exact hl, by unfold maxLen at hm; omega, fun z hz' => ?_⟩
    · have hjl : j < len := by
        rcases Nat.lt_or_ge j len with hlt | hge
        · exact hlt
        · rw [List.getElem?_eq_none (by rw [iv_length, hzl]; exact hge)] at hj; cases hj
      have hjz : j < zs.length := by omega
      rw [hcell j hjz]
      simp only [iv, List.getElem?_map, List.getElem?_take, hjl, if_true, List.getElem?_eq_getElem hjz, Option.map_some] at hj
      rw [← hj]
      simp only [List.getD, List.getElem?_eq_getElem hjz, Option.getD_some]
    · have hb := bounds_i64 (hwz z (List.mem_of_mem_take hz'))
      omega

theorem open_strlist {r : Reach} {b0 : Nat} {t e : TypeId} {v : Value} {d : DataW H} {p : List MemPlace} (ht : P.underlying t = some (.slice e)) (he : P.underlying e = some .string) (hc : P.cellsOf e = 1)
    (hv : Value.okWide P w r b0 t v) (h : DataW.Trod enc P w base (fun _ => true) true t v d p) :
    ∃ (A : Option Addr) (ss : List ByteArray) (c : Nat), v = .slice A ss.length c ∧ Rd w w.heap.size A (sv ss) ∧ ss.length ≤ c ∧ c ≤ 9223372036854775807 ∧ ∀ s ∈ ss, s.size ≤ maxLen := by
  obtain ⟨a, len, cap, rfl⟩ := okWide_slice ht hv
  obtain ⟨m, hm⟩ := h
  rcases open_strings ht he hc hm with ⟨hcs, _⟩ | ⟨a, len, cap, zs, hcs, _, hl, hm, hz, _, hcell, hwz⟩
  · injection hcs with hcs _
    exact ⟨none, [], 0, hcs, Rd.nil_, by simp, by omega, by simp⟩
  · injection hcs with hcs _
    simp at hz
    have hzl : (zs.take len).length = len := by simp; omega
    refine ⟨some a, zs.take len, cap, by rw [hzl, hcs], rd_of_cells fun j v hj => ?_, by rw [hzl]; exact hl, by unfold maxLen at hm; omega, fun z hz' => hwz z (List.mem_of_mem_take hz')⟩
    have hjl : j < len := by
      rcases Nat.lt_or_ge j len with hlt | hge
      · exact hlt
      · rw [List.getElem?_eq_none (by rw [sv_length, hzl]; exact hge)] at hj; cases hj
    have hjz : j < zs.length := by omega
    rw [hcell j hjz]
    simp only [sv, List.getElem?_map, List.getElem?_take, hjl, if_true, List.getElem?_eq_getElem hjz, Option.map_some] at hj
    rw [← hj]
    simp only [List.getD, List.getElem?_eq_getElem hjz, Option.getD_some]
end
end Go.Proofs.Ytgdokjfjmcleeaa
