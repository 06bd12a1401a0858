/- Arguments opened: a slice of bytes, a region. No program in sight. Arguments opened: structs of any number of fields, by value. No program in sight. Arguments opened: records of panics, by value. No program in sight. Arguments opened: slices of bytes, of integers, of strings. No program in sight. -/
import Derived.Test.YtgdokjfjmcleeaaMem
import Derived.ProofKit
import Derived.Lib.SmallJoins
import Derived.OpenShut
import Derived.ChangeOld
import Derived.SliceStrings
namespace Go.Proofs.Ytgdokjfjmcleeaa
open Go.ChangeShapes Go.WideShapes Go.ChangeAt Go.RowKit Go.Joins Go.Deep

section
variable {H : Type} {enc : TypeId × Value → H} {P : Program} {w : World} {base : Nat}

/-- a cell's value that reads as a slice of bytes -/
theorem open_bytes_cell {t e : TypeId} {held : Bool} {fuel : Nat} {v : Value} {x : DataW H × List MemPlace} (ht : P.underlying t = some (.slice e)) (he : P.underlying e = some (.int .u8)) (hc : P.cellsOf e = 1)
    (h : DataW.trod enc P w base (fun _ => true) held fuel t [v] = some x) :
    ∃ (A : Option Addr) (xs : List UInt8) (c : Nat), v = .slice A xs.length c ∧ Rd w w.heap.size A (bv xs) ∧ xs.length ≤ c ∧ c ≤ 9223372036854775807 ∧ (A = none → c = 0) := by
  rcases open_ints ht he hc h with ⟨hcs, _⟩ | ⟨a, len, cap, zs, hcs, _, hl, hm, hz, _, hcell, hwz⟩
  · injection hcs with hcs _
    exact ⟨none, [], 0, hcs, Rd.nil_, by simp, by omega, fun _ => rfl⟩
  · injection hcs with hcs _
    simp at hz
    have hzl : ((zs.take len).map fun n => UInt8.ofNat n.toNat).length = len := by simp; omega
    refine ⟨some a, (zs.take len).map fun n => UInt8.ofNat n.toNat, cap, by rw [hzl, hcs], ?_, by rw [hzl]; exact hl, by unfold maxLen at hm; omega, fun h => (by cases h)⟩
    by_cases h0 : len = 0
    · subst h0; exact .inl (by simp [bv])
    · obtain ⟨b, off, spot⟩ := a
      have hc0 := hcell 0 (by omega)
      have hspot : spot = none := by simpa [Addr.add] using World.cell?_spot hc0
      subst hspot
      have hbl : b < w.heap.size := by
        have := World.block_lt_of_cell? w _ hc0
        rw [add_none] at this
        exact this
      refine .inr ⟨b, off, rfl, hbl, fun j v hj => ?_⟩
      have hjl : j < len := by
        rcases Nat.lt_or_ge j len with hlt | hge
        · exact hlt
        · rw [List.getElem?_eq_none (by rw [bv_length, hzl]; exact hge)] at hj; cases hj
      have hjz : j < zs.length := by omega
      have hcj := hcell j hjz
      rw [add_none] at hcj
      rw [hcj]
      have hw := hwz (zs[j]) (List.getElem_mem _)
      have hb := bounds_u8 hw
      simp only [bv, List.getElem?_map, List.getElem?_take, hjl, if_true, List.getElem?_eq_getElem hjz, Option.map_some] at hj
      rw [← hj]
      simp only [List.getD, List.getElem?_eq_getElem hjz, Option.getD_some]
      congr 2
      simp
      omega

theorem open_region {r : Reach} {b0 : Nat} {t tb tu e : TypeId} {n0 n1 : Field} {v : Value} {d : DataW H} {p : List MemPlace} (hs : P.underlying t = some (.struct #[n0, n1])) (hone : oneCellFields P #[n0, n1] = true) (hC : P.cellsOf t = 2)
    (h0 : n0.type = tu) (h1 : n1.type = tb) (hu : P.underlying tu = some (.int .u64)) (hb : P.underlying tb = some (.slice e)) (he : P.underlying e = some (.int .u8)) (hc : P.cellsOf e = 1)
    (hv : Value.okWide P w r b0 t v) (h : DataW.Trod enc P w base (fun _ => true) true t v d p) :
    ∃ (b : Int) (A : Option Addr) (xs : List UInt8) (c : Nat), v = .agg #[.int .u64 b, .slice A xs.length c] ∧ Rd w w.heap.size A (bv xs) ∧ 0 ≤ b ∧ b < 18446744073709551616 ∧ xs.length ≤ c ∧ c ≤ 9223372036854775807 ∧ (A = none → c = 0) := by
  obtain ⟨c0, c1, y0, y1, m, rfl, _, _, hy0, hy1⟩ := open_agg2 hs hone hC hv h
  subst h0; subst h1
  obtain ⟨b, e0, _, wb⟩ := DataW.trod_int hu hy0
  injection e0 with e0 _
  obtain ⟨A, xs, c, rfl, hr, hl, hcm, hn⟩ := open_bytes_cell hb he hc hy1
  have hbb := bounds_u64 wb
  exact ⟨b, A, xs, c, by rw [e0], hr, hbb.1, by omega, hl, hcm, hn⟩
end
end Go.Proofs.Ytgdokjfjmcleeaa
namespace Go.Proofs.Ytgdokjfjmcleeaa
open Go.ChangeShapes Go.WideShapes Go.ChangeAt Go.RowKit Go.Joins Go.Deep

section
variable {H : Type} {enc : TypeId × Value → H} {P : Program} {w : World} {base : Nat}
theorem open_fields {r : Reach} {b0 : Nat} {t : TypeId} {fs : Array Field} {v : Value} {d : DataW H} {p : List MemPlace} (hs : P.underlying t = some (.struct fs)) (hone : oneCellFields P fs = true) (hC : P.cellsOf t = fs.size)
    (hv : Value.okWide P w r b0 t v) (h : DataW.Trod enc P w base (fun _ => true) true t v d p) :
    ∃ l : List Value, v = .agg ⟨l⟩ ∧ l.length = fs.size ∧ ∀ (j : Nat) (f : Field) (u : Value), fs[j]? = some f → l[j]? = some u → ∃ n y, DataW.trod enc P w base (fun _ => true) true n f.type [u] = some y := by
  obtain ⟨cs, rfl, hsz⟩ := okWide_struct hs hv
  obtain ⟨l⟩ := cs
  obtain ⟨fuel, hf⟩ := h
  obtain ⟨xs, n, _, hx, _, hlen, hg⟩ := DataW.trod_struct hs hf
  refine ⟨l, rfl, hsz.trans hC, fun j f u hj hu => ?_⟩
  obtain ⟨o0, k0⟩ := hone_of hone j f hj
  have h1 := hg j f hj
  rw [o0, k0] at h1
  have hjl : j < l.length := (List.getElem?_eq_some_iff.1 hu).1
  have hu' : l[j] = u := by rw [List.getElem?_eq_getElem hjl] at hu; injection hu
  have h2 : ((Value.agg ⟨l⟩).cells.toList.drop j).take 1 = [u] := by
    show (l.drop j).take 1 = [u]
    rw [List.drop_eq_getElem_cons hjl, hu']
    rfl
  rw [h2] at h1
  have hjf : j < fs.size := (Array.getElem?_eq_some_iff.1 hj).1
  obtain ⟨y, hy⟩ : ∃ y, xs[j]? = some y := ⟨xs[j]'(by omega), List.getElem?_eq_getElem (by omega)⟩
  exact ⟨n, y, h1.trans hy⟩
/-- a record of a deferred call -/
theorem open_dnote {r : Reach} {b0 : Nat} {t tu ti tb : TypeId} {f0 f1 f2 f3 f4 : Field} {v : Value} {d : DataW H} {p : List MemPlace} (hs : P.underlying t = some (.struct #[f0, f1, f2, f3, f4])) (hone : oneCellFields P #[f0, f1, f2, f3, f4] = true) (hC : P.cellsOf t = 5)
    (e0 : f0.type = tu) (e1 : f1.type = tu) (e2 : f2.type = ti) (e3 : f3.type = tb) (e4 : f4.type = tu) (hu : P.underlying tu = some (.int .u64)) (hi : P.underlying ti = some (.int .i64)) (hb : P.underlying tb = some .bool)
    (hv : Value.okWide P w r b0 t v) (h : DataW.Trod enc P w base (fun _ => true) true t v d p) :
    ∃ (nx fr fn : Int) (has : Bool) (ag : Int), v = .agg #[.int .u64 nx, .int .u64 fr, .int .i64 fn, .bool has, .int .u64 ag] ∧
      (0 ≤ nx ∧ nx < 18446744073709551616 ∧ 0 ≤ fr ∧ fr < 18446744073709551616 ∧ -9223372036854775808 ≤ fn ∧ fn ≤ 9223372036854775807 ∧ 0 ≤ ag ∧ ag < 18446744073709551616) := by
  obtain ⟨l, rfl, hl, hf⟩ := open_fields hs hone hC hv h
  match l, hl with
  | [v0, v1, v2, v3, v4], _ =>
    subst e0; subst e2; subst e3
    obtain ⟨_, _, h0⟩ := hf 0 f0 v0 rfl rfl
    obtain ⟨_, _, h1⟩ := hf 1 f1 v1 rfl rfl
    obtain ⟨_, _, h2⟩ := hf 2 f2 v2 rfl rfl
    obtain ⟨_, _, h3⟩ := hf 3 f3 v3 rfl rfl
    obtain ⟨_, _, h4⟩ := hf 4 f4 v4 rfl rfl
    rw [e1] at h1
    rw [e4] at h4
    obtain ⟨a0, q0, _, w0⟩ := DataW.trod_int hu h0
    obtain ⟨a1, q1, _, w1⟩ := DataW.trod_int hu h1
    obtain ⟨a2, q2, _, w2⟩ := DataW.trod_int hi h2
    obtain ⟨a3, q3, _⟩ := DataW.trod_bool hb h3
    obtain ⟨a4, q4, _, w4⟩ := DataW.trod_int hu h4
    injection q0 with q0 _; injection q1 with q1 _; injection q2 with q2 _; injection q3 with q3 _; injection q4 with q4 _
    have b0 := bounds_u64 w0
    have b1 := bounds_u64 w1
    have b2 := bounds_i64 w2
    have b4 := bounds_u64 w4
    exact ⟨a0, a1, a2, a3, a4, by rw [q0, q1, q2, q3, q4], by omega⟩
end
end Go.Proofs.Ytgdokjfjmcleeaa
namespace Go.Proofs.Ytgdokjfjmcleeaa
open Go.ChangeShapes Go.WideShapes Go.ChangeAt Go.RowKit Go.Joins Go.Deep
set_option linter.unusedVariables false
set_option linter.unusedSimpArgs false

section
variable {H : Type} {enc : TypeId × Value → H} {P : Program} {w : World} {base : Nat}
theorem open_pnote {r : Reach} {b0 : Nat} {t tu : TypeId} {f0 f1 f2 f3 f4 f5 f6 : Field} {v : Value} {d : DataW H} {p : List MemPlace} (hs : P.underlying t = some (.struct #[f0, f1, f2, f3, f4, f5, f6])) (hone : oneCellFields P #[f0, f1, f2, f3, f4, f5, f6] = true) (hC : P.cellsOf t = 7)
    (e0 : f0.type = tu) (e1 : f1.type = tu) (e2 : f2.type = tu) (e3 : f3.type = tu) (e4 : f4.type = tu) (e5 : f5.type = tu) (e6 : f6.type = tu) (hu : P.underlying tu = some (.int .u64))
    (hv : Value.okWide P w r b0 t v) (h : DataW.Trod enc P w base (fun _ => true) true t v d p) :
    ∃ (nx tg x y fl ca fr : Int), v = .agg #[.int .u64 nx, .int .u64 tg, .int .u64 x, .int .u64 y, .int .u64 fl, .int .u64 ca, .int .u64 fr] ∧
      ((0 ≤ nx ∧ nx < 18446744073709551616) ∧ (0 ≤ tg ∧ tg < 18446744073709551616) ∧ (0 ≤ x ∧ x < 18446744073709551616) ∧ (0 ≤ y ∧ y < 18446744073709551616) ∧ (0 ≤ fl ∧ fl < 18446744073709551616) ∧ (0 ≤ ca ∧ ca < 18446744073709551616) ∧ (0 ≤ fr ∧ fr < 18446744073709551616)) := by
  obtain ⟨l, rfl, hl, hf⟩ := open_fields hs hone hC hv h
  match l, hl with
  | [v0, v1, v2, v3, v4, v5, v6], _ =>
    subst e0
    obtain ⟨_, _, h0⟩ := hf 0 f0 v0 rfl rfl
    obtain ⟨_, _, h1⟩ := hf 1 f1 v1 rfl rfl
    obtain ⟨_, _, h2⟩ := hf 2 f2 v2 rfl rfl
    obtain ⟨_, _, h3⟩ := hf 3 f3 v3 rfl rfl
    obtain ⟨_, _, h4⟩ := hf 4 f4 v4 rfl rfl
    obtain ⟨_, _, h5⟩ := hf 5 f5 v5 rfl rfl
    obtain ⟨_, _, h6⟩ := hf 6 f6 v6 rfl rfl
    rw [e1] at h1
    rw [e2] at h2
    rw [e3] at h3
    rw [e4] at h4
    rw [e5] at h5
    rw [e6] at h6
    obtain ⟨a0, q0, _, w0⟩ := DataW.trod_int hu h0
    injection q0 with q0 _
    have b0 := bounds_u64 w0
    obtain ⟨a1, q1, _, w1⟩ := DataW.trod_int hu h1
    injection q1 with q1 _
    have b1 := bounds_u64 w1
    obtain ⟨a2, q2, _, w2⟩ := DataW.trod_int hu h2
    injection q2 with q2 _
    have b2 := bounds_u64 w2
    obtain ⟨a3, q3, _, w3⟩ := DataW.trod_int hu h3
    injection q3 with q3 _
    have b3 := bounds_u64 w3
    obtain ⟨a4, q4, _, w4⟩ := DataW.trod_int hu h4
    injection q4 with q4 _
    have b4 := bounds_u64 w4
    obtain ⟨a5, q5, _, w5⟩ := DataW.trod_int hu h5
    injection q5 with q5 _
    have b5 := bounds_u64 w5
    obtain ⟨a6, q6, _, w6⟩ := DataW.trod_int hu h6
    injection q6 with q6 _
    have b6 := bounds_u64 w6
    exact ⟨a0, a1, a2, a3, a4, a5, a6, by rw [q0, q1, q2, q3, q4, q5, q6], by omega⟩
end
end Go.Proofs.Ytgdokjfjmcleeaa
namespace Go.Proofs.Ytgdokjfjmcleeaa
open Go.ChangeShapes Go.WideShapes Go.ChangeAt Go.RowKit Go.Joins Go.Deep

def iv (l : List Int) : List Value := l.map fun z => .int .i64 z
theorem iv_length (l : List Int) : (iv l).length = l.length := by simp [iv]
def sv (l : List ByteArray) : List Value := l.map fun s => .string s
theorem sv_length (l : List ByteArray) : (sv l).length = l.length := by simp [sv]

theorem rd_of_cells {w : World} {a : Addr} {vs : List Value} (h : ∀ i v, vs[i]? = some v → w.cell? (a.add i) = some v) : Rd w w.heap.size (some a) vs := by
  by_cases hx : vs = []
  · exact .inl hx
  · obtain ⟨b, off, spot⟩ := a
    obtain ⟨v0, hv0⟩ : ∃ v, vs[0]? = some v := by
      cases vs with
      | nil => exact absurd rfl hx
      | cons v _ => exact ⟨v, rfl⟩
    have hc0 := h 0 v0 hv0
    have hspot : spot = none := by simpa [Addr.add] using World.cell?_spot hc0
    subst hspot
    have hbl : b < w.heap.size := by
      have := World.block_lt_of_cell? w _ hc0
      rw [add_none] at this
      exact this
    exact .inr ⟨b, off, rfl, hbl, fun j v hj => by have := h j v hj; rwa [add_none] at this⟩

section
variable {H : Type} {enc : TypeId × Value → H} {P : Program} {w : World} {base : Nat}

theorem open_bytes {r : Reach} {b0 : Nat} {t e : TypeId} {v : Value} {d : DataW H} {p : List MemPlace} (ht : P.underlying t = some (.slice e)) (he : P.underlying e = some (.int .u8)) (hc : P.cellsOf e = 1)
    (hv : Value.okWide P w r b0 t v) (h : DataW.Trod enc P w base (fun _ => true) true t v d p) :
    ∃ (A : Option Addr) (xs : List UInt8) (c : Nat), v = .slice A xs.length c ∧ Rd w w.heap.size A (bv xs) ∧ xs.length ≤ c ∧ c ≤ 9223372036854775807 := by
  obtain ⟨a, len, cap, rfl⟩ := okWide_slice ht hv
  obtain ⟨m, hm⟩ := h
  obtain ⟨A, xs, c, h1, h2, h3, h4, _⟩ := open_bytes_cell ht he hc hm
  exact ⟨A, xs, c, h1, h2, h3, h4⟩

theorem open_intlist {r : Reach} {b0 : Nat} {t e : TypeId} {v : Value} {d : DataW H} {p : List MemPlace} (ht : P.underlying t = some (.slice e)) (he : P.underlying e = some (.int .i64)) (hc : P.cellsOf e = 1)
    (hv : Value.okWide P w r b0 t v) (h : DataW.Trod enc P w base (fun _ => true) true t v d p) :
    ∃ (A : Option Addr) (zs : List Int) (c : Nat), v = .slice A zs.length c ∧ Rd w w.heap.size A (iv zs) ∧ zs.length ≤ c ∧ c ≤ 9223372036854775807 ∧ ∀ z ∈ zs, -9223372036854775808 ≤ z ∧ z ≤ 9223372036854775807 := by
  obtain ⟨a, len, cap, rfl⟩ := okWide_slice ht hv
  obtain ⟨m, hm⟩ := h
  rcases open_ints ht he hc hm with ⟨hcs, _⟩ | ⟨a, len, cap, zs, hcs, _, hl, hm, hz, _, hcell, hwz⟩
  · injection hcs with hcs _
    exact ⟨none, [], 0, hcs, Rd.nil_, by simp, by omega, by simp⟩
  · injection hcs with hcs _
    simp at hz
    have hzl : (zs.take len).length = len := by simp; omega
    refine ⟨some a, zs.take len, cap, by rw [hzl, hcs], rd_of_cells fun j v hj => ?_, by rw [hzl]; exact hl, by unfold maxLen at hm; omega, fun z hz' => ?_⟩
    · have hjl : j < len := by
        rcases Nat.lt_or_ge j len with hlt | hge
        · exact hlt
        · rw [List.getElem?_eq_none (by rw [iv_length, hzl]; exact hge)] at hj; cases hj
      have hjz : j < zs.length := by omega
      rw [hcell j hjz]
      simp only [iv, List.getElem?_map, List.getElem?_take, hjl, if_true, List.getElem?_eq_getElem hjz, Option.map_some] at hj
      rw [← hj]
      simp only [List.getD, List.getElem?_eq_getElem hjz, Option.getD_some]
    · have hb := bounds_i64 (hwz z (List.mem_of_mem_take hz'))
      omega

theorem open_strlist {r : Reach} {b0 : Nat} {t e : TypeId} {v : Value} {d : DataW H} {p : List MemPlace} (ht : P.underlying t = some (.slice e)) (he : P.underlying e = some .string) (hc : P.cellsOf e = 1)
    (hv : Value.okWide P w r b0 t v) (h : DataW.Trod enc P w base (fun _ => true) true t v d p) :
    ∃ (A : Option Addr) (ss : List ByteArray) (c : Nat), v = .slice A ss.length c ∧ Rd w w.heap.size A (sv ss) ∧ ss.length ≤ c ∧ c ≤ 9223372036854775807 ∧ ∀ s ∈ ss, s.size ≤ maxLen := by
  obtain ⟨a, len, cap, rfl⟩ := okWide_slice ht hv
  obtain ⟨m, hm⟩ := h
  rcases open_strings ht he hc hm with ⟨hcs, _⟩ | ⟨a, len, cap, zs, hcs, _, hl, hm, hz, _, hcell, hwz⟩
  · injection hcs with hcs _
    exact ⟨none, [], 0, hcs, Rd.nil_, by simp, by omega, by simp⟩
  · injection hcs with hcs _
    simp at hz
    have hzl : (zs.take len).length = len := by simp; omega
    refine ⟨some a, zs.take len, cap, by rw [hzl, hcs], rd_of_cells fun j v hj => ?_, by rw [hzl]; exact hl, by unfold maxLen at hm; omega, fun z hz' => hwz z (List.mem_of_mem_take hz')⟩
    have hjl : j < len := by
      rcases Nat.lt_or_ge j len with hlt | hge
      · exact hlt
      · rw [List.getElem?_eq_none (by rw [sv_length, hzl]; exact hge)] at hj; cases hj
    have hjz : j < zs.length := by omega
    rw [hcell j hjz]
    simp only [sv, List.getElem?_map, List.getElem?_take, hjl, if_true, List.getElem?_eq_getElem hjz, Option.map_some] at hj
    rw [← hj]
    simp only [List.getD, List.getElem?_eq_getElem hjz, Option.getD_some]
end
end Go.Proofs.Ytgdokjfjmcleeaa
