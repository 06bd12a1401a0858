/- Arguments opened: structs of any number of fields, by value. No program in sight. -/
import Derived.Test.YtcdedegjpfemmaaOp
namespace Go.Proofs.Ytcdedegjpfemmaa
open Go.ChangeShapes Go.WideShapes Go.ChangeAt Go.RowKit Go.Joins Go.Deep
set_option linter.unusedVariables false
set_option linter.unusedSimpArgs false

section
variable {H : Type} {enc : TypeId × Value → H} {P : Program} {w : World} {base : Nat}
theorem open_fields {r : Reach} {b0 : Nat} {t : TypeId} {fs : Array Field} {v : Value} {d : DataW H} {p : List MemPlace} (hs : P.underlying t = some (.struct fs)) (hone : oneCellFields P fs = true) (hC : P.cellsOf t = fs.size)
    (hv : Value.okWide P w r b0 t v) (h : DataW.Trod enc P w base (fun _ => true) true t v d p) :
    ∃ l : List Value, v = .agg ⟨l⟩ ∧ l.length = fs.size ∧ ∀ (j : Nat) (f : Field) (u : Value), fs[j]? = some f → l[j]? = some u → ∃ n y, DataW.trod enc P w base (fun _ => true) true n f.type [u] = some y := by
  obtain ⟨cs, rfl, hsz⟩ := okWide_struct hs hv
  obtain ⟨l⟩ := cs
  obtain ⟨fuel, hf⟩ := h
  obtain ⟨xs, n, _, hx, _, hlen, hg⟩ := DataW.trod_struct hs hf
  refine ⟨l, rfl, hsz.trans hC, fun j f u hj hu => ?_⟩
  obtain ⟨o0, k0⟩ := hone_of hone j f hj
  have h1 := hg j f hj
  rw [o0, k0] at h1
  have hjl : j < l.length := (List.getElem?_eq_some_iff.1 hu).1
  have hu' : l[j] = u := by rw [List.getElem?_eq_getElem hjl] at hu; injection hu
  have h2 : ((Value.agg ⟨l⟩).cells.toList.drop j).take 1 = [u] := by
    show (l.drop j).take 1 = [u]
    rw [List.drop_eq_getElem_cons hjl, hu']
    rfl
  rw [h2] at h1
  have hjf : j < fs.size := (Array.getElem?_eq_some_iff.1 hj).1
  obtain ⟨y, hy⟩ : ∃ y, xs[j]? = some y := ⟨xs[j]'(by omega), List.getElem?_eq_getElem (by omega)⟩
  exact ⟨n, y, h1.trans hy⟩
/-- a record of a deferred call -/
theorem open_dnote {r : Reach} {b0 : Nat} {t tu ti tb : TypeId} {f0 f1 f2 f3 f4 : Field} {v : Value} {d : DataW H} {p : List MemPlace} (hs : P.underlying t = some (.struct #[f0, f1, f2, f3, f4])) (hone : oneCellFields P #[f0, f1, f2, f3, f4] = true) (hC : P.cellsOf t = 5)
    (e0 : f0.type = tu) (e1 : f1.type = tu) (e2 : f2.type = ti) (e3 : f3.type = tb) (e4 : f4.type = tu) (hu : P.underlying tu = some (.int .u64)) (hi : P.underlying ti = some (.int .i64)) (hb : P.underlying tb = some .bool)
    (hv : Value.okWide P w r b0 t v) (h : DataW.Trod enc P w base (fun _ => true) true t v d p) :
    ∃ (nx fr fn : Int) (has : Bool) (ag : Int), v = .agg #[.int .u64 nx, .int .u64 fr, .int .i64 fn, .bool has, .int .u64 ag] ∧
      (0 ≤ nx ∧ nx < 18446744073709551616 ∧ 0 ≤ fr ∧ fr < 18446744073709551616 ∧ -9223372036854775808 ≤ fn ∧ fn ≤ 9223372036854775807 ∧ 0 ≤ ag ∧ ag < 18446744073709551616) := by
  obtain ⟨l, rfl, hl, hf⟩ := open_fields hs hone hC hv h
  match l, hl with
  | [v0, v1, v2, v3, v4], _ =>
    subst e0; subst e2; subst e3
    obtain ⟨_, _, h0⟩ := hf 0 f0 v0 rfl rfl
    obtain ⟨_, _, h1⟩ := hf 1 f1 v1 rfl rfl
    obtain ⟨_, _, h2⟩ := hf 2 f2 v2 rfl rfl
    obtain ⟨_, _, h3⟩ := hf 3 f3 v3 rfl rfl
    obtain ⟨_, _, h4⟩ := hf 4 f4 v4 rfl rfl
    rw [e1] at h1
    rw [e4] at h4
    obtain ⟨a0, q0, _, w0⟩ := DataW.trod_int hu h0
    obtain ⟨a1, q1, _, w1⟩ := DataW.trod_int hu h1
    obtain ⟨a2, q2, _, w2⟩ := DataW.trod_int hi h2
    obtain ⟨a3, q3, _⟩ := DataW.trod_bool hb h3
    obtain ⟨a4, q4, _, w4⟩ := DataW.trod_int hu h4
    injection q0 with q0 _; injection q1 with q1 _; injection q2 with q2 _; injection q3 with q3 _; injection q4 with q4 _
    have b0 := bounds_u64 w0
    have b1 := bounds_u64 w1
    have b2 := bounds_i64 w2
    have b4 := bounds_u64 w4
    exact ⟨a0, a1, a2, a3, a4, by rw [q0, q1, q2, q3, q4], by omega⟩
end
end Go.Proofs.Ytcdedegjpfemmaa
