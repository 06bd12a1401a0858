/- Arguments opened: a slice of texts. No program in sight. -/
import Derived.Test.YtcdedegjpfemmaaOp2
import Derived.Test.YtcdedegjpfemmaaOr
import Derived.Test.YtcdedegjpfemmaaPy
namespace Go.Proofs.Ytcdedegjpfemmaa
open Go.ChangeShapes Go.WideShapes Go.ChangeAt Go.RowKit Go.Joins Go.Deep
set_option linter.unusedVariables false
set_option linter.unusedSimpArgs false

section
variable {H : Type} {enc : TypeId × Value → H} {P : Program} {w : World} {base : Nat}
theorem open_texts {r : Reach} {b0 : Nat} {t e : TypeId} {v : Value} {d : DataW H} {p : List MemPlace} (ht : P.underlying t = some (.slice e)) (he : P.underlying e = some .string) (hc : P.cellsOf e = 1)
    (hv : Value.okWide P w r b0 t v) (h : DataW.Trod enc P w base (fun _ => true) true t v d p) :
    ∃ (A : Option Addr) (ts : List (List UInt8)) (c : Nat), v = .slice A ts.length c ∧ Rd w w.heap.size A (Ce.tv ts) ∧ ts.length ≤ c ∧ c ≤ 9223372036854775807 ∧ (A = none → c = 0) := by
  obtain ⟨a, len, cap, rfl⟩ := okWide_slice ht hv
  obtain ⟨m, hm⟩ := h
  rcases open_strings ht he hc hm with ⟨hcs, _⟩ | ⟨a, len, cap, zs, hcs, _, hl, hm, hz, _, hcell, hwz⟩
  · injection hcs with hcs _
    exact ⟨none, [], 0, hcs, Rd.nil_, by simp, by omega, fun _ => rfl⟩
  · injection hcs with hcs _
    simp at hz
    have hzl : ((zs.take len).map fun s => s.data.toList).length = len := by simp; omega
    refine ⟨some a, (zs.take len).map fun s => s.data.toList, cap, by rw [hzl, hcs], rd_of_cells fun j v hj => ?_, by rw [hzl]; exact hl, by unfold maxLen at hm; omega, fun hh => by cases hh⟩
    have hjl : j < len := by
      rcases Nat.lt_or_ge j len with hlt | hge
      · exact hlt
      · rw [List.getElem?_eq_none (by rw [Ce.tv_length, hzl]; exact hge)] at hj; cases hj
    have hjz : j < zs.length := by omega
    rw [hcell j hjz]
    simp only [Ce.tv, List.getElem?_map, List.getElem?_take, hjl, if_true, List.getElem?_eq_getElem hjz, Option.map_some] at hj
    rw [← hj]
    simp only [List.getD, List.getElem?_eq_getElem hjz, Option.getD_some]
end
namespace Ce
theorem tv_vis (B : Nat) (ts : List (List UInt8)) : (tv ts).map (vis B) = tv ts := by
  unfold tv
  rw [List.map_map]
  apply List.map_congr_left
  intro x _
  exact vis_flat rfl
/-- a slice of texts that is handed in -/
theorem texts_here {w : World} {A : Option Addr} {c : Nat} {ts : List (List UInt8)} (h : Rd w w.heap.size A (tv ts)) (hc : ts.length ≤ c) (hm : c ≤ 9223372036854775807) (h0 : A = none → c = 0) :
    ∃ A' c', vis w.heap.size (.slice A ts.length c) = .slice A' ts.length c' ∧ RdH (absW w) w.heap.size A' (tv ts) ∧ (A' = none → c' = 0) := by
  obtain ⟨A', c', h1, h2, _, h3, _⟩ := rd_here h (fun hh => by rw [← tv_length, hh]; rfl) hc hm h0
  rw [tv_vis] at h2
  exact ⟨A', c', h1, h2, h3⟩
end Ce
end Go.Proofs.Ytcdedegjpfemmaa
