/- A map of names that are there. -/
import Derived.Test.YtgdokjfjmcleeaaKc
import Derived.Test.YtgdokjfjmcleeaaPr
namespace Go.Proofs.Ytgdokjfjmcleeaa.Ce
open Go.RowKit
set_option linter.unusedVariables false
set_option linter.unusedSimpArgs false
set_option maxRecDepth 100000
theorem bytes_beq (s t : List UInt8) : ((⟨⟨s⟩⟩ : ByteArray) == ⟨⟨t⟩⟩) = decide (s = t) := by
  show ((⟨s⟩ : Array UInt8) == ⟨t⟩) = _
  rw [Bool.eq_iff_iff, decide_eq_true_eq, beq_iff_eq]
  simp
/-- a map's entries are names, each with true -/
def Es (es : Array MapEntry) (ns : List (List UInt8)) : Prop := es.toList.map (fun e => (e.key, e.val)) = ns.map fun s => (Value.string ⟨⟨s⟩⟩, Value.bool true)
theorem find_in : ∀ (es : List MapEntry) (ns : List (List UInt8)) (s : List UInt8) (i : Nat), es.map (fun e => (e.key, e.val)) = ns.map (fun s => (Value.string ⟨⟨s⟩⟩, Value.bool true)) → s ∈ ns → ∃ j, Instr.findNow .string (.string ⟨⟨s⟩⟩) es i = some (some (j, .bool true))
  | [], [], s, i, _, h => by cases h
  | [], _ :: _, s, i, he, _ => by cases he
  | _ :: _, [], s, i, he, _ => by cases he
  | e :: es, t :: ns, s, i, he, h => by
    rw [List.map_cons, List.map_cons] at he
    injection he with h1 h2
    injection h1 with h3 h4
    unfold Instr.findNow
    rw [h3]
    have hs : Instr.sameNow .string (.string ⟨⟨s⟩⟩) (.string ⟨⟨t⟩⟩) = some (decide (s = t)) := by
      show some ((⟨⟨s⟩⟩ : ByteArray) == ⟨⟨t⟩⟩) = _
      rw [bytes_beq]
    rw [hs]
    by_cases hst : s = t
    · rw [decide_eq_true hst]
      exact ⟨i, by rw [h4]⟩
    · rw [decide_eq_false hst]
      exact find_in es ns s (i + 1) h2 ((List.mem_cons.1 h).resolve_left hst)
theorem find_out : ∀ (es : List MapEntry) (ns : List (List UInt8)) (s : List UInt8) (i : Nat), es.map (fun e => (e.key, e.val)) = ns.map (fun s => (Value.string ⟨⟨s⟩⟩, Value.bool true)) → s ∉ ns → Instr.findNow .string (.string ⟨⟨s⟩⟩) es i = some none
  | [], [], s, i, _, h => rfl
  | [], _ :: _, s, i, he, _ => by cases he
  | _ :: _, [], s, i, he, _ => by cases he
  | e :: es, t :: ns, s, i, he, h => by
    rw [List.map_cons, List.map_cons] at he
    injection he with h1 h2
    injection h1 with h3 h4
    unfold Instr.findNow
    rw [h3]
    have hs : Instr.sameNow .string (.string ⟨⟨s⟩⟩) (.string ⟨⟨t⟩⟩) = some (decide (s = t)) := by
      show some ((⟨⟨s⟩⟩ : ByteArray) == ⟨⟨t⟩⟩) = _
      rw [bytes_beq]
    rw [hs, decide_eq_false (fun e => h (by rw [e]; exact List.mem_cons_self))]
    exact find_out es ns s (i + 1) h2 fun hm => h (List.mem_cons_of_mem _ hm)
theorem prun_check (e : Bool) (s : List UInt8) : prun Try.prog (Instr.checkKey e 10000 9 (.string ⟨⟨s⟩⟩)) = some () := by
  unfold Instr.checkKey
  rw [prun_bd, prun_under Try.underlying9]
  rfl
theorem prun_find (es : List MapEntry) (s : List UInt8) (r : Option (Nat × Value)) (h : Instr.findNow .string (.string ⟨⟨s⟩⟩) es 0 = some r) : prun Try.prog (Instr.findKey 9 (.string ⟨⟨s⟩⟩) es) = some r := by
  unfold Instr.findKey
  rw [prun_bd, prun_under Try.underlying9]
  simp only [Option.bind_some]
  rw [h]
  rfl
theorem mapOf_same (h : Hp) (id : Nat) (es : Array MapEntry) (c : Nat) : mapOf (h.set id (.mp es c)) id = some (es, c) := by
  unfold mapOf
  rw [Hp.get_same]
  rfl
theorem mapOf_ne2 (h : Hp) {id id' : Nat} (x : AObj) (e : id' ≠ id) : mapOf (h.set id x) id' = mapOf h id' := by
  unfold mapOf
  rw [Hp.get_ne h x e]
variable {h : Hp} {n : Nat}
theorem m_look {id c : Nat} {es : Array MapEntry} {ns : List (List UInt8)} {s : List UInt8} (hm : mapOf h id = some (es, c)) (he : Es es ns) : mLookup Try.prog 119 (.map (some id)) (.string ⟨⟨s⟩⟩) false h n = some ⟨.bool (decide (s ∈ ns)), h, n, [id], []⟩ := by
  have hg : prun Try.prog (Ce.mapGet 9 4 (.string ⟨⟨s⟩⟩) es) = some (.bool (decide (s ∈ ns)), decide (s ∈ ns)) := by
    unfold Ce.mapGet
    rw [prun_bd, prun_check]
    simp only [Option.bind_some]
    rw [prun_bd]
    by_cases hs : s ∈ ns
    · obtain ⟨j, hj⟩ := find_in es.toList ns s 0 he hs
      rw [prun_find _ _ _ hj, decide_eq_true hs]
      rfl
    · rw [prun_find _ _ _ (find_out es.toList ns s 0 he hs), decide_eq_false hs]
      simp only [Option.bind_some]
      rw [prun_bd, show prun Try.prog (zeroValue 4) = some (.bool false) from by kernel_rfl]
      rfl
  unfold mLookup
  dsimp only
  rw [hm]
  simp only [Option.bind_some]
  rw [show tyMap Try.prog 119 = some (9, 4) from by kernel_rfl]
  simp only [Option.bind_some]
  rw [hg]
  rfl
theorem m_put {lim id c : Nat} {es : Array MapEntry} {ns : List (List UInt8)} {s : List UInt8} (hl : lim ≤ id) (hm : mapOf h id = some (es, c)) (he : Es es ns) (hs : s ∉ ns) :
    mMapUpdate Try.prog lim 119 (.map (some id)) (.string ⟨⟨s⟩⟩) (.bool true) h n = some ⟨undef, h.set id (.mp (es.push ⟨.string ⟨⟨s⟩⟩, .bool true, c⟩) (c + 1)), n, [], [id]⟩ := by
  have hg : prun Try.prog (Ce.mapPut 9 (.string ⟨⟨s⟩⟩) (.bool true) es c) = some (es.push ⟨.string ⟨⟨s⟩⟩, .bool true, c⟩, c + 1) := by
    unfold Ce.mapPut
    rw [prun_bd, prun_check]
    simp only [Option.bind_some]
    rw [prun_bd, prun_find _ _ _ (find_out es.toList ns s 0 he hs)]
    rfl
  unfold mMapUpdate
  dsimp only
  rw [hm]
  simp only [Option.bind_some]
  rw [show tyMap Try.prog 119 = some (9, 4) from by kernel_rfl]
  simp only [Option.bind_some]
  rw [show (scal (.string ⟨⟨s⟩⟩) && flat1 (.bool true) && Nat.ble lim id) = true from by rw [ble_t hl]; rfl]
  simp only [cond_true]
  rw [hg]
  rfl
theorem Es.push {es : Array MapEntry} {ns : List (List UInt8)} {s : List UInt8} {c : Nat} (he : Es es ns) : Es (es.push ⟨.string ⟨⟨s⟩⟩, .bool true, c⟩) (ns ++ [s]) := by
  unfold Es at *
  simp only [Array.toList_push, List.map_append, he, List.map_cons, List.map_nil]
end Go.Proofs.Ytgdokjfjmcleeaa.Ce
