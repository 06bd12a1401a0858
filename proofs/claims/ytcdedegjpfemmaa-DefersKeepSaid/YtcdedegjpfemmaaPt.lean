/- What defers.Read reads of a heap that grew, in plain Lean. -/
import Derived.Test.YtcdedegjpfemmaaPp
namespace Go.Proofs.Ytcdedegjpfemmaa
set_option linter.unusedVariables false
set_option linter.unusedSimpArgs false
theorem rdW_append (xs L : List UInt8) (p j : Nat) (h : p + 8 * j + 8 ≤ xs.length) : rdW (xs ++ L) p j = rdW xs p j := by
  unfold rdW wordV
  rw [List.drop_append_of_le_length (by omega), List.take_append_of_le_length (by rw [List.length_drop]; omega)]
theorem readD_append (xs L : List UInt8) (a : Int) (h : (readD xs a).2 ≠ 16) : readD (xs ++ L) a = readD xs a := by
  by_cases hin : inb 65536 xs.length a 40 = true ∧ a % 8 = 0
  · have hi := inb_iff.1 hin.1
    have hi2 : inb 65536 (xs ++ L).length a 40 = true := inb_iff.2 (by rw [List.length_append]; omega)
    have e : ∀ j, j < 5 → rdW (xs ++ L) (a - 65536).toNat j = rdW xs (a - 65536).toNat j := fun j hj => rdW_append xs L _ j (by omega)
    have e0 := e 0 (by omega); have e1 := e 1 (by omega); have e2 := e 2 (by omega); have e3 := e 3 (by omega); have e4 := e 4 (by omega)
    have hb : badD (xs ++ L) (a - 65536).toNat ↔ badD xs (a - 65536).toNat := by unfold badD; rw [e2, e3, e4]
    unfold readD
    rw [if_pos ⟨hi2, hin.2⟩, if_pos hin, e0, e1, e2, e3, e4]
    by_cases hx : badD xs (a - 65536).toNat
    · rw [if_pos hx, if_pos (hb.2 hx)]
    · rw [if_neg hx, if_neg (fun q => hx (hb.1 q))]
  · exact absurd (by unfold readD; rw [if_neg hin]) h
end Go.Proofs.Ytcdedegjpfemmaa
