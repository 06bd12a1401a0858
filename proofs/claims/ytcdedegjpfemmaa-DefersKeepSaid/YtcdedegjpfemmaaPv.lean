/- A record that was pushed reads back, in plain Lean. -/
import Derived.Test.YtcdedegjpfemmaaPu
namespace Go.Proofs.Ytcdedegjpfemmaa
set_option linter.unusedVariables false
set_option linter.unusedSimpArgs false
theorem recL_length (d : Dn) : (recL d).length = 40 := by simp [recL, toLE_length]
theorem readD_rec (xs : List UInt8) (d : Dn) (hd : DnOk d) (hv : validD d = true) (h8 : xs.length % 8 = 0) : readD (xs ++ recL d) (65536 + xs.length) = (d, 0) := by
  obtain ⟨d1, d2, d3, d4, d5, d6, d7, d8⟩ := hd
  have hv2 : (0 ≤ d.fn ∧ d.fn < 32) ∧ (d.has = true ∨ d.ag = 0) := by unfold validD at hv; simpa using hv
  have hw : 0 ≤ hasW d ∧ hasW d ≤ 1 := by unfold hasW; split <;> omega
  have t8 : ∀ v, (toLE 8 v).length = 8 := fun v => toLE_length 8 v
  have e0 : rdW (xs ++ recL d) xs.length 0 = d.nx := by
    rw [show recL d = [] ++ (toLE 8 d.nx ++ (toLE 8 d.fr ++ toLE 8 d.fn ++ toLE 8 (hasW d) ++ toLE 8 d.ag)) from by simp [recL]]
    exact rdW_at _ _ _ _ 0 rfl d1 d2
  have e1 : rdW (xs ++ recL d) xs.length 1 = d.fr := by
    rw [show recL d = toLE 8 d.nx ++ (toLE 8 d.fr ++ (toLE 8 d.fn ++ toLE 8 (hasW d) ++ toLE 8 d.ag)) from by simp [recL]]
    exact rdW_at _ _ _ _ 1 (by simp [t8]) d3 d4
  have e2 : rdW (xs ++ recL d) xs.length 2 = d.fn := by
    rw [show recL d = (toLE 8 d.nx ++ toLE 8 d.fr) ++ (toLE 8 d.fn ++ (toLE 8 (hasW d) ++ toLE 8 d.ag)) from by simp [recL]]
    exact rdW_at _ _ _ _ 2 (by simp [t8]) hv2.1.1 (by omega)
  have e3 : rdW (xs ++ recL d) xs.length 3 = hasW d := by
    rw [show recL d = (toLE 8 d.nx ++ toLE 8 d.fr ++ toLE 8 d.fn) ++ (toLE 8 (hasW d) ++ toLE 8 d.ag) from by simp [recL]]
    exact rdW_at _ _ _ _ 3 (by simp [t8]) hw.1 (by omega)
  have e4 : rdW (xs ++ recL d) xs.length 4 = d.ag := by
    rw [show recL d = (toLE 8 d.nx ++ toLE 8 d.fr ++ toLE 8 d.fn ++ toLE 8 (hasW d)) ++ (toLE 8 d.ag ++ []) from by simp [recL]]
    exact rdW_at _ _ _ _ 4 (by simp [t8]) d7 d8
  have hp : ((65536 : Int) + xs.length - 65536).toNat = xs.length := by omega
  have hi : inb 65536 (xs ++ recL d).length (65536 + xs.length) 40 = true := inb_iff.2 (by rw [List.length_append, recL_length]; omega)
  unfold readD
  rw [if_pos ⟨hi, by omega⟩, hp]
  have hb : ¬ badD (xs ++ recL d) xs.length := by
    unfold badD; rw [e2, e3, e4]; unfold hasW
    split <;> rename_i hh
    · omega
    · rcases hv2.2 with q | q
      · exact absurd q hh
      · omega
  rw [if_neg hb, e0, e1, e2, e3, e4]
  obtain ⟨nx, fr, fn, has, ag⟩ := d
  cases has <;> rfl
end Go.Proofs.Ytcdedegjpfemmaa
