/- Results with two new rows. No program in sight. -/
import Derived.Test.YtgdokjfjmcleeaaKa
namespace Go.Proofs.Ytgdokjfjmcleeaa.Ce
open Go.RowKit
set_option linter.unusedVariables false
set_option linter.unusedSimpArgs false
section
variable {P : Program} {F : CallE} {h : Hp} {n : Nat} {Φ : Value → Hp → Nat → Prop}
theorem reN_two {m1 m2 : Nat} (hne : m1 ≠ m2) : reN n [m1, m2] m2 = n + 1 := by
  unfold reN
  rw [show Nat.beq m1 m2 = false from by rw [Bool.eq_false_iff]; intro hh; exact hne (Nat.eq_of_beq_eq_true hh)]
  unfold reN
  rw [Nat.beq_refl]
  rfl
theorem reN_one {m1 : Nat} {l : List Nat} : reN n (m1 :: l) m1 = n := by
  unfold reN
  rw [Nat.beq_refl]
  rfl
/-- a result with two new rows -/
theorem sw_row2 {v v' : Value} {h' : Hp} {n' m1 m2 e1 e2 : Nat} {ro1 ro2 : Bool} {cs1 cs2 : List Value} (hv : idV n v = [m1, m2]) (hne : m1 ≠ m2) (hn : noFn v = true) (h1 : m1 < n') (h2 : m2 < n') (g1 : rowOf h' m1 = some (e1, ro1, cs1)) (g2 : rowOf h' m2 = some (e2, ro2, cs2))
    (c1 : ∀ v ∈ cs1, idA n v = []) (c2 : ∀ v ∈ cs2, idA n v = []) (hre : reV n [m1, m2] v = v') (hk : Φ v' ((h.set n (.row e1 ro1 cs1)).set (n + 1) (.row e2 ro2 cs2)) (n + 1 + 1)) : kSweep h n Φ v h' n' := by
  have g1' : h'.get m1 = .row e1 ro1 cs1 := rowOf_some g1
  have g2' : h'.get m2 = .row e2 ro2 cs2 := rowOf_some g2
  have p1 : plainO n (AObj.row e1 ro1 cs1) = true := by
    show cs1.all (fun v => (idA n v).isEmpty) = true
    rw [List.all_eq_true]
    intro v hv
    rw [c1 v hv]
    rfl
  have p2 : plainO n (AObj.row e2 ro2 cs2) = true := by
    show cs2.all (fun v => (idA n v).isEmpty) = true
    rw [List.all_eq_true]
    intro v hv
    rw [c2 v hv]
    rfl
  have b1 : Nat.blt m1 n' = true := by rw [Nat.blt_eq]; exact h1
  have b2 : Nat.blt m2 n' = true := by rw [Nat.blt_eq]; exact h2
  have ho : once [m1, m2] = [m1, m2] := by simp [once, hne]
  have e : sweep h n (v, h', n') = (v', (h.set n (.row e1 ro1 cs1)).set (n + 1) (.row e2 ro2 cs2), n + 1 + 1) := by
    unfold sweep
    dsimp only
    rw [hv, hn, ho]
    simp only [List.all_cons, List.all_nil, b1, b2, g1', g2', p1, p2, Bool.and_true, cond_true, hre]
    simp [g1', g2']
  unfold kSweep
  rw [e]
  exact hk
end
end Go.Proofs.Ytgdokjfjmcleeaa.Ce
