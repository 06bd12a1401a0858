/- Widths of types by the reference: plain facts. -/
import Derived.Test.YtgdokjfjmcleeaaKi
import Derived.Test.YtgdokjfjmcleeaaKw
namespace Go.Proofs.Ytgdokjfjmcleeaa.Ce
open Go.RowKit
set_option linter.unusedVariables false
set_option linter.unusedSimpArgs false
theorem sumF_map (now : List Int) (fs : List (List UInt8 × Int)) (q : Nat) : sumF now (fs.take q) = sumF now (fs.take q) := rfl
/-- a width so far, at most the limit -/
def wq (now : List Int) (fs : List (List UInt8 × Int)) (q : Nat) : Int := min (1 + sumF now (fs.take q)) 5001
theorem wq_zero (now : List Int) (fs : List (List UInt8 × Int)) : wq now fs 0 = 1 := by simp [wq, sumF]; rfl
theorem wq_succ {now : List Int} (hn : Bnd now) {fs : List (List UInt8 × Int)} {q : Nat} (hq : q < fs.length) : min (wq now fs q + now.getD (fs[q]).2.toNat 0) 5001 = wq now fs (q + 1) := by
  have h1 := hn.getD (fs[q]).2.toNat
  have h2 := sumF_bnd hn (fs.take q)
  unfold wq
  rw [sumF_take now hq]
  omega
theorem wOne_4 {below now : List Int} {t : Tp} (h : t.kd = 4) (hf : t.fs = []) : wOne below now t = min (1 + below.getD t.el.toNat 0) 5001 := by unfold wOne wHead; rw [if_pos h, hf]; simp [sumF]
theorem wOne_7 {below now : List Int} {t : Tp} (h : t.kd = 7) (hf : t.fs = []) : wOne below now t = min (1 + 16 * below.getD t.el.toNat 0) 5001 := by unfold wOne wHead; rw [if_neg (by omega), if_pos h, hf]; simp [sumF]
theorem wOne_6 {below now : List Int} {t : Tp} (h : t.kd = 6) (hf : t.fs = []) : wOne below now t = min (1 + t.ln * now.getD t.el.toNat 0) 5001 := by unfold wOne wHead; rw [if_neg (by omega), if_neg (by omega), if_pos h, hf]; simp [sumF]
theorem wOne_f {below now : List Int} {t : Tp} (h4 : t.kd ≠ 4) (h7 : t.kd ≠ 7) (h6 : t.kd ≠ 6) : wOne below now t = wq now t.fs t.fs.length := by unfold wOne wHead wq; rw [if_neg h4, if_neg h7, if_neg h6, List.take_length]; simp
theorem zeros_getD (m i : Nat) : (zeros m).getD i 0 = 0 := by
  rw [List.getD_eq_getElem?_getD]
  unfold zeros
  by_cases h : i < m
  · rw [List.getElem?_replicate]; simp [h]
  · rw [List.getElem?_eq_none (by simp; omega)]; rfl
end Go.Proofs.Ytgdokjfjmcleeaa.Ce
