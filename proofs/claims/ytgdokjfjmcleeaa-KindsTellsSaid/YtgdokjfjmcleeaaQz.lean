/- From symbolic runs to the machine's calls. No program in sight. -/
import Derived.Test.YtgdokjfjmcleeaaSn
namespace Go.Proofs.Ytgdokjfjmcleeaa.Ce
open Go.RowKit
set_option linter.unusedVariables false
set_option linter.unusedSimpArgs false

theorem calls_sp {P : Program} (hm : P.follows .mixedOrders = true) {W : FuncId → Bool} {k d : Nat} {g : FuncId} {args vs : List Value} {w : World} (ha : args.map (visV w.heap.size) = vs)
    (hs : Sp P (acall P W k d) w.heap.size g vs (absW w) w.heap.size fun v _ _ => v = .bool true) : Calls P g ⟨args⟩ w fun e w' => e = .returned (.bool true) ∧ Below w.heap.size w w' := by
  subst ha
  exact calls_in hm hs.1 hs.isTrue_

theorem bv_vis (B : Nat) (xs : List UInt8) : (bv xs).map (vis B) = bv xs := by
  unfold bv
  rw [List.map_map]
  apply List.map_congr_left
  intro x _
  exact vis_flat rfl
/-- a slice of bytes that is handed in -/
theorem bytes_here {w : World} {A : Option Addr} {c : Nat} {xs : List UInt8} (h : Rd w w.heap.size A (bv xs)) (hc : xs.length ≤ c) (hm : c ≤ 9223372036854775807) (h0 : A = none → c = 0) :
    ∃ A' c', vis w.heap.size (.slice A xs.length c) = .slice A' xs.length c' ∧ RdH (absW w) w.heap.size A' (bv xs) ∧ (A' = none → c' = 0) := by
  obtain ⟨A', c', h1, h2, _, h3, _⟩ := rd_here h (fun hh => by rw [← bv_length, hh]; rfl) hc hm h0
  rw [bv_vis] at h2
  exact ⟨A', c', h1, h2, h3⟩
end Go.Proofs.Ytgdokjfjmcleeaa.Ce
