/- Lists of numbers, rows of truth values: what calls leave. -/
import Derived.Test.YtgdokjfjmcleeaaKp
namespace Go.Proofs.Ytgdokjfjmcleeaa.Ce
open Go.RowKit
set_option linter.unusedVariables false
set_option linter.unusedSimpArgs false


set_option maxHeartbeats 1000000

/-- a block that is not the list's own -/
def Blk (O : Value) (b : Nat) : Prop := ∀ len c, O ≠ .slice (some ⟨b, 0, none⟩) len c
theorem blk_new {b m len c : Nat} (h : b < m) : Blk (.slice (some ⟨m, 0, none⟩) len c) b := by
  intro len2 c2 hh
  injection hh with hh
  injection hh with hh
  injection hh with hh
  omega
/-- a list of numbers: nothing, or a row of its own -/
def IntsV (l : List Int) (h : Hp) (n : Nat) (v : Value) (h' : Hp) (n' : Nat) : Prop :=
  (l = [] ∧ v = .slice none 0 0 ∧ h' = h ∧ n' = n) ∨ (l ≠ [] ∧ v = .slice (some ⟨n, 0, none⟩) l.length l.length ∧ h' = h.set n (.row 3 false (iv l)) ∧ n' = n + 1)
/-- a list of numbers under way -/
def OwnI (l : List Int) (O : Value) (h' : Hp) (lo n' : Nat) : Prop :=
  (l = [] ∧ O = .slice none 0 0) ∨ (l ≠ [] ∧ ∃ id, lo ≤ id ∧ id < n' ∧ O = .slice (some ⟨id, 0, none⟩) l.length l.length ∧ rowOf h' id = some (3, false, iv l))
theorem iv_app1 (l : List Int) (x : Int) : iv (l ++ [x]) = iv l ++ [.int .i64 x] := by simp [iv]
/-- a row of truth values -/
def bw (l : List Bool) : List Value := l.map Value.bool
theorem bw_length (l : List Bool) : (bw l).length = l.length := by simp [bw]
theorem mk_falses (m : Nat) : (List.replicate m [Value.bool false]).flatten = bw (List.replicate m false) := by unfold bw; rw [List.map_replicate]; induction m with | zero => rfl | succ m ih => rw [List.replicate_succ, List.flatten_cons, ih, List.replicate_succ]; rfl
theorem bw_lget {l : List Bool} {i : Nat} {b : Bool} (hi : l[i]? = some b) : lget (bw l) i = some (.bool b) := by rw [lget_eq]; unfold bw; rw [List.getElem?_map, hi]; rfl
theorem bw_set {l : List Bool} {i : Nat} (hi : i < l.length) : overAt i [Value.bool true] (bw l) = some (bw (l.set i true)) := by
  rw [overAt_one (by rw [bw_length]; exact hi)]
  unfold bw
  rw [List.map_set]
theorem IntsV.nil {l : List Int} {h h' : Hp} {n n' : Nat} {v : Value} (hl : l = []) (hh : ∃ V, v = .tuple ⟨[V, .int .i64 0]⟩ ∧ IntsV l h n V h' n') : v = .tuple ⟨[.slice none 0 0, .int .i64 0]⟩ ∧ h' = h ∧ n' = n := by
  obtain ⟨V, rfl, ⟨-, rfl, rfl, rfl⟩ | ⟨hn, -⟩⟩ := hh
  · exact ⟨rfl, rfl, rfl⟩
  · exact absurd hl hn
theorem IntsV.row {l : List Int} {h h' : Hp} {n n' : Nat} {v : Value} (hl : l ≠ []) (hh : ∃ V, v = .tuple ⟨[V, .int .i64 0]⟩ ∧ IntsV l h n V h' n') : v = .tuple ⟨[.slice (some ⟨n, 0, none⟩) l.length l.length, .int .i64 0]⟩ ∧ h' = h.set n (.row 3 false (iv l)) ∧ n' = n + 1 := by
  obtain ⟨V, rfl, ⟨hn, -⟩ | ⟨-, rfl, rfl, rfl⟩⟩ := hh
  · exact absurd hn hl
  · exact ⟨rfl, rfl, rfl⟩
theorem sp_fix {P : Program} {F : CallE} {cl n : Nat} {g : FuncId} {ar : List Value} {h : Hp} {Φ : Value → Hp → Nat → Prop} (hs : Sp P F cl g ar h n Φ) : ∃ v h' n', Φ v h' n' ∧ Sp P F cl g ar h n fun v2 h2 n2 => v2 = v ∧ h2 = h' ∧ n2 = n' := by
  obtain ⟨hg, v, h', n', hr, hp⟩ := hs
  exact ⟨v, h', n', hp, hg, v, h', n', hr, rfl, rfl, rfl⟩
end Go.Proofs.Ytgdokjfjmcleeaa.Ce
