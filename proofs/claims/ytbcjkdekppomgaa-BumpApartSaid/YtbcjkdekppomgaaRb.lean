/- Contracts of the references 13 and 14: Same, Great, New, Grown, Alloc. -/
import Derived.Test.YtbcjkdekppomgaaRa
import Derived.Laws.BytesArg
namespace Go.Proofs.Ytbcjkdekppomgaa
open Go.RowKit
set_option linter.unusedVariables false
set_option maxRecDepth 100000
set_option linter.unusedSimpArgs false
attribute [local go_sem ↓] Go.wp_at_zero Go.wp_at_succ

def great13 (n : Nat) : Bool := decide ((500 < n ∧ n ≤ 20000) ∨ 20100 < n)
set_option maxHeartbeats 400000 in
theorem rgreat13_any (b : Int) (A : Option Addr) (n c : Nat) (w : World) (hn : n ≤ 9223372036854775807) :
    Calls Try.prog 34 #[.agg #[.int .u64 b, .slice A n c]] w fun e w' => e = .returned (.bool (great13 n)) ∧ Below w.heap.size w w' := by
  go_enter Try.func34, Try.ntmps34
  go_wp2
  all_goals (go_ret; exact ⟨ret_bool (by go_light; unfold great13; rw [Bool.eq_iff_iff]; simp; omega), (by repeat' (first | exact Below.refl _ _ | assumption | (refine below_call (by assumption) ?_ (by first | omega | (simp <;> omega))) | (refine below_callB (by assumption) ?_ (by omega)) | (refine Below.setCell ?_ (by first | omega | (simp <;> omega)) _) | (refine Below.alloc ?_ (by first | omega | (simp <;> omega)) _) | (refine Below.drew ?_) | (refine below_drewN ?_ _)))⟩)

set_option maxHeartbeats 400000 in
theorem rnew14_any (w : World) : Calls Try.prog 30 #[] w fun e w' => e = .returned (.agg #[.int .u64 65536, .slice none 0 0]) ∧ Below w.heap.size w w' := by
  go_enter Try.func30, Try.ntmps30
  go_wp2
  exact bodyPost_ret (v := .agg #[.int .u64 65536, .slice none 0 0]) (by simp [results, Try.results30, go_sem, *]) rfl ⟨rfl, (by repeat' (first | exact Below.refl _ _ | assumption | (refine below_call (by assumption) ?_ (by first | omega | (simp <;> omega))) | (refine below_callB (by assumption) ?_ (by omega)) | (refine Below.setCell ?_ (by first | omega | (simp <;> omega)) _) | (refine Below.alloc ?_ (by first | omega | (simp <;> omega)) _) | (refine Below.drew ?_) | (refine below_drewN ?_ _)))⟩

/-- string(b) of a slice of bytes -/
theorem run_string_rd {P : Program} (w : World) (src dst e : TypeId) (hs : P.underlying src = some (.slice e)) (he : P.underlying e = some (.int .u8)) (hd : P.underlying dst = some .string)
    (B : Nat) (A : Option Addr) (xs : List UInt8) (c : Nat) (hr : Rd w B A (bv xs)) : (convert src dst (.slice A xs.length c)).run P w = .ok (.string ⟨xs.toArray⟩) w := by
  rcases hr with hx | ⟨b, off, rfl, _, hc⟩
  · have hx' : xs = [] := by simpa [bv] using hx
    subst hx'
    cases A with
    | none => exact run_convert_bytes_nil (P := P) w src e hs he 0 c dst hd
    | some ad =>
      rw [run_convert_bytes_string w src dst e _ _ _ hs he hd]
      show Sem.run P (Conv.bytesToString (.slice (some ad) 0 c)) w = _
      have hl : (loadCells ad 0).run P w = .ok #[] w := by simp [loadCells, loadCellsFrom, Sem.run_pure]
      have := run_bytesToString (P := P) w ad 0 c [] (by simpa using hl)
      rw [this]; rfl
  · have := run_convert_bytes_arg (P := P) w src e hs he b off xs.length c (xs.map fun x => (x.toNat : Int)) (by simp) (fun i hi => by
      rw [hc i _ (bv_get hi)]; simp [hi]) dst hd
    rw [this]
    congr 2
    unfold strOfNums
    simp only [List.map_map]
    congr 2
    have : ((fun n : Int => UInt8.ofNat n.toNat) ∘ fun x : UInt8 => (x.toNat : Int)) = id := by
      funext x; simp
    rw [this, List.map_id]

def sameB (b : Int) (xs : List UInt8) (b2 : Int) (ys : List UInt8) : Bool := b == b2 && xs == ys
theorem sameB_self (b : Int) (xs : List UInt8) : sameB b xs b xs = true := by simp [sameB]

set_option maxHeartbeats 400000 in
theorem rsame_any0 (b : Int) (A : Option Addr) (xs : List UInt8) (c : Nat) (b2 : Int) (A2 : Option Addr) (ys : List UInt8) (c2 : Nat) (w : World) (hr : Rd w w.heap.size A (bv xs)) (hr2 : Rd w w.heap.size A2 (bv ys)) :
    Calls Try.prog 28 #[.agg #[.int .u64 b, .slice A xs.length c], .agg #[.int .u64 b2, .slice A2 ys.length c2]] w fun e w' => e = .returned (.bool (sameB b xs b2 ys)) ∧ Below w.heap.size w w' := by
  have h1 := run_string_rd (P := Try.prog) ((w.alloc (.cells #[.int .u64 b, .slice A xs.length c] 25)).alloc (.cells #[.int .u64 b2, .slice A2 ys.length c2] 25)) 23 9 5 Try.underlying23 Try.underlying5 Try.underlying9 w.heap.size A xs c (by apply Rd.more; (repeat' (first | (show Rd _ _ _ _; with_reducible assumption) | (with_reducible apply Ow.rd; (show Ow _ _ _ _ _ _ _ _; with_reducible assumption)) | with_reducible exact Rd.nil_ | with_reducible apply Rd.alloc | with_reducible apply Rd.drew | with_reducible apply Rd.drewN | with_reducible apply Rd.setCell | (with_reducible apply Rd.call; (show Below _ _ _; with_reducible assumption)))); all_goals (first | omega | (simp <;> omega)))
  have h2 := run_string_rd (P := Try.prog) ((w.alloc (.cells #[.int .u64 b, .slice A xs.length c] 25)).alloc (.cells #[.int .u64 b2, .slice A2 ys.length c2] 25)) 23 9 5 Try.underlying23 Try.underlying5 Try.underlying9 w.heap.size A2 ys c2 (by apply Rd.more; (repeat' (first | (show Rd _ _ _ _; with_reducible assumption) | (with_reducible apply Ow.rd; (show Ow _ _ _ _ _ _ _ _; with_reducible assumption)) | with_reducible exact Rd.nil_ | with_reducible apply Rd.alloc | with_reducible apply Rd.drew | with_reducible apply Rd.drewN | with_reducible apply Rd.setCell | (with_reducible apply Rd.call; (show Below _ _ _; with_reducible assumption)))); all_goals (first | omega | (simp <;> omega)))
  by_cases h : b = b2
  · subst h
    unfold sameB
    go_enter Try.func28, Try.ntmps28
    go_wp2
    go_ret
    exact ⟨ret_bool (by simp [ByteArray.toList_eq]), (by repeat' (first | exact Below.refl _ _ | assumption | (refine below_call (by assumption) ?_ (by first | omega | (simp <;> omega))) | (refine below_callB (by assumption) ?_ (by omega)) | (refine Below.setCell ?_ (by first | omega | (simp <;> omega)) _) | (refine Below.alloc ?_ (by first | omega | (simp <;> omega)) _) | (refine Below.drew ?_) | (refine below_drewN ?_ _)))⟩
  · have h' : (b == b2) = false := by simpa using h
    clear h
    unfold sameB
    go_enter Try.func28, Try.ntmps28
    go_wp2
    go_ret
    exact ⟨ret_bool (by simp [h']), (by repeat' (first | exact Below.refl _ _ | assumption | (refine below_call (by assumption) ?_ (by first | omega | (simp <;> omega))) | (refine below_callB (by assumption) ?_ (by omega)) | (refine Below.setCell ?_ (by first | omega | (simp <;> omega)) _) | (refine Below.alloc ?_ (by first | omega | (simp <;> omega)) _) | (refine Below.drew ?_) | (refine below_drewN ?_ _)))⟩

theorem rsame_any (b : Int) (A : Option Addr) (n c : Nat) (xs : List UInt8) (b2 : Int) (A2 : Option Addr) (m c2 : Nat) (ys : List UInt8) (w : World) (hl : xs.length = n) (hl2 : ys.length = m) (hr : Rd w w.heap.size A (bv xs)) (hr2 : Rd w w.heap.size A2 (bv ys)) :
    Calls Try.prog 28 #[.agg #[.int .u64 b, .slice A n c], .agg #[.int .u64 b2, .slice A2 m c2]] w fun e w' => e = .returned (.bool (sameB b xs b2 ys)) ∧ Below w.heap.size w w' := by
  subst hl; subst hl2
  exact rsame_any0 b A xs c b2 A2 ys c2 w hr hr2
end Go.Proofs.Ytbcjkdekppomgaa
