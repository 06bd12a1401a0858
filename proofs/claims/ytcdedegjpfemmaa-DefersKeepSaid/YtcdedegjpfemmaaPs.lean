/- Records of deferred calls are compared by ==. -/
import Derived.Test.YtcdedegjpfemmaaPr
namespace Go.Proofs.Ytcdedegjpfemmaa.Ce
open Go.RowKit
set_option linter.unusedVariables false
set_option linter.unusedSimpArgs false
set_option maxRecDepth 100000

theorem eqF_nil {P : Program} {d : Nat} {xs ys : Array Value} : prun P (Op.eqFields d xs ys []) = some true := rfl
theorem eqF_cons {P : Program} {d : Nat} {xs ys : Array Value} {f : Field} {l : List Field} {x y : Value} {r r' : Bool} (hn : f.name ≠ "_") (hx : prun P (part f.type xs f.offset) = some x) (hy : prun P (part f.type ys f.offset) = some y)
    (he : prun P (Op.equalIn d f.type x y) = some r) (ht : prun P (Op.eqFields d xs ys l) = some r') : prun P (Op.eqFields d xs ys (f :: l)) = some (r && r') := by
  simp only [Op.eqFields]
  rw [if_pos hn]
  simp only [prun_bd, hx, hy, he, Option.bind_some]
  cases r
  · rfl
  · simpa using ht
theorem abin_agg {P : Program} {t : TypeId} {xs ys : Array Value} : abin P .eql t (.agg xs) (.agg ys) = if (P.eqGuardType P.depth t || !(scal (.agg xs) && scal (.agg ys))) = true then none else (prun P (Op.equal t (.agg xs) (.agg ys))).map .bool := rfl
theorem eq_dnote {h : Hp} {n : Nat} {a0 a1 a2 a4 b0 b1 b2 b4 : Int} {a3 b3 : Bool} :
    mBin Try.prog .eql 27 (.agg ⟨[.int .u64 a0, .int .u64 a1, .int .i64 a2, .bool a3, .int .u64 a4]⟩) (.agg ⟨[.int .u64 b0, .int .u64 b1, .int .i64 b2, .bool b3, .int .u64 b4]⟩) h n
      = some ⟨.bool (a0 == b0 && (a1 == b1 && (a2 == b2 && (a3 == b3 && (a4 == b4 && true))))), h, n, [], []⟩ := by
  have hs : prun Try.prog (Op.equal 27 (.agg ⟨[.int .u64 a0, .int .u64 a1, .int .i64 a2, .bool a3, .int .u64 a4]⟩) (.agg ⟨[.int .u64 b0, .int .u64 b1, .int .i64 b2, .bool b3, .int .u64 b4]⟩)) = some (a0 == b0 && (a1 == b1 && (a2 == b2 && (a3 == b3 && (a4 == b4 && true))))) := by
    show prun Try.prog (Op.equalIn (9999 + 1) _ _ _) = _
    rw [prun_struct 9999 _ _ _ _ Try.underlying27 (by kernel_rfl)]
    exact eqF_cons (by decide) (by kernel_rfl) (by kernel_rfl) (prun_int (d := 9998) (k := .u64) Try.underlying22) (eqF_cons (by decide) (by kernel_rfl) (by kernel_rfl) (prun_int (d := 9998) (k := .u64) Try.underlying22) (eqF_cons (by decide) (by kernel_rfl) (by kernel_rfl) (prun_int (d := 9998) (k := .i64) Try.underlying3) (eqF_cons (by decide) (by kernel_rfl) (by kernel_rfl) (prun_bool (d := 9998) Try.underlying4) (eqF_cons (by decide) (by kernel_rfl) (by kernel_rfl) (prun_int (d := 9998) (k := .u64) Try.underlying22) eqF_nil))))
  unfold mBin
  have ha : abin Try.prog .eql 27 (.agg ⟨[.int .u64 a0, .int .u64 a1, .int .i64 a2, .bool a3, .int .u64 a4]⟩) (.agg ⟨[.int .u64 b0, .int .u64 b1, .int .i64 b2, .bool b3, .int .u64 b4]⟩) = some (.bool (a0 == b0 && (a1 == b1 && (a2 == b2 && (a3 == b3 && (a4 == b4 && true)))))) := by
    rw [abin_agg, if_neg (by rw [show (Program.eqGuardType Try.prog (Program.depth Try.prog) 27) = false from by kernel_rfl]; exact Bool.false_ne_true), hs]
    rfl
  rw [ha]
  rfl
end Go.Proofs.Ytcdedegjpfemmaa.Ce
