/- Maps whose keys are pairs of numbers: symbolic runs. -/
import Derived.Test.YtgdokjfjmcleeaaKp
namespace Go.Proofs.Ytgdokjfjmcleeaa.Ce
open Go.RowKit
set_option linter.unusedVariables false
set_option linter.unusedSimpArgs false
set_option maxRecDepth 100000
set_option maxHeartbeats 1000000

theorem prun_arr2 {P : Program} {d : Nat} {t elem : TypeId} {xs ys : Array Value} {s : Nat} {x0 x1 y0 y1 : Value} {r0 r1 : Bool} (ht : P.underlying t = some (.array 2 elem)) (hs : prun P (sizeOf elem) = some s)
    (h0 : prun P (part elem xs 0) = some x0) (h1 : prun P (part elem xs s) = some x1) (k0 : prun P (part elem ys 0) = some y0) (k1 : prun P (part elem ys s) = some y1)
    (e0 : prun P (Op.equalIn d elem x0 y0) = some r0) (e1 : prun P (Op.equalIn d elem x1 y1) = some r1) : prun P (Op.equalIn (d + 1) t (.agg xs) (.agg ys)) = some (r0 && r1) := by
  simp only [Op.equalIn, prun_bd, prun_under ht, Option.bind_some, hs]
  rw [Std.Legacy.Range.forIn_eq_forIn_range']
  simp only [Std.Legacy.Range.size, List.range', List.forIn_cons, List.forIn_nil, prun_bd, Nat.zero_mul, h0, k0, e0, Option.bind_some]
  cases r0 <;> cases r1 <;> simp [prun_pu, prun_bd, h0, h1, k0, k1, e0, e1, Option.bind_some]
theorem eq_pair (a b c e : Int) : prun Try.prog (Op.equal 104 (.agg ⟨[.int .i64 a, .int .i64 b]⟩) (.agg ⟨[.int .i64 c, .int .i64 e]⟩)) = some (a == c && b == e) :=
  prun_arr2 (d := 9999) (s := 1) (x0 := .int .i64 a) (x1 := .int .i64 b) (y0 := .int .i64 c) (y1 := .int .i64 e) Try.underlying104 (by kernel_rfl) (by kernel_rfl) (by kernel_rfl) (by kernel_rfl) (by kernel_rfl) (prun_int Try.underlying3) (prun_int Try.underlying3)
theorem check_pair (e : Bool) (a b : Int) : prun Try.prog (Instr.checkKey e 10000 104 (.agg ⟨[.int .i64 a, .int .i64 b]⟩)) = some () := by
  have hi : ∀ (d : Nat) (x : Int), prun Try.prog (Instr.checkKey e (d + 1) 3 (.int .i64 x)) = some () := fun d x => by
    unfold Instr.checkKey
    rw [prun_bd, prun_under Try.underlying3]
    rfl
  have h0 : prun Try.prog (part 3 ⟨[.int .i64 a, .int .i64 b]⟩ 0) = some (.int .i64 a) := by kernel_rfl
  have h1 : prun Try.prog (part 3 ⟨[.int .i64 a, .int .i64 b]⟩ 1) = some (.int .i64 b) := by kernel_rfl
  have hs : prun Try.prog (sizeOf 3) = some 1 := by kernel_rfl
  show prun Try.prog (Instr.checkKey e (9999 + 1) _ _) = _
  unfold Instr.checkKey
  rw [prun_bd, prun_under Try.underlying104]
  simp only [Option.bind_some]
  rw [Std.Legacy.Range.forIn_eq_forIn_range']
  simp only [Std.Legacy.Range.size, List.range', List.forIn_cons, List.forIn_nil, prun_bd, hs, Option.bind_some, Nat.zero_mul, h0, hi 9998]
  simp [prun_bd, prun_pu, hs, h0, h1, hi 9998, Option.bind_some]
/-- a pair as a key -/
def pk (p : Int × Int) : Value := .agg ⟨[.int .i64 p.1, .int .i64 p.2]⟩
theorem eq_pk (p q : Int × Int) : prun Try.prog (Op.equal 104 (pk p) (pk q)) = some (decide (p = q)) := by
  unfold pk
  rw [eq_pair]
  congr 1
  rw [Bool.eq_iff_iff, Bool.and_eq_true, beq_iff_eq, beq_iff_eq, decide_eq_true_eq, Prod.ext_iff]
/-- a map's entries are pairs, each with true -/
def Es2 (es : Array MapEntry) (ps : List (Int × Int)) : Prop := es.toList.map (fun e => (e.key, e.val)) = ps.map fun p => (pk p, Value.bool true)
theorem ask_in : ∀ (es : List MapEntry) (ps : List (Int × Int)) (p : Int × Int) (i : Nat), es.map (fun e => (e.key, e.val)) = ps.map (fun p => (pk p, Value.bool true)) → p ∈ ps → ∃ j, prun Try.prog (Instr.findAsking 104 (pk p) es i) = some (some (j, .bool true))
  | [], [], p, i, _, h => by cases h
  | [], _ :: _, p, i, he, _ => by cases he
  | _ :: _, [], p, i, he, _ => by cases he
  | e :: es, q :: ps, p, i, he, h => by
    rw [List.map_cons, List.map_cons] at he
    injection he with h1 h2
    injection h1 with h3 h4
    unfold Instr.findAsking
    rw [prun_bd, h3, eq_pk]
    simp only [Option.bind_some]
    by_cases hpq : p = q
    · rw [decide_eq_true hpq, if_pos rfl, h4]
      exact ⟨i, rfl⟩
    · rw [decide_eq_false hpq, if_neg (by decide)]
      exact ask_in es ps p (i + 1) h2 ((List.mem_cons.1 h).resolve_left hpq)
theorem ask_out : ∀ (es : List MapEntry) (ps : List (Int × Int)) (p : Int × Int) (i : Nat), es.map (fun e => (e.key, e.val)) = ps.map (fun p => (pk p, Value.bool true)) → p ∉ ps → prun Try.prog (Instr.findAsking 104 (pk p) es i) = some none
  | [], [], p, i, _, h => rfl
  | [], _ :: _, p, i, he, _ => by cases he
  | _ :: _, [], p, i, he, _ => by cases he
  | e :: es, q :: ps, p, i, he, h => by
    rw [List.map_cons, List.map_cons] at he
    injection he with h1 h2
    injection h1 with h3 h4
    unfold Instr.findAsking
    rw [prun_bd, h3, eq_pk]
    simp only [Option.bind_some]
    rw [decide_eq_false (fun e => h (by rw [e]; exact List.mem_cons_self)), if_neg (by decide)]
    exact ask_out es ps p (i + 1) h2 fun hm => h (List.mem_cons_of_mem _ hm)
theorem find_pk (es : List MapEntry) (p : Int × Int) (r : Option (Nat × Value)) (h : prun Try.prog (Instr.findAsking 104 (pk p) es 0) = some r) : prun Try.prog (Instr.findKey 104 (pk p) es) = some r := by
  unfold Instr.findKey
  rw [prun_bd, prun_under Try.underlying104]
  simp only [Option.bind_some]
  cases es with
  | nil => exact h
  | cons e es => exact h
variable {h : Hp} {n : Nat}
theorem m_look2 {id c : Nat} {es : Array MapEntry} {ps : List (Int × Int)} {p : Int × Int} (hm : mapOf h id = some (es, c)) (he : Es2 es ps) : mLookup Try.prog 103 (.map (some id)) (pk p) false h n = some ⟨.bool (decide (p ∈ ps)), h, n, [id], []⟩ := by
  have hg : prun Try.prog (Ce.mapGet 104 4 (pk p) es) = some (.bool (decide (p ∈ ps)), decide (p ∈ ps)) := by
    unfold Ce.mapGet
    rw [prun_bd, show prun Try.prog (Instr.checkKey es.isEmpty 10000 104 (pk p)) = some () from check_pair _ _ _]
    simp only [Option.bind_some]
    rw [prun_bd]
    by_cases hs : p ∈ ps
    · obtain ⟨j, hj⟩ := ask_in es.toList ps p 0 he hs
      rw [find_pk _ _ _ hj, decide_eq_true hs]
      rfl
    · rw [find_pk _ _ _ (ask_out es.toList ps p 0 he hs), decide_eq_false hs]
      simp only [Option.bind_some]
      rw [prun_bd, show prun Try.prog (zeroValue 4) = some (.bool false) from by kernel_rfl]
      rfl
  unfold mLookup
  dsimp only
  rw [hm]
  simp only [Option.bind_some]
  rw [show tyMap Try.prog 103 = some (104, 4) from by kernel_rfl]
  simp only [Option.bind_some]
  rw [hg]
  rfl
theorem m_put2 {lim id c : Nat} {es : Array MapEntry} {ps : List (Int × Int)} {p : Int × Int} (hl : lim ≤ id) (hm : mapOf h id = some (es, c)) (he : Es2 es ps) (hs : p ∉ ps) :
    mMapUpdate Try.prog lim 103 (.map (some id)) (pk p) (.bool true) h n = some ⟨undef, h.set id (.mp (es.push ⟨pk p, .bool true, c⟩) (c + 1)), n, [], [id]⟩ := by
  have hg : prun Try.prog (Ce.mapPut 104 (pk p) (.bool true) es c) = some (es.push ⟨pk p, .bool true, c⟩, c + 1) := by
    unfold Ce.mapPut
    rw [prun_bd, show prun Try.prog (Instr.checkKey false 10000 104 (pk p)) = some () from check_pair _ _ _]
    simp only [Option.bind_some]
    rw [prun_bd, find_pk _ _ _ (ask_out es.toList ps p 0 he hs)]
    rfl
  unfold mMapUpdate
  dsimp only
  rw [hm]
  simp only [Option.bind_some]
  rw [show tyMap Try.prog 103 = some (104, 4) from by kernel_rfl]
  simp only [Option.bind_some]
  rw [show (scal (pk p) && flat1 (.bool true) && Nat.ble lim id) = true from by rw [ble_t hl]; rfl]
  simp only [cond_true]
  rw [hg]
  rfl
theorem Es2.push {es : Array MapEntry} {ps : List (Int × Int)} {p : Int × Int} {c : Nat} (he : Es2 es ps) : Es2 (es.push ⟨pk p, .bool true, c⟩) (ps ++ [p]) := by
  unfold Es2 at *
  simp only [Array.toList_push, List.map_append, he, List.map_cons, List.map_nil]
section
variable {P : Program} {F : CallE} {lim : Nat} {ops l : List Oper} {f : Fm} {h : Hp} {n : Nat} {dst : Option Tmp} {ty : TypeId} {pos : String} {af : Array Edge} {KO : Fm → Hp → Nat → Prop}
theorem o_look2 {gd : Option (Nat × Bool)} {x y : Operand} {id c : Nat} {es : Array MapEntry} {ps : List (Int × Int)} {p : Int × Int} (hw : wantsF ops gd f = some true) (hx : lv f x = .map (some id)) (hy : lv f y = pk p) (hm : mapOf h id = some (es, c)) (he : Es2 es ps)
    (hk : XO Try.prog F lim ops l (fput f dst (.bool (decide (p ∈ ps)))) h n KO) : XO Try.prog F lim ops (⟨dst, .lookup 103 x y false, ty, pos, af, gd⟩ :: l) f h n KO :=
  o_eff hw (by rw [a_lookup, hx, hy]; exact m_look2 hm he) (by simp [memOp]) hk
theorem o_mput2 {gd : Option (Nat × Bool)} {x y z : Operand} {id c : Nat} {es : Array MapEntry} {ps : List (Int × Int)} {p : Int × Int} (hw : wantsF ops gd f = some true) (hx : lv f x = .map (some id)) (hy : lv f y = pk p) (hz : lv f z = .bool true) (hm : mapOf h id = some (es, c)) (he : Es2 es ps) (hs : p ∉ ps) (hl : lim ≤ id)
    (hk : XO Try.prog F lim ops l (fput f dst undef) (h.set id (.mp (es.push ⟨pk p, .bool true, c⟩) (c + 1))) n KO) : XO Try.prog F lim ops (⟨dst, .mapUpdate 103 x y z, ty, pos, af, gd⟩ :: l) f h n KO :=
  o_eff hw (by rw [a_mapUpdate, hx, hy, hz]; exact m_put2 hl hm he hs) (ok_w hl rfl) hk
end
end Go.Proofs.Ytgdokjfjmcleeaa.Ce
