/- Which types are valid: package kinds by symbolic runs. Widths of types, in plain Lean. -/
import Derived.Test.YtgdokjfjmcleeaaKb
namespace Go.Proofs.Ytgdokjfjmcleeaa.Ce
open Go.RowKit
set_option linter.unusedVariables false
set_option linter.unusedSimpArgs false
def fldB (i : Nat) (f : List UInt8 × Int) : Bool := namedB f.1 && decide (0 ≤ f.2 ∧ f.2 < i)
def fldsB (i : Nat) (fs : List (List UInt8 × Int)) : Bool := fs.all (fldB i) && decide ((fs.map (·.1)).Nodup)
/-- is the type with an index valid, in a table of m types -/
def fineB (m i : Nat) (t : Tp) : Bool :=
  if t.kd = 1 ∨ t.kd = 2 ∨ t.kd = 3 then decide (t.el = 0 ∧ t.ln = 0 ∧ t.fs.length = 0)
  else if t.kd = 4 ∨ t.kd = 7 then decide (0 ≤ t.el ∧ t.el < m ∧ t.ln = 0 ∧ t.fs.length = 0)
  else if t.kd = 6 then decide (0 ≤ t.el ∧ t.el < i ∧ 1 ≤ t.ln ∧ t.ln ≤ 16 ∧ t.fs.length = 0)
  else if t.kd = 5 then fldsB i t.fs && decide (t.el = 0 ∧ t.ln = 0 ∧ 0 < t.fs.length ∧ t.fs.length ≤ 8)
  else false
theorem fineB_123 {m i : Nat} {t : Tp} (h : t.kd = 1 ∨ t.kd = 2 ∨ t.kd = 3) : fineB m i t = decide (t.el = 0 ∧ t.ln = 0 ∧ t.fs.length = 0) := by unfold fineB; rw [if_pos h]
theorem fineB_47 {m i : Nat} {t : Tp} (h : t.kd = 4 ∨ t.kd = 7) : fineB m i t = decide (0 ≤ t.el ∧ t.el < m ∧ t.ln = 0 ∧ t.fs.length = 0) := by unfold fineB; rw [if_neg (by omega), if_pos h]
theorem fineB_6 {m i : Nat} {t : Tp} (h : t.kd = 6) : fineB m i t = decide (0 ≤ t.el ∧ t.el < i ∧ 1 ≤ t.ln ∧ t.ln ≤ 16 ∧ t.fs.length = 0) := by unfold fineB; rw [if_neg (by omega), if_neg (by omega), if_pos h]
theorem fineB_5 {m i : Nat} {t : Tp} (h : t.kd = 5) : fineB m i t = (fldsB i t.fs && decide (t.el = 0 ∧ t.ln = 0 ∧ 0 < t.fs.length ∧ t.fs.length ≤ 8)) := by unfold fineB; rw [if_neg (by omega), if_neg (by omega), if_neg (by omega), if_pos h]
theorem fineB_no {m i : Nat} {t : Tp} (h : ¬ (1 ≤ t.kd ∧ t.kd ≤ 7)) : fineB m i t = false := by unfold fineB; rw [if_neg (by omega), if_neg (by omega), if_neg (by omega), if_neg (by omega)]
theorem fldsB_no {i q : Nat} {fs : List (List UInt8 × Int)} (hq : q < fs.length) (h : fldB i fs[q] = false) : fldsB i fs = false := by
  unfold fldsB
  have : fs.all (fldB i) = false := by
    rw [List.all_eq_false]
    exact ⟨fs[q], List.getElem_mem _, by rw [h]; exact Bool.false_ne_true⟩
  rw [this, Bool.false_and]
theorem fldsB_dup {i q : Nat} {fs : List (List UInt8 × Int)} (hq : q < fs.length) (h : (fs[q]).1 ∈ (fs.take q).map (·.1)) : fldsB i fs = false := by
  unfold fldsB
  have : ¬ (fs.map (·.1)).Nodup := by
    intro hn
    have e : fs.map (·.1) = (fs.take q).map (·.1) ++ ((fs[q]).1 :: (fs.drop (q + 1)).map (·.1)) := by
      rw [← List.map_cons (f := fun x : List UInt8 × Int => x.1), List.getElem_cons_drop, ← List.map_append, List.take_append_drop]
    rw [e, List.nodup_append] at hn
    exact hn.2.2 _ h _ List.mem_cons_self rfl
  rw [decide_eq_false this, Bool.and_false]
section
variable {P : Program} {F : CallE} {lim : Nat} {ops l : List Oper} {f : Fm} {h : Hp} {n : Nat} {dst : Option Tmp} {ty : TypeId} {pos : String} {af : Array Edge} {KO : Fm → Hp → Nat → Prop}
theorem o_look {gd : Option (Nat × Bool)} {x y : Operand} {id c : Nat} {es : Array MapEntry} {ns : List (List UInt8)} {s : List UInt8} (hw : wantsF ops gd f = some true) (hx : lv f x = .map (some id)) (hy : lv f y = .string ⟨⟨s⟩⟩) (hm : mapOf h id = some (es, c)) (he : Es es ns)
    (hk : XO Try.prog F lim ops l (fput f dst (.bool (decide (s ∈ ns)))) h n KO) : XO Try.prog F lim ops (⟨dst, .lookup 119 x y false, ty, pos, af, gd⟩ :: l) f h n KO :=
  o_eff hw (by rw [a_lookup, hx, hy]; exact m_look hm he) (by simp [memOp]) hk
theorem o_mput {gd : Option (Nat × Bool)} {x y z : Operand} {id c : Nat} {es : Array MapEntry} {ns : List (List UInt8)} {s : List UInt8} (hw : wantsF ops gd f = some true) (hx : lv f x = .map (some id)) (hy : lv f y = .string ⟨⟨s⟩⟩) (hz : lv f z = .bool true) (hm : mapOf h id = some (es, c)) (he : Es es ns) (hs : s ∉ ns) (hl : lim ≤ id)
    (hk : XO Try.prog F lim ops l (fput f dst undef) (h.set id (.mp (es.push ⟨.string ⟨⟨s⟩⟩, .bool true, c⟩) (c + 1))) n KO) : XO Try.prog F lim ops (⟨dst, .mapUpdate 119 x y z, ty, pos, af, gd⟩ :: l) f h n KO :=
  o_eff hw (by rw [a_mapUpdate, hx, hy, hz]; exact m_put hl hm he hs) (ok_w hl rfl) hk
end
end Go.Proofs.Ytgdokjfjmcleeaa.Ce
namespace Go.Proofs.Ytgdokjfjmcleeaa.Ce
open Go.RowKit
set_option linter.unusedVariables false
set_option linter.unusedSimpArgs false


set_option maxRecDepth 100000
set_option maxHeartbeats 2000000

variable (k d cl : Nat) (h : Hp) (n : Nat)
theorem pfine_a (hk : 30000 ≤ k) (A : Option Addr) (T : List Tp) (c : Nat) (hT : TabH h n A T) (i : Nat) (hi : i < T.length) (hl : T.length ≤ 100) (h5 : T[i].kd ≠ 5) :
    Sp Try.prog (acall Try.prog WW k (d + 5)) cl 73 [.slice A T.length c, .int .i64 i] h n fun v h' n' => v = .bool (fineB T.length i T[i]) ∧ h' = h ∧ n' = n := by
  obtain ⟨id, off, rfl, hid, ht4, ht0, ht1, ht2, ht3⟩ := hT.at_ hi
  have hfd := hT.fd _ (List.getElem_mem hi)
  have hbd := hT.bd _ (List.getElem_mem hi)
  obtain ⟨t, htt⟩ : ∃ t, T[i] = t := ⟨_, rfl⟩
  rw [htt] at h5 ht4 ht0 ht1 ht2 ht3 hfd hbd ⊢
  obtain ⟨kd, el, ln, fs, FA, fc⟩ := t
  dsimp only at h5 ht4 ht0 ht1 ht2 ht3 hfd
  refine enter Try.func73 (by kernel_rfl) rfl (by kernel_rfl) rfl rfl rfl ?_
  by_cases h123 : kd = 1 ∨ kd = 2 ∨ kd = 3
  · have hf : fineB T.length i ⟨kd, el, ln, fs, FA, fc⟩ = [el, ln, (fs.length : Int)].all (· == 0) := by
      rw [fineB_123 h123, Bool.eq_iff_iff]; simp only [decide_eq_true_eq, Bool.and_eq_true, List.all_cons, List.all_nil, Bool.and_true, beq_iff_eq]; try omega
    rcases h123 with rfl | rfl | rfl
    all_goals
      (repeat' first | (with_reducible first | apply x_seq | apply k_then | apply x_block | apply x_skip | apply x_ret | apply x_exit | apply x_label | apply k_pass | apply k_hit | apply k_miss rfl | apply k_out | apply k_turned | refine x_text fun K' hK => ?_) | ((with_reducible apply o_nil); refine hK _ _ _ ?_; clear hK) | ((with_reducible apply o_callF (g := 88) w_none); (case ha => (simp (disch := first | assumption | omega | rfl | decide) only [go_sem, Nat.reduceBEq, ↓reduceIte, Nat.reduceEqDiff, Nat.reduceAdd, Nat.reduceMul, Int.reduceToNat, Int.reduceAdd, Int.reduceMul, Int.reduceSub, tys] <;> rfl)); (case hs => ((with_reducible apply zero_ev (l := [el, ln, (fs.length : Int)])); (case hk => exact hk); (case hm => rfl); (case hr => exact RdH.row (by omega)); (case hl => simp))); (case' hk => rintro _ h' n' ⟨rfl, rfl, rfl⟩)) | ((first | ((with_reducible apply o_pure w_none); (case hp => exact rfl); (case' he => intro h n)) | (with_reducible first | apply o_eff w_none | apply o_guard rfl | apply x_cond | apply k_e1 rfl | apply k_e2 rfl | apply k_e0 rfl | apply k_e3 rfl | apply k_e4 rfl)); (case he => (simp (disch := first | assumption | omega | rfl | decide) only [go_sem, Nat.reduceBEq, ↓reduceIte, Nat.reduceEqDiff, Nat.reduceAdd, Nat.reduceMul, Int.reduceToNat, Int.reduceAdd, Int.reduceMul, Int.reduceSub, tys, ht4] <;> rfl)); (try (case hok => first | exact rfl | exact ok_w (by omega) rfl)); all_goals (try (intro hb; (try (simp only [hbs, reduceCtorEq] at hb)); try (exfalso; omega)))) | ((with_reducible apply o_undef rfl); (case hb => (simp (disch := first | assumption | omega | rfl | decide) only [go_sem, Nat.reduceBEq, ↓reduceIte, Nat.reduceEqDiff, Nat.reduceAdd, Nat.reduceMul, Int.reduceToNat, Int.reduceAdd, Int.reduceMul, Int.reduceSub, tys]))))
      all_goals exact sw_flat rfl rfl ⟨by rw [hf]; simp only [List.all_cons, List.all_nil, Bool.and_true], rfl, rfl⟩
  · by_cases h47 : kd = 4 ∨ kd = 7
    · have hf : fineB T.length i ⟨kd, el, ln, fs, FA, fc⟩ = (decide (0 ≤ el ∧ el < (T.length : Int)) && [ln, (fs.length : Int)].all (· == 0)) := by
        rw [fineB_47 h47, Bool.eq_iff_iff]; simp only [decide_eq_true_eq, Bool.and_eq_true, List.all_cons, List.all_nil, Bool.and_true, beq_iff_eq]; try omega
      cases hw : decide (0 ≤ el ∧ el < (T.length : Int))
      all_goals
        rw [hw] at hf
        rcases h47 with rfl | rfl
        all_goals
          (repeat' first | (with_reducible first | apply x_seq | apply k_then | apply x_block | apply x_skip | apply x_ret | apply x_exit | apply x_label | apply k_pass | apply k_hit | apply k_miss rfl | apply k_out | apply k_turned | refine x_text fun K' hK => ?_) | ((with_reducible apply o_nil); refine hK _ _ _ ?_; clear hK) | ((with_reducible apply o_callV (g := 87) w_none); (case hx => (simp (disch := first | assumption | omega | rfl | decide) only [go_sem, Nat.reduceBEq, ↓reduceIte, Nat.reduceEqDiff, Nat.reduceAdd, Nat.reduceMul, Int.reduceToNat, Int.reduceAdd, Int.reduceMul, Int.reduceSub, tys] <;> rfl)); (case ha => (simp (disch := first | assumption | omega | rfl | decide) only [go_sem, Nat.reduceBEq, ↓reduceIte, Nat.reduceEqDiff, Nat.reduceAdd, Nat.reduceMul, Int.reduceToNat, Int.reduceAdd, Int.reduceMul, Int.reduceSub, tys] <;> rfl)); (case hs => exact within_ev ..); (case' hk => rintro _ h' n' ⟨rfl, rfl, rfl⟩)) | ((with_reducible apply o_callF (g := 88) w_none); (case ha => (simp (disch := first | assumption | omega | rfl | decide) only [go_sem, Nat.reduceBEq, ↓reduceIte, Nat.reduceEqDiff, Nat.reduceAdd, Nat.reduceMul, Int.reduceToNat, Int.reduceAdd, Int.reduceMul, Int.reduceSub, tys] <;> rfl)); (case hs => ((with_reducible apply zero_ev (l := [ln, (fs.length : Int)])); (case hk => exact hk); (case hm => rfl); (case hr => exact RdH.row (by omega)); (case hl => simp))); (case' hk => rintro _ h' n' ⟨rfl, rfl, rfl⟩)) | ((first | ((with_reducible apply o_pure w_none); (case hp => exact rfl); (case' he => intro h n)) | (with_reducible first | apply o_eff w_none | apply o_guard rfl | apply x_cond | apply k_e1 rfl | apply k_e2 rfl | apply k_e0 rfl | apply k_e3 rfl | apply k_e4 rfl)); (case he => (simp (disch := first | assumption | omega | rfl | decide) only [go_sem, Nat.reduceBEq, ↓reduceIte, Nat.reduceEqDiff, Nat.reduceAdd, Nat.reduceMul, Int.reduceToNat, Int.reduceAdd, Int.reduceMul, Int.reduceSub, tys, ht4, hw] <;> rfl)); (try (case hok => first | exact rfl | exact ok_w (by omega) rfl)); all_goals (try (intro hb; (try (simp only [hbs, reduceCtorEq] at hb)); try (exfalso; omega)))) | ((with_reducible apply o_undef rfl); (case hb => (simp (disch := first | assumption | omega | rfl | decide) only [go_sem, Nat.reduceBEq, ↓reduceIte, Nat.reduceEqDiff, Nat.reduceAdd, Nat.reduceMul, Int.reduceToNat, Int.reduceAdd, Int.reduceMul, Int.reduceSub, tys]))))
          all_goals exact sw_flat rfl rfl ⟨by rw [hf]; simp only [List.all_cons, List.all_nil, Bool.and_true, Bool.true_and, Bool.false_and], rfl, rfl⟩
    · by_cases h6 : kd = 6
      · have hf : fineB T.length i ⟨kd, el, ln, fs, FA, fc⟩ = (decide (0 ≤ el ∧ el < (i : Int)) && (decide (0 ≤ ln - 1 ∧ ln - 1 < 16) && [(fs.length : Int)].all (· == 0))) := by
          rw [fineB_6 h6, Bool.eq_iff_iff]; simp only [decide_eq_true_eq, Bool.and_eq_true, List.all_cons, List.all_nil, Bool.and_true, beq_iff_eq]; try omega
        subst h6
        cases hw : decide (0 ≤ el ∧ el < (i : Int))
        · rw [hw] at hf
          (repeat' first | (with_reducible first | apply x_seq | apply k_then | apply x_block | apply x_skip | apply x_ret | apply x_exit | apply x_label | apply k_pass | apply k_hit | apply k_miss rfl | apply k_out | apply k_turned | refine x_text fun K' hK => ?_) | ((with_reducible apply o_nil); refine hK _ _ _ ?_; clear hK) | ((with_reducible apply o_callV (g := 87) w_none); (case hx => (simp (disch := first | assumption | omega | rfl | decide) only [go_sem, Nat.reduceBEq, ↓reduceIte, Nat.reduceEqDiff, Nat.reduceAdd, Nat.reduceMul, Int.reduceToNat, Int.reduceAdd, Int.reduceMul, Int.reduceSub, tys] <;> rfl)); (case ha => (simp (disch := first | assumption | omega | rfl | decide) only [go_sem, Nat.reduceBEq, ↓reduceIte, Nat.reduceEqDiff, Nat.reduceAdd, Nat.reduceMul, Int.reduceToNat, Int.reduceAdd, Int.reduceMul, Int.reduceSub, tys] <;> rfl)); (case hs => exact within_ev ..); (case' hk => rintro _ h' n' ⟨rfl, rfl, rfl⟩)) | ((first | ((with_reducible apply o_pure w_none); (case hp => exact rfl); (case' he => intro h n)) | (with_reducible first | apply o_eff w_none | apply o_guard rfl | apply x_cond | apply k_e1 rfl | apply k_e2 rfl | apply k_e0 rfl | apply k_e3 rfl | apply k_e4 rfl)); (case he => (simp (disch := first | assumption | omega | rfl | decide) only [go_sem, Nat.reduceBEq, ↓reduceIte, Nat.reduceEqDiff, Nat.reduceAdd, Nat.reduceMul, Int.reduceToNat, Int.reduceAdd, Int.reduceMul, Int.reduceSub, tys, ht4, hw] <;> rfl)); (try (case hok => first | exact rfl | exact ok_w (by omega) rfl)); all_goals (try (intro hb; (try (simp only [hbs, reduceCtorEq] at hb)); try (exfalso; omega)))) | ((with_reducible apply o_undef rfl); (case hb => (simp (disch := first | assumption | omega | rfl | decide) only [go_sem, Nat.reduceBEq, ↓reduceIte, Nat.reduceEqDiff, Nat.reduceAdd, Nat.reduceMul, Int.reduceToNat, Int.reduceAdd, Int.reduceMul, Int.reduceSub, tys]))))
          all_goals exact sw_flat rfl rfl ⟨by rw [hf]; rfl, rfl, rfl⟩
        · rw [hw] at hf
          by_cases hlm : -9223372036854775807 ≤ ln ∧ ln ≤ 9223372036854775807
          · cases hw2 : decide (0 ≤ ln - 1 ∧ ln - 1 < 16)
            all_goals
              rw [hw2] at hf
              (repeat' first | (with_reducible first | apply x_seq | apply k_then | apply x_block | apply x_skip | apply x_ret | apply x_exit | apply x_label | apply k_pass | apply k_hit | apply k_miss rfl | apply k_out | apply k_turned | refine x_text fun K' hK => ?_) | ((with_reducible apply o_nil); refine hK _ _ _ ?_; clear hK) | ((with_reducible apply o_callV (g := 87) w_none); (case hx => (simp (disch := first | assumption | omega | rfl | decide) only [go_sem, Nat.reduceBEq, ↓reduceIte, Nat.reduceEqDiff, Nat.reduceAdd, Nat.reduceMul, Int.reduceToNat, Int.reduceAdd, Int.reduceMul, Int.reduceSub, tys] <;> rfl)); (case ha => (simp (disch := first | assumption | omega | rfl | decide) only [go_sem, Nat.reduceBEq, ↓reduceIte, Nat.reduceEqDiff, Nat.reduceAdd, Nat.reduceMul, Int.reduceToNat, Int.reduceAdd, Int.reduceMul, Int.reduceSub, tys] <;> rfl)); (case hs => exact within_ev ..); (case' hk => rintro _ h' n' ⟨rfl, rfl, rfl⟩)) | ((with_reducible apply o_callF (g := 88) w_none); (case ha => (simp (disch := first | assumption | omega | rfl | decide) only [go_sem, Nat.reduceBEq, ↓reduceIte, Nat.reduceEqDiff, Nat.reduceAdd, Nat.reduceMul, Int.reduceToNat, Int.reduceAdd, Int.reduceMul, Int.reduceSub, tys] <;> rfl)); (case hs => ((with_reducible apply zero_ev (l := [(fs.length : Int)])); (case hk => exact hk); (case hm => rfl); (case hr => exact RdH.row (by omega)); (case hl => simp))); (case' hk => rintro _ h' n' ⟨rfl, rfl, rfl⟩)) | ((first | ((with_reducible apply o_pure w_none); (case hp => exact rfl); (case' he => intro h n)) | (with_reducible first | apply o_eff w_none | apply o_guard rfl | apply x_cond | apply k_e1 rfl | apply k_e2 rfl | apply k_e0 rfl | apply k_e3 rfl | apply k_e4 rfl)); (case he => (simp (disch := first | assumption | omega | rfl | decide) only [go_sem, Nat.reduceBEq, ↓reduceIte, Nat.reduceEqDiff, Nat.reduceAdd, Nat.reduceMul, Int.reduceToNat, Int.reduceAdd, Int.reduceMul, Int.reduceSub, tys, ht4, hw, hw2] <;> rfl)); (try (case hok => first | exact rfl | exact ok_w (by omega) rfl)); all_goals (try (intro hb; (try (simp only [hbs, reduceCtorEq] at hb)); try (exfalso; omega)))) | ((with_reducible apply o_undef rfl); (case hb => (simp (disch := first | assumption | omega | rfl | decide) only [go_sem, Nat.reduceBEq, ↓reduceIte, Nat.reduceEqDiff, Nat.reduceAdd, Nat.reduceMul, Int.reduceToNat, Int.reduceAdd, Int.reduceMul, Int.reduceSub, tys]))))
              all_goals exact sw_flat rfl rfl ⟨by rw [hf]; simp only [List.all_cons, List.all_nil, Bool.and_true, Bool.true_and, Bool.false_and], rfl, rfl⟩
          · have e1 : ln = -9223372036854775808 := by have := hbd.2.2.1; unfold I64 at this; dsimp only at this; omega
            subst e1
            have hw2 : decide ((0 : Int) ≤ 9223372036854775807 ∧ (9223372036854775807 : Int) < 16) = false := rfl
            have hws : IntKind.wrap .i64 (-9223372036854775808 - 1) = 9223372036854775807 := rfl
            have hws2 : IntKind.wrap .i64 (-9223372036854775809) = 9223372036854775807 := rfl
            (repeat' first | (with_reducible first | apply x_seq | apply k_then | apply x_block | apply x_skip | apply x_ret | apply x_exit | apply x_label | apply k_pass | apply k_hit | apply k_miss rfl | apply k_out | apply k_turned | refine x_text fun K' hK => ?_) | ((with_reducible apply o_nil); refine hK _ _ _ ?_; clear hK) | ((with_reducible apply o_callV (g := 87) w_none); (case hx => (simp (disch := first | assumption | omega | rfl | decide) only [go_sem, Nat.reduceBEq, ↓reduceIte, Nat.reduceEqDiff, Nat.reduceAdd, Nat.reduceMul, Int.reduceToNat, Int.reduceAdd, Int.reduceMul, Int.reduceSub, tys] <;> rfl)); (case ha => (simp (disch := first | assumption | omega | rfl | decide) only [go_sem, Nat.reduceBEq, ↓reduceIte, Nat.reduceEqDiff, Nat.reduceAdd, Nat.reduceMul, Int.reduceToNat, Int.reduceAdd, Int.reduceMul, Int.reduceSub, tys] <;> rfl)); (case hs => exact within_ev ..); (case' hk => rintro _ h' n' ⟨rfl, rfl, rfl⟩)) | ((first | ((with_reducible apply o_pure w_none); (case hp => exact rfl); (case' he => intro h n)) | (with_reducible first | apply o_eff w_none | apply o_guard rfl | apply x_cond | apply k_e1 rfl | apply k_e2 rfl | apply k_e0 rfl | apply k_e3 rfl | apply k_e4 rfl)); (case he => (simp (disch := first | assumption | omega | rfl | decide) only [go_sem, Nat.reduceBEq, ↓reduceIte, Nat.reduceEqDiff, Nat.reduceAdd, Nat.reduceMul, Int.reduceToNat, Int.reduceAdd, Int.reduceMul, Int.reduceSub, tys, ht4, hw, hws, hws2, hw2] <;> rfl)); (try (case hok => first | exact rfl | exact ok_w (by omega) rfl)); all_goals (try (intro hb; (try (simp only [hbs, reduceCtorEq] at hb)); try (exfalso; omega)))) | ((with_reducible apply o_undef rfl); (case hb => (simp (disch := first | assumption | omega | rfl | decide) only [go_sem, Nat.reduceBEq, ↓reduceIte, Nat.reduceEqDiff, Nat.reduceAdd, Nat.reduceMul, Int.reduceToNat, Int.reduceAdd, Int.reduceMul, Int.reduceSub, tys]))))
            all_goals exact sw_flat rfl rfl ⟨by rw [hf]; rfl, rfl, rfl⟩
      · have hf : fineB T.length i ⟨kd, el, ln, fs, FA, fc⟩ = false := fineB_no (by dsimp only; omega)
        (repeat' first | (with_reducible first | apply x_seq | apply k_then | apply x_block | apply x_skip | apply x_ret | apply x_exit | apply x_label | apply k_pass | apply k_hit | apply k_miss rfl | apply k_out | apply k_turned | refine x_text fun K' hK => ?_) | ((with_reducible apply o_nil); refine hK _ _ _ ?_; clear hK) | fail | ((first | ((with_reducible apply o_pure w_none); (case hp => exact rfl); (case' he => intro h n)) | (with_reducible first | apply o_eff w_none | apply o_guard rfl | apply x_cond | apply k_e1 rfl | apply k_e2 rfl | apply k_e0 rfl | apply k_e3 rfl | apply k_e4 rfl)); (case he => (simp (disch := first | assumption | omega | rfl | decide) only [go_sem, Nat.reduceBEq, ↓reduceIte, Nat.reduceEqDiff, Nat.reduceAdd, Nat.reduceMul, Int.reduceToNat, Int.reduceAdd, Int.reduceMul, Int.reduceSub, tys, ht4] <;> rfl)); (try (case hok => first | exact rfl | exact ok_w (by omega) rfl)); all_goals (try (intro hb; (try (simp only [hbs, reduceCtorEq] at hb)); try (exfalso; omega)))) | ((with_reducible apply o_undef rfl); (case hb => (simp (disch := first | assumption | omega | rfl | decide) only [go_sem, Nat.reduceBEq, ↓reduceIte, Nat.reduceEqDiff, Nat.reduceAdd, Nat.reduceMul, Int.reduceToNat, Int.reduceAdd, Int.reduceMul, Int.reduceSub, tys]))))
        all_goals exact sw_flat rfl rfl ⟨by rw [hf], rfl, rfl⟩
end Go.Proofs.Ytgdokjfjmcleeaa.Ce
namespace Go.Proofs.Ytgdokjfjmcleeaa.Ce
open Go.RowKit
set_option linter.unusedVariables false
set_option linter.unusedSimpArgs false

/-- the widths of fields together -/
def sumF (now : List Int) (fs : List (List UInt8 × Int)) : Int := fs.foldl (fun a f => a + now.getD f.2.toNat 0) 0
/-- what a type's width is before the limit, without its fields -/
def wHead (below now : List Int) (t : Tp) : Int := 1 + (if t.kd = 4 then below.getD t.el.toNat 0 else if t.kd = 7 then 16 * below.getD t.el.toNat 0 else if t.kd = 6 then t.ln * now.getD t.el.toNat 0 else 0)
def wOne (below now : List Int) (t : Tp) : Int := min (wHead below now t + sumF now t.fs) 5001
def wRow (below : List Int) (T : List Tp) : List Int := T.foldl (fun now t => now ++ [wOne below now t]) []
def zeros (m : Nat) : List Int := List.replicate m 0
def wD (T : List Tp) : Nat → List Int
  | 0 => wRow (zeros T.length) T
  | d + 1 => wRow (wD T d) T
theorem wRow_snoc (below : List Int) (T : List Tp) (t : Tp) : wRow below (T ++ [t]) = wRow below T ++ [wOne below (wRow below T) t] := by unfold wRow; rw [List.foldl_append]; rfl
theorem wRow_length' (below : List Int) : ∀ (T : List Tp) (a : List Int), (T.foldl (fun now t => now ++ [wOne below now t]) a).length = a.length + T.length
  | [], a => by simp
  | t :: T, a => by rw [List.foldl_cons, wRow_length' below T, List.length_append, List.length_cons]; simp; omega
theorem wRow_length (below : List Int) (T : List Tp) : (wRow below T).length = T.length := by unfold wRow; rw [wRow_length']; simp
theorem wRow_take (below : List Int) {T : List Tp} {i : Nat} (hi : i < T.length) : wRow below (T.take (i + 1)) = wRow below (T.take i) ++ [wOne below (wRow below (T.take i)) T[i]] := by rw [List.take_succ_eq_append_getElem hi, wRow_snoc]
theorem wRow_tlen (below : List Int) {T : List Tp} {i : Nat} (hi : i ≤ T.length) : (wRow below (T.take i)).length = i := by rw [wRow_length, List.length_take]; omega
/-- widths within their bounds -/
def Bnd (l : List Int) : Prop := ∀ x ∈ l, 0 ≤ x ∧ x ≤ 5001
theorem Bnd.getD {l : List Int} (h : Bnd l) (i : Nat) : 0 ≤ l.getD i 0 ∧ l.getD i 0 ≤ 5001 := by
  rw [List.getD_eq_getElem?_getD]
  by_cases hi : i < l.length
  · rw [List.getElem?_eq_getElem hi]; exact h _ (List.getElem_mem _)
  · rw [List.getElem?_eq_none (by omega)]; simp
theorem zeros_bnd (m : Nat) : Bnd (zeros m) := fun x hx => by rw [List.eq_of_mem_replicate hx]; omega
theorem sumF_bnd {now : List Int} (h : Bnd now) (fs : List (List UInt8 × Int)) : 0 ≤ sumF now fs ∧ sumF now fs ≤ 5001 * fs.length := by
  have key : ∀ (fs : List (List UInt8 × Int)) (a : Int), a ≤ fs.foldl (fun a f => a + now.getD f.2.toNat 0) a ∧ fs.foldl (fun a f => a + now.getD f.2.toNat 0) a ≤ a + 5001 * fs.length := by
    intro fs
    induction fs with
    | nil => intro a; simp
    | cons f fs ih =>
      intro a
      have h1 := ih (a + now.getD f.2.toNat 0)
      have h2 := h.getD f.2.toNat
      rw [List.foldl_cons, List.length_cons]
      omega
  have := key fs 0
  unfold sumF
  omega
theorem sumF_snoc (now : List Int) (fs : List (List UInt8 × Int)) (f : List UInt8 × Int) : sumF now (fs ++ [f]) = sumF now fs + now.getD f.2.toNat 0 := by unfold sumF; rw [List.foldl_append]; rfl
theorem sumF_take (now : List Int) {fs : List (List UInt8 × Int)} {q : Nat} (hq : q < fs.length) : sumF now (fs.take (q + 1)) = sumF now (fs.take q) + now.getD (fs[q]).2.toNat 0 := by rw [List.take_succ_eq_append_getElem hq, sumF_snoc]
/-- all types of a table are valid -/
def Fine (T : List Tp) : Prop := ∀ i (hi : i < T.length), fineB T.length i T[i] = true
theorem fine_len {m i : Nat} {t : Tp} (h : fineB m i t = true) : t.fs.length ≤ 8 := by
  unfold fineB at h
  split at h
  · simp at h; rw [h.2.2]; simp
  · split at h
    · simp at h; rw [h.2.2.2]; simp
    · split at h
      · simp at h; rw [h.2.2.2.2]; simp
      · split at h
        · simp at h; exact h.2.2.2.2
        · cases h
theorem fine_nofs {m i : Nat} {t : Tp} (h : fineB m i t = true) (h5 : t.kd ≠ 5) : t.fs = [] := by
  unfold fineB at h
  split at h
  · simp at h; exact h.2.2
  · split at h
    · simp at h; exact h.2.2.2
    · split at h
      · simp at h; exact h.2.2.2.2
      · cases h
theorem fine_el {m i : Nat} {t : Tp} (h : fineB m i t = true) (hk : t.kd = 4 ∨ t.kd = 7) : 0 ≤ t.el ∧ t.el < m := by
  rw [fineB_47 hk] at h; simp at h; omega
theorem fine_arr {m i : Nat} {t : Tp} (h : fineB m i t = true) (hk : t.kd = 6) : 0 ≤ t.el ∧ t.el < i ∧ 1 ≤ t.ln ∧ t.ln ≤ 16 := by
  rw [fineB_6 hk] at h; simp at h; omega
theorem fine_fld {m i : Nat} {t : Tp} (h : fineB m i t = true) {q : Nat} (hq : q < t.fs.length) : 0 ≤ (t.fs[q]).2 ∧ (t.fs[q]).2 < i := by
  by_cases h5 : t.kd = 5
  · rw [fineB_5 h5, Bool.and_eq_true] at h
    have h1 := h.1
    unfold fldsB at h1
    rw [Bool.and_eq_true, List.all_eq_true] at h1
    have := h1.1 _ (List.getElem_mem hq)
    unfold fldB at this
    simp at this
    exact this.2
  · rw [fine_nofs h h5] at hq; simp at hq
theorem wHead_bnd {m i : Nat} {below now : List Int} {t : Tp} (hb : Bnd below) (hn : Bnd now) (hf : fineB m i t = true) : 1 ≤ wHead below now t ∧ wHead below now t ≤ 100000 := by
  have h1 := hb.getD t.el.toNat
  have h2 := hn.getD t.el.toNat
  unfold wHead
  split
  · omega
  · split
    · omega
    · split
      · rename_i h6
        have h3 := fine_arr hf h6
        have e1 : 0 ≤ t.ln * now.getD t.el.toNat 0 := Int.mul_nonneg (by omega) h2.1
        have e2 : t.ln * now.getD t.el.toNat 0 ≤ 16 * 5001 := Int.mul_le_mul h3.2.2.2 h2.2 h2.1 (by omega)
        omega
      · omega
theorem wOne_bnd {m i : Nat} {below now : List Int} {t : Tp} (hb : Bnd below) (hn : Bnd now) (hf : fineB m i t = true) : 1 ≤ wOne below now t ∧ wOne below now t ≤ 5001 := by
  have h1 := wHead_bnd hb hn hf
  have h2 := sumF_bnd hn t.fs
  unfold wOne
  omega
theorem wRow_bnd {below : List Int} {T : List Tp} (hb : Bnd below) (hf : Fine T) : ∀ i, i ≤ T.length → Bnd (wRow below (T.take i))
  | 0, _ => fun x hx => by simp [wRow] at hx
  | i + 1, hi => by
    have ih := wRow_bnd hb hf i (by omega)
    rw [wRow_take below (by omega)]
    intro x hx
    rcases List.mem_append.1 hx with hx | hx
    · exact ih x hx
    · have hx' := List.mem_singleton.1 hx
      have := wOne_bnd hb ih (hf i (by omega))
      rw [hx']; omega
theorem wRow_bnd' {below : List Int} {T : List Tp} (hb : Bnd below) (hf : Fine T) : Bnd (wRow below T) := by have := wRow_bnd hb hf T.length (Nat.le_refl _); rwa [List.take_length] at this
theorem wD_bnd {T : List Tp} (hf : Fine T) : ∀ d, Bnd (wD T d)
  | 0 => wRow_bnd' (zeros_bnd _) hf
  | d + 1 => wRow_bnd' (wD_bnd hf d) hf
theorem wD_length (T : List Tp) : ∀ d, (wD T d).length = T.length
  | 0 => wRow_length _ _
  | d + 1 => wRow_length _ _
/-- a table's widths so far, and room for the others -/
def pad (below : List Int) (T : List Tp) (i : Nat) : List Int := wRow below (T.take i) ++ zeros (T.length - i)
theorem pad_zero (below : List Int) (T : List Tp) : pad below T 0 = zeros T.length := by simp [pad, wRow]
theorem pad_all (below : List Int) (T : List Tp) : pad below T T.length = wRow below T := by simp [pad, zeros]
theorem pad_length (below : List Int) {T : List Tp} {i : Nat} (hi : i ≤ T.length) : (pad below T i).length = T.length := by unfold pad zeros; rw [List.length_append, wRow_tlen below hi, List.length_replicate]; omega
theorem pad_getD (below : List Int) {T : List Tp} {i j : Nat} (hi : i ≤ T.length) (hj : j < i) : (pad below T i).getD j 0 = (wRow below (T.take i)).getD j 0 := by
  unfold pad
  rw [List.getD_eq_getElem?_getD, List.getElem?_append_left (by rw [wRow_tlen below hi]; exact hj), List.getD_eq_getElem?_getD]
theorem pad_succ (below : List Int) {T : List Tp} {i : Nat} (hi : i < T.length) : (pad below T i).set i (wOne below (wRow below (T.take i)) T[i]) = pad below T (i + 1) := by
  unfold pad zeros
  have hl := wRow_tlen below (Nat.le_of_lt hi)
  rw [List.set_append_right _ _ (by omega), hl, Nat.sub_self, wRow_take below hi, show T.length - i = (T.length - (i + 1)) + 1 from by omega, List.replicate_succ]
  simp
theorem iv_set (l : List Int) (i : Nat) (x : Int) : (iv l).set i (.int .i64 x) = iv (l.set i x) := by unfold iv; rw [List.map_set]
theorem iv_lget {l : List Int} {i : Nat} (hi : i < l.length) : lget (iv l) i = some (.int .i64 (l.getD i 0)) := by
  rw [lget_eq, iv_get hi, List.getD_eq_getElem?_getD, List.getElem?_eq_getElem hi]; rfl
end Go.Proofs.Ytgdokjfjmcleeaa.Ce
