/- Alike types: package kinds by symbolic runs. -/
import Derived.Test.YtgdokjfjmcleeaaJt
import Derived.Test.YtgdokjfjmcleeaaJs
import Derived.Test.YtgdokjfjmcleeaaJe
namespace Go.Proofs.Ytgdokjfjmcleeaa.Ce
open Go.RowKit
set_option linter.unusedVariables false
set_option linter.unusedSimpArgs false


set_option maxRecDepth 100000
set_option maxHeartbeats 2000000

open Classical in
/-- are types alike? -/
noncomputable def alikeB (T : List Tp) (i k : Nat) : Bool := decide (Alike T i k)
theorem alikeB_iff {T : List Tp} {i k : Nat} : alikeB T i k = true ↔ Alike T i k := by unfold alikeB; simp
theorem alikeB_t {T : List Tp} {i k : Nat} (h : Alike T i k) : alikeB T i k = true := alikeB_iff.2 h
theorem alikeB_f {T : List Tp} {i k : Nat} (h : ¬ Alike T i k) : alikeB T i k = false := by
  cases hb : alikeB T i k
  · rfl
  · exact absurd (alikeB_iff.1 hb) h
/-- a list of pairs as cells -/
def qv (ps : List (Int × Int)) : List Value := ps.flatMap fun p => [.int .i64 p.1, .int .i64 p.2]
theorem qv_length (ps : List (Int × Int)) : (qv ps).length = ps.length * 2 := rows_length (fun p : Int × Int => [Value.int .i64 p.1, Value.int .i64 p.2]) (fun _ => rfl) ps
theorem qv_app (ps qs : List (Int × Int)) : qv (ps ++ qs) = qv ps ++ qv qs := by simp [qv]
/-- a list of pairs under way; its row may be longer -/
def OwnP (ops : List (Int × Int)) (O : Value) (h : Hp) (lo n : Nat) : Prop :=
  ∃ id cs, lo ≤ id ∧ id < n ∧ O = .slice (some ⟨id, 0, none⟩) ops.length ops.length ∧ rowOf h id = some (104, false, cs) ∧ ops.length * 2 ≤ cs.length ∧ cs.take (ops.length * 2) = qv ops
theorem mapOf_keep {h h' : Hp} {b : Nat} (e : h'.get b = h.get b) : mapOf h' b = mapOf h b := by unfold mapOf; rw [e]
variable (k d cl : Nat) (h : Hp) (n : Nat)
theorem psame_ok (hk : 30000 ≤ k) (A : Option Addr) (T : List Tp) (c : Nat) (hT : TabH h n A T) (hS : ∀ t ∈ T, t.fs.length ≤ 20000) (hm : T.length ≤ 9223372036854775807) (hC : ChkT T) (i j : Nat) (hi : i < T.length) (hj : j < T.length) :
    Sp Try.prog (acall Try.prog WW k (d + 8)) cl 43 [.slice A T.length c, .int .i64 i, .int .i64 j] h n fun v h' n' => v = .tuple ⟨[.bool (alikeB T i j), .int .i64 0]⟩ ∧ h' = h ∧ n' = n := by
  have hl := hC.1
  have hF := hC.2.1
  have haz : askE T i j = 0 := by unfold askE; rw [if_pos hC, if_pos ⟨⟨by omega, by omega⟩, by omega, by omega⟩]
  have q1 := pasked_2 k d n (h.set n (.row 3 false (iv [(i : Int), (j : Int)]))) (n + 1) hk A T c ((hT.set (Nat.le_refl _) _).more (by omega)) hS hm i j (some ⟨n, 0, none⟩) 2 (RdH.row (by omega))
  rw [haz] at q1
  obtain ⟨tid, toff, hAA, htid, -⟩ := hT.at_ hi
  subst hAA
  have hle0 := left_le (ps := []) hl
  have hlef := fun (ps : List (Int × Int)) => left_le (ps := ps) hl
  refine enter Try.func43 (by kernel_rfl) rfl (by kernel_rfl) rfl rfl rfl ?_
  (repeat' first | (with_reducible first | apply x_seq | apply k_then | apply x_block | apply x_skip | apply x_ret | apply x_exit | apply x_label | apply k_pass | apply k_hit | apply k_miss rfl | apply k_out | apply k_turned | refine x_text fun K' hK => ?_) | ((with_reducible apply o_nil); refine hK _ _ _ ?_; clear hK) | ((with_reducible apply o_callF (g := 67) w_none); (case ha => (simp (disch := first | assumption | omega | rfl | decide) only [go_sem, seval, tys] <;> rfl)); (case hs => (exact q1)); (case' hk => rintro _ h' n' ⟨rfl, rfl, rfl⟩)) | ((first | ((with_reducible apply o_pure w_none); (case hp => exact rfl); (case' he => intro h n)) | (with_reducible first | apply o_eff w_none | apply o_guard rfl | apply x_cond | apply k_e1 rfl | apply k_e2 rfl | apply k_e0 rfl | apply k_e3 rfl | apply k_e4 rfl)); (case he => (simp (disch := first | assumption | omega | rfl | decide) only [go_sem, seval, tys] <;> rfl)); (try (case hok => first | exact rfl | exact ok_w (by omega) rfl)); all_goals (try (intro hb; (try (simp only [hbs, reduceCtorEq] at hb)); try (exfalso; omega)))) | ((with_reducible apply o_undef rfl); (case hb => (simp (disch := first | assumption | omega | rfl | decide) only [go_sem, seval, tys]))))
  refine x_loopV [6, 7, 10, 11, 12, 13, 14, 15, 16, 17, 31, 32, 33, 34, 35, 36, 37, 38, 39, 40, 41, 42, 43, 44, 45, 46, 47, 48, 49, 50, 51, 52, 53, 54, 55, 56, 57, 58, 59, 60, 61, 62, 63, 64, 65, 66, 67, 68, 69, 70, 71, 72, 73, 74, 75, 76, 77, 78, 79, 80, 81, 82, 83, 84, 85, 86, 87, 88, 89, 90, 91, 92, 93, 94, 95, 96, 97, 98, 99, 100] [10] (fun m vs h4 n4 => ∃ (ps ops : List (Int × Int)) (O : Value) (es : Array MapEntry) (cc : Nat), m = left_ T.length ps * 9 + ops.length ∧ m ≤ 9300 ∧ vs = [O] ∧ n + 1 + 1 ≤ n4 ∧ TabH h4 n (some ⟨tid, toff, none⟩) T ∧ mapOf h4 (n + 1) = some (es, cc) ∧ Es2 es ps ∧ OwnP ops O h4 (n + 1 + 1) n4 ∧ Wrk T i j ps ops) (left_ T.length [] * 9 + 1) rfl (by omega) ?_ ?_
  · exact ⟨[], [pr i j], .slice (some ⟨n + 1 + 1, 0, none⟩) 1 1, #[], 0, rfl, by omega, (by simp (disch := first | assumption | omega | rfl | decide) only [go_sem, seval, tys] <;> rfl), by omega, ((hT.set (Nat.le_refl _) _).set (by omega) _).set (by omega) _, by simp (disch := omega) only [mapOf_ne2, mapOf_same], rfl, ⟨n + 1 + 1, _, Nat.le_refl _, by omega, rfl, rowOf_same _ _ _ _ _, Nat.le_refl _, rfl⟩, Wrk.init hi hj⟩
  · rintro m fr _ ha na ⟨ps, ops, O, es, cc, rfl, hm40, rfl, hn, hT2, hmp, hes, ⟨id, cs, k1, k2, rfl, q4, q5, q6⟩, hW⟩
    rcases List.eq_nil_or_concat ops with rfl | ⟨ops0, p, rfl⟩
    · have hal := hW.done
      rw [alikeB_t hal]
      (repeat' first | (with_reducible first | apply x_seq | apply k_then | apply x_block | apply x_skip | apply x_ret | apply x_exit | apply x_label | apply k_pass | apply k_hit | apply k_miss rfl | apply k_out | apply k_turned | refine x_text fun K' hK => ?_) | ((with_reducible apply o_nil); refine hK _ _ _ ?_; clear hK) | fail | ((first | ((with_reducible apply o_pure w_none); (case hp => exact rfl); (case' he => intro h n)) | (with_reducible first | apply o_eff w_none | apply o_guard rfl | apply x_cond | apply k_e1 rfl | apply k_e2 rfl | apply k_e0 rfl | apply k_e3 rfl | apply k_e4 rfl)); (case he => (simp (disch := first | assumption | omega | rfl | decide) only [go_sem, seval, tys] <;> rfl)); (try (case hok => first | exact rfl | exact ok_w (by omega) rfl)); all_goals (try (intro hb; (try (simp only [hbs, reduceCtorEq] at hb)); try (exfalso; omega)))) | ((with_reducible apply o_undef rfl); (case hb => (simp (disch := first | assumption | omega | rfl | decide) only [go_sem, seval, tys]))))
      all_goals exact sw_flat rfl rfl ⟨rfl, rfl, rfl⟩
    · rw [List.concat_eq_append] at q5 q6 hW
      have hlen : (ops0.concat p).length = ops0.length + 1 := by rw [List.concat_eq_append, List.length_append]; rfl
      have hlen2 : (ops0 ++ [p]).length = ops0.length + 1 := by rw [List.length_append]; rfl
      rw [hlen] at hm40 ⊢
      rw [hlen2] at q5 q6
      obtain ⟨a, b, rfl, haT, hbT, -⟩ := hW.met p (.inr (List.mem_append_right _ (List.mem_singleton.2 rfl)))
      obtain ⟨w, hw⟩ : ∃ w, ops0.length = w := ⟨_, rfl⟩
      rw [hw] at q5 q6 hm40 ⊢
      have hql : (qv ops0).length = w * 2 := by rw [qv_length, hw]
      have htk0 : cs.take (w * 2) = qv ops0 := by
        have h1 : (cs.take ((w + 1) * 2)).take (w * 2) = cs.take (w * 2) := by rw [List.take_take]; congr 1; omega
        rw [← h1, q6, qv_app, List.take_append_of_le_length (by omega), List.take_of_length_le (by omega)]
      have c5 : cellsAt ha id (w * 2) 2 = some [.int .i64 (a : Int), .int .i64 (b : Int)] := by
        have := cellsAt_of (h := ha) (id := id) (off := w * 2) (vs := [.int .i64 (a : Int), .int .i64 (b : Int)]) (fun x v hv => by
          have hx : x < 2 := by
            rcases Nat.lt_or_ge x 2 with h1 | h1
            · exact h1
            · rw [List.getElem?_eq_none (by simpa using h1)] at hv; cases hv
          rw [cellAt_row q4, lget_eq, ← List.getElem?_take_of_lt (show w * 2 + x < (w + 1) * 2 by omega), q6, qv_app, List.getElem?_append_right (by omega), hql, Nat.add_sub_cancel_left]
          exact hv) (by simp)
        exact this
      have hnat : (((w + 1 : Nat) : Int) - 1).toNat = w := by omega
      have hlp := hlef ps
      by_cases hin : pr a b ∈ ps
      · have hd : decide (pr a b ∈ ps) = true := decide_eq_true hin
        have hW2 := hW.skip hin
        (repeat' first | (with_reducible first | apply x_seq | apply k_then | apply x_block | apply x_skip | apply x_ret | apply x_exit | apply x_label | apply k_pass | apply k_hit | apply k_miss rfl | apply k_out | apply k_turned | refine x_text fun K' hK => ?_) | ((with_reducible apply o_nil); refine hK _ _ _ ?_; clear hK) | ((with_reducible apply o_look2 (p := pr a b) (ps := ps) w_none); (case hx => (simp (disch := first | assumption | omega | rfl | decide) only [go_sem, seval, tys] <;> rfl)); (case hy => (simp (disch := first | assumption | omega | rfl | decide) only [go_sem, seval, tys] <;> rfl)); (case hm => (simp (disch := omega) only [mapOf_ne2, mapOf_same]; exact hmp)); (case he => exact hes)) | ((first | ((with_reducible apply o_pure w_none); (case hp => exact rfl); (case' he => intro h n)) | (with_reducible first | apply o_eff w_none | apply o_guard rfl | apply x_cond | apply k_e1 rfl | apply k_e2 rfl | apply k_e0 rfl | apply k_e3 rfl | apply k_e4 rfl)); (case he => (simp (disch := first | assumption | omega | rfl | decide) only [go_sem, seval, tys, c5, hnat, hd] <;> rfl)); (try (case hok => first | exact rfl | exact ok_w (by omega) rfl)); all_goals (try (intro hb; (try (simp only [hbs, reduceCtorEq] at hb)); try (exfalso; omega)))) | ((with_reducible apply o_undef rfl); (case hb => (simp (disch := first | assumption | omega | rfl | decide) only [go_sem, seval, tys]))))
        all_goals
          refine k_round (left_ T.length ps * 9 + w) (by omega) ⟨ps, ops0, .slice (some ⟨id, 0, none⟩) w w, es, cc, by rw [hw], by omega, (by simp (disch := first | assumption | omega | rfl | decide) only [go_sem, seval, tys] <;> rfl), by omega, hT2.set (by omega) _, by simp (disch := omega) only [mapOf_ne2, mapOf_same]; exact hmp, hes, ⟨id, cs, k1, by omega, by rw [hw], by rw [rowOf_ne _ _ (by omega)]; exact q4, by omega, by rw [hw]; exact htk0⟩, hW2⟩
      · have hd : decide (pr a b ∈ ps) = false := decide_eq_false hin
        obtain ⟨_, _, hA2, -, hta, -⟩ := hT2.at_ haT
        injection hA2 with hA2
        injection hA2 with z1 z2
        subst z1
        subst z2
        obtain ⟨_, _, hA2, -, htb, -⟩ := hT2.at_ hbT
        injection hA2 with hA2
        injection hA2 with z1 z2
        subst z1
        subst z2
        have hTk : TabH ((((((ha.set na (.row 104 false [.int .i64 (a : Int), .int .i64 (b : Int)])).set (n + 1) (.mp (es.push ⟨pk (pr a b), .bool true, cc⟩) (cc + 1))).set (na + 1) (.row 60 false [.int .u8 0, .int .i64 0, .int .i64 0, .slice none 0 0])).set (na + 1 + 1) (.row 60 false [.int .u8 0, .int .i64 0, .int .i64 0, .slice none 0 0])).set (na + 1) (.row 60 false [.int .u8 T[a].kd, .int .i64 T[a].el, .int .i64 T[a].ln, .slice T[a].A T[a].fs.length T[a].c])).set (na + 1 + 1) (.row 60 false [.int .u8 T[b].kd, .int .i64 T[b].el, .int .i64 T[b].ln, .slice T[b].A T[b].fs.length T[b].c])) n (some ⟨tid, toff, none⟩) T := (((((hT2.set (by omega) _).set (by omega) _).set (by omega) _).set (by omega) _).set (by omega) _).set (by omega) _
        have hfa := (hTk.fd _ (List.getElem_mem haT)).more (show n ≤ na + 1 + 1 + 1 by omega)
        have hfb := (hTk.fd _ (List.getElem_mem hbT)).more (show n ≤ na + 1 + 1 + 1 by omega)
        have hla := fine_len (hF a haT)
        have hlb := fine_len (hF b hbT)
        have p1 := eqfunc_ev k (d + 5) n ((((((ha.set na (.row 104 false [.int .i64 (a : Int), .int .i64 (b : Int)])).set (n + 1) (.mp (es.push ⟨pk (pr a b), .bool true, cc⟩) (cc + 1))).set (na + 1) (.row 60 false [.int .u8 0, .int .i64 0, .int .i64 0, .slice none 0 0])).set (na + 1 + 1) (.row 60 false [.int .u8 0, .int .i64 0, .int .i64 0, .slice none 0 0])).set (na + 1) (.row 60 false [.int .u8 T[a].kd, .int .i64 T[a].el, .int .i64 T[a].ln, .slice T[a].A T[a].fs.length T[a].c])).set (na + 1 + 1) (.row 60 false [.int .u8 T[b].kd, .int .i64 T[b].el, .int .i64 T[b].ln, .slice T[b].A T[b].fs.length T[b].c])) (na + 1 + 1 + 1) hk T[a].A T[b].A T[a].fs T[b].fs T[a].c T[b].c hfa hfb (by omega) (by omega)
        have p1 := p1
        by_cases hs : Shp T[a] T[b]
        · obtain ⟨s1, s2, s3⟩ := hs
          rw [decide_eq_true s3] at p1
          have hW2 := hW.next hF haT hbT ⟨s1, s2, s3⟩
          have hlt := left_lt haT hbT hin
          have p2 := (pleads_ev k (d + 6) n ((((((ha.set na (.row 104 false [.int .i64 (a : Int), .int .i64 (b : Int)])).set (n + 1) (.mp (es.push ⟨pk (pr a b), .bool true, cc⟩) (cc + 1))).set (na + 1) (.row 60 false [.int .u8 0, .int .i64 0, .int .i64 0, .slice none 0 0])).set (na + 1 + 1) (.row 60 false [.int .u8 0, .int .i64 0, .int .i64 0, .slice none 0 0])).set (na + 1) (.row 60 false [.int .u8 T[a].kd, .int .i64 T[a].el, .int .i64 T[a].ln, .slice T[a].A T[a].fs.length T[a].c])).set (na + 1 + 1) (.row 60 false [.int .u8 T[b].kd, .int .i64 T[b].el, .int .i64 T[b].ln, .slice T[b].A T[b].fs.length T[b].c])) (na + 1 + 1 + 1) hk true (hF b hbT) hfb).mono fun _ _ _ hh => IntsV.rd hh
          have hnB := leadsT_in (far := true) (hF b hbT) (by omega)
          have hnA := leadsT_in (far := true) (hF a haT) (by omega)
          have hlA := leadsT_len (far := true) (hF a haT)
          have hlB := Shp.len (far := true) (t := T[a]) (u := T[b]) ⟨s1, s2, s3⟩
          have hpz : pairsT T[a] T[b] = (leadsT true T[a]).zip (leadsT true T[b]) := rfl
          obtain ⟨H3, hH3⟩ : ∃ x, x = ((((((ha.set na (.row 104 false [.int .i64 (a : Int), .int .i64 (b : Int)])).set (n + 1) (.mp (es.push ⟨pk (pr a b), .bool true, cc⟩) (cc + 1))).set (na + 1) (.row 60 false [.int .u8 0, .int .i64 0, .int .i64 0, .slice none 0 0])).set (na + 1 + 1) (.row 60 false [.int .u8 0, .int .i64 0, .int .i64 0, .slice none 0 0])).set (na + 1) (.row 60 false [.int .u8 T[a].kd, .int .i64 T[a].el, .int .i64 T[a].ln, .slice T[a].A T[a].fs.length T[a].c])).set (na + 1 + 1) (.row 60 false [.int .u8 T[b].kd, .int .i64 T[b].el, .int .i64 T[b].ln, .slice T[b].A T[b].fs.length T[b].c])) := ⟨_, rfl⟩
          have rA : rowOf H3 (na + 1) = some (60, false, [.int .u8 T[a].kd, .int .i64 T[a].el, .int .i64 T[a].ln, .slice T[a].A T[a].fs.length T[a].c]) := by rw [hH3, rowOf_ne _ _ (by omega)]; exact rowOf_same _ _ _ _ _
          have mP : mapOf H3 (n + 1) = some (es.push ⟨pk (pr a b), .bool true, cc⟩, cc + 1) := by rw [hH3]; simp (disch := omega) only [mapOf_ne2, mapOf_same]
          have rO : rowOf H3 id = some (104, false, cs) := by rw [hH3, rowOf_ne _ _ (by omega), rowOf_ne _ _ (by omega), rowOf_ne _ _ (by omega), rowOf_ne _ _ (by omega), rowOf_ne _ _ (by omega), rowOf_ne _ _ (by omega)]; exact q4
          have hTk2 : TabH H3 n (some ⟨tid, toff, none⟩) T := by rw [hH3]; exact hTk
          rw [← hH3] at p2
          obtain ⟨lb, hlb2⟩ : ∃ lb, leadsT true T[b] = lb := ⟨_, rfl⟩
          rw [hlb2] at p2 hnB hlB hpz
          (repeat' first | (with_reducible first | apply x_seq | apply k_then | apply x_block | apply x_skip | apply x_ret | apply x_exit | apply x_label | apply k_pass | apply k_hit | apply k_miss rfl | apply k_out | apply k_turned | refine x_text fun K' hK => ?_) | ((with_reducible apply o_nil); refine hK _ _ _ ?_; clear hK) | ((with_reducible apply o_look2 (p := pr a b) (ps := ps) w_none); (case hx => (simp (disch := first | assumption | omega | rfl | decide) only [go_sem, seval, tys] <;> rfl)); (case hy => (simp (disch := first | assumption | omega | rfl | decide) only [go_sem, seval, tys] <;> rfl)); (case hm => (simp (disch := omega) only [mapOf_ne2, mapOf_same]; exact hmp)); (case he => exact hes)) | ((with_reducible apply o_mput2 (p := pr a b) (ps := ps) w_none); (case hx => (simp (disch := first | assumption | omega | rfl | decide) only [go_sem, seval, tys] <;> rfl)); (case hy => (simp (disch := first | assumption | omega | rfl | decide) only [go_sem, seval, tys] <;> rfl)); (case hz => (simp (disch := first | assumption | omega | rfl | decide) only [go_sem, seval, tys] <;> rfl)); (case hm => (simp (disch := omega) only [mapOf_ne2, mapOf_same]; exact hmp)); (case he => exact hes); (case hs => exact hin); (case hl => omega)) | (with_reducible refine x_drawnD (id := 11) [(2, 7), (4, 7), (2, 9), (4, 9), (7, 12), (9, 12)] (by kernel_rfl) fun K' hK => ?_) | ((with_reducible apply d_nil); (case hp => (simp (disch := omega) only [pairsOk, List.all_cons, List.all_nil, List.reverse_cons, List.reverse_nil, List.nil_append, List.cons_append, lget_zero, lget_succ, apartB, touches, made_mm, made_lt, made_ge, all_true, ble_t, ble_f, blt_t, blt_f, beq_f, List.contains_cons, List.contains_nil, Bool.and_true, Bool.true_and, Bool.and_false, Bool.false_and, Bool.or_false, Bool.false_or, Bool.not_false, Bool.not_true, beq_self_eq_true])); (case' hx => (refine hK _ _ _ ?_; clear hK))) | ((with_reducible apply d_pure w_none); (case hp => exact rfl); (case hc => exact rfl); (case he => (intro h n; simp (disch := first | assumption | omega | rfl | decide) only [go_sem, seval, tys, hta, htb] <;> rfl))) | ((with_reducible apply d_eff w_none); (case hc => exact rfl); (case he => (simp (disch := first | assumption | omega | rfl | decide) only [go_sem, seval, tys, hta, htb] <;> rfl)); (case hok => first | exact rfl | exact ok_w (by omega) rfl)) | ((with_reducible apply d_guard rfl); (case hb => (simp (disch := first | assumption | omega | rfl | decide) only [go_sem, seval, tys, hta, htb] <;> rfl)); (case' h1 => intro hb; (try (simp only [hbs, reduceCtorEq] at hb)); try (exfalso; omega)); (case' h2 => intro hb; (try (simp only [hbs, reduceCtorEq] at hb)); try (exfalso; omega))) | ((with_reducible apply o_callF (g := 71) w_none); (case ha => (simp (disch := first | assumption | omega | rfl | decide) only [go_sem, seval, tys] <;> rfl)); (case hs => (exact p1)); (case' hk => rintro _ h' n' ⟨rfl, rfl, rfl⟩)) | ((with_reducible apply o_callF (g := 70) w_none); (case ha => (simp (disch := first | assumption | omega | rfl | decide) only [go_sem, seval, tys] <;> rfl)); (case hs => (with_reducible (first | exact p2 | (rw [← hH3]; exact p2)))); (case' hk => rintro _ h' n' ⟨LB, lcb, rfl, hrB, hBn, hn5, hk5⟩)) | ((first | ((with_reducible apply o_pure w_none); (case hp => exact rfl); (case' he => intro h n)) | (with_reducible first | apply o_eff w_none | apply o_guard rfl | apply x_cond | apply k_e1 rfl | apply k_e2 rfl | apply k_e0 rfl | apply k_e3 rfl | apply k_e4 rfl)); (case he => (simp (disch := first | assumption | omega | rfl | decide) only [go_sem, seval, tys, c5, hnat, hd, hta, htb] <;> rfl)); (try (case hok => first | exact rfl | exact ok_w (by omega) rfl)); all_goals (try (intro hb; (try (simp only [hbs, reduceCtorEq] at hb)); try (exfalso; omega)))) | ((with_reducible apply o_undef rfl); (case hb => (simp (disch := first | assumption | omega | rfl | decide) only [go_sem, seval, tys]))))
          obtain ⟨h5, hh5⟩ : ∃ x, x = h' := ⟨_, rfl⟩
          obtain ⟨n5, hn5e⟩ : ∃ x, x = n' := ⟨_, rfl⟩
          subst hh5
          subst hn5e
          have hT5 : TabH h5 n (some ⟨tid, toff, none⟩) T := hTk2.keep (by omega) hk5
          have rA5 : rowOf h5 (na + 1) = some (60, false, [.int .u8 T[a].kd, .int .i64 T[a].el, .int .i64 T[a].ln, .slice T[a].A T[a].fs.length T[a].c]) := by rw [rowOf_keep (hk5 _ (by omega))]; exact rA
          have cA5 := cellsAt_row (off := 0) (k := 4) rA5
          have mP5 : mapOf h5 (n + 1) = some (es.push ⟨pk (pr a b), .bool true, cc⟩, cc + 1) := by rw [mapOf_keep (hk5 _ (by omega))]; exact mP
          have rO5 : rowOf h5 id = some (104, false, cs) := by rw [rowOf_keep (hk5 _ (by omega))]; exact rO
          have p3 := (pleads_ev k (d + 6) n h5 n5 hk true (hF a haT) ((hT5.fd _ (List.getElem_mem haT)).more (by omega))).mono fun _ _ _ hh => IntsV.rd hh
          obtain ⟨la, hla2⟩ : ∃ la, leadsT true T[a] = la := ⟨_, rfl⟩
          rw [hla2] at p3 hnA hlA hlB hpz
          clear hk5 hH3 rA mP rO hTk2 hTk p2 p1 hfa hfb
          (repeat' first | (with_reducible first | apply x_seq | apply k_then | apply x_block | apply x_skip | apply x_ret | apply x_exit | apply x_label | apply k_pass | apply k_hit | apply k_miss rfl | apply k_out | apply k_turned | refine x_text fun K' hK => ?_) | ((with_reducible apply o_nil); refine hK _ _ _ ?_; clear hK) | ((with_reducible apply o_callF (g := 70) w_none); (case ha => (simp (disch := first | assumption | omega | rfl | decide) only [go_sem, seval, tys] <;> rfl)); (case hs => (exact p3)); (case' hk => rintro _ h' n' ⟨LA, lca, rfl, hrA, hAn, hn6, hk6⟩)) | ((first | ((with_reducible apply o_pure w_none); (case hp => exact rfl); (case' he => intro h n)) | (with_reducible first | apply o_eff w_none | apply o_guard rfl | apply x_cond | apply k_e1 rfl | apply k_e2 rfl | apply k_e0 rfl | apply k_e3 rfl | apply k_e4 rfl)); (case he => (simp (disch := first | assumption | omega | rfl | decide) only [go_sem, seval, tys, cA5] <;> rfl)); (try (case hok => first | exact rfl | exact ok_w (by omega) rfl)); all_goals (try (intro hb; (try (simp only [hbs, reduceCtorEq] at hb)); try (exfalso; omega)))) | ((with_reducible apply o_undef rfl); (case hb => (simp (disch := first | assumption | omega | rfl | decide) only [go_sem, seval, tys]))))
          rw [hpz] at hW2
          have hzl : (la.zip lb).length = la.length := by rw [List.length_zip, hlB, Nat.min_self]
          refine x_loopV [10, 16, 17, 86, 87, 88, 89, 90, 91, 92, 93, 94, 95, 96, 97, 98, 99, 100] [10, 86] (fun m vs h8 n8 => ∃ (q : Nat) (O' : Value), m = la.length - q ∧ q ≤ la.length ∧ vs = [O', .int .i64 q] ∧ n' ≤ n8 ∧ TabH h8 n (some ⟨tid, toff, none⟩) T ∧ mapOf h8 (n + 1) = some (es.push ⟨pk (pr a b), .bool true, cc⟩, cc + 1) ∧ RdH h8 n' LB (iv lb) ∧ RdH h8 n' LA (iv la) ∧ OwnP (ops0 ++ (la.zip lb).take q) O' h8 (n + 1 + 1) n8 ∧ (∀ x o, LA = some ⟨x, o, none⟩ → Blk O' x) ∧ (∀ x o, LB = some ⟨x, o, none⟩ → Blk O' x)) la.length rfl (by omega) ?_ ?_
          · refine ⟨0, .slice (some ⟨id, 0, none⟩) w w, rfl, by omega, (by simp (disch := first | assumption | omega | rfl | decide) only [go_sem, seval, tys] <;> rfl), Nat.le_refl _, hT5.keep (by omega) hk6, by rw [mapOf_keep (hk6 _ (by omega))]; exact mP5, (hrB.keep (Nat.le_refl _) hk6).more hn6, hrA, ?_, fun x o e => ?_, fun x o e => ?_⟩
            · rw [List.take_zero, List.append_nil]
              exact ⟨id, cs, k1, by omega, by rw [hw], by rw [rowOf_keep (hk6 _ (by omega))]; exact rO5, by omega, by rw [hw]; exact htk0⟩
            · have := hAn x o e
              intro len c hh
              injection hh with hh
              injection hh with hh
              injection hh with hh
              omega
            · have := hBn x o e
              intro len c hh
              injection hh with hh
              injection hh with hh
              injection hh with hh
              omega
          · rintro m fr8 _ h8 n8 ⟨q, O', rfl, hq, rfl, hn8, hT8, mP8, hrB8, hrA8, ⟨id', cs', j1, j2, rfl, j4, j5, j6⟩, hblA, hblB⟩
            by_cases hqa : q < la.length
            · have hqb : q < lb.length := by omega
              obtain ⟨aid, aof, hLA, haid, ca⟩ := int_at hrA8 hqa
              obtain ⟨bid, bof, hLB, hbid, cb⟩ := int_at hrB8 hqb
              subst hLA
              subst hLB
              have hneA : aid ≠ id' := fun e => hblA aid aof rfl _ _ (by rw [e])
              have hneB : bid ≠ id' := fun e => hblB bid bof rfl _ _ (by rw [e])
              obtain ⟨x, hx⟩ : ∃ x, la[q] = x := ⟨_, rfl⟩
              obtain ⟨y, hy⟩ : ∃ y, lb[q] = y := ⟨_, rfl⟩
              rw [hx] at ca
              rw [hy] at cb
              have htz : (la.zip lb).take (q + 1) = (la.zip lb).take q ++ [(x, y)] := by rw [List.take_succ_eq_append_getElem (by omega), List.getElem_zip, hx, hy]
              have hzq : ((la.zip lb).take q).length = q := by rw [List.length_take]; omega
              have hol : (ops0 ++ (la.zip lb).take q).length = w + q := by rw [List.length_append, hw, hzq]
              obtain ⟨acc, hacc⟩ : ∃ acc, ops0 ++ (la.zip lb).take q = acc := ⟨_, rfl⟩
              have hnx : ops0 ++ (la.zip lb).take (q + 1) = acc ++ [(x, y)] := by rw [htz, ← List.append_assoc, hacc]
              rw [hacc] at j5 j6 hol ⊢
              have w4 := rwOf_row j4
              (repeat' first | (with_reducible first | apply x_seq | apply k_then | apply x_block | apply x_skip | apply x_ret | apply x_exit | apply x_label | apply k_pass | apply k_hit | apply k_miss rfl | apply k_out | apply k_turned | refine x_text fun K' hK => ?_) | ((with_reducible apply o_nil); refine hK _ _ _ ?_; clear hK) | ((with_reducible apply o_apR (t := 105) apT105 w_none); (case hs => (simp (disch := first | assumption | omega | rfl | decide) only [go_sem, seval, tys, w4] <;> rfl)); (case hy => (simp (disch := first | assumption | omega | rfl | decide) only [go_sem, seval, tys, w4] <;> rfl)); (case hsrc => exact src_row (rowOf_same _ _ _ _ _) rfl); (case hr => (simp (disch := first | assumption | omega | rfl | decide) only [go_sem, seval, tys, w4] <;> rfl)); (case hc => exact rfl); (case hm => omega); (case hli => omega); (case hln => omega); (case hcs => omega)) | ((first | ((with_reducible apply o_pure w_none); (case hp => exact rfl); (case' he => intro h n)) | (with_reducible first | apply o_eff w_none | apply o_guard rfl | apply x_cond | apply k_e1 rfl | apply k_e2 rfl | apply k_e0 rfl | apply k_e3 rfl | apply k_e4 rfl)); (case he => (simp (disch := first | assumption | omega | rfl | decide) only [go_sem, seval, tys, ca, cb, w4] <;> rfl)); (try (case hok => first | exact rfl | exact ok_w (by omega) rfl)); all_goals (try (intro hb; (try (simp only [hbs, reduceCtorEq] at hb)); try (exfalso; omega)))) | ((with_reducible apply o_undef rfl); (case hb => (simp (disch := first | assumption | omega | rfl | decide) only [go_sem, seval, tys]))))
              refine k_round (la.length - (q + 1)) (by omega) ⟨q + 1, .slice (some ⟨n8 + 1, 0, none⟩) (acc.length + 1) (acc.length + 1), rfl, by omega, (by simp (disch := first | assumption | omega | rfl | decide) only [go_sem, seval, tys] <;> rfl), by omega, ((hT8.set (by omega) _).set (by omega) _).set (by omega) _, by simp (disch := omega) only [mapOf_ne2]; exact mP8, ((hrB8.set hn8 _).kill (fun x o e => by injection e with e; injection e with e1; omega) _).set (by omega) _, ((hrA8.set hn8 _).kill (fun x o e => by injection e with e; injection e with e1; omega) _).set (by omega) _, ?_, fun x o e => blk_new (by injection e with e; injection e with e1; omega), fun x o e => blk_new (by injection e with e; injection e with e1; omega)⟩
              rw [hnx]
              refine ⟨n8 + 1, _, by omega, by omega, by rw [List.length_append]; rfl, rowOf_same _ _ _ _ _, ?_, ?_⟩
              · rw [List.length_append, List.length_append, List.length_take, List.length_singleton]
                show _ ≤ _ + 2
                omega
              · have hl9 : (qv acc).length = acc.length * 2 := qv_length acc
                rw [List.length_append, j6, qv_app, List.take_of_length_le (by rw [List.length_append, hl9, List.length_singleton]; show _ + 2 ≤ _; omega)]
                rfl
            · obtain rfl : q = la.length := by omega
              rw [show (la.zip lb).take la.length = la.zip lb from List.take_of_length_le (by omega)] at j5 j6 ⊢
              have hol : (ops0 ++ la.zip lb).length = w + la.length := by rw [List.length_append, hw, hzl]
              have hlq := hlef (ps ++ [pr a b])
              (repeat' first | (with_reducible first | apply x_seq | apply k_then | apply x_block | apply x_skip | apply x_ret | apply x_exit | apply x_label | apply k_pass | apply k_hit | apply k_miss rfl | apply k_out | apply k_turned | refine x_text fun K' hK => ?_) | ((with_reducible apply o_nil); refine hK _ _ _ ?_; clear hK) | fail | ((first | ((with_reducible apply o_pure w_none); (case hp => exact rfl); (case' he => intro h n)) | (with_reducible first | apply o_eff w_none | apply o_guard rfl | apply x_cond | apply k_e1 rfl | apply k_e2 rfl | apply k_e0 rfl | apply k_e3 rfl | apply k_e4 rfl)); (case he => (simp (disch := first | assumption | omega | rfl | decide) only [go_sem, seval, tys] <;> rfl)); (try (case hok => first | exact rfl | exact ok_w (by omega) rfl)); all_goals (try (intro hb; (try (simp only [hbs, reduceCtorEq] at hb)); try (exfalso; omega)))) | ((with_reducible apply o_undef rfl); (case hb => (simp (disch := first | assumption | omega | rfl | decide) only [go_sem, seval, tys]))))
              all_goals
                refine k_round (left_ T.length (ps ++ [pr a b]) * 9 + (w + la.length)) (by omega) ⟨ps ++ [pr a b], ops0 ++ la.zip lb, _, _, _, by rw [hol], by omega, (by simp (disch := first | assumption | omega | rfl | decide) only [go_sem, seval, tys] <;> rfl), by omega, hT8, mP8, hes.push, ⟨id', cs', j1, j2, rfl, j4, j5, j6⟩, hW2⟩
        · have hbad := hW.bad haT hbT hs
          rw [alikeB_f hbad]
          by_cases s1 : T[a].kd = T[b].kd
          · by_cases s2 : T[a].ln = T[b].ln
            · have s3 : decide (T[a].fs.map (·.1) = T[b].fs.map (·.1)) = false := decide_eq_false fun e => hs ⟨s1, s2, e⟩
              rw [s3] at p1
              (repeat' first | (with_reducible first | apply x_seq | apply k_then | apply x_block | apply x_skip | apply x_ret | apply x_exit | apply x_label | apply k_pass | apply k_hit | apply k_miss rfl | apply k_out | apply k_turned | refine x_text fun K' hK => ?_) | ((with_reducible apply o_nil); refine hK _ _ _ ?_; clear hK) | ((with_reducible apply o_look2 (p := pr a b) (ps := ps) w_none); (case hx => (simp (disch := first | assumption | omega | rfl | decide) only [go_sem, seval, tys] <;> rfl)); (case hy => (simp (disch := first | assumption | omega | rfl | decide) only [go_sem, seval, tys] <;> rfl)); (case hm => (simp (disch := omega) only [mapOf_ne2, mapOf_same]; exact hmp)); (case he => exact hes)) | ((with_reducible apply o_mput2 (p := pr a b) (ps := ps) w_none); (case hx => (simp (disch := first | assumption | omega | rfl | decide) only [go_sem, seval, tys] <;> rfl)); (case hy => (simp (disch := first | assumption | omega | rfl | decide) only [go_sem, seval, tys] <;> rfl)); (case hz => (simp (disch := first | assumption | omega | rfl | decide) only [go_sem, seval, tys] <;> rfl)); (case hm => (simp (disch := omega) only [mapOf_ne2, mapOf_same]; exact hmp)); (case he => exact hes); (case hs => exact hin); (case hl => omega)) | (with_reducible refine x_drawnD (id := 11) [(2, 7), (4, 7), (2, 9), (4, 9), (7, 12), (9, 12)] (by kernel_rfl) fun K' hK => ?_) | ((with_reducible apply d_nil); (case hp => (simp (disch := omega) only [pairsOk, List.all_cons, List.all_nil, List.reverse_cons, List.reverse_nil, List.nil_append, List.cons_append, lget_zero, lget_succ, apartB, touches, made_mm, made_lt, made_ge, all_true, ble_t, ble_f, blt_t, blt_f, beq_f, List.contains_cons, List.contains_nil, Bool.and_true, Bool.true_and, Bool.and_false, Bool.false_and, Bool.or_false, Bool.false_or, Bool.not_false, Bool.not_true, beq_self_eq_true])); (case' hx => (refine hK _ _ _ ?_; clear hK))) | ((with_reducible apply d_pure w_none); (case hp => exact rfl); (case hc => exact rfl); (case he => (intro h n; simp (disch := first | assumption | omega | rfl | decide) only [go_sem, seval, tys, hta, htb] <;> rfl))) | ((with_reducible apply d_eff w_none); (case hc => exact rfl); (case he => (simp (disch := first | assumption | omega | rfl | decide) only [go_sem, seval, tys, hta, htb] <;> rfl)); (case hok => first | exact rfl | exact ok_w (by omega) rfl)) | ((with_reducible apply d_guard rfl); (case hb => (simp (disch := first | assumption | omega | rfl | decide) only [go_sem, seval, tys, hta, htb] <;> rfl)); (case' h1 => intro hb; (try (simp only [hbs, reduceCtorEq] at hb)); try (exfalso; omega)); (case' h2 => intro hb; (try (simp only [hbs, reduceCtorEq] at hb)); try (exfalso; omega))) | ((with_reducible apply o_callF (g := 71) w_none); (case ha => (simp (disch := first | assumption | omega | rfl | decide) only [go_sem, seval, tys] <;> rfl)); (case hs => (exact p1)); (case' hk => rintro _ h' n' ⟨rfl, rfl, rfl⟩)) | ((first | ((with_reducible apply o_pure w_none); (case hp => exact rfl); (case' he => intro h n)) | (with_reducible first | apply o_eff w_none | apply o_guard rfl | apply x_cond | apply k_e1 rfl | apply k_e2 rfl | apply k_e0 rfl | apply k_e3 rfl | apply k_e4 rfl)); (case he => (simp (disch := first | assumption | omega | rfl | decide) only [go_sem, seval, tys, c5, hnat, hd, hta, htb] <;> rfl)); (try (case hok => first | exact rfl | exact ok_w (by omega) rfl)); all_goals (try (intro hb; (try (simp only [hbs, reduceCtorEq] at hb)); try (exfalso; omega)))) | ((with_reducible apply o_undef rfl); (case hb => (simp (disch := first | assumption | omega | rfl | decide) only [go_sem, seval, tys]))))
              all_goals exact sw_flat rfl rfl ⟨rfl, rfl, rfl⟩
            · obtain ⟨B, hB⟩ : ∃ B, decide (T[a].fs.map (·.1) = T[b].fs.map (·.1)) = B := ⟨_, rfl⟩
              rw [hB] at p1
              (repeat' first | (with_reducible first | apply x_seq | apply k_then | apply x_block | apply x_skip | apply x_ret | apply x_exit | apply x_label | apply k_pass | apply k_hit | apply k_miss rfl | apply k_out | apply k_turned | refine x_text fun K' hK => ?_) | ((with_reducible apply o_nil); refine hK _ _ _ ?_; clear hK) | ((with_reducible apply o_look2 (p := pr a b) (ps := ps) w_none); (case hx => (simp (disch := first | assumption | omega | rfl | decide) only [go_sem, seval, tys] <;> rfl)); (case hy => (simp (disch := first | assumption | omega | rfl | decide) only [go_sem, seval, tys] <;> rfl)); (case hm => (simp (disch := omega) only [mapOf_ne2, mapOf_same]; exact hmp)); (case he => exact hes)) | ((with_reducible apply o_mput2 (p := pr a b) (ps := ps) w_none); (case hx => (simp (disch := first | assumption | omega | rfl | decide) only [go_sem, seval, tys] <;> rfl)); (case hy => (simp (disch := first | assumption | omega | rfl | decide) only [go_sem, seval, tys] <;> rfl)); (case hz => (simp (disch := first | assumption | omega | rfl | decide) only [go_sem, seval, tys] <;> rfl)); (case hm => (simp (disch := omega) only [mapOf_ne2, mapOf_same]; exact hmp)); (case he => exact hes); (case hs => exact hin); (case hl => omega)) | (with_reducible refine x_drawnD (id := 11) [(2, 7), (4, 7), (2, 9), (4, 9), (7, 12), (9, 12)] (by kernel_rfl) fun K' hK => ?_) | ((with_reducible apply d_nil); (case hp => (simp (disch := omega) only [pairsOk, List.all_cons, List.all_nil, List.reverse_cons, List.reverse_nil, List.nil_append, List.cons_append, lget_zero, lget_succ, apartB, touches, made_mm, made_lt, made_ge, all_true, ble_t, ble_f, blt_t, blt_f, beq_f, List.contains_cons, List.contains_nil, Bool.and_true, Bool.true_and, Bool.and_false, Bool.false_and, Bool.or_false, Bool.false_or, Bool.not_false, Bool.not_true, beq_self_eq_true])); (case' hx => (refine hK _ _ _ ?_; clear hK))) | ((with_reducible apply d_pure w_none); (case hp => exact rfl); (case hc => exact rfl); (case he => (intro h n; simp (disch := first | assumption | omega | rfl | decide) only [go_sem, seval, tys, hta, htb] <;> rfl))) | ((with_reducible apply d_eff w_none); (case hc => exact rfl); (case he => (simp (disch := first | assumption | omega | rfl | decide) only [go_sem, seval, tys, hta, htb] <;> rfl)); (case hok => first | exact rfl | exact ok_w (by omega) rfl)) | ((with_reducible apply d_guard rfl); (case hb => (simp (disch := first | assumption | omega | rfl | decide) only [go_sem, seval, tys, hta, htb] <;> rfl)); (case' h1 => intro hb; (try (simp only [hbs, reduceCtorEq] at hb)); try (exfalso; omega)); (case' h2 => intro hb; (try (simp only [hbs, reduceCtorEq] at hb)); try (exfalso; omega))) | ((with_reducible apply o_callF (g := 71) w_none); (case ha => (simp (disch := first | assumption | omega | rfl | decide) only [go_sem, seval, tys] <;> rfl)); (case hs => (exact p1)); (case' hk => rintro _ h' n' ⟨rfl, rfl, rfl⟩)) | ((first | ((with_reducible apply o_pure w_none); (case hp => exact rfl); (case' he => intro h n)) | (with_reducible first | apply o_eff w_none | apply o_guard rfl | apply x_cond | apply k_e1 rfl | apply k_e2 rfl | apply k_e0 rfl | apply k_e3 rfl | apply k_e4 rfl)); (case he => (simp (disch := first | assumption | omega | rfl | decide) only [go_sem, seval, tys, c5, hnat, hd, hta, htb] <;> rfl)); (try (case hok => first | exact rfl | exact ok_w (by omega) rfl)); all_goals (try (intro hb; (try (simp only [hbs, reduceCtorEq] at hb)); try (exfalso; omega)))) | ((with_reducible apply o_undef rfl); (case hb => (simp (disch := first | assumption | omega | rfl | decide) only [go_sem, seval, tys]))))
              all_goals exact sw_flat rfl rfl ⟨rfl, rfl, rfl⟩
          · obtain ⟨B, hB⟩ : ∃ B, decide (T[a].fs.map (·.1) = T[b].fs.map (·.1)) = B := ⟨_, rfl⟩
            rw [hB] at p1
            (repeat' first | (with_reducible first | apply x_seq | apply k_then | apply x_block | apply x_skip | apply x_ret | apply x_exit | apply x_label | apply k_pass | apply k_hit | apply k_miss rfl | apply k_out | apply k_turned | refine x_text fun K' hK => ?_) | ((with_reducible apply o_nil); refine hK _ _ _ ?_; clear hK) | ((with_reducible apply o_look2 (p := pr a b) (ps := ps) w_none); (case hx => (simp (disch := first | assumption | omega | rfl | decide) only [go_sem, seval, tys] <;> rfl)); (case hy => (simp (disch := first | assumption | omega | rfl | decide) only [go_sem, seval, tys] <;> rfl)); (case hm => (simp (disch := omega) only [mapOf_ne2, mapOf_same]; exact hmp)); (case he => exact hes)) | ((with_reducible apply o_mput2 (p := pr a b) (ps := ps) w_none); (case hx => (simp (disch := first | assumption | omega | rfl | decide) only [go_sem, seval, tys] <;> rfl)); (case hy => (simp (disch := first | assumption | omega | rfl | decide) only [go_sem, seval, tys] <;> rfl)); (case hz => (simp (disch := first | assumption | omega | rfl | decide) only [go_sem, seval, tys] <;> rfl)); (case hm => (simp (disch := omega) only [mapOf_ne2, mapOf_same]; exact hmp)); (case he => exact hes); (case hs => exact hin); (case hl => omega)) | (with_reducible refine x_drawnD (id := 11) [(2, 7), (4, 7), (2, 9), (4, 9), (7, 12), (9, 12)] (by kernel_rfl) fun K' hK => ?_) | ((with_reducible apply d_nil); (case hp => (simp (disch := omega) only [pairsOk, List.all_cons, List.all_nil, List.reverse_cons, List.reverse_nil, List.nil_append, List.cons_append, lget_zero, lget_succ, apartB, touches, made_mm, made_lt, made_ge, all_true, ble_t, ble_f, blt_t, blt_f, beq_f, List.contains_cons, List.contains_nil, Bool.and_true, Bool.true_and, Bool.and_false, Bool.false_and, Bool.or_false, Bool.false_or, Bool.not_false, Bool.not_true, beq_self_eq_true])); (case' hx => (refine hK _ _ _ ?_; clear hK))) | ((with_reducible apply d_pure w_none); (case hp => exact rfl); (case hc => exact rfl); (case he => (intro h n; simp (disch := first | assumption | omega | rfl | decide) only [go_sem, seval, tys, hta, htb] <;> rfl))) | ((with_reducible apply d_eff w_none); (case hc => exact rfl); (case he => (simp (disch := first | assumption | omega | rfl | decide) only [go_sem, seval, tys, hta, htb] <;> rfl)); (case hok => first | exact rfl | exact ok_w (by omega) rfl)) | ((with_reducible apply d_guard rfl); (case hb => (simp (disch := first | assumption | omega | rfl | decide) only [go_sem, seval, tys, hta, htb] <;> rfl)); (case' h1 => intro hb; (try (simp only [hbs, reduceCtorEq] at hb)); try (exfalso; omega)); (case' h2 => intro hb; (try (simp only [hbs, reduceCtorEq] at hb)); try (exfalso; omega))) | ((with_reducible apply o_callF (g := 71) w_none); (case ha => (simp (disch := first | assumption | omega | rfl | decide) only [go_sem, seval, tys] <;> rfl)); (case hs => (exact p1)); (case' hk => rintro _ h' n' ⟨rfl, rfl, rfl⟩)) | ((first | ((with_reducible apply o_pure w_none); (case hp => exact rfl); (case' he => intro h n)) | (with_reducible first | apply o_eff w_none | apply o_guard rfl | apply x_cond | apply k_e1 rfl | apply k_e2 rfl | apply k_e0 rfl | apply k_e3 rfl | apply k_e4 rfl)); (case he => (simp (disch := first | assumption | omega | rfl | decide) only [go_sem, seval, tys, c5, hnat, hd, hta, htb] <;> rfl)); (try (case hok => first | exact rfl | exact ok_w (by omega) rfl)); all_goals (try (intro hb; (try (simp only [hbs, reduceCtorEq] at hb)); try (exfalso; omega)))) | ((with_reducible apply o_undef rfl); (case hb => (simp (disch := first | assumption | omega | rfl | decide) only [go_sem, seval, tys]))))
            all_goals exact sw_flat rfl rfl ⟨rfl, rfl, rfl⟩
end Go.Proofs.Ytgdokjfjmcleeaa.Ce
