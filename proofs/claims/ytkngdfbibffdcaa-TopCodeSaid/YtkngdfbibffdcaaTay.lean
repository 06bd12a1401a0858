/- Parts of the proof of TopCode: Jv, Jd, Jf, Jh. No condition of its own. -/
import Derived.Test.YtkngdfbibffdcaaTan
import Derived.Test.YtkngdfbibffdcaaTaw
import Derived.Test.YtkngdfbibffdcaaTax
set_option linter.unusedVariables false
set_option linter.unusedSimpArgs false
set_option maxRecDepth 100000
set_option maxHeartbeats 4000000
namespace Go.Proofs.Ytkngdfbibffdcaa.Ce
open Go.RowKit
open Classical in
noncomputable def alikeB (T : List Tp) (i k : Nat) : Bool := decide (Alike T i k)
theorem alikeB_iff {T : List Tp} {i k : Nat} : alikeB T i k = true ↔ Alike T i k := by unfold alikeB; simp
theorem alikeB_t {T : List Tp} {i k : Nat} (h : Alike T i k) : alikeB T i k = true := alikeB_iff.2 h
theorem alikeB_f {T : List Tp} {i k : Nat} (h : ¬ Alike T i k) : alikeB T i k = false := by
  cases hb : alikeB T i k
  · rfl
  · exact absurd (alikeB_iff.1 hb) h
def qv (ps : List (Int × Int)) : List Value := ps.flatMap fun p => [.int .i64 p.1, .int .i64 p.2]
theorem qv_length (ps : List (Int × Int)) : (qv ps).length = ps.length * 2 := rows_length (fun p : Int × Int => [Value.int .i64 p.1, Value.int .i64 p.2]) (fun _ => rfl) ps
theorem qv_app (ps qs : List (Int × Int)) : qv (ps ++ qs) = qv ps ++ qv qs := by simp [qv]
def OwnP (ops : List (Int × Int)) (O : Value) (h : Hp) (lo n : Nat) : Prop :=
  ∃ id cs, lo ≤ id ∧ id < n ∧ O = .slice (some ⟨id, 0, none⟩) ops.length ops.length ∧ rowOf h id = some (113, false, cs) ∧ ops.length * 2 ≤ cs.length ∧ cs.take (ops.length * 2) = qv ops
theorem mapOf_keep {h h' : Hp} {b : Nat} (e : h'.get b = h.get b) : mapOf h' b = mapOf h b := by unfold mapOf; rw [e]
variable (k d cl : Nat) (h : Hp) (n : Nat)
theorem psame_ok (hk : 30000 ≤ k) (A : Option Addr) (T : List Tp) (c : Nat) (hT : TabH h n A T) (hS : ∀ t ∈ T, t.fs.length ≤ 20000) (hm : T.length ≤ 9223372036854775807) (hC : ChkT T) (i j : Nat) (hi : i < T.length) (hj : j < T.length) :
    SQ k (d + 8) cl 30 [.slice A T.length c, .int .i64 i, .int .i64 j] h n fun v h' n' => v = .tuple ⟨[.bool (alikeB T i j), .int .i64 0]⟩ ∧ h' = h ∧ n' = n := by
  have hl := hC.1
  have hF := hC.2.1
  have haz : askE T i j = 0 := by unfold askE; rw [if_pos hC, if_pos ⟨⟨by omega, by omega⟩, by omega, by omega⟩]
  have q1 := pasked_2 k d n (h.set n (.row 3 false (iv [(i : Int), (j : Int)]))) (n + 1) hk A T c ((hT.set (Nat.le_refl _) _).more (by omega)) hS hm i j (some ⟨n, 0, none⟩) 2 (RdH.row (by omega))
  rw [haz] at q1
  obtain ⟨tid, toff, hAA, htid, -⟩ := hT.at_ hi
  subst hAA
  have hle0 := left_le (ps := []) hl
  have hlef := fun (ps : List (Int × Int)) => left_le (ps := ps) hl
  refine enter Try.func30 (by kernel_rfl) rfl (by kernel_rfl) rfl rfl rfl ?_
  (repeat' first | refine zcd ?_ | intro K' hK | (with_reducible refine zn hK ?_; clear hK) | ((with_reducible apply o_callF (g := 48) w_none); (case ha => exact ez0); (case hs => (exact q1)); (case' hk => rintro _ h' n' ⟨rfl, rfl, rfl⟩)) | ((with_reducible first | apply zo1 | apply zo2 | apply o_guard rfl | apply x_cond | apply k_e1 rfl | apply k_e2 rfl | apply k_e0 rfl | apply k_e3 rfl | apply k_e4 rfl); (case he => exact ez0); (try case hok => exact ezO); all_goals try (intro hb; (try simp only [hbs, reduceCtorEq] at hb); try exact ezX)) | ((with_reducible apply o_undef rfl); (case hb => exact ez0)))
  refine x_loopV [6, 7, 10, 11, 12, 13, 14, 15, 16, 17, 31, 32, 33, 34, 35, 36, 37, 38, 39, 40, 41, 42, 43, 44, 45, 46, 47, 48, 49, 50, 51, 52, 53, 54, 55, 56, 57, 58, 59, 60, 61, 62, 63, 64, 65, 66, 67, 68, 69, 70, 71, 72, 73, 74, 75, 76, 77, 78, 79, 80, 81, 82, 83, 84, 85, 86, 87, 88, 89, 90, 91, 92, 93, 94, 95, 96, 97, 98, 99, 100] [10] (fun m vs h4 n4 => ∃ (ps ops : List (Int × Int)) (O : Value) (es : Array MapEntry) (cc : Nat), m = left_ T.length ps * 9 + ops.length ∧ m ≤ 9300 ∧ vs = [O] ∧ n + 1 + 1 ≤ n4 ∧ TabH h4 n (some ⟨tid, toff, none⟩) T ∧ mapOf h4 (n + 1) = some (es, cc) ∧ Es2 es ps ∧ OwnP ops O h4 (n + 1 + 1) n4 ∧ Wrk T i j ps ops) (left_ T.length [] * 9 + 1) rfl (by omega) ?_ ?_
  · exact ⟨[], [pr i j], .slice (some ⟨n + 1 + 1, 0, none⟩) 1 1, #[], 0, rfl, by omega, ez0, by omega, ((hT.set (Nat.le_refl _) _).set (by omega) _).set (by omega) _, by simp (disch := omega) only [mapOf_ne2, mapOf_same], rfl, ⟨n + 1 + 1, _, Nat.le_refl _, by omega, rfl, rowOf_same _ _ _ _ _, Nat.le_refl _, rfl⟩, Wrk.init hi hj⟩
  · rintro m fr _ ha na ⟨ps, ops, O, es, cc, rfl, hm40, rfl, hn, hT2, hmp, hes, ⟨id, cs, k1, k2, rfl, q4, q5, q6⟩, hW⟩
    rcases List.eq_nil_or_concat ops with rfl | ⟨ops0, p, rfl⟩
    · have hal := hW.done
      rw [alikeB_t hal]
      (repeat' first | refine zcd ?_ | intro K' hK | (with_reducible refine zn hK ?_; clear hK) | fail | ((with_reducible first | apply zo1 | apply zo2 | apply o_guard rfl | apply x_cond | apply k_e1 rfl | apply k_e2 rfl | apply k_e0 rfl | apply k_e3 rfl | apply k_e4 rfl); (case he => exact ez0); (try case hok => exact ezO); all_goals try (intro hb; (try simp only [hbs, reduceCtorEq] at hb); try exact ezX)) | ((with_reducible apply o_undef rfl); (case hb => exact ez0)))
      all_goals exact sw_flat rfl rfl ⟨rfl, rfl, rfl⟩
    · rw [List.concat_eq_append] at q5 q6 hW
      have hlen : (ops0.concat p).length = ops0.length + 1 := by rw [List.concat_eq_append, List.length_append]; rfl
      have hlen2 : (ops0 ++ [p]).length = ops0.length + 1 := by rw [List.length_append]; rfl
      rw [hlen] at hm40 ⊢
      rw [hlen2] at q5 q6
      obtain ⟨a, b, rfl, haT, hbT, -⟩ := hW.met p (.inr (List.mem_append_right _ (List.mem_singleton.2 rfl)))
      obtain ⟨w, hw⟩ : ∃ w, ops0.length = w := ⟨_, rfl⟩
      rw [hw] at q5 q6 hm40 ⊢
      have hql : (qv ops0).length = w * 2 := by rw [qv_length, hw]
      have htk0 : cs.take (w * 2) = qv ops0 := by
        have h1 : (cs.take ((w + 1) * 2)).take (w * 2) = cs.take (w * 2) := by rw [List.take_take]; congr 1; omega
        rw [← h1, q6, qv_app, List.take_append_of_le_length (by omega), List.take_of_length_le (by omega)]
      have c5 : cellsAt ha id (w * 2) 2 = some [.int .i64 (a : Int), .int .i64 (b : Int)] := by
        have := cellsAt_of (h := ha) (id := id) (off := w * 2) (vs := [.int .i64 (a : Int), .int .i64 (b : Int)]) (fun x v hv => by
          have hx : x < 2 := by
            rcases Nat.lt_or_ge x 2 with h1 | h1
            · exact h1
            · rw [List.getElem?_eq_none (by simpa using h1)] at hv; cases hv
          rw [cellAt_row q4, lget_eq, ← List.getElem?_take_of_lt (show w * 2 + x < (w + 1) * 2 by omega), q6, qv_app, List.getElem?_append_right (by omega), hql, Nat.add_sub_cancel_left]
          exact hv) (by simp)
        exact this
      have hnat : (((w + 1 : Nat) : Int) - 1).toNat = w := by omega
      have hlp := hlef ps
      by_cases hin : pr a b ∈ ps
      · have hd : decide (pr a b ∈ ps) = true := decide_eq_true hin
        have hW2 := hW.skip hin
        (repeat' first | refine zcd ?_ | intro K' hK | (with_reducible refine zn hK ?_; clear hK) | ((with_reducible apply o_look2 (p := pr a b) (ps := ps) w_none); (case hx => (simp (disch := first | assumption | omega | rfl | decide) only [go_sem, seval, tys] <;> rfl)); (case hy => (simp (disch := first | assumption | omega | rfl | decide) only [go_sem, seval, tys] <;> rfl)); (case hm => (simp (disch := omega) only [mapOf_ne2, mapOf_same]; exact hmp)); (case he => exact hes)) | ((with_reducible first | apply zo1 | apply zo2 | apply o_guard rfl | apply x_cond | apply k_e1 rfl | apply k_e2 rfl | apply k_e0 rfl | apply k_e3 rfl | apply k_e4 rfl); (case he => (intros; simp (disch := first | assumption | omega | rfl | decide) only [go_sem, seval, tys, c5, hnat, hd] <;> rfl)); (try case hok => exact ezO); all_goals try (intro hb; (try simp only [hbs, reduceCtorEq] at hb); try exact ezX)) | ((with_reducible apply o_undef rfl); (case hb => exact ez0)))
        all_goals
          refine k_round (left_ T.length ps * 9 + w) (by omega) ⟨ps, ops0, .slice (some ⟨id, 0, none⟩) w w, es, cc, by rw [hw], by omega, ez0, by omega, hT2.set (by omega) _, by simp (disch := omega) only [mapOf_ne2, mapOf_same]; exact hmp, hes, ⟨id, cs, k1, by omega, by rw [hw], by rw [rowOf_ne _ _ (by omega)]; exact q4, by omega, by rw [hw]; exact htk0⟩, hW2⟩
      · have hd : decide (pr a b ∈ ps) = false := decide_eq_false hin
        obtain ⟨_, _, hA2, -, hta, -⟩ := hT2.at_ haT
        injection hA2 with hA2
        injection hA2 with z1 z2
        subst z1
        subst z2
        obtain ⟨_, _, hA2, -, htb, -⟩ := hT2.at_ hbT
        injection hA2 with hA2
        injection hA2 with z1 z2
        subst z1
        subst z2
        have hTk : TabH ((((((ha.set na (.row 113 false [.int .i64 (a : Int), .int .i64 (b : Int)])).set (n + 1) (.mp (es.push ⟨pk (pr a b), .bool true, cc⟩) (cc + 1))).set (na + 1) (.row 32 false [.int .u8 0, .int .i64 0, .int .i64 0, .slice none 0 0])).set (na + 1 + 1) (.row 32 false [.int .u8 0, .int .i64 0, .int .i64 0, .slice none 0 0])).set (na + 1) (.row 32 false [.int .u8 T[a].kd, .int .i64 T[a].el, .int .i64 T[a].ln, .slice T[a].A T[a].fs.length T[a].c])).set (na + 1 + 1) (.row 32 false [.int .u8 T[b].kd, .int .i64 T[b].el, .int .i64 T[b].ln, .slice T[b].A T[b].fs.length T[b].c])) n (some ⟨tid, toff, none⟩) T := (((((hT2.set (by omega) _).set (by omega) _).set (by omega) _).set (by omega) _).set (by omega) _).set (by omega) _
        have hfa := (hTk.fd _ (List.getElem_mem haT)).more (show n ≤ na + 1 + 1 + 1 by omega)
        have hfb := (hTk.fd _ (List.getElem_mem hbT)).more (show n ≤ na + 1 + 1 + 1 by omega)
        have hla := fine_len (hF a haT)
        have hlb := fine_len (hF b hbT)
        have p1 := eqfunc_ev k (d + 5) n ((((((ha.set na (.row 113 false [.int .i64 (a : Int), .int .i64 (b : Int)])).set (n + 1) (.mp (es.push ⟨pk (pr a b), .bool true, cc⟩) (cc + 1))).set (na + 1) (.row 32 false [.int .u8 0, .int .i64 0, .int .i64 0, .slice none 0 0])).set (na + 1 + 1) (.row 32 false [.int .u8 0, .int .i64 0, .int .i64 0, .slice none 0 0])).set (na + 1) (.row 32 false [.int .u8 T[a].kd, .int .i64 T[a].el, .int .i64 T[a].ln, .slice T[a].A T[a].fs.length T[a].c])).set (na + 1 + 1) (.row 32 false [.int .u8 T[b].kd, .int .i64 T[b].el, .int .i64 T[b].ln, .slice T[b].A T[b].fs.length T[b].c])) (na + 1 + 1 + 1) hk T[a].A T[b].A T[a].fs T[b].fs T[a].c T[b].c hfa hfb (by omega) (by omega)
        have p1 := p1
        by_cases hs : Shp T[a] T[b]
        · obtain ⟨s1, s2, s3⟩ := hs
          rw [decide_eq_true s3] at p1
          have hW2 := hW.next hF haT hbT ⟨s1, s2, s3⟩
          have hlt := left_lt haT hbT hin
          have p2 := (pleads_ev k (d + 6) n ((((((ha.set na (.row 113 false [.int .i64 (a : Int), .int .i64 (b : Int)])).set (n + 1) (.mp (es.push ⟨pk (pr a b), .bool true, cc⟩) (cc + 1))).set (na + 1) (.row 32 false [.int .u8 0, .int .i64 0, .int .i64 0, .slice none 0 0])).set (na + 1 + 1) (.row 32 false [.int .u8 0, .int .i64 0, .int .i64 0, .slice none 0 0])).set (na + 1) (.row 32 false [.int .u8 T[a].kd, .int .i64 T[a].el, .int .i64 T[a].ln, .slice T[a].A T[a].fs.length T[a].c])).set (na + 1 + 1) (.row 32 false [.int .u8 T[b].kd, .int .i64 T[b].el, .int .i64 T[b].ln, .slice T[b].A T[b].fs.length T[b].c])) (na + 1 + 1 + 1) hk true (hF b hbT) hfb).mono fun _ _ _ hh => IntsV.rd hh
          have hnB := leadsT_in (far := true) (hF b hbT) (by omega)
          have hnA := leadsT_in (far := true) (hF a haT) (by omega)
          have hlA := leadsT_len (far := true) (hF a haT)
          have hlB := Shp.len (far := true) (t := T[a]) (u := T[b]) ⟨s1, s2, s3⟩
          have hpz : pairsT T[a] T[b] = (leadsT true T[a]).zip (leadsT true T[b]) := rfl
          obtain ⟨H3, hH3⟩ : ∃ x, x = ((((((ha.set na (.row 113 false [.int .i64 (a : Int), .int .i64 (b : Int)])).set (n + 1) (.mp (es.push ⟨pk (pr a b), .bool true, cc⟩) (cc + 1))).set (na + 1) (.row 32 false [.int .u8 0, .int .i64 0, .int .i64 0, .slice none 0 0])).set (na + 1 + 1) (.row 32 false [.int .u8 0, .int .i64 0, .int .i64 0, .slice none 0 0])).set (na + 1) (.row 32 false [.int .u8 T[a].kd, .int .i64 T[a].el, .int .i64 T[a].ln, .slice T[a].A T[a].fs.length T[a].c])).set (na + 1 + 1) (.row 32 false [.int .u8 T[b].kd, .int .i64 T[b].el, .int .i64 T[b].ln, .slice T[b].A T[b].fs.length T[b].c])) := ⟨_, rfl⟩
          have rA : rowOf H3 (na + 1) = some (32, false, [.int .u8 T[a].kd, .int .i64 T[a].el, .int .i64 T[a].ln, .slice T[a].A T[a].fs.length T[a].c]) := by rw [hH3, rowOf_ne _ _ (by omega)]; exact rowOf_same _ _ _ _ _
          have mP : mapOf H3 (n + 1) = some (es.push ⟨pk (pr a b), .bool true, cc⟩, cc + 1) := by rw [hH3]; simp (disch := omega) only [mapOf_ne2, mapOf_same]
          have rO : rowOf H3 id = some (113, false, cs) := by rw [hH3, rowOf_ne _ _ (by omega), rowOf_ne _ _ (by omega), rowOf_ne _ _ (by omega), rowOf_ne _ _ (by omega), rowOf_ne _ _ (by omega), rowOf_ne _ _ (by omega)]; exact q4
          have hTk2 : TabH H3 n (some ⟨tid, toff, none⟩) T := by rw [hH3]; exact hTk
          rw [← hH3] at p2
          obtain ⟨lb, hlb2⟩ : ∃ lb, leadsT true T[b] = lb := ⟨_, rfl⟩
          rw [hlb2] at p2 hnB hlB hpz
          (repeat' first | refine zcd ?_ | intro K' hK | (with_reducible refine zn hK ?_; clear hK) | ((with_reducible apply o_look2 (p := pr a b) (ps := ps) w_none); (case hx => (simp (disch := first | assumption | omega | rfl | decide) only [go_sem, seval, tys] <;> rfl)); (case hy => (simp (disch := first | assumption | omega | rfl | decide) only [go_sem, seval, tys] <;> rfl)); (case hm => (simp (disch := omega) only [mapOf_ne2, mapOf_same]; exact hmp)); (case he => exact hes)) | ((with_reducible apply o_mput2 (p := pr a b) (ps := ps) w_none); (case hx => (simp (disch := first | assumption | omega | rfl | decide) only [go_sem, seval, tys] <;> rfl)); (case hy => (simp (disch := first | assumption | omega | rfl | decide) only [go_sem, seval, tys] <;> rfl)); (case hz => (simp (disch := first | assumption | omega | rfl | decide) only [go_sem, seval, tys] <;> rfl)); (case hm => (simp (disch := omega) only [mapOf_ne2, mapOf_same]; exact hmp)); (case he => exact hes); (case hs => exact hin); (case hl => omega)) | (with_reducible refine x_drawnD (id := 11) [(2, 7), (4, 7), (2, 9), (4, 9), (7, 12), (9, 12)] (by kernel_rfl) fun K' hK => ?_) | ((with_reducible apply d_nil); (case hp => exact ezP); (case' hx => (refine hK _ _ _ ?_; clear hK))) | ((with_reducible apply d_pure w_none); (case hp => exact rfl); (case hc => exact rfl); (case he => exact ez2 hta htb)) | ((with_reducible apply d_eff w_none); (case hc => exact rfl); (case he => exact ez2 hta htb); (case hok => exact ezO)) | ((with_reducible apply d_guard rfl); (case hb => exact ez2 hta htb); (case' h1 => intro hb; (try simp only [hbs, reduceCtorEq] at hb); try exact ezX); (case' h2 => intro hb; (try simp only [hbs, reduceCtorEq] at hb); try exact ezX)) | ((with_reducible apply o_callF (g := 52) w_none); (case ha => exact ez0); (case hs => (exact p1)); (case' hk => rintro _ h' n' ⟨rfl, rfl, rfl⟩)) | ((with_reducible apply o_callF (g := 54) w_none); (case ha => exact ez0); (case hs => (with_reducible (first | exact p2 | (rw [← hH3]; exact p2)))); (case' hk => rintro _ h' n' ⟨LB, lcb, rfl, hrB, hBn, hn5, hk5⟩)) | ((with_reducible first | apply zo1 | apply zo2 | apply o_guard rfl | apply x_cond | apply k_e1 rfl | apply k_e2 rfl | apply k_e0 rfl | apply k_e3 rfl | apply k_e4 rfl); (case he => (intros; simp (disch := first | assumption | omega | rfl | decide) only [go_sem, seval, tys, c5, hnat, hd, hta, htb] <;> rfl)); (try case hok => exact ezO); all_goals try (intro hb; (try simp only [hbs, reduceCtorEq] at hb); try exact ezX)) | ((with_reducible apply o_undef rfl); (case hb => exact ez0)))
          obtain ⟨h5, hh5⟩ : ∃ x, x = h' := ⟨_, rfl⟩
          obtain ⟨n5, hn5e⟩ : ∃ x, x = n' := ⟨_, rfl⟩
          subst hh5
          subst hn5e
          have hT5 : TabH h5 n (some ⟨tid, toff, none⟩) T := hTk2.keep (by omega) hk5
          have rA5 : rowOf h5 (na + 1) = some (32, false, [.int .u8 T[a].kd, .int .i64 T[a].el, .int .i64 T[a].ln, .slice T[a].A T[a].fs.length T[a].c]) := by rw [rowOf_keep (hk5 _ (by omega))]; exact rA
          have cA5 := cellsAt_row (off := 0) (k := 4) rA5
          have mP5 : mapOf h5 (n + 1) = some (es.push ⟨pk (pr a b), .bool true, cc⟩, cc + 1) := by rw [mapOf_keep (hk5 _ (by omega))]; exact mP
          have rO5 : rowOf h5 id = some (113, false, cs) := by rw [rowOf_keep (hk5 _ (by omega))]; exact rO
          have p3 := (pleads_ev k (d + 6) n h5 n5 hk true (hF a haT) ((hT5.fd _ (List.getElem_mem haT)).more (by omega))).mono fun _ _ _ hh => IntsV.rd hh
          obtain ⟨la, hla2⟩ : ∃ la, leadsT true T[a] = la := ⟨_, rfl⟩
          rw [hla2] at p3 hnA hlA hlB hpz
          clear hk5 hH3 rA mP rO hTk2 hTk p2 p1 hfa hfb
          (repeat' first | refine zcd ?_ | intro K' hK | (with_reducible refine zn hK ?_; clear hK) | ((with_reducible apply o_callF (g := 54) w_none); (case ha => exact ez0); (case hs => (exact p3)); (case' hk => rintro _ h' n' ⟨LA, lca, rfl, hrA, hAn, hn6, hk6⟩)) | ((with_reducible first | apply zo1 | apply zo2 | apply o_guard rfl | apply x_cond | apply k_e1 rfl | apply k_e2 rfl | apply k_e0 rfl | apply k_e3 rfl | apply k_e4 rfl); (case he => exact ez1 cA5); (try case hok => exact ezO); all_goals try (intro hb; (try simp only [hbs, reduceCtorEq] at hb); try exact ezX)) | ((with_reducible apply o_undef rfl); (case hb => exact ez0)))
          rw [hpz] at hW2
          have hzl : (la.zip lb).length = la.length := by rw [List.length_zip, hlB, Nat.min_self]
          refine x_loopV [10, 16, 17, 86, 87, 88, 89, 90, 91, 92, 93, 94, 95, 96, 97, 98, 99, 100] [10, 86] (fun m vs h8 n8 => ∃ (q : Nat) (O' : Value), m = la.length - q ∧ q ≤ la.length ∧ vs = [O', .int .i64 q] ∧ n' ≤ n8 ∧ TabH h8 n (some ⟨tid, toff, none⟩) T ∧ mapOf h8 (n + 1) = some (es.push ⟨pk (pr a b), .bool true, cc⟩, cc + 1) ∧ RdH h8 n' LB (iv lb) ∧ RdH h8 n' LA (iv la) ∧ OwnP (ops0 ++ (la.zip lb).take q) O' h8 (n + 1 + 1) n8 ∧ (∀ x o, LA = some ⟨x, o, none⟩ → Blk O' x) ∧ (∀ x o, LB = some ⟨x, o, none⟩ → Blk O' x)) la.length rfl (by omega) ?_ ?_
          · refine ⟨0, .slice (some ⟨id, 0, none⟩) w w, rfl, by omega, ez0, Nat.le_refl _, hT5.keep (by omega) hk6, by rw [mapOf_keep (hk6 _ (by omega))]; exact mP5, (hrB.keep (Nat.le_refl _) hk6).more hn6, hrA, ?_, fun x o e => ?_, fun x o e => ?_⟩
            · rw [List.take_zero, List.append_nil]
              exact ⟨id, cs, k1, by omega, by rw [hw], by rw [rowOf_keep (hk6 _ (by omega))]; exact rO5, by omega, by rw [hw]; exact htk0⟩
            · have := hAn x o e
              intro len c hh
              injection hh with hh
              injection hh with hh
              injection hh with hh
              omega
            · have := hBn x o e
              intro len c hh
              injection hh with hh
              injection hh with hh
              injection hh with hh
              omega
          · rintro m fr8 _ h8 n8 ⟨q, O', rfl, hq, rfl, hn8, hT8, mP8, hrB8, hrA8, ⟨id', cs', j1, j2, rfl, j4, j5, j6⟩, hblA, hblB⟩
            by_cases hqa : q < la.length
            · have hqb : q < lb.length := by omega
              obtain ⟨aid, aof, hLA, haid, ca⟩ := int_at hrA8 hqa
              obtain ⟨bid, bof, hLB, hbid, cb⟩ := int_at hrB8 hqb
              subst hLA
              subst hLB
              have hneA : aid ≠ id' := fun e => hblA aid aof rfl _ _ (by rw [e])
              have hneB : bid ≠ id' := fun e => hblB bid bof rfl _ _ (by rw [e])
              obtain ⟨x, hx⟩ : ∃ x, la[q] = x := ⟨_, rfl⟩
              obtain ⟨y, hy⟩ : ∃ y, lb[q] = y := ⟨_, rfl⟩
              rw [hx] at ca
              rw [hy] at cb
              have htz : (la.zip lb).take (q + 1) = (la.zip lb).take q ++ [(x, y)] := by rw [List.take_succ_eq_append_getElem (by omega), List.getElem_zip, hx, hy]
              have hzq : ((la.zip lb).take q).length = q := by rw [List.length_take]; omega
              have hol : (ops0 ++ (la.zip lb).take q).length = w + q := by rw [List.length_append, hw, hzq]
              obtain ⟨acc, hacc⟩ : ∃ acc, ops0 ++ (la.zip lb).take q = acc := ⟨_, rfl⟩
              have hnx : ops0 ++ (la.zip lb).take (q + 1) = acc ++ [(x, y)] := by rw [htz, ← List.append_assoc, hacc]
              rw [hacc] at j5 j6 hol ⊢
              have w4 := rwOf_row j4
              (repeat' first | refine zcd ?_ | intro K' hK | (with_reducible refine zn hK ?_; clear hK) | ((with_reducible apply o_apR (t := 114) apT114 w_none); (case hs => exact ez1 w4); (case hy => exact ez1 w4); (case hsrc => exact src_row (rowOf_same _ _ _ _ _) rfl); (case hr => exact ez1 w4); (case hc => exact rfl); (case hm => omega); (case hli => omega); (case hln => omega); (case hcs => omega)) | ((with_reducible first | apply zo1 | apply zo2 | apply o_guard rfl | apply x_cond | apply k_e1 rfl | apply k_e2 rfl | apply k_e0 rfl | apply k_e3 rfl | apply k_e4 rfl); (case he => exact ez3 ca cb w4); (try case hok => exact ezO); all_goals try (intro hb; (try simp only [hbs, reduceCtorEq] at hb); try exact ezX)) | ((with_reducible apply o_undef rfl); (case hb => exact ez0)))
              refine k_round (la.length - (q + 1)) (by omega) ⟨q + 1, .slice (some ⟨n8 + 1, 0, none⟩) (acc.length + 1) (acc.length + 1), rfl, by omega, ez0, by omega, ((hT8.set (by omega) _).set (by omega) _).set (by omega) _, by simp (disch := omega) only [mapOf_ne2]; exact mP8, ((hrB8.set hn8 _).kill (fun x o e => by injection e with e; injection e with e1; omega) _).set (by omega) _, ((hrA8.set hn8 _).kill (fun x o e => by injection e with e; injection e with e1; omega) _).set (by omega) _, ?_, fun x o e => blk_new (by injection e with e; injection e with e1; omega), fun x o e => blk_new (by injection e with e; injection e with e1; omega)⟩
              rw [hnx]
              refine ⟨n8 + 1, _, by omega, by omega, by rw [List.length_append]; rfl, rowOf_same _ _ _ _ _, ?_, ?_⟩
              · rw [List.length_append, List.length_append, List.length_take, List.length_singleton]
                show _ ≤ _ + 2
                omega
              · have hl9 : (qv acc).length = acc.length * 2 := qv_length acc
                rw [List.length_append, j6, qv_app, List.take_of_length_le (by rw [List.length_append, hl9, List.length_singleton]; show _ + 2 ≤ _; omega)]
                rfl
            · obtain rfl : q = la.length := by omega
              rw [show (la.zip lb).take la.length = la.zip lb from List.take_of_length_le (by omega)] at j5 j6 ⊢
              have hol : (ops0 ++ la.zip lb).length = w + la.length := by rw [List.length_append, hw, hzl]
              have hlq := hlef (ps ++ [pr a b])
              (repeat' first | refine zcd ?_ | intro K' hK | (with_reducible refine zn hK ?_; clear hK) | fail | ((with_reducible first | apply zo1 | apply zo2 | apply o_guard rfl | apply x_cond | apply k_e1 rfl | apply k_e2 rfl | apply k_e0 rfl | apply k_e3 rfl | apply k_e4 rfl); (case he => exact ez0); (try case hok => exact ezO); all_goals try (intro hb; (try simp only [hbs, reduceCtorEq] at hb); try exact ezX)) | ((with_reducible apply o_undef rfl); (case hb => exact ez0)))
              all_goals
                refine k_round (left_ T.length (ps ++ [pr a b]) * 9 + (w + la.length)) (by omega) ⟨ps ++ [pr a b], ops0 ++ la.zip lb, _, _, _, by rw [hol], by omega, ez0, by omega, hT8, mP8, hes.push, ⟨id', cs', j1, j2, rfl, j4, j5, j6⟩, hW2⟩
        · have hbad := hW.bad haT hbT hs
          rw [alikeB_f hbad]
          by_cases s1 : T[a].kd = T[b].kd
          · by_cases s2 : T[a].ln = T[b].ln
            · have s3 : decide (T[a].fs.map (·.1) = T[b].fs.map (·.1)) = false := decide_eq_false fun e => hs ⟨s1, s2, e⟩
              rw [s3] at p1
              (repeat' first | refine zcd ?_ | intro K' hK | (with_reducible refine zn hK ?_; clear hK) | ((with_reducible apply o_look2 (p := pr a b) (ps := ps) w_none); (case hx => (simp (disch := first | assumption | omega | rfl | decide) only [go_sem, seval, tys] <;> rfl)); (case hy => (simp (disch := first | assumption | omega | rfl | decide) only [go_sem, seval, tys] <;> rfl)); (case hm => (simp (disch := omega) only [mapOf_ne2, mapOf_same]; exact hmp)); (case he => exact hes)) | ((with_reducible apply o_mput2 (p := pr a b) (ps := ps) w_none); (case hx => (simp (disch := first | assumption | omega | rfl | decide) only [go_sem, seval, tys] <;> rfl)); (case hy => (simp (disch := first | assumption | omega | rfl | decide) only [go_sem, seval, tys] <;> rfl)); (case hz => (simp (disch := first | assumption | omega | rfl | decide) only [go_sem, seval, tys] <;> rfl)); (case hm => (simp (disch := omega) only [mapOf_ne2, mapOf_same]; exact hmp)); (case he => exact hes); (case hs => exact hin); (case hl => omega)) | (with_reducible refine x_drawnD (id := 11) [(2, 7), (4, 7), (2, 9), (4, 9), (7, 12), (9, 12)] (by kernel_rfl) fun K' hK => ?_) | ((with_reducible apply d_nil); (case hp => exact ezP); (case' hx => (refine hK _ _ _ ?_; clear hK))) | ((with_reducible apply d_pure w_none); (case hp => exact rfl); (case hc => exact rfl); (case he => exact ez2 hta htb)) | ((with_reducible apply d_eff w_none); (case hc => exact rfl); (case he => exact ez2 hta htb); (case hok => exact ezO)) | ((with_reducible apply d_guard rfl); (case hb => exact ez2 hta htb); (case' h1 => intro hb; (try simp only [hbs, reduceCtorEq] at hb); try exact ezX); (case' h2 => intro hb; (try simp only [hbs, reduceCtorEq] at hb); try exact ezX)) | ((with_reducible apply o_callF (g := 52) w_none); (case ha => exact ez0); (case hs => (exact p1)); (case' hk => rintro _ h' n' ⟨rfl, rfl, rfl⟩)) | ((with_reducible first | apply zo1 | apply zo2 | apply o_guard rfl | apply x_cond | apply k_e1 rfl | apply k_e2 rfl | apply k_e0 rfl | apply k_e3 rfl | apply k_e4 rfl); (case he => (intros; simp (disch := first | assumption | omega | rfl | decide) only [go_sem, seval, tys, c5, hnat, hd, hta, htb] <;> rfl)); (try case hok => exact ezO); all_goals try (intro hb; (try simp only [hbs, reduceCtorEq] at hb); try exact ezX)) | ((with_reducible apply o_undef rfl); (case hb => exact ez0)))
              all_goals exact sw_flat rfl rfl ⟨rfl, rfl, rfl⟩
            · obtain ⟨B, hB⟩ : ∃ B, decide (T[a].fs.map (·.1) = T[b].fs.map (·.1)) = B := ⟨_, rfl⟩
              rw [hB] at p1
              (repeat' first | refine zcd ?_ | intro K' hK | (with_reducible refine zn hK ?_; clear hK) | ((with_reducible apply o_look2 (p := pr a b) (ps := ps) w_none); (case hx => (simp (disch := first | assumption | omega | rfl | decide) only [go_sem, seval, tys] <;> rfl)); (case hy => (simp (disch := first | assumption | omega | rfl | decide) only [go_sem, seval, tys] <;> rfl)); (case hm => (simp (disch := omega) only [mapOf_ne2, mapOf_same]; exact hmp)); (case he => exact hes)) | ((with_reducible apply o_mput2 (p := pr a b) (ps := ps) w_none); (case hx => (simp (disch := first | assumption | omega | rfl | decide) only [go_sem, seval, tys] <;> rfl)); (case hy => (simp (disch := first | assumption | omega | rfl | decide) only [go_sem, seval, tys] <;> rfl)); (case hz => (simp (disch := first | assumption | omega | rfl | decide) only [go_sem, seval, tys] <;> rfl)); (case hm => (simp (disch := omega) only [mapOf_ne2, mapOf_same]; exact hmp)); (case he => exact hes); (case hs => exact hin); (case hl => omega)) | (with_reducible refine x_drawnD (id := 11) [(2, 7), (4, 7), (2, 9), (4, 9), (7, 12), (9, 12)] (by kernel_rfl) fun K' hK => ?_) | ((with_reducible apply d_nil); (case hp => exact ezP); (case' hx => (refine hK _ _ _ ?_; clear hK))) | ((with_reducible apply d_pure w_none); (case hp => exact rfl); (case hc => exact rfl); (case he => exact ez2 hta htb)) | ((with_reducible apply d_eff w_none); (case hc => exact rfl); (case he => exact ez2 hta htb); (case hok => exact ezO)) | ((with_reducible apply d_guard rfl); (case hb => exact ez2 hta htb); (case' h1 => intro hb; (try simp only [hbs, reduceCtorEq] at hb); try exact ezX); (case' h2 => intro hb; (try simp only [hbs, reduceCtorEq] at hb); try exact ezX)) | ((with_reducible apply o_callF (g := 52) w_none); (case ha => exact ez0); (case hs => (exact p1)); (case' hk => rintro _ h' n' ⟨rfl, rfl, rfl⟩)) | ((with_reducible first | apply zo1 | apply zo2 | apply o_guard rfl | apply x_cond | apply k_e1 rfl | apply k_e2 rfl | apply k_e0 rfl | apply k_e3 rfl | apply k_e4 rfl); (case he => (intros; simp (disch := first | assumption | omega | rfl | decide) only [go_sem, seval, tys, c5, hnat, hd, hta, htb] <;> rfl)); (try case hok => exact ezO); all_goals try (intro hb; (try simp only [hbs, reduceCtorEq] at hb); try exact ezX)) | ((with_reducible apply o_undef rfl); (case hb => exact ez0)))
              all_goals exact sw_flat rfl rfl ⟨rfl, rfl, rfl⟩
          · obtain ⟨B, hB⟩ : ∃ B, decide (T[a].fs.map (·.1) = T[b].fs.map (·.1)) = B := ⟨_, rfl⟩
            rw [hB] at p1
            (repeat' first | refine zcd ?_ | intro K' hK | (with_reducible refine zn hK ?_; clear hK) | ((with_reducible apply o_look2 (p := pr a b) (ps := ps) w_none); (case hx => (simp (disch := first | assumption | omega | rfl | decide) only [go_sem, seval, tys] <;> rfl)); (case hy => (simp (disch := first | assumption | omega | rfl | decide) only [go_sem, seval, tys] <;> rfl)); (case hm => (simp (disch := omega) only [mapOf_ne2, mapOf_same]; exact hmp)); (case he => exact hes)) | ((with_reducible apply o_mput2 (p := pr a b) (ps := ps) w_none); (case hx => (simp (disch := first | assumption | omega | rfl | decide) only [go_sem, seval, tys] <;> rfl)); (case hy => (simp (disch := first | assumption | omega | rfl | decide) only [go_sem, seval, tys] <;> rfl)); (case hz => (simp (disch := first | assumption | omega | rfl | decide) only [go_sem, seval, tys] <;> rfl)); (case hm => (simp (disch := omega) only [mapOf_ne2, mapOf_same]; exact hmp)); (case he => exact hes); (case hs => exact hin); (case hl => omega)) | (with_reducible refine x_drawnD (id := 11) [(2, 7), (4, 7), (2, 9), (4, 9), (7, 12), (9, 12)] (by kernel_rfl) fun K' hK => ?_) | ((with_reducible apply d_nil); (case hp => exact ezP); (case' hx => (refine hK _ _ _ ?_; clear hK))) | ((with_reducible apply d_pure w_none); (case hp => exact rfl); (case hc => exact rfl); (case he => exact ez2 hta htb)) | ((with_reducible apply d_eff w_none); (case hc => exact rfl); (case he => exact ez2 hta htb); (case hok => exact ezO)) | ((with_reducible apply d_guard rfl); (case hb => exact ez2 hta htb); (case' h1 => intro hb; (try simp only [hbs, reduceCtorEq] at hb); try exact ezX); (case' h2 => intro hb; (try simp only [hbs, reduceCtorEq] at hb); try exact ezX)) | ((with_reducible apply o_callF (g := 52) w_none); (case ha => exact ez0); (case hs => (exact p1)); (case' hk => rintro _ h' n' ⟨rfl, rfl, rfl⟩)) | ((with_reducible first | apply zo1 | apply zo2 | apply o_guard rfl | apply x_cond | apply k_e1 rfl | apply k_e2 rfl | apply k_e0 rfl | apply k_e3 rfl | apply k_e4 rfl); (case he => (intros; simp (disch := first | assumption | omega | rfl | decide) only [go_sem, seval, tys, c5, hnat, hd, hta, htb] <;> rfl)); (try case hok => exact ezO); all_goals try (intro hb; (try simp only [hbs, reduceCtorEq] at hb); try exact ezX)) | ((with_reducible apply o_undef rfl); (case hb => exact ez0)))
            all_goals exact sw_flat rfl rfl ⟨rfl, rfl, rfl⟩
end Go.Proofs.Ytkngdfbibffdcaa.Ce
namespace Go.Proofs.Ytkngdfbibffdcaa.Ce
open Go.RowKit
theorem count_set_t {F : List Bool} {y : Nat} (hy : F[y]? = some false) : (F.set y true).count false + 1 = F.count false := by
  have hl : y < F.length := by
    rcases Nat.lt_or_ge y F.length with h | h
    · exact h
    · rw [List.getElem?_eq_none h] at hy; cases hy
  rw [List.getElem?_eq_getElem hl] at hy
  injection hy with hy
  have hp : 0 < F.count false := List.count_pos_iff.2 (by rw [← hy]; exact List.getElem_mem hl)
  rw [List.count_set hl, hy]
  simp
  omega
theorem bw_idA (n : Nat) (l : List Bool) : ∀ v ∈ bw l, idA n v = [] := by
  intro v hv
  obtain ⟨b, -, rfl⟩ := List.mem_map.1 hv
  rfl
variable (k d cl : Nat) (h : Hp) (n : Nat)
theorem closure_ev (hk : 30000 ≤ k) (far : Bool) (A : Option Addr) (T : List Tp) (c : Nat) (hT : TabH h n A T) (hl : T.length ≤ 32) (hF : Fine T) (i : Nat) (hi : i < T.length) :
    SQ k (d + 2) cl 49 [.slice A T.length c, .int .i64 i, .bool far] h n fun v h' n' => v = .slice (some ⟨n, 0, none⟩) T.length T.length ∧ h' = h.set n (.row 4 false (bw (rchF T far i))) ∧ n' = n + 1 := by
  obtain ⟨F0, hF0⟩ : ∃ F0, (List.replicate T.length false).set i true = F0 := ⟨_, rfl⟩
  have hov := bw_set (l := List.replicate T.length false) (i := i) (by rw [List.length_replicate]; exact hi)
  rw [hF0] at hov
  have hl0 : F0.length = T.length := by rw [← hF0, List.length_set, List.length_replicate]
  have hg0 : ∀ x, x < T.length → F0[x]? = some (decide (x = i)) := fun x hx => by
    rw [← hF0, List.getElem?_set, List.length_replicate, List.getElem?_replicate]
    by_cases e : i = x
    · rw [if_pos e, if_pos hi, decide_eq_true e.symm]
    · rw [if_neg e, if_pos hx, decide_eq_false fun e' => e e'.symm]
  have hc0 := List.count_le_length (a := false) (l := F0)
  refine enter Try.func49 (by kernel_rfl) rfl (by kernel_rfl) rfl rfl rfl ?_
  (repeat' first | refine zcd ?_ | intro K' hK | (with_reducible refine zn hK ?_; clear hK) | fail | ((with_reducible first | apply zo1 | apply zo2 | apply o_guard rfl | apply x_cond | apply k_e1 rfl | apply k_e2 rfl | apply k_e0 rfl | apply k_e3 rfl | apply k_e4 rfl); (case he => exact ez2 @mk_falses hov); (try case hok => exact ezO); all_goals try (intro hb; (try simp only [hbs, reduceCtorEq] at hb); try exact ezX)) | ((with_reducible apply o_undef rfl); (case hb => exact ez0)))
  refine x_loopV [8, 9, 11, 20, 21, 22, 23, 24, 25, 26, 27, 28, 29, 30, 31, 32, 33, 34, 35, 36, 37, 38, 39, 40, 41, 42, 43, 44, 45, 46, 47, 48, 49, 50, 51, 52, 53, 54, 55, 56, 57] [8] (fun m vs h' n' => ∃ (F : List Bool) (ops : List Nat) (O : Value), m = ops.length + F.count false ∧ m ≤ 40 ∧ vs = [O] ∧ n + 1 ≤ n' ∧ TabH h' n A T ∧ rowOf h' n = some (4, false, bw F) ∧ OwnS ops O h' (n + 1) n' ∧ F.length = T.length ∧ F[i]? = some true ∧ (∀ x ∈ ops, x < T.length ∧ F[x]? = some true) ∧ (∀ x, x < T.length → F[x]? = some true → Rch T far i x) ∧
      (∀ x (hx : x < T.length), F[x]? = some true → x ∈ ops ∨ ∀ y : Nat, (y : Int) ∈ leadsT far T[x] → F[y]? = some true)) (1 + F0.count false) rfl (by omega) ?_ ?_
  · refine ⟨F0, [i], .slice (some ⟨n + 1, 0, none⟩) 1 1, rfl, by omega, ez0, by omega, (hT.set (Nat.le_refl _) _).set (by omega) _, ez0, ⟨n + 1, [.int .i64 i], Nat.le_refl _, by omega, rfl, rowOf_same _ _ _ _ _, Nat.le_refl _, rfl⟩, hl0, by rw [hg0 i hi, decide_eq_true rfl], fun x hx => ?_, fun x hx hx2 => ?_, fun x hx hx2 => ?_⟩
    · obtain rfl := List.mem_singleton.1 hx
      exact ⟨hi, by rw [hg0 x hi, decide_eq_true rfl]⟩
    · rw [hg0 x hx] at hx2
      have : x = i := by simpa using hx2
      subst this
      exact .refl
    · rw [hg0 x hx] at hx2
      have : x = i := by simpa using hx2
      exact .inl (List.mem_singleton.2 this)
  · rintro m fr _ ha na ⟨F, ops, O, rfl, hm40, rfl, hn, hT2, qF, ⟨id, cs, k1, k2, rfl, q4, q5, q6⟩, hFl, hFi, hop, hsd, hcl⟩
    rcases List.eq_nil_or_concat ops with rfl | ⟨ops0, y, rfl⟩
    · have hFe := rchF_eq hF hi hFl hFi hsd fun x hx hx2 => by
        rcases hcl x hx hx2 with h1 | h1
        · cases h1
        · exact h1
      subst hFe
      (repeat' first | refine zcd ?_ | intro K' hK | (with_reducible refine zn hK ?_; clear hK) | fail | ((with_reducible first | apply zo1 | apply zo2 | apply o_guard rfl | apply x_cond | apply k_e1 rfl | apply k_e2 rfl | apply k_e0 rfl | apply k_e3 rfl | apply k_e4 rfl); (case he => exact ez0); (try case hok => exact ezO); all_goals try (intro hb; (try simp only [hbs, reduceCtorEq] at hb); try exact ezX)) | ((with_reducible apply o_undef rfl); (case hb => exact ez0)))
      refine sw_row (m := n) ezI rfl (by omega) qF (bw_idA _ _) ezR ?_
      exact ⟨rfl, rfl, rfl⟩
    · rw [List.concat_eq_append] at q5 q6 hop hcl
      have hlen : (ops0.concat y).length = ops0.length + 1 := by rw [List.concat_eq_append, List.length_append]; rfl
      have hlen2 : (ops0 ++ [y]).length = ops0.length + 1 := by rw [List.length_append]; rfl
      rw [hlen] at hm40 ⊢
      rw [hlen2] at q5 q6
      obtain ⟨w, hw⟩ : ∃ w, ops0.length = w := ⟨_, rfl⟩
      rw [hw] at q5 q6 hm40 ⊢
      have hyk := hop y (List.mem_append_right _ (List.mem_singleton.2 rfl))
      have hwc : (cn ops0).length = w := by rw [cn_length, hw]
      have c5 : cellAt ha id w = some (.int .i64 (y : Int)) := by
        rw [cellAt_row q4, lget_eq, ← List.getElem?_take_of_lt (show w < w + 1 by omega), q6, cn_app, iv_app, List.getElem?_append_right (by rw [iv_length]; omega), iv_length, hwc, Nat.sub_self]
        rfl
      have htk0 : cs.take w = iv (cn ops0) := by
        have h1 : (cs.take (w + 1)).take w = cs.take w := by rw [List.take_take]; congr 1; omega
        rw [← h1, q6, cn_app, iv_app, List.take_append_of_le_length (by rw [iv_length]; omega), List.take_of_length_le (by rw [iv_length]; omega)]
      obtain ⟨tid, toff, hAA, htid, ht4, -⟩ := hT2.at_ hyk.1
      have hfd := (hT2.fd _ (List.getElem_mem hyk.1)).more (show n ≤ na by omega)
      have hfy := hF y hyk.1
      subst hAA
      have hnat : (((w + 1 : Nat) : Int) - 1).toNat = w := by omega
      have p1 := (pleads_ev k d n ha na hk far hfy hfd).mono fun _ _ _ hh => IntsV.rd hh
      have hns := leadsT_in (far := far) hfy (by omega)
      have hnl := leadsT_len (far := far) hfy
      obtain ⟨ns, hnse⟩ : ∃ ns, leadsT far T[y] = ns := ⟨_, rfl⟩
      rw [hnse] at p1 hns hnl
      have hcF := List.count_le_length (a := false) (l := F)
      (repeat' first | refine zcd ?_ | intro K' hK | (with_reducible refine zn hK ?_; clear hK) | ((with_reducible apply o_callF (g := 54) w_none); (case ha => exact ez0); (case hs => (exact p1)); (case' hk => rintro _ h' n' ⟨LA, lc, rfl, hrL, hLn, hn2, hkp⟩)) | ((with_reducible first | apply zo1 | apply zo2 | apply o_guard rfl | apply x_cond | apply k_e1 rfl | apply k_e2 rfl | apply k_e0 rfl | apply k_e3 rfl | apply k_e4 rfl); (case he => exact ez3 c5 ht4 hnat); (try case hok => exact ezO); all_goals try (intro hb; (try simp only [hbs, reduceCtorEq] at hb); try exact ezX)) | ((with_reducible apply o_undef rfl); (case hb => exact ez0)))
      refine x_loopV [8, 11, 41, 42, 43, 44, 45, 46, 47, 48, 49, 50, 51, 52, 53, 54, 55, 56, 57] [8, 41] (fun m vs h4 n4 => ∃ (q : Nat) (O' : Value) (ops' : List Nat) (F' : List Bool), m = ns.length - q ∧ q ≤ ns.length ∧ vs = [O', .int .i64 q] ∧ n' ≤ n4 ∧ TabH h4 n (some ⟨tid, toff, none⟩) T ∧ RdH h4 n' LA (iv ns) ∧ rowOf h4 n = some (4, false, bw F') ∧ OwnS ops' O' h4 (n + 1) n4 ∧ (∀ b o, LA = some ⟨b, o, none⟩ → Blk O' b) ∧ F'.length = T.length ∧ ops'.length + F'.count false = w + F.count false ∧ (∀ x ∈ ops', x < T.length ∧ F'[x]? = some true) ∧ (∀ x ∈ ops0, x ∈ ops') ∧
          (∀ x : Nat, F[x]? = some true → F'[x]? = some true) ∧ (∀ z : Nat, (z : Int) ∈ ns.take q → F'[z]? = some true) ∧ (∀ x : Nat, F'[x]? = some true → F[x]? = some true ∨ (x ∈ ops' ∧ (x : Int) ∈ ns))) ns.length rfl (by omega) ?_ ?_
      · refine ⟨0, .slice (some ⟨id, 0, none⟩) w w, ops0, F, rfl, by omega, ez0, Nat.le_refl _, hT2.keep (by omega) hkp, hrL, by rw [rowOf_keep (hkp _ (by omega))]; exact qF, ⟨id, cs, k1, by omega, by rw [hw], by rw [rowOf_keep (hkp _ (by omega))]; exact q4, by omega, by rw [hw]; exact htk0⟩, fun b o e => ?_, hFl, by rw [hw], fun x hx => hop x (List.mem_append_left _ hx), fun x hx => hx, fun x hx => hx, fun z hz => by simp at hz, fun x hx => .inl hx⟩
        have := hLn b o e
        intro len c hh
        injection hh with hh
        injection hh with hh
        injection hh with hh
        omega
      · rintro mm fr2 _ h4 n4 ⟨q, O', ops', F', rfl, hq, rfl, hn4, hT4, hrL4, qF4, ⟨id', cs', j1, j2, rfl, j4, j5, j6⟩, hbl, hFl', hms, hop', hsub, hmo, htq, hnew⟩
        by_cases hql : q < ns.length
        · obtain ⟨lid, lof, hLA, -, cz⟩ := int_at hrL4 hql
          subst hLA
          have hzb := hns ns[q] (List.getElem_mem _)
          obtain ⟨z, hz⟩ := Int.eq_ofNat_of_zero_le hzb.1
          rw [hz] at cz hzb
          have htk1 : ns.take (q + 1) = ns.take q ++ [(z : Int)] := by rw [List.take_succ_eq_append_getElem hql, hz]
          have hzl : z < F'.length := by omega
          have cF := cellAt_row (off := z) qF4
          rw [bw_lget (List.getElem?_eq_getElem hzl)] at cF
          cases hFz : F'[z]
          · have hFz2 : F'[z]? = some false := by rw [List.getElem?_eq_getElem hzl, hFz]
            rw [hFz] at cF
            have w0 := rwOf_row qF4
            have w4 := rwOf_row j4
            have hov2 := bw_set (l := F') (i := z) hzl
            have hcs := count_set_t hFz2
            have hne : lid ≠ id' := fun e => hbl lid lof rfl _ _ (by rw [e])
            (repeat' first | refine zcd ?_ | intro K' hK | (with_reducible refine zn hK ?_; clear hK) | ((with_reducible apply o_apR (t := 36) apT36 w_none); (case hs => exact ez1 w4); (case hy => exact ez1 w4); (case hsrc => exact src_row (rowOf_same _ _ _ _ _) rfl); (case hr => exact ez1 w4); (case hc => exact rfl); (case hm => omega); (case hli => omega); (case hln => omega); (case hcs => omega)) | ((with_reducible first | apply zo1 | apply zo2 | apply o_guard rfl | apply x_cond | apply k_e1 rfl | apply k_e2 rfl | apply k_e0 rfl | apply k_e3 rfl | apply k_e4 rfl); (case he => exact ez5 cz cF w0 w4 hov2); (try case hok => exact ezO); all_goals try (intro hb; (try simp only [hbs, reduceCtorEq] at hb); try exact ezX)) | ((with_reducible apply o_undef rfl); (case hb => exact ez0)))
            have hset : ∀ x : Nat, F'[x]? = some true → (F'.set z true)[x]? = some true := fun x hx => by
              rw [List.getElem?_set]
              by_cases e : z = x
              · rw [if_pos e, if_pos hzl]
              · rw [if_neg e]; exact hx
            have hsetz : (F'.set z true)[z]? = some true := by rw [List.getElem?_set, if_pos rfl, if_pos hzl]
            have hLz := hLn lid lof rfl
            refine k_round (ns.length - (q + 1)) (by omega) ⟨q + 1, .slice (some ⟨n4 + 1, 0, none⟩) (ops'.length + 1) (ops'.length + 1), ops' ++ [z], F'.set z true, rfl, by omega, ez0, by omega, (((hT4.set (by omega) _).set (by omega) _).set (by omega) _).set (Nat.le_refl _) _, (((hrL4.set (by omega) _).kill (fun b o e => by injection e with e; injection e with e1; omega) _).set (by omega) _).kill (fun b o e => by injection e with e; injection e with e1; omega) _, rowOf_same _ _ _ _ _,
              ⟨n4 + 1, cs'.take ops'.length ++ [.int .i64 (z : Int)], by omega, by omega, by rw [List.length_append]; rfl, by rw [rowOf_ne _ _ (by omega)]; exact rowOf_same _ _ _ _ _, by simp; omega, ?_⟩, fun b o e => blk_new (by injection e with e; injection e with e1; omega), by rw [List.length_set]; exact hFl', by rw [List.length_append, List.length_singleton]; omega, fun x hx => ?_, fun x hx => List.mem_append_left _ (hsub x hx), fun x hx => hset x (hmo x hx), fun x hx => ?_, fun x hx => ?_⟩
            · rw [List.length_append, j6, cn_app, iv_app, List.take_of_length_le (by rw [List.length_append, iv_length, cn_length]; exact Nat.le_refl _)]
              rfl
            · rcases List.mem_append.1 hx with hx | hx
              · exact ⟨(hop' x hx).1, hset x (hop' x hx).2⟩
              · obtain rfl := List.mem_singleton.1 hx
                exact ⟨by omega, hsetz⟩
            · rw [htk1] at hx
              rcases List.mem_append.1 hx with hx | hx
              · exact hset x (htq x hx)
              · have := List.mem_singleton.1 hx
                obtain rfl : x = z := by omega
                exact hsetz
            · rw [List.getElem?_set] at hx
              by_cases e : z = x
              · subst e
                exact .inr ⟨List.mem_append_right _ (List.mem_singleton.2 rfl), by rw [← hz]; exact List.getElem_mem _⟩
              · rw [if_neg e] at hx
                rcases hnew x hx with h1 | ⟨h1, h2⟩
                · exact .inl h1
                · exact .inr ⟨List.mem_append_left _ h1, h2⟩
          · have hFz2 : F'[z]? = some true := by rw [List.getElem?_eq_getElem hzl, hFz]
            rw [hFz] at cF
            (repeat' first | refine zcd ?_ | intro K' hK | (with_reducible refine zn hK ?_; clear hK) | fail | ((with_reducible first | apply zo1 | apply zo2 | apply o_guard rfl | apply x_cond | apply k_e1 rfl | apply k_e2 rfl | apply k_e0 rfl | apply k_e3 rfl | apply k_e4 rfl); (case he => exact ez2 cz cF); (try case hok => exact ezO); all_goals try (intro hb; (try simp only [hbs, reduceCtorEq] at hb); try exact ezX)) | ((with_reducible apply o_undef rfl); (case hb => exact ez0)))
            refine k_round (ns.length - (q + 1)) (by omega) ⟨q + 1, _, ops', F', rfl, by omega, ez0, hn4, hT4, hrL4, qF4, ⟨id', cs', j1, j2, rfl, j4, j5, j6⟩, hbl, hFl', hms, hop', hsub, hmo, fun x hx => ?_, hnew⟩
            rw [htk1] at hx
            rcases List.mem_append.1 hx with hx | hx
            · exact htq x hx
            · have := List.mem_singleton.1 hx
              obtain rfl : x = z := by omega
              exact hFz2
        · obtain rfl : q = ns.length := by omega
          rw [List.take_length] at htq
          (repeat' first | refine zcd ?_ | intro K' hK | (with_reducible refine zn hK ?_; clear hK) | fail | ((with_reducible first | apply zo1 | apply zo2 | apply o_guard rfl | apply x_cond | apply k_e1 rfl | apply k_e2 rfl | apply k_e0 rfl | apply k_e3 rfl | apply k_e4 rfl); (case he => exact ez0); (try case hok => exact ezO); all_goals try (intro hb; (try simp only [hbs, reduceCtorEq] at hb); try exact ezX)) | ((with_reducible apply o_undef rfl); (case hb => exact ez0)))
          refine k_round (ops'.length + F'.count false) (by omega) ⟨F', ops', _, rfl, by omega, ez0, by omega, hT4, qF4, ⟨id', cs', j1, j2, rfl, j4, j5, j6⟩, hFl', hmo _ hFi, hop', fun x hx hx2 => ?_, fun x hx hx2 => ?_⟩
          · rcases hnew x hx2 with h1 | ⟨-, h1⟩
            · exact hsd x hx h1
            · exact .step (hsd y hyk.1 hyk.2) hyk.1 (by rw [hnse]; exact h1)
          · rcases hnew x hx2 with h1 | ⟨h1, -⟩
            · rcases hcl x hx h1 with h2 | h2
              · rcases List.mem_append.1 h2 with h2 | h2
                · exact .inl (hsub x h2)
                · obtain rfl := List.mem_singleton.1 h2
                  exact .inr fun z hz => htq z (by rw [← hnse]; exact hz)
              · exact .inr fun z hz => hmo z (h2 z hz)
            · exact .inl h1
end Go.Proofs.Ytkngdfbibffdcaa.Ce
namespace Go.Proofs.Ytkngdfbibffdcaa.Ce
open Go.RowKit
noncomputable def holdsB (T : List Tp) (i k : Nat) : Bool := (rchF T false i).getD k false
theorem holdsB_iff {T : List Tp} {i k : Nat} (hk : k < T.length) : holdsB T i k = true ↔ Rch T false i k := by
  rw [← rchF_get hk]
  unfold holdsB
  rw [List.getD_eq_getElem?_getD, List.getElem?_eq_getElem (by rw [rchF_length]; exact hk)]
  simp
theorem rchF_lget {T : List Tp} {far : Bool} {i k : Nat} (hk : k < T.length) : lget (bw (rchF T far i)) k = some (.bool ((rchF T far i).getD k false)) :=
  bw_lget (by rw [List.getD_eq_getElem?_getD, List.getElem?_eq_getElem (by rw [rchF_length]; exact hk)]; rfl)
variable (k d cl : Nat) (h : Hp) (n : Nat)
theorem pholds_ok (hk : 30000 ≤ k) (A : Option Addr) (T : List Tp) (c : Nat) (hT : TabH h n A T) (hS : ∀ t ∈ T, t.fs.length ≤ 20000) (hm : T.length ≤ 9223372036854775807) (hC : ChkT T) (i j : Nat) (hi : i < T.length) (hj : j < T.length) :
    SQ k (d + 8) cl 27 [.slice A T.length c, .int .i64 i, .int .i64 j] h n fun v h' n' => v = .tuple ⟨[.bool (holdsB T i j), .int .i64 0]⟩ ∧ h' = h ∧ n' = n := by
  have hl := hC.1
  have ha : askE T i j = 0 := by unfold askE; rw [if_pos hC, if_pos ⟨⟨by omega, by omega⟩, by omega, by omega⟩]
  have q1 := pasked_2 k d n (h.set n (.row 3 false (iv [(i : Int), (j : Int)]))) (n + 1) hk A T c ((hT.set (Nat.le_refl _) _).more (by omega)) hS hm i j (some ⟨n, 0, none⟩) 2 (RdH.row (by omega))
  rw [ha] at q1
  have q2 := closure_ev k (d + 5) n (h.set n (.row 3 false (iv [(i : Int), (j : Int)]))) (n + 1) hk false A T c ((hT.set (Nat.le_refl _) _).more (by omega)) hl hC.2.1 i hi
  have hg := rchF_lget (T := T) (far := false) (i := i) hj
  refine enter Try.func27 (by kernel_rfl) rfl (by kernel_rfl) rfl rfl rfl ?_
  (repeat' first | refine zcd ?_ | intro K' hK | (with_reducible refine zn hK ?_; clear hK) | ((with_reducible apply o_callF (g := 48) w_none); (case ha => exact ez0); (case hs => (exact q1)); (case' hk => rintro _ h' n' ⟨rfl, rfl, rfl⟩)) | ((with_reducible apply o_callF (g := 49) w_none); (case ha => exact ez0); (case hs => (exact q2)); (case' hk => rintro _ h' n' ⟨rfl, rfl, rfl⟩)) | ((with_reducible first | apply zo1 | apply zo2 | apply o_guard rfl | apply x_cond | apply k_e1 rfl | apply k_e2 rfl | apply k_e0 rfl | apply k_e3 rfl | apply k_e4 rfl); (case he => exact ez1 hg); (try case hok => exact ezO); all_goals try (intro hb; (try simp only [hbs, reduceCtorEq] at hb); try exact ezX)) | ((with_reducible apply o_undef rfl); (case hb => exact ez0)))
  all_goals exact sw_flat rfl rfl ⟨rfl, rfl, rfl⟩
end Go.Proofs.Ytkngdfbibffdcaa.Ce
namespace Go.Proofs.Ytkngdfbibffdcaa.Ce
open Go.RowKit
noncomputable def reachL (T : List Tp) (i : Nat) : List Int := ((List.range T.length).filter fun x => (rchF T true i).getD x false).map fun (x : Nat) => (x : Int)
theorem reach_mem {T : List Tp} {i : Nat} {x : Int} : x ∈ reachL T i ↔ ∃ y : Nat, x = y ∧ y < T.length ∧ Rch T true i y := by
  unfold reachL
  rw [List.mem_map]
  constructor
  · rintro ⟨y, hy, rfl⟩
    rw [List.mem_filter, List.mem_range] at hy
    refine ⟨y, rfl, hy.1, ?_⟩
    rw [← rchF_get hy.1, List.getElem?_eq_getElem (by rw [rchF_length]; exact hy.1)]
    have := hy.2
    rw [List.getD_eq_getElem?_getD, List.getElem?_eq_getElem (by rw [rchF_length]; exact hy.1), Option.getD_some] at this
    rw [this]
  · rintro ⟨y, rfl, hy, hr⟩
    refine ⟨y, ?_, rfl⟩
    rw [List.mem_filter, List.mem_range]
    refine ⟨hy, ?_⟩
    rw [← rchF_get hy] at hr
    rw [List.getD_eq_getElem?_getD, hr]
    rfl
variable (k d cl : Nat) (h : Hp) (n : Nat)
theorem preach_ok (hk : 30000 ≤ k) (A : Option Addr) (T : List Tp) (c : Nat) (hT : TabH h n A T) (hS : ∀ t ∈ T, t.fs.length ≤ 20000) (hm : T.length ≤ 9223372036854775807) (hC : ChkT T) (i : Nat) (hi : i < T.length) :
    SQ k (d + 8) cl 26 [.slice A T.length c, .int .i64 i] h n fun v h' n' => ∃ V, v = .tuple ⟨[V, .int .i64 0]⟩ ∧ IntsV (reachL T i) h n V h' n' := by
  have hl := hC.1
  have ha : askE T i i = 0 := by unfold askE; rw [if_pos hC, if_pos ⟨⟨by omega, by omega⟩, by omega, by omega⟩]
  have q1 := pasked_1 k d n (h.set n (.row 3 false (iv [(i : Int)]))) (n + 1) hk A T c ((hT.set (Nat.le_refl _) _).more (by omega)) hS hm i (some ⟨n, 0, none⟩) 1 (RdH.row (by omega))
  rw [ha] at q1
  have q2 := closure_ev k (d + 5) n (h.set n (.row 3 false (iv [(i : Int)]))) (n + 1) hk true A T c ((hT.set (Nat.le_refl _) _).more (by omega)) hl hC.2.1 i hi
  obtain ⟨F, hF⟩ : ∃ F, rchF T true i = F := ⟨_, rfl⟩
  have hFl : F.length = T.length := by rw [← hF, rchF_length]
  unfold reachL
  rw [hF] at q2 ⊢
  obtain ⟨g, hg⟩ : ∃ g : Nat → List Int, g = fun r => ((List.range r).filter fun x => F.getD x false).map fun (x : Nat) => (x : Int) := ⟨_, rfl⟩
  have hg1 : ∀ r, g (r + 1) = g r ++ if F.getD r false = true then [(r : Int)] else [] := fun r => by
    rw [hg]
    show ((List.range (r + 1)).filter _).map _ = _
    rw [List.range_succ, List.filter_append, List.map_append]
    congr 1
    by_cases hr : F.getD r false = true
    · rw [if_pos hr, List.filter_cons_of_pos (p := fun x => F.getD x false) hr]; rfl
    · rw [if_neg hr, List.filter_cons_of_neg (p := fun x => F.getD x false) hr]; rfl
  have hgl : ∀ r, (g r).length ≤ r := fun r => by
    rw [hg]
    show (((List.range r).filter _).map _).length ≤ r
    rw [List.length_map]
    have := List.length_filter_le (fun x => F.getD x false) (List.range r)
    rw [List.length_range] at this
    exact this
  refine enter Try.func26 (by kernel_rfl) rfl (by kernel_rfl) rfl rfl rfl ?_
  (repeat' first | refine zcd ?_ | intro K' hK | (with_reducible refine zn hK ?_; clear hK) | ((with_reducible apply o_callF (g := 48) w_none); (case ha => exact ez0); (case hs => (exact q1)); (case' hk => rintro _ h' n' ⟨rfl, rfl, rfl⟩)) | ((with_reducible apply o_callF (g := 49) w_none); (case ha => exact ez0); (case hs => (exact q2)); (case' hk => rintro _ h' n' ⟨rfl, rfl, rfl⟩)) | ((with_reducible first | apply zo1 | apply zo2 | apply o_guard rfl | apply x_cond | apply k_e1 rfl | apply k_e2 rfl | apply k_e0 rfl | apply k_e3 rfl | apply k_e4 rfl); (case he => exact ez0); (try case hok => exact ezO); all_goals try (intro hb; (try simp only [hbs, reduceCtorEq] at hb); try exact ezX)) | ((with_reducible apply o_undef rfl); (case hb => exact ez0)))
  refine x_loopV [7, 8, 9, 21, 22, 23, 24, 25, 26, 27, 28, 29, 30, 31] [7, 21] (fun m vs h4 n4 => ∃ (r : Nat) (O : Value), m = T.length - r ∧ r ≤ T.length ∧ vs = [O, .int .i64 r] ∧ n + 1 + 1 ≤ n4 ∧ rowOf h4 (n + 1) = some (4, false, bw F) ∧ OwnI (g r) O h4 (n + 1 + 1) n4) T.length rfl (by omega) ?_ ?_
  · exact ⟨0, .slice none 0 0, rfl, by omega, ez0, Nat.le_refl _, rowOf_same _ _ _ _ _, .inl ⟨by rw [hg]; rfl, rfl⟩⟩
  · rintro m fr _ h4 n4 ⟨r, O, rfl, hr, rfl, hn4, p3, hO⟩
    by_cases hrs : r < T.length
    · have hgr := hgl r
      have hnx := hg1 r
      have c3 := cellAt_row (off := r) p3
      rw [bw_lget (b := F.getD r false) (by rw [List.getD_eq_getElem?_getD, List.getElem?_eq_getElem (by omega)]; rfl)] at c3
      obtain ⟨acc, hacc⟩ : ∃ acc, g r = acc := ⟨_, rfl⟩
      rw [hacc] at hO hgr hnx
      cases hin : F.getD r false
      · rw [hin] at c3 hnx
        rw [if_neg (by decide), List.append_nil] at hnx
        (repeat' first | refine zcd ?_ | intro K' hK | (with_reducible refine zn hK ?_; clear hK) | fail | ((with_reducible first | apply zo1 | apply zo2 | apply o_guard rfl | apply x_cond | apply k_e1 rfl | apply k_e2 rfl | apply k_e0 rfl | apply k_e3 rfl | apply k_e4 rfl); (case he => exact ez1 c3); (try case hok => exact ezO); all_goals try (intro hb; (try simp only [hbs, reduceCtorEq] at hb); try exact ezX)) | ((with_reducible apply o_undef rfl); (case hb => exact ez0)))
        refine k_round (T.length - (r + 1)) (by omega) ⟨r + 1, O, rfl, by omega, ez0, by omega, p3, by rw [hnx]; exact hO⟩
      · rw [hin] at c3 hnx
        rw [if_pos rfl] at hnx
        rcases hO with ⟨hp0, rfl⟩ | ⟨hp0, id5, j1, j2, rfl, j3⟩
        · (repeat' first | refine zcd ?_ | intro K' hK | (with_reducible refine zn hK ?_; clear hK) | ((with_reducible apply o_ap0 (t := 36) apT36 w_none); (case hs => exact ez0); (case hy => exact ez0); (case hsrc => exact src_row (rowOf_same _ _ _ _ _) rfl); (case hc => exact rfl); (case hm => omega); (case h0 => omega)) | ((with_reducible first | apply zo1 | apply zo2 | apply o_guard rfl | apply x_cond | apply k_e1 rfl | apply k_e2 rfl | apply k_e0 rfl | apply k_e3 rfl | apply k_e4 rfl); (case he => exact ez1 c3); (try case hok => exact ezO); all_goals try (intro hb; (try simp only [hbs, reduceCtorEq] at hb); try exact ezX)) | ((with_reducible apply o_undef rfl); (case hb => exact ez0)))
          refine k_round (T.length - (r + 1)) (by omega) ⟨r + 1, .slice (some ⟨n4 + 1, 0, none⟩) 1 1, rfl, by omega, ez0, by omega, by rw [rowOf_ne _ _ (by omega), rowOf_ne _ _ (by omega)]; exact p3, .inr ⟨?_, n4 + 1, by omega, by omega, ?_, ?_⟩⟩
          · rw [hnx]; simp
          · rw [hnx, hp0]; rfl
          · rw [hnx, hp0]; exact rowOf_same _ _ _ _ _
        · have w4 := rwOf_row j3
          have htk5 : (iv acc).take acc.length = iv acc := List.take_of_length_le (by rw [iv_length]; omega)
          (repeat' first | refine zcd ?_ | intro K' hK | (with_reducible refine zn hK ?_; clear hK) | ((with_reducible apply o_apR (t := 36) apT36 w_none); (case hs => exact ez1 w4); (case hy => exact ez1 w4); (case hsrc => exact src_row (rowOf_same _ _ _ _ _) rfl); (case hr => exact ez1 w4); (case hc => exact rfl); (case hm => omega); (case hli => omega); (case hln => omega); (case hcs => rw [iv_length]; omega)) | ((with_reducible first | apply zo1 | apply zo2 | apply o_guard rfl | apply x_cond | apply k_e1 rfl | apply k_e2 rfl | apply k_e0 rfl | apply k_e3 rfl | apply k_e4 rfl); (case he => exact ez2 c3 w4); (try case hok => exact ezO); all_goals try (intro hb; (try simp only [hbs, reduceCtorEq] at hb); try exact ezX)) | ((with_reducible apply o_undef rfl); (case hb => exact ez0)))
          refine k_round (T.length - (r + 1)) (by omega) ⟨r + 1, .slice (some ⟨n4 + 1, 0, none⟩) (acc.length + 1) (acc.length + 1), rfl, by omega, ez0, by omega, by rw [rowOf_ne _ _ (by omega), rowOf_ne _ _ (by omega), rowOf_ne _ _ (by omega)]; exact p3, .inr ⟨?_, n4 + 1, by omega, by omega, ?_, ?_⟩⟩
          · rw [hnx]; simp
          · rw [hnx, List.length_append]; rfl
          · rw [hnx, iv_app1]
            exact ez1 htk5
    · obtain rfl : r = T.length := by omega
      have hge : g T.length = ((List.range T.length).filter fun x => F.getD x false).map fun (x : Nat) => (x : Int) := by rw [hg]
      rw [← hge]
      rcases hO with ⟨hp0, rfl⟩ | ⟨hp0, id5, j1, j2, rfl, j3⟩
      · (repeat' first | refine zcd ?_ | intro K' hK | (with_reducible refine zn hK ?_; clear hK) | fail | ((with_reducible first | apply zo1 | apply zo2 | apply o_guard rfl | apply x_cond | apply k_e1 rfl | apply k_e2 rfl | apply k_e0 rfl | apply k_e3 rfl | apply k_e4 rfl); (case he => exact ez0); (try case hok => exact ezO); all_goals try (intro hb; (try simp only [hbs, reduceCtorEq] at hb); try exact ezX)) | ((with_reducible apply o_undef rfl); (case hb => exact ez0)))
        exact sw_flat rfl rfl ⟨_, rfl, .inl ⟨hp0, rfl, rfl, rfl⟩⟩
      · (repeat' first | refine zcd ?_ | intro K' hK | (with_reducible refine zn hK ?_; clear hK) | fail | ((with_reducible first | apply zo1 | apply zo2 | apply o_guard rfl | apply x_cond | apply k_e1 rfl | apply k_e2 rfl | apply k_e0 rfl | apply k_e3 rfl | apply k_e4 rfl); (case he => exact ez0); (try case hok => exact ezO); all_goals try (intro hb; (try simp only [hbs, reduceCtorEq] at hb); try exact ezX)) | ((with_reducible apply o_undef rfl); (case hb => exact ez0)))
        refine sw_row (m := id5) ezI rfl (by omega) j3 (iv_idA _ _) ezR ?_
        exact ⟨_, rfl, .inr ⟨hp0, rfl, rfl, rfl⟩⟩
end Go.Proofs.Ytkngdfbibffdcaa.Ce
