/- Parts of the proof of TopCode: Lm. No condition of its own. -/
import Derived.Test.YtkngdfbibffdcaaTan
import Derived.Test.YtkngdfbibffdcaaTaq
set_option linter.unusedVariables false
set_option linter.unusedSimpArgs false
set_option maxRecDepth 100000
set_option maxHeartbeats 4000000
namespace Go.Proofs.Ytkngdfbibffdcaa.Ce
open Go.RowKit
def oPad (C : Int) (E : Ext) (fs : List (List UInt8 × Int)) (q : Nat) : List Int := (layR C E (fs.take q)).1 ++ zeros (fs.length - q)
theorem oPad_length (C : Int) (E : Ext) {fs : List (List UInt8 × Int)} {q : Nat} (hq : q ≤ fs.length) : (oPad C E fs q).length = fs.length := by unfold oPad zeros; rw [List.length_append, layR_len C E fs q hq, List.length_replicate]; omega
theorem oPad_zero (C : Int) (E : Ext) (fs : List (List UInt8 × Int)) : oPad C E fs 0 = zeros fs.length := by simp [oPad, layR]
theorem oPad_all (C : Int) (E : Ext) (fs : List (List UInt8 × Int)) : oPad C E fs fs.length = (layR C E fs).1 := by simp [oPad, zeros]
theorem oPad_succ (C : Int) (E : Ext) {fs : List (List UInt8 × Int)} {q : Nat} (hq : q < fs.length) : (oPad C E fs q).set q (upI (layR C E (fs.take q)).2.1 (E.at_ (fs[q]).2).2) = oPad C E fs (q + 1) := by
  unfold oPad zeros
  have hl := layR_len C E fs q (by omega)
  rw [List.set_append_right _ _ (by omega), hl, Nat.sub_self, layR_take C E hq, show fs.length - q = (fs.length - (q + 1)) + 1 from by omega, List.replicate_succ]
  simp [lStep]
theorem min_big {c : Int} : (if c < 1048576 then c else (1048576 : Int)) = min 1048576 c := by rw [Int.min_def]; split <;> split <;> omega
theorem max_if {a c : Int} : (if a < c then c else a) = max a c := by rw [Int.max_def]; split <;> split <;> omega
variable (k d cl : Nat) (h : Hp) (n : Nat)
theorem lay_ev (hk : 30000 ≤ k) (EA FA : Option Addr) (E : Ext) (m ec : Nat) (fs : List (List UInt8 × Int)) (fc : Nat) (hm : m = E.length) (hE : RdH h n EA (ev E)) (hr : RdH h n FA (fv fs)) (hl2 : fs.length ≤ 20) (hf : FOk 1048576 E fs) (hx : ∀ f ∈ fs, 0 ≤ f.2 ∧ f.2 < E.length) :
    SQ k (d + 1) cl 63 [.slice EA m ec, .slice FA fs.length fc] h n fun v h' n' => v = .tuple ⟨[.slice (some ⟨n, 0, none⟩) fs.length fs.length, .agg ⟨[.int .i64 (upI (layR 1048576 E fs).2.1 (layR 1048576 E fs).2.2), .int .i64 (layR 1048576 E fs).2.2]⟩]⟩ ∧ h' = h.set n (.row 3 false (iv (layR 1048576 E fs).1)) ∧ n' = n + 1 := by
  subst hm
  refine enter Try.func63 (by kernel_rfl) rfl (by kernel_rfl) rfl rfl rfl ?_
  (repeat' first | refine zcd ?_ | intro K' hK | (with_reducible refine zn hK ?_; clear hK) | fail | ((with_reducible first | apply zo1 | apply zo2 | apply o_guard rfl | apply x_cond | apply k_e1 rfl | apply k_e2 rfl | apply k_e0 rfl | apply k_e3 rfl | apply k_e4 rfl); (case he => exact ez1 @mk_zeros); (try case hok => exact ezO); all_goals try (intro hb; (try simp only [hbs, reduceCtorEq] at hb); try exact ezX)) | ((with_reducible apply o_undef rfl); (case hb => exact ez0)))
  refine x_loopV [8, 9, 10, 17, 18, 19, 20, 21, 22, 23, 24, 25, 26, 27, 28, 29, 30, 31, 32, 33, 34, 35, 36, 37, 38, 39, 40, 41, 42, 43, 44, 45, 46, 47, 48, 49, 50, 51, 52, 53, 54] [17] (fun m vs h' n' => ∃ (q : Nat), m = fs.length - q ∧ q ≤ fs.length ∧ vs = [.int .i64 q] ∧ n + 1 + 1 + 1 ≤ n' ∧ rowOf h' n = some (104, false, [.int .i64 0, .int .i64 0]) ∧ rowOf h' (n + 1) = some (3, false, iv (oPad 1048576 E fs q)) ∧
      rowOf h' (n + 1 + 1) = some (104, false, [.int .i64 (layR 1048576 E (fs.take q)).2.1, .int .i64 (layR 1048576 E (fs.take q)).2.2]) ∧ RdH h' n FA (fv fs) ∧ RdH h' n EA (ev E)) fs.length rfl (by omega) ?_ ?_
  · exact ⟨0, rfl, by omega, by simp (disch := first | assumption | omega | rfl | decide) only [go_sem, seval, tys] <;> rfl, by omega, by simp (disch := first | assumption | omega | rfl | decide) only [go_sem, seval, tys], by rw [oPad_zero]; simp (disch := first | assumption | omega | rfl | decide) only [go_sem, seval, tys], by simp (disch := first | assumption | omega | rfl | decide) only [go_sem, seval, tys] <;> rfl, by exact ezD hr, by exact ezD hE⟩
  · rintro mm g _ h' n' ⟨q, rfl, hq, rfl, hn, q0, q1, q2, r1, r2⟩
    have w0 := rwOf_row q0
    have w1 := rwOf_row q1
    have w2 := rwOf_row q2
    have c2 := fun o => cellAt_row (off := o) q2
    have d2 := fun o j => cellsAt_row (off := o) (k := j) q2
    have hlo := layR_ok (C := 1048576) (by omega) hf q hq
    obtain ⟨hs0, hs1, hs2⟩ := hlo
    have hb2 := hs2.bnd
    have hpl := oPad_length 1048576 E hq
    by_cases hqf : q < fs.length
    · obtain ⟨id2, off2, hFA, hid2, hf2, -, -⟩ := fld_at r1 hqf
      have hmem := List.getElem_mem hqf
      have hsu := oPad_succ 1048576 E hqf
      have htk := layR_take 1048576 E hqf
      have hfo := hf _ hmem
      have hxo := hx _ hmem
      obtain ⟨ty, hty⟩ : ∃ ty, (fs[q]).2 = ty := ⟨_, rfl⟩
      unfold lStep at htk
      rw [hty] at hf2 hsu hfo hxo htk
      obtain ⟨j, rfl⟩ := Int.eq_ofNat_of_zero_le hxo.1
      have hjE : j < E.length := by omega
      obtain ⟨ide, offe, hEA, hide, hec, -⟩ := RdH.rows ecell_length (by omega) r2 (by omega)
      have hej := hec j hjE
      have hat : E.at_ (j : Int) = E[j] := by unfold Ext.at_; rw [Int.toNat_natCast, List.getD_eq_getElem?_getD, List.getElem?_eq_getElem hjE]; rfl
      rw [← hat] at hej
      obtain ⟨y, hy⟩ : ∃ y, E.at_ (j : Int) = y := ⟨_, rfl⟩
      rw [hy] at hej hsu hfo htk
      obtain ⟨ys, ya⟩ := y
      obtain ⟨f1, f2, f3⟩ := hfo
      dsimp only at f1 f2 f3 hsu htk
      unfold ecell at hej
      dsimp only at hej
      have f3b := f3.bnd
      obtain ⟨st, hst⟩ : ∃ st, layR 1048576 E (fs.take q) = st := ⟨_, rfl⟩
      rw [hst] at hs0 hs1 hs2 hb2 q2 c2 d2 w2 hsu htk
      have hun := fun h n => b_andnot st.2.1 ya f3 hs0 (by omega) h n
      have hub := upI_bnd f3 hs0
      have hov : ∀ v, overAt q [v] (iv (oPad 1048576 E fs q)) = some ((iv (oPad 1048576 E fs q)).set q v) := fun v => overAt_one (by rw [iv_length, hpl]; exact hqf)
      have hgs : ∀ v, lget ((iv (oPad 1048576 E fs q)).set q v) q = some v := fun v => by rw [lget_eq, List.getElem?_set_self (by rw [iv_length, hpl]; exact hqf)]
      (repeat' first | refine zcd ?_ | intro K' hK | (with_reducible refine zn hK ?_; clear hK) | (with_reducible refine x_drawnD (id := 7) [(3, 5), (3, 9), (5, 9), (3, 11), (5, 11), (9, 11)] (by kernel_rfl) fun K' hK => ?_) | ((with_reducible apply d_nil); (case hp => exact ezP); (case' hx => (refine hK _ _ _ ?_; clear hK))) | ((with_reducible apply d_pure w_none); (case hp => exact rfl); (case hc => exact rfl); (case he => (intros; simp (disch := first | assumption | omega | rfl | decide) only [go_sem, seval, tys, hFA, hEA, hf2, hej, c2, d2, w1, w2, hun, hov, hgs, min_big, max_if] <;> rfl))) | ((with_reducible apply d_eff w_none); (case hc => exact rfl); (case he => (intros; simp (disch := first | assumption | omega | rfl | decide) only [go_sem, seval, tys, hFA, hEA, hf2, hej, c2, d2, w1, w2, hun, hov, hgs, min_big, max_if] <;> rfl)); (case hok => exact ezO)) | ((with_reducible apply d_guard rfl); (case hb => (intros; simp (disch := first | assumption | omega | rfl | decide) only [go_sem, seval, tys, hFA, hEA, hf2, hej, c2, d2, w1, w2, hun, hov, hgs, min_big, max_if] <;> rfl)); (case' h1 => intro hb; (try simp only [hbs, reduceCtorEq] at hb); try exact ezX); (case' h2 => intro hb; (try simp only [hbs, reduceCtorEq] at hb); try exact ezX)) | ((with_reducible first | apply zo1 | apply zo2 | apply o_guard rfl | apply x_cond | apply k_e1 rfl | apply k_e2 rfl | apply k_e0 rfl | apply k_e3 rfl | apply k_e4 rfl); (case he => (intros; simp (disch := first | assumption | omega | rfl | decide) only [go_sem, seval, tys, hFA, hEA, hf2, hej, c2, d2, w1, w2, hun, hov, hgs, min_big, max_if] <;> rfl)); (try case hok => exact ezO); all_goals try (intro hb; (try simp only [hbs, reduceCtorEq] at hb); try exact ezX)) | ((with_reducible apply o_undef rfl); (case hb => exact ez0)))
      refine k_round (fs.length - (q + 1)) (by omega) ⟨q + 1, rfl, by omega, by simp (disch := first | assumption | omega | rfl | decide) only [go_sem, seval, tys] <;> rfl, by omega, by simp (disch := first | assumption | omega | rfl | decide) only [go_sem, seval, tys, q0], by simp (disch := first | assumption | omega | rfl | decide) only [go_sem, seval, tys]; rw [iv_set, hsu], ?_, by exact ezD r1, by exact ezD r2⟩
      rw [htk]
      simp (disch := first | assumption | omega | rfl | decide) only [go_sem, seval, tys]
    · obtain rfl : q = fs.length := by omega
      rw [List.take_length] at q2 c2 d2 w2 hs0 hs1 hs2 hb2
      rw [oPad_all] at q1
      have hun := fun h n => b_andnot (layR 1048576 E fs).2.1 (layR 1048576 E fs).2.2 hs2 hs0 (by omega) h n
      (repeat' first | refine zcd ?_ | intro K' hK | (with_reducible refine zn hK ?_; clear hK) | (with_reducible refine x_drawn (id := 10) (by kernel_rfl) fun K' hK => ?_) | ((with_reducible first | apply zo1 | apply zo2 | apply o_guard rfl | apply x_cond | apply k_e1 rfl | apply k_e2 rfl | apply k_e0 rfl | apply k_e3 rfl | apply k_e4 rfl); (case he => exact ez6 c2 d2 w0 w1 w2 hun); (try case hok => exact ezO); all_goals try (intro hb; (try simp only [hbs, reduceCtorEq] at hb); try exact ezX)) | ((with_reducible apply o_undef rfl); (case hb => exact ez0)))
      refine sw_row ezI rfl (by omega) (by simp (disch := first | assumption | omega | rfl | decide) only [go_sem, seval, tys, q1]; exact rfl) (iv_idA _ _) ezR ?_
      exact ⟨rfl, rfl, rfl⟩
end Go.Proofs.Ytkngdfbibffdcaa.Ce
namespace Go.Proofs.Ytkngdfbibffdcaa.Ce
open Go.RowKit
theorem layR_congr {C : Int} {E G : Ext} : ∀ (fs : List (List UInt8 × Int)), (∀ f ∈ fs, E.at_ f.2 = G.at_ f.2) → layR C E fs = layR C G fs := by
  intro fs
  unfold layR
  generalize (([], 0, 1) : List Int × Int × Int) = st
  induction fs generalizing st with
  | nil => intro _; rfl
  | cons f fs ih =>
    intro h
    rw [List.foldl_cons, List.foldl_cons, show lStep C E st f = lStep C G st f from by unfold lStep; rw [h f List.mem_cons_self]]
    exact ih _ fun x hx => h x (List.mem_cons_of_mem _ hx)
def ePad (C : Int) (T : List Tp) (i : Nat) : Ext := eRow C (T.take i) ++ List.replicate (T.length - i) (0, 0)
theorem ePad_length (C : Int) {T : List Tp} {i : Nat} (hi : i ≤ T.length) : (ePad C T i).length = T.length := by unfold ePad; rw [List.length_append, eRow_tlen C hi, List.length_replicate]; omega
theorem ePad_zero (C : Int) (T : List Tp) : ePad C T 0 = List.replicate T.length (0, 0) := by simp [ePad, eRow]
theorem ePad_all (C : Int) (T : List Tp) : ePad C T T.length = eRow C T := by simp [ePad]
theorem ePad_at (C : Int) {T : List Tp} {i : Nat} (hi : i ≤ T.length) {j : Int} (h0 : 0 ≤ j) (h1 : j < i) : (ePad C T i).at_ j = (eRow C (T.take i)).at_ j := by
  unfold ePad Ext.at_
  rw [List.getD_eq_getElem?_getD, List.getElem?_append_left (by rw [eRow_tlen C hi]; omega), List.getD_eq_getElem?_getD]
theorem ePad_succ (C : Int) {T : List Tp} {i : Nat} (hi : i < T.length) {s a : Int} (he : eOne C (eRow C (T.take i)) T[i] = (s, a)) : overAt (i * 2) [.int .i64 s, .int .i64 a] (ev (ePad C T i)) = some (ev (ePad C T (i + 1))) := by
  have hl := eRow_tlen C (T := T) (i := i) (by omega)
  have e1 : ev (ePad C T i) = ev (eRow C (T.take i)) ++ (.int .i64 0 :: .int .i64 0 :: ev (List.replicate (T.length - (i + 1)) (0, 0))) := by
    unfold ePad
    rw [ev_app, show T.length - i = (T.length - (i + 1)) + 1 from by omega, List.replicate_succ]
    rfl
  have e2 : ev (ePad C T (i + 1)) = ev (eRow C (T.take i)) ++ (.int .i64 s :: .int .i64 a :: ev (List.replicate (T.length - (i + 1)) (0, 0))) := by
    unfold ePad
    rw [ev_app, eRow_take C hi, he, ev_app, List.append_assoc]
    rfl
  have hel : (ev (eRow C (T.take i))).length = i * 2 := by rw [ev_length, hl]
  rw [overAt_of (by rw [e1, List.length_append, hel]; simp), e1, e2, List.take_left' hel]
  congr 1
  rw [← hel, List.drop_append]
  simp
theorem mk_ext (m : Nat) : (List.replicate m [Value.int IntKind.i64 0, Value.int IntKind.i64 0]).flatten = ev (List.replicate m (0, 0)) := by
  induction m with
  | zero => rfl
  | succ m ih => rw [List.replicate_succ, List.flatten_cons, ih, List.replicate_succ]; rfl
theorem eOne_1 {C : Int} {E : Ext} {t : Tp} (h : t.kd = 1) : eOne C E t = (1, 1) := by unfold eOne; rw [if_pos h]
theorem eOne_24 {C : Int} {E : Ext} {t : Tp} (h : t.kd = 2 ∨ t.kd = 4) : eOne C E t = (8, 8) := by unfold eOne; rw [if_neg (by omega), if_pos h]
theorem eOne_3 {C : Int} {E : Ext} {t : Tp} (h : t.kd = 3) : eOne C E t = (16, 8) := by unfold eOne; rw [if_neg (by omega), if_neg (by omega), if_pos h]
theorem eOne_7 {C : Int} {E : Ext} {t : Tp} (h : t.kd = 7) : eOne C E t = (24, 8) := by unfold eOne; rw [if_neg (by omega), if_neg (by omega), if_neg (by omega), if_pos h]
theorem eOne_6 {C : Int} {E : Ext} {t : Tp} (h : t.kd = 6) : eOne C E t = (min C (t.ln * (E.at_ t.el).1), (E.at_ t.el).2) := by unfold eOne; rw [if_neg (by omega), if_neg (by omega), if_neg (by omega), if_neg (by omega), if_pos h]
theorem eOne_5 {C : Int} {E : Ext} {t : Tp} (h : t.kd = 5) : eOne C E t = (upI (layR C E t.fs).2.1 (layR C E t.fs).2.2, (layR C E t.fs).2.2) := by unfold eOne; rw [if_neg (by omega), if_neg (by omega), if_neg (by omega), if_neg (by omega), if_neg (by omega)]
variable (k d cl : Nat) (h : Hp) (n : Nat)
theorem extents_ev (hk : 30000 ≤ k) (A : Option Addr) (T : List Tp) (c : Nat) (hT : TabH h n A T) (hl : T.length ≤ 32) (hF : Fine T) :
    SQ k (d + 2) cl 62 [.slice A T.length c] h n fun v h' n' => v = .slice (some ⟨n, 0, none⟩) T.length T.length ∧ h' = h.set n (.row 104 false (ev (eRow 1048576 T))) ∧ n' = n + 1 := by
  refine enter Try.func62 (by kernel_rfl) rfl (by kernel_rfl) rfl rfl rfl ?_
  (repeat' first | refine zcd ?_ | intro K' hK | (with_reducible refine zn hK ?_; clear hK) | fail | ((with_reducible first | apply zo1 | apply zo2 | apply o_guard rfl | apply x_cond | apply k_e1 rfl | apply k_e2 rfl | apply k_e0 rfl | apply k_e3 rfl | apply k_e4 rfl); (case he => exact ez1 @mk_ext); (try case hok => exact ezO); all_goals try (intro hb; (try simp only [hbs, reduceCtorEq] at hb); try exact ezX)) | ((with_reducible apply o_undef rfl); (case hb => exact ez0)))
  refine x_loopV [4, 5, 6, 12, 13, 14, 15, 16, 17, 18, 19, 20, 21, 22, 23, 24, 25, 26, 27, 28, 29, 30, 31, 32, 33, 34, 35, 36, 37, 38, 39, 40, 41, 42, 43, 44, 45, 46, 47, 48, 49, 50, 51, 52, 53, 54, 55, 56, 57, 58, 59, 60, 61, 62, 63, 64, 65, 66, 67, 68, 69, 70, 71, 72, 73, 74, 75] [12] (fun m vs h' n' => ∃ (i : Nat), m = T.length - i ∧ i ≤ T.length ∧ vs = [.int .i64 i] ∧ n + 1 ≤ n' ∧ rowOf h' n = some (104, false, ev (ePad 1048576 T i)) ∧ TabH h' n A T) T.length rfl (by omega) ?_ ?_
  · exact ⟨0, rfl, by omega, by simp (disch := first | assumption | omega | rfl | decide) only [go_sem, seval, tys] <;> rfl, by omega, by rw [ePad_zero]; simp (disch := first | assumption | omega | rfl | decide) only [go_sem, seval, tys], hT.set (Nat.le_refl _) _⟩
  · rintro m g _ h' n' ⟨i, rfl, hi, rfl, hn, q0, hT2⟩
    have w0 := rwOf_row q0
    have c0 := fun o j => cellsAt_row (off := o) (k := j) q0
    by_cases hiT : i < T.length
    · obtain ⟨tid, toff, hA, htid, ht4, -, -, -, -⟩ := hT2.at_ hiT
      have hfine := hF i hiT
      have hpl := ePad_length 1048576 hi
      have hEl := eRow_tlen 1048576 hi
      have hEok := eRow_ok (C := 1048576) (by omega) (by decide) hF i hi
      have hps := fun {s a : Int} => ePad_succ 1048576 hiT (s := s) (a := a)
      obtain ⟨t, htt⟩ : ∃ t, T[i] = t := ⟨_, rfl⟩
      have hmem : t ∈ T := by rw [← htt]; exact List.getElem_mem hiT
      have hfd2 := hT2.fd t hmem
      rw [htt] at ht4 hfine hps
      have hkd := fine_kd hfine
      have hfl := fine_len hfine
      obtain ⟨E, hE⟩ : ∃ E, eRow 1048576 (T.take i) = E := ⟨_, rfl⟩
      rw [hE] at hEl hEok hps
      subst hA
      by_cases h1 : t.kd = 1
      · have hov := hps (eOne_1 h1)
        rw [h1] at ht4
        (repeat' first | refine zcd ?_ | intro K' hK | (with_reducible refine zn hK ?_; clear hK) | fail | ((with_reducible first | apply zo1 | apply zo2 | apply o_guard rfl | apply x_cond | apply k_e1 rfl | apply k_e2 rfl | apply k_e0 rfl | apply k_e3 rfl | apply k_e4 rfl); (case he => exact ez3 ht4 w0 hov); (try case hok => exact ezO); all_goals try (intro hb; (try simp only [hbs, reduceCtorEq] at hb); try exact ezX)) | ((with_reducible apply o_undef rfl); (case hb => exact ez0)))
        refine k_round (T.length - (i + 1)) (by omega) ⟨i + 1, rfl, by omega, by simp (disch := first | assumption | omega | rfl | decide) only [go_sem, seval, tys] <;> rfl, by omega, by simp (disch := first | assumption | omega | rfl | decide) only [go_sem, seval, tys], (ezT hT2)⟩
      · by_cases h24 : t.kd = 2 ∨ t.kd = 4
        · have hov := hps (eOne_24 h24)
          rcases h24 with h2 | h2
          all_goals
            rw [h2] at ht4
            (repeat' first | refine zcd ?_ | intro K' hK | (with_reducible refine zn hK ?_; clear hK) | fail | ((with_reducible first | apply zo1 | apply zo2 | apply o_guard rfl | apply x_cond | apply k_e1 rfl | apply k_e2 rfl | apply k_e0 rfl | apply k_e3 rfl | apply k_e4 rfl); (case he => exact ez3 ht4 w0 hov); (try case hok => exact ezO); all_goals try (intro hb; (try simp only [hbs, reduceCtorEq] at hb); try exact ezX)) | ((with_reducible apply o_undef rfl); (case hb => exact ez0)))
            refine k_round (T.length - (i + 1)) (by omega) ⟨i + 1, rfl, by omega, by simp (disch := first | assumption | omega | rfl | decide) only [go_sem, seval, tys] <;> rfl, by omega, by simp (disch := first | assumption | omega | rfl | decide) only [go_sem, seval, tys], (ezT hT2)⟩
        · by_cases h3 : t.kd = 3
          · have hov := hps (eOne_3 h3)
            rw [h3] at ht4
            (repeat' first | refine zcd ?_ | intro K' hK | (with_reducible refine zn hK ?_; clear hK) | fail | ((with_reducible first | apply zo1 | apply zo2 | apply o_guard rfl | apply x_cond | apply k_e1 rfl | apply k_e2 rfl | apply k_e0 rfl | apply k_e3 rfl | apply k_e4 rfl); (case he => exact ez3 ht4 w0 hov); (try case hok => exact ezO); all_goals try (intro hb; (try simp only [hbs, reduceCtorEq] at hb); try exact ezX)) | ((with_reducible apply o_undef rfl); (case hb => exact ez0)))
            refine k_round (T.length - (i + 1)) (by omega) ⟨i + 1, rfl, by omega, by simp (disch := first | assumption | omega | rfl | decide) only [go_sem, seval, tys] <;> rfl, by omega, by simp (disch := first | assumption | omega | rfl | decide) only [go_sem, seval, tys], (ezT hT2)⟩
          · by_cases h7 : t.kd = 7
            · have hov := hps (eOne_7 h7)
              rw [h7] at ht4
              (repeat' first | refine zcd ?_ | intro K' hK | (with_reducible refine zn hK ?_; clear hK) | fail | ((with_reducible first | apply zo1 | apply zo2 | apply o_guard rfl | apply x_cond | apply k_e1 rfl | apply k_e2 rfl | apply k_e0 rfl | apply k_e3 rfl | apply k_e4 rfl); (case he => exact ez3 ht4 w0 hov); (try case hok => exact ezO); all_goals try (intro hb; (try simp only [hbs, reduceCtorEq] at hb); try exact ezX)) | ((with_reducible apply o_undef rfl); (case hb => exact ez0)))
              refine k_round (T.length - (i + 1)) (by omega) ⟨i + 1, rfl, by omega, by simp (disch := first | assumption | omega | rfl | decide) only [go_sem, seval, tys] <;> rfl, by omega, by simp (disch := first | assumption | omega | rfl | decide) only [go_sem, seval, tys], (ezT hT2)⟩
            · by_cases h6 : t.kd = 6
              · have hov := hps (eOne_6 h6)
                have har := fine_arr hfine h6
                obtain ⟨j, hj⟩ := Int.eq_ofNat_of_zero_le har.1
                rw [hj] at hov har
                have hge := (ev_get (E := ePad 1048576 T i) (i := j) (by omega)).2.2
                rw [ePad_at 1048576 hi har.1 har.2.1, hE] at hge
                obtain ⟨g1, g2, g3⟩ := Ext.at_mem hEok (i := (j : Int)) har.1 (by omega)
                have hmul : 0 ≤ t.ln * (E.at_ (j : Int)).1 ∧ t.ln * (E.at_ (j : Int)).1 ≤ 16 * 1048576 := ⟨Int.mul_nonneg (by omega) g1, Int.mul_le_mul har.2.2.2 g2 g1 (by omega)⟩
                rw [h6, hj] at ht4
                (repeat' first | refine zcd ?_ | intro K' hK | (with_reducible refine zn hK ?_; clear hK) | fail | ((with_reducible first | apply zo1 | apply zo2 | apply o_guard rfl | apply x_cond | apply k_e1 rfl | apply k_e2 rfl | apply k_e0 rfl | apply k_e3 rfl | apply k_e4 rfl); (case he => exact ez6 ht4 w0 c0 hge hov @min_big); (try case hok => exact ezO); all_goals try (intro hb; (try simp only [hbs, reduceCtorEq] at hb); try exact ezX)) | ((with_reducible apply o_undef rfl); (case hb => exact ez0)))
                refine k_round (T.length - (i + 1)) (by omega) ⟨i + 1, rfl, by omega, by simp (disch := first | assumption | omega | rfl | decide) only [go_sem, seval, tys] <;> rfl, by omega, by simp (disch := first | assumption | omega | rfl | decide) only [go_sem, seval, tys], (ezT hT2)⟩
              · have h5 : t.kd = 5 := by omega
                have hov := hps (eOne_5 h5)
                rw [h5] at ht4
                obtain ⟨fs, hfs⟩ : ∃ fs, t.fs = fs := ⟨_, rfl⟩
                have hfr : ∀ f ∈ t.fs, 0 ≤ f.2 ∧ f.2 < i := fun f hf => by
                  obtain ⟨q, hq, rfl⟩ := List.getElem_of_mem hf
                  exact fine_fld hfine hq
                have hfo0 : FOk 1048576 E t.fs := fine_fok hEok (m := T.length) (by rw [hEl]; exact hfine)
                rw [hfs] at ht4 hov hfr hfo0 hfd2 hfl
                have hcg : layR 1048576 (ePad 1048576 T i) fs = layR 1048576 E fs := layR_congr fs fun f hf => by rw [ePad_at 1048576 hi (hfr f hf).1 (hfr f hf).2, hE]
                have hfo : FOk 1048576 (ePad 1048576 T i) fs := fun f hf => by rw [ePad_at 1048576 hi (hfr f hf).1 (hfr f hf).2, hE]; exact hfo0 f hf
                have hxo : ∀ f ∈ fs, 0 ≤ f.2 ∧ f.2 < (ePad 1048576 T i).length := fun f hf => by have := hfr f hf; omega
                rw [← hcg] at hov
                (repeat' first | refine zcd ?_ | intro K' hK | (with_reducible refine zn hK ?_; clear hK) | ((with_reducible apply o_callF (g := 63) w_none); (case ha => exact ez0); (case hs => (((with_reducible apply lay_ev (E := ePad 1048576 T i) (fs := fs)); (case hk => exact hk); (case hm => exact hpl.symm); (case hE => exact RdH.ofRow (e := 104) (ro := false) (by simp (disch := first | assumption | omega | rfl | decide) only [go_sem, seval, tys, q0]) (by omega)); (case hr => exact ezD hfd2); (case hl2 => omega); (case hf => exact hfo); (case hx => exact hxo)))); (case' hk => rintro _ h' n' ⟨rfl, rfl, rfl⟩)) | ((with_reducible first | apply zo1 | apply zo2 | apply o_guard rfl | apply x_cond | apply k_e1 rfl | apply k_e2 rfl | apply k_e0 rfl | apply k_e3 rfl | apply k_e4 rfl); (case he => exact ez3 ht4 w0 hov); (try case hok => exact ezO); all_goals try (intro hb; (try simp only [hbs, reduceCtorEq] at hb); try exact ezX)) | ((with_reducible apply o_undef rfl); (case hb => exact ez0)))
                refine k_round (T.length - (i + 1)) (by omega) ⟨i + 1, rfl, by omega, by simp (disch := first | assumption | omega | rfl | decide) only [go_sem, seval, tys] <;> rfl, by omega, by simp (disch := first | assumption | omega | rfl | decide) only [go_sem, seval, tys], (ezT hT2)⟩
    · obtain rfl : i = T.length := by omega
      rw [ePad_all] at q0
      (repeat' first | refine zcd ?_ | intro K' hK | (with_reducible refine zn hK ?_; clear hK) | fail | ((with_reducible first | apply zo1 | apply zo2 | apply o_guard rfl | apply x_cond | apply k_e1 rfl | apply k_e2 rfl | apply k_e0 rfl | apply k_e3 rfl | apply k_e4 rfl); (case he => exact ez0); (try case hok => exact ezO); all_goals try (intro hb; (try simp only [hbs, reduceCtorEq] at hb); try exact ezX)) | ((with_reducible apply o_undef rfl); (case hb => exact ez0)))
      refine sw_row ezI rfl (by omega) (by simp (disch := first | assumption | omega | rfl | decide) only [go_sem, seval, tys, q0]; exact rfl) (ev_idA _ _) ezR ?_
      exact ⟨rfl, rfl, rfl⟩
end Go.Proofs.Ytkngdfbibffdcaa.Ce
