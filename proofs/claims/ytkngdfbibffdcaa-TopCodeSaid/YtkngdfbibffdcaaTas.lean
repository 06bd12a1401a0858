/- Parts of the proof of TopCode: Mb. No condition of its own. -/
import Derived.Test.YtkngdfbibffdcaaTan
import Derived.Test.YtkngdfbibffdcaaTaq
import Derived.Test.YtkngdfbibffdcaaTar
set_option linter.unusedVariables false
set_option linter.unusedSimpArgs false
set_option maxRecDepth 100000
set_option maxHeartbeats 4000000
namespace Go.Proofs.Ytkngdfbibffdcaa.Ce
open Go.RowKit
def sz (E : Ext) : List Int := E.map (·.1)
def al (E : Ext) : List Int := E.map (·.2)
theorem sz_length (E : Ext) : (sz E).length = E.length := by simp [sz]
theorem al_length (E : Ext) : (al E).length = E.length := by simp [al]
theorem sz_get {E : Ext} {j : Nat} (hj : j < E.length) : lget (iv (sz E)) j = some (.int .i64 (E.at_ (j : Int)).1) ∧ lget (iv (al E)) j = some (.int .i64 (E.at_ (j : Int)).2) := by
  have e : E.at_ (j : Int) = E[j] := by unfold Ext.at_; rw [Int.toNat_natCast, List.getD_eq_getElem?_getD, List.getElem?_eq_getElem hj]; rfl
  rw [e, lget_eq, lget_eq, iv_get (by rw [sz_length]; exact hj), iv_get (by rw [al_length]; exact hj)]
  simp [sz, al]
theorem sz_app (E G : Ext) : sz (E ++ G) = sz E ++ sz G := by simp [sz]
theorem al_app (E G : Ext) : al (E ++ G) = al E ++ al G := by simp [al]
theorem min_far {c : Int} : (if c < 1000000 then c else (1000000 : Int)) = min 1000000 c := by rw [Int.min_def]; split <;> split <;> omega
theorem max_if2 {a c : Int} : (if a < c then c else a) = max a c := by rw [Int.max_def]; split <;> split <;> omega
variable (k d cl : Nat) (h : Hp) (n : Nat)
theorem rup_ev (x a : Int) (ha : Al a) (hx : 0 ≤ x) (hx2 : x ≤ 4611686018427387904) :
    SQ k (d + 1) cl 57 [.int .i64 x, .int .i64 a] h n fun v h' n' => v = .int .i64 (upI x a) ∧ h' = h ∧ n' = n := by
  have hb := upI_bnd ha hx
  unfold upI at hb
  refine enter Try.func57 (by kernel_rfl) rfl (by kernel_rfl) rfl rfl rfl ?_
  rcases ha with rfl | rfl
  all_goals
    (repeat' first | refine zcd ?_ | intro K' hK | (with_reducible refine zn hK ?_; clear hK) | fail | ((with_reducible first | apply zo1 | apply zo2 | apply o_guard rfl | apply x_cond | apply k_e1 rfl | apply k_e2 rfl | apply k_e0 rfl | apply k_e3 rfl | apply k_e4 rfl); (case he => exact ez0); (try case hok => exact ezO); all_goals try (intro hb; (try simp only [hbs, reduceCtorEq] at hb); try exact ezX)) | ((with_reducible apply o_undef rfl); (case hb => exact ez0)))
    all_goals exact sw_flat rfl rfl ⟨by unfold upI; first | rfl | (congr 1; done) | (congr 1; omega), rfl, rfl⟩
theorem rtog_nil (hk : 30000 ≤ k) (SA AA FA : Option Addr) (m sc ac fc : Nat) :
    SQ k (d + 2) cl 32 [.slice SA m sc, .slice AA m ac, .slice FA 0 fc] h n fun v h' n' => v = .tuple ⟨[.slice none 0 0, .int .i64 0, .int .i64 1]⟩ ∧ h' = h ∧ n' = n := by
  have ha : Al 1 := .inl rfl
  refine enter Try.func32 (by kernel_rfl) rfl (by kernel_rfl) rfl rfl rfl ?_
  (repeat' first | refine zcd ?_ | intro K' hK | (with_reducible refine zn hK ?_; clear hK) | (with_reducible refine x_turns ?_) | (with_reducible refine x_turn (by omega) ?_) | (with_reducible refine k_turn ?_) | ((with_reducible apply o_callF (g := 57) w_none); (case ha => exact ez0); (case hs => ((with_reducible apply rup_ev) <;> (first | assumption | omega))); (case' hk => rintro _ h' n' ⟨rfl, rfl, rfl⟩)) | ((with_reducible first | apply zo1 | apply zo2 | apply o_guard rfl | apply x_cond | apply k_e1 rfl | apply k_e2 rfl | apply k_e0 rfl | apply k_e3 rfl | apply k_e4 rfl); (case he => exact ez1 @upI_1); (try case hok => exact ezO); all_goals try (intro hb; (try simp only [hbs, reduceCtorEq] at hb); try exact ezX)) | ((with_reducible apply o_undef rfl); (case hb => exact ez0)))
  all_goals exact sw_flat rfl rfl ⟨rfl, rfl, rfl⟩
theorem rtog_ev (hk : 30000 ≤ k) (SA AA FA : Option Addr) (E : Ext) (m sc ac : Nat) (fs : List (List UInt8 × Int)) (fc : Nat) (hm : m = E.length) (h0 : fs ≠ []) (hs : RdH h n SA (iv (sz E))) (ha : RdH h n AA (iv (al E))) (hr : RdH h n FA (fv fs)) (hl2 : fs.length ≤ 20) (hf : FOk 1000000 E fs) (hx : ∀ f ∈ fs, 0 ≤ f.2 ∧ f.2 < E.length) :
    SQ k (d + 2) cl 32 [.slice SA m sc, .slice AA m ac, .slice FA fs.length fc] h n fun v h' n' => v = .tuple ⟨[.slice (some ⟨n, 0, none⟩) fs.length fs.length, .int .i64 (upI (layR 1000000 E fs).2.1 (layR 1000000 E fs).2.2), .int .i64 (layR 1000000 E fs).2.2]⟩ ∧ h' = h.set n (.row 3 false (iv (layR 1000000 E fs).1)) ∧ n' = n + 1 := by
  subst hm
  have hfp : 0 < fs.length := List.length_pos_iff.2 h0
  refine enter Try.func32 (by kernel_rfl) rfl (by kernel_rfl) rfl rfl rfl ?_
  (repeat' first | refine zcd ?_ | intro K' hK | (with_reducible refine zn hK ?_; clear hK) | fail | ((with_reducible first | apply zo1 | apply zo2 | apply o_guard rfl | apply x_cond | apply k_e1 rfl | apply k_e2 rfl | apply k_e0 rfl | apply k_e3 rfl | apply k_e4 rfl); (case he => exact ez0); (try case hok => exact ezO); all_goals try (intro hb; (try simp only [hbs, reduceCtorEq] at hb); try exact ezX)) | ((with_reducible apply o_undef rfl); (case hb => exact ez0)))
  refine x_loopV [9, 10, 11, 12, 13, 14, 15, 16, 17, 18, 19, 20, 21, 22, 23, 24, 25, 26, 27, 28, 29, 30, 31, 32, 33, 34, 35, 36, 37, 38, 39, 40, 41, 42, 43, 44, 45, 46, 47, 48] [9, 10, 11, 12] (fun m vs h' n' => ∃ (q : Nat) (O : Value), m = fs.length - q ∧ q ≤ fs.length ∧ vs = [O, .int .i64 (layR 1000000 E (fs.take q)).2.1, .int .i64 (layR 1000000 E (fs.take q)).2.2, .int .i64 q] ∧ n ≤ n' ∧ RdH h' n SA (iv (sz E)) ∧ RdH h' n AA (iv (al E)) ∧ RdH h' n FA (fv fs) ∧
      ((q = 0 ∧ O = .slice none 0 0) ∨ (0 < q ∧ ∃ id, n ≤ id ∧ id < n' ∧ O = .slice (some ⟨id, 0, none⟩) q q ∧ rowOf h' id = some (3, false, iv (layR 1000000 E (fs.take q)).1)))) fs.length rfl (by omega) ?_ ?_
  · exact ⟨0, .slice none 0 0, rfl, by omega, by simp (disch := first | assumption | omega | rfl | decide) only [go_sem, seval, tys] <;> rfl, by omega, hs, ha, hr, .inl ⟨rfl, rfl⟩⟩
  · rintro mm g _ h' n' ⟨q, O, rfl, hq, rfl, hn, r1, r2, r3, hO⟩
    obtain ⟨hs0, hs1, hs2⟩ := layR_ok (C := 1000000) (by omega) hf q hq
    have hb2 := hs2.bnd
    by_cases hqf : q < fs.length
    · obtain ⟨id2, off2, hFA, hid2, -, -, hfb⟩ := fld_at r3 hqf
      have hmem := List.getElem_mem hqf
      have htk := layR_take 1000000 E hqf
      have hlen := layR_len 1000000 E fs q hq
      have hfo := hf _ hmem
      have hxo := hx _ hmem
      obtain ⟨ty, hty⟩ : ∃ ty, (fs[q]).2 = ty := ⟨_, rfl⟩
      unfold lStep at htk
      rw [hty] at hfb hfo hxo htk
      obtain ⟨j, rfl⟩ := Int.eq_ofNat_of_zero_le hxo.1
      have hjE : j < E.length := by omega
      obtain ⟨g1, g2⟩ := sz_get hjE
      obtain ⟨is_, os, hSA, his, hsc⟩ := int_at r1 (i := j) (by rw [sz_length]; exact hjE)
      obtain ⟨ia, oa, hAA, hia, hac⟩ := int_at r2 (i := j) (by rw [al_length]; exact hjE)
      have es : (sz E)[j]'(by rw [sz_length]; exact hjE) = (E.at_ (j : Int)).1 := by rw [lget_eq, iv_get (by rw [sz_length]; exact hjE)] at g1; injection g1 with g1; injection g1
      have ea : (al E)[j]'(by rw [al_length]; exact hjE) = (E.at_ (j : Int)).2 := by rw [lget_eq, iv_get (by rw [al_length]; exact hjE)] at g2; injection g2 with g2; injection g2
      rw [es] at hsc
      rw [ea] at hac
      obtain ⟨y, hy⟩ : ∃ y, E.at_ (j : Int) = y := ⟨_, rfl⟩
      rw [hy] at hsc hac hfo htk
      obtain ⟨ys, ya⟩ := y
      obtain ⟨f1, f2, f3⟩ := hfo
      dsimp only at f1 f2 f3 htk hsc hac
      have f3b := f3.bnd
      obtain ⟨st, hst⟩ : ∃ st, layR 1000000 E (fs.take q) = st := ⟨_, rfl⟩
      rw [hst] at hs0 hs1 hs2 hb2 htk hlen hO ⊢
      have hub := upI_bnd f3 hs0
      have hrow : iv (layR 1000000 E (fs.take (q + 1))).1 = iv st.1 ++ [.int .i64 (upI st.2.1 ya)] := by rw [htk, iv_app]; rfl
      have htw : (iv st.1).take q = iv st.1 := List.take_of_length_le (by rw [iv_length, hlen]; omega)
      subst hSA; subst hAA; subst hFA
      rcases hO with ⟨rfl, rfl⟩ | ⟨hp0, id, k1, k2, rfl, q4⟩
      · simp only [Nat.zero_mul, Nat.add_zero] at hfb
        have hn0 : st.1 = [] := List.length_eq_zero_iff.1 hlen
        (repeat' first | refine zcd ?_ | intro K' hK | (with_reducible refine zn hK ?_; clear hK) | ((with_reducible apply o_callF (g := 57) w_none); (case ha => exact ez0); (case hs => ((with_reducible apply rup_ev) <;> (first | assumption | omega))); (case' hk => rintro _ h' n' ⟨rfl, rfl, rfl⟩)) | ((with_reducible apply o_ap0 (t := 36) apT36 w_none); (case hs => exact ez0); (case hy => exact ez0); (case hsrc => exact src_row (rowOf_same _ _ _ _ _) rfl); (case hc => exact rfl); (case hm => omega); (case h0 => omega)) | ((with_reducible first | apply zo1 | apply zo2 | apply o_guard rfl | apply x_cond | apply k_e1 rfl | apply k_e2 rfl | apply k_e0 rfl | apply k_e3 rfl | apply k_e4 rfl); (case he => exact ez5 hfb hsc hac @min_far @max_if2); (try case hok => exact ezO); all_goals try (intro hb; (try simp only [hbs, reduceCtorEq] at hb); try exact ezX)) | ((with_reducible apply o_undef rfl); (case hb => exact ez0)))
        refine k_round (fs.length - 1) (by omega) ⟨1, .slice (some ⟨n' + 1, 0, none⟩) 1 1, rfl, by omega, by rw [htk]; simp (disch := first | assumption | omega | rfl | decide) only [go_sem, seval, tys] <;> rfl, by omega, by exact ezD r1, by exact ezD r2, by exact ezD r3, .inr ⟨by omega, n' + 1, by omega, by omega, rfl, ?_⟩⟩
        rw [hrow, hn0]
        simp (disch := first | assumption | omega | rfl | decide) only [go_sem, seval, tys]
        exact rfl
      · have w4 := rwOf_row q4
        (repeat' first | refine zcd ?_ | intro K' hK | (with_reducible refine zn hK ?_; clear hK) | ((with_reducible apply o_callF (g := 57) w_none); (case ha => exact ez0); (case hs => ((with_reducible apply rup_ev) <;> (first | assumption | omega))); (case' hk => rintro _ h' n' ⟨rfl, rfl, rfl⟩)) | ((with_reducible apply o_apR (t := 36) apT36 w_none); (case hs => exact ez1 w4); (case hy => exact ez1 w4); (case hsrc => exact src_row (rowOf_same _ _ _ _ _) rfl); (case hr => exact ez1 w4); (case hc => exact rfl); (case hm => omega); (case hli => omega); (case hln => omega); (case hcs => rw [iv_length, hlen]; omega)) | ((with_reducible first | apply zo1 | apply zo2 | apply o_guard rfl | apply x_cond | apply k_e1 rfl | apply k_e2 rfl | apply k_e0 rfl | apply k_e3 rfl | apply k_e4 rfl); (case he => exact ez5 hfb hsc hac @min_far @max_if2); (try case hok => exact ezO); all_goals try (intro hb; (try simp only [hbs, reduceCtorEq] at hb); try exact ezX)) | ((with_reducible apply o_undef rfl); (case hb => exact ez0)))
        refine k_round (fs.length - (q + 1)) (by omega) ⟨q + 1, .slice (some ⟨n' + 1, 0, none⟩) (q + 1) (q + 1), rfl, by omega, by rw [htk]; simp (disch := first | assumption | omega | rfl | decide) only [go_sem, seval, tys] <;> rfl, by omega, by exact ezD r1, by exact ezD r2, by exact ezD r3, .inr ⟨by omega, n' + 1, by omega, by omega, rfl, ?_⟩⟩
        rw [hrow]
        simp (disch := first | assumption | omega | rfl | decide) only [go_sem, seval, tys, htw]
    · obtain rfl : q = fs.length := by omega
      rw [List.take_length] at hs0 hs1 hs2 hb2 hO ⊢
      rcases hO with ⟨hz, -⟩ | ⟨hp0, id, k1, k2, rfl, q4⟩
      · omega
      · have hle := upI_le hs2 (by decide : (1000000 : Int) % 8 = 0) hs1
        have hmin : min 1000000 (upI (layR 1000000 E fs).2.1 (layR 1000000 E fs).2.2) = upI (layR 1000000 E fs).2.1 (layR 1000000 E fs).2.2 := by omega
        (repeat' first | refine zcd ?_ | intro K' hK | (with_reducible refine zn hK ?_; clear hK) | ((with_reducible apply o_callF (g := 57) w_none); (case ha => exact ez0); (case hs => ((with_reducible apply rup_ev) <;> (first | assumption | omega))); (case' hk => rintro _ h' n' ⟨rfl, rfl, rfl⟩)) | ((with_reducible first | apply zo1 | apply zo2 | apply o_guard rfl | apply x_cond | apply k_e1 rfl | apply k_e2 rfl | apply k_e0 rfl | apply k_e3 rfl | apply k_e4 rfl); (case he => exact ez2 @min_far hmin); (try case hok => exact ezO); all_goals try (intro hb; (try simp only [hbs, reduceCtorEq] at hb); try exact ezX)) | ((with_reducible apply o_undef rfl); (case hb => exact ez0)))
        refine sw_row ezI rfl (by omega) (by simp (disch := first | assumption | omega | rfl | decide) only [go_sem, seval, tys, q4]; exact rfl) (iv_idA _ _) ezR ?_
        exact ⟨rfl, rfl, rfl⟩
end Go.Proofs.Ytkngdfbibffdcaa.Ce
namespace Go.Proofs.Ytkngdfbibffdcaa.Ce
open Go.RowKit
variable (k d cl : Nat) (h : Hp) (n : Nat)
theorem rsizes_ev (hk : 30000 ≤ k) (A : Option Addr) (T : List Tp) (c : Nat) (hT : TabH h n A T) (hl : T.length ≤ 32) (h0T : 0 < T.length) (hF : Fine T) :
    SQ k (d + 3) cl 10 [.slice A T.length c] h n fun v h' n' => v = .tuple ⟨[.slice (some ⟨n, 0, none⟩) T.length T.length, .slice (some ⟨n + 1, 0, none⟩) T.length T.length]⟩ ∧ h' = (h.set n (.row 3 false (iv (sz (eRow 1000000 T))))).set (n + 1) (.row 3 false (iv (al (eRow 1000000 T)))) ∧ n' = n + 1 + 1 := by
  refine enter Try.func10 (by kernel_rfl) rfl (by kernel_rfl) rfl rfl rfl ?_
  (repeat' first | refine zcd ?_ | intro K' hK | (with_reducible refine zn hK ?_; clear hK) | fail | ((with_reducible first | apply zo1 | apply zo2 | apply o_guard rfl | apply x_cond | apply k_e1 rfl | apply k_e2 rfl | apply k_e0 rfl | apply k_e3 rfl | apply k_e4 rfl); (case he => exact ez0); (try case hok => exact ezO); all_goals try (intro hb; (try simp only [hbs, reduceCtorEq] at hb); try exact ezX)) | ((with_reducible apply o_undef rfl); (case hb => exact ez0)))
  refine x_loopV [4, 5, 6, 7, 8, 9, 10, 11, 12, 13, 14, 15, 16, 17, 18, 19, 20, 21, 22, 23, 24, 25, 26, 27, 28, 29, 30, 31, 32, 33, 34, 35, 36, 37, 38, 39, 40, 41, 42, 43, 44, 45, 46, 47, 48, 49, 50, 51, 52, 53, 54, 55, 56, 57, 58, 59, 60, 61, 62, 63, 64, 65, 66, 67, 68, 69, 70, 71, 72] [4, 5, 6] (fun m vs h' n' => ∃ (i : Nat) (O1 O2 : Value), m = T.length - i ∧ i ≤ T.length ∧ vs = [O1, O2, .int .i64 i] ∧ n ≤ n' ∧ TabH h' n A T ∧
      ((i = 0 ∧ O1 = .slice none 0 0 ∧ O2 = .slice none 0 0) ∨ (0 < i ∧ ∃ id1 id2, n ≤ id1 ∧ id1 < n' ∧ n ≤ id2 ∧ id2 < n' ∧ id1 ≠ id2 ∧ O1 = .slice (some ⟨id1, 0, none⟩) i i ∧ O2 = .slice (some ⟨id2, 0, none⟩) i i ∧ rowOf h' id1 = some (3, false, iv (sz (eRow 1000000 (T.take i)))) ∧ rowOf h' id2 = some (3, false, iv (al (eRow 1000000 (T.take i))))))) T.length rfl (by omega) ?_ ?_
  · exact ⟨0, .slice none 0 0, .slice none 0 0, rfl, by omega, by simp (disch := first | assumption | omega | rfl | decide) only [go_sem, seval, tys] <;> rfl, by omega, hT, .inl ⟨rfl, rfl, rfl⟩⟩
  · rintro m g _ h' n' ⟨i, O1, O2, rfl, hi, rfl, hn, hT2, hO⟩
    by_cases hiT : i < T.length
    · obtain ⟨tid, toff, hA, htid, -, ht0, ht1, ht2, ht3⟩ := hT2.at_ hiT
      have hfine := hF i hiT
      have hEl := eRow_tlen 1000000 hi
      have hEok := eRow_ok (C := 1000000) (by omega) (by decide) hF i hi
      have hrt := eRow_take 1000000 hiT
      obtain ⟨t, htt⟩ : ∃ t, T[i] = t := ⟨_, rfl⟩
      have hmem : t ∈ T := by rw [← htt]; exact List.getElem_mem hiT
      have hfd2 := hT2.fd t hmem
      rw [htt] at ht0 ht1 ht2 ht3 hfine hrt
      have hkd := fine_kd hfine
      have hfl := fine_len hfine
      obtain ⟨E, hE⟩ : ∃ E, eRow 1000000 (T.take i) = E := ⟨_, rfl⟩
      rw [hE] at hEl hEok hrt hO
      have hrs : iv (sz (eRow 1000000 (T.take (i + 1)))) = iv (sz E) ++ [.int .i64 (eOne 1000000 E t).1] := by rw [hrt, sz_app, iv_app]; rfl
      have hra : iv (al (eRow 1000000 (T.take (i + 1)))) = iv (al E) ++ [.int .i64 (eOne 1000000 E t).2] := by rw [hrt, al_app, iv_app]; rfl
      have hts : (iv (sz E)).take i = iv (sz E) := List.take_of_length_le (by rw [iv_length, sz_length, hEl]; omega)
      have hta : (iv (al E)).take i = iv (al E) := List.take_of_length_le (by rw [iv_length, al_length, hEl]; omega)
      subst hA
      by_cases h1 : t.kd = 1
      · have hov := eOne_1 (C := 1000000) (E := E) h1
        rw [h1] at ht0
        rcases hO with ⟨rfl, rfl, rfl⟩ | ⟨h0, id1, id2, k1, k2, k3, k4, k5, rfl, rfl, q4, q5⟩
        · simp only [Nat.zero_mul, Nat.add_zero] at ht0 ht1 ht2 ht3
          have hn0 : E = [] := List.length_eq_zero_iff.1 hEl
          (repeat' first | refine zcd ?_ | intro K' hK | (with_reducible refine zn hK ?_; clear hK) | ((with_reducible apply o_ap0 (t := 36) apT36 w_none); (case hs => exact ez0); (case hy => exact ez0); (case hsrc => exact src_row (rowOf_same _ _ _ _ _) rfl); (case hc => exact rfl); (case hm => omega); (case h0 => omega)) | ((with_reducible first | apply zo1 | apply zo2 | apply o_guard rfl | apply x_cond | apply k_e1 rfl | apply k_e2 rfl | apply k_e0 rfl | apply k_e3 rfl | apply k_e4 rfl); (case he => exact ez4 ht0 ht1 ht2 ht3); (try case hok => exact ezO); all_goals try (intro hb; (try simp only [hbs, reduceCtorEq] at hb); try exact ezX)) | ((with_reducible apply o_undef rfl); (case hb => exact ez0)))
          refine k_round (T.length - 1) (by omega) ⟨1, .slice (some ⟨n' + 1, 0, none⟩) 1 1, .slice (some ⟨n' + 1 + 1 + 1, 0, none⟩) 1 1, rfl, by omega, by simp (disch := first | assumption | omega | rfl | decide) only [go_sem, seval, tys] <;> rfl, by omega, (ezT hT2), .inr ⟨by omega, n' + 1, n' + 1 + 1 + 1, by omega, by omega, by omega, by omega, by omega, rfl, rfl, ?_, ?_⟩⟩
          · rw [hrs, hov, hn0]; simp (disch := first | assumption | omega | rfl | decide) only [go_sem, seval, tys] <;> rfl
          · rw [hra, hov, hn0]; simp (disch := first | assumption | omega | rfl | decide) only [go_sem, seval, tys] <;> rfl
        · have w4 := rwOf_row q4
          have w5 := rwOf_row q5
          (repeat' first | refine zcd ?_ | intro K' hK | (with_reducible refine zn hK ?_; clear hK) | ((with_reducible apply o_apR (t := 36) apT36 w_none); (case hs => exact ez2 w4 w5); (case hy => exact ez2 w4 w5); (case hsrc => exact src_row (rowOf_same _ _ _ _ _) rfl); (case hr => exact ez2 w4 w5); (case hc => exact rfl); (case hm => omega); (case hli => omega); (case hln => omega); (case hcs => first | (rw [iv_length, sz_length, hEl]; omega) | (rw [iv_length, al_length, hEl]; omega))) | ((with_reducible first | apply zo1 | apply zo2 | apply o_guard rfl | apply x_cond | apply k_e1 rfl | apply k_e2 rfl | apply k_e0 rfl | apply k_e3 rfl | apply k_e4 rfl); (case he => exact ez4 ht0 ht1 ht2 ht3); (try case hok => exact ezO); all_goals try (intro hb; (try simp only [hbs, reduceCtorEq] at hb); try exact ezX)) | ((with_reducible apply o_undef rfl); (case hb => exact ez0)))
          refine k_round (T.length - (i + 1)) (by omega) ⟨i + 1, .slice (some ⟨n' + 1, 0, none⟩) (i + 1) (i + 1), .slice (some ⟨n' + 1 + 1 + 1, 0, none⟩) (i + 1) (i + 1), rfl, by omega, by simp (disch := first | assumption | omega | rfl | decide) only [go_sem, seval, tys] <;> rfl, by omega, (ezT hT2), .inr ⟨by omega, n' + 1, n' + 1 + 1 + 1, by omega, by omega, by omega, by omega, by omega, rfl, rfl, ?_, ?_⟩⟩
          · rw [hrs, hov]; simp (disch := first | assumption | omega | rfl | decide) only [go_sem, seval, tys, hts]
          · rw [hra, hov]; simp (disch := first | assumption | omega | rfl | decide) only [go_sem, seval, tys, hta]
      · by_cases h24 : t.kd = 2 ∨ t.kd = 4
        · have hov := eOne_24 (C := 1000000) (E := E) h24
          rcases h24 with h2 | h2
          all_goals
            rw [h2] at ht0
            rcases hO with ⟨rfl, rfl, rfl⟩ | ⟨h0, id1, id2, k1, k2, k3, k4, k5, rfl, rfl, q4, q5⟩
            · simp only [Nat.zero_mul, Nat.add_zero] at ht0 ht1 ht2 ht3
              have hn0 : E = [] := List.length_eq_zero_iff.1 hEl
              (repeat' first | refine zcd ?_ | intro K' hK | (with_reducible refine zn hK ?_; clear hK) | ((with_reducible apply o_ap0 (t := 36) apT36 w_none); (case hs => exact ez0); (case hy => exact ez0); (case hsrc => exact src_row (rowOf_same _ _ _ _ _) rfl); (case hc => exact rfl); (case hm => omega); (case h0 => omega)) | ((with_reducible first | apply zo1 | apply zo2 | apply o_guard rfl | apply x_cond | apply k_e1 rfl | apply k_e2 rfl | apply k_e0 rfl | apply k_e3 rfl | apply k_e4 rfl); (case he => exact ez4 ht0 ht1 ht2 ht3); (try case hok => exact ezO); all_goals try (intro hb; (try simp only [hbs, reduceCtorEq] at hb); try exact ezX)) | ((with_reducible apply o_undef rfl); (case hb => exact ez0)))
              refine k_round (T.length - 1) (by omega) ⟨1, .slice (some ⟨n' + 1, 0, none⟩) 1 1, .slice (some ⟨n' + 1 + 1 + 1, 0, none⟩) 1 1, rfl, by omega, by simp (disch := first | assumption | omega | rfl | decide) only [go_sem, seval, tys] <;> rfl, by omega, (ezT hT2), .inr ⟨by omega, n' + 1, n' + 1 + 1 + 1, by omega, by omega, by omega, by omega, by omega, rfl, rfl, ?_, ?_⟩⟩
              · rw [hrs, hov, hn0]; simp (disch := first | assumption | omega | rfl | decide) only [go_sem, seval, tys] <;> rfl
              · rw [hra, hov, hn0]; simp (disch := first | assumption | omega | rfl | decide) only [go_sem, seval, tys] <;> rfl
            · have w4 := rwOf_row q4
              have w5 := rwOf_row q5
              (repeat' first | refine zcd ?_ | intro K' hK | (with_reducible refine zn hK ?_; clear hK) | ((with_reducible apply o_apR (t := 36) apT36 w_none); (case hs => exact ez2 w4 w5); (case hy => exact ez2 w4 w5); (case hsrc => exact src_row (rowOf_same _ _ _ _ _) rfl); (case hr => exact ez2 w4 w5); (case hc => exact rfl); (case hm => omega); (case hli => omega); (case hln => omega); (case hcs => first | (rw [iv_length, sz_length, hEl]; omega) | (rw [iv_length, al_length, hEl]; omega))) | ((with_reducible first | apply zo1 | apply zo2 | apply o_guard rfl | apply x_cond | apply k_e1 rfl | apply k_e2 rfl | apply k_e0 rfl | apply k_e3 rfl | apply k_e4 rfl); (case he => exact ez4 ht0 ht1 ht2 ht3); (try case hok => exact ezO); all_goals try (intro hb; (try simp only [hbs, reduceCtorEq] at hb); try exact ezX)) | ((with_reducible apply o_undef rfl); (case hb => exact ez0)))
              refine k_round (T.length - (i + 1)) (by omega) ⟨i + 1, .slice (some ⟨n' + 1, 0, none⟩) (i + 1) (i + 1), .slice (some ⟨n' + 1 + 1 + 1, 0, none⟩) (i + 1) (i + 1), rfl, by omega, by simp (disch := first | assumption | omega | rfl | decide) only [go_sem, seval, tys] <;> rfl, by omega, (ezT hT2), .inr ⟨by omega, n' + 1, n' + 1 + 1 + 1, by omega, by omega, by omega, by omega, by omega, rfl, rfl, ?_, ?_⟩⟩
              · rw [hrs, hov]; simp (disch := first | assumption | omega | rfl | decide) only [go_sem, seval, tys, hts]
              · rw [hra, hov]; simp (disch := first | assumption | omega | rfl | decide) only [go_sem, seval, tys, hta]
        · by_cases h3 : t.kd = 3
          · have hov := eOne_3 (C := 1000000) (E := E) h3
            rw [h3] at ht0
            rcases hO with ⟨rfl, rfl, rfl⟩ | ⟨h0, id1, id2, k1, k2, k3, k4, k5, rfl, rfl, q4, q5⟩
            · simp only [Nat.zero_mul, Nat.add_zero] at ht0 ht1 ht2 ht3
              have hn0 : E = [] := List.length_eq_zero_iff.1 hEl
              (repeat' first | refine zcd ?_ | intro K' hK | (with_reducible refine zn hK ?_; clear hK) | ((with_reducible apply o_ap0 (t := 36) apT36 w_none); (case hs => exact ez0); (case hy => exact ez0); (case hsrc => exact src_row (rowOf_same _ _ _ _ _) rfl); (case hc => exact rfl); (case hm => omega); (case h0 => omega)) | ((with_reducible first | apply zo1 | apply zo2 | apply o_guard rfl | apply x_cond | apply k_e1 rfl | apply k_e2 rfl | apply k_e0 rfl | apply k_e3 rfl | apply k_e4 rfl); (case he => exact ez4 ht0 ht1 ht2 ht3); (try case hok => exact ezO); all_goals try (intro hb; (try simp only [hbs, reduceCtorEq] at hb); try exact ezX)) | ((with_reducible apply o_undef rfl); (case hb => exact ez0)))
              refine k_round (T.length - 1) (by omega) ⟨1, .slice (some ⟨n' + 1, 0, none⟩) 1 1, .slice (some ⟨n' + 1 + 1 + 1, 0, none⟩) 1 1, rfl, by omega, by simp (disch := first | assumption | omega | rfl | decide) only [go_sem, seval, tys] <;> rfl, by omega, (ezT hT2), .inr ⟨by omega, n' + 1, n' + 1 + 1 + 1, by omega, by omega, by omega, by omega, by omega, rfl, rfl, ?_, ?_⟩⟩
              · rw [hrs, hov, hn0]; simp (disch := first | assumption | omega | rfl | decide) only [go_sem, seval, tys] <;> rfl
              · rw [hra, hov, hn0]; simp (disch := first | assumption | omega | rfl | decide) only [go_sem, seval, tys] <;> rfl
            · have w4 := rwOf_row q4
              have w5 := rwOf_row q5
              (repeat' first | refine zcd ?_ | intro K' hK | (with_reducible refine zn hK ?_; clear hK) | ((with_reducible apply o_apR (t := 36) apT36 w_none); (case hs => exact ez2 w4 w5); (case hy => exact ez2 w4 w5); (case hsrc => exact src_row (rowOf_same _ _ _ _ _) rfl); (case hr => exact ez2 w4 w5); (case hc => exact rfl); (case hm => omega); (case hli => omega); (case hln => omega); (case hcs => first | (rw [iv_length, sz_length, hEl]; omega) | (rw [iv_length, al_length, hEl]; omega))) | ((with_reducible first | apply zo1 | apply zo2 | apply o_guard rfl | apply x_cond | apply k_e1 rfl | apply k_e2 rfl | apply k_e0 rfl | apply k_e3 rfl | apply k_e4 rfl); (case he => exact ez4 ht0 ht1 ht2 ht3); (try case hok => exact ezO); all_goals try (intro hb; (try simp only [hbs, reduceCtorEq] at hb); try exact ezX)) | ((with_reducible apply o_undef rfl); (case hb => exact ez0)))
              refine k_round (T.length - (i + 1)) (by omega) ⟨i + 1, .slice (some ⟨n' + 1, 0, none⟩) (i + 1) (i + 1), .slice (some ⟨n' + 1 + 1 + 1, 0, none⟩) (i + 1) (i + 1), rfl, by omega, by simp (disch := first | assumption | omega | rfl | decide) only [go_sem, seval, tys] <;> rfl, by omega, (ezT hT2), .inr ⟨by omega, n' + 1, n' + 1 + 1 + 1, by omega, by omega, by omega, by omega, by omega, rfl, rfl, ?_, ?_⟩⟩
              · rw [hrs, hov]; simp (disch := first | assumption | omega | rfl | decide) only [go_sem, seval, tys, hts]
              · rw [hra, hov]; simp (disch := first | assumption | omega | rfl | decide) only [go_sem, seval, tys, hta]
          · by_cases h7 : t.kd = 7
            · have hov := eOne_7 (C := 1000000) (E := E) h7
              rw [h7] at ht0
              rcases hO with ⟨rfl, rfl, rfl⟩ | ⟨h0, id1, id2, k1, k2, k3, k4, k5, rfl, rfl, q4, q5⟩
              · simp only [Nat.zero_mul, Nat.add_zero] at ht0 ht1 ht2 ht3
                have hn0 : E = [] := List.length_eq_zero_iff.1 hEl
                (repeat' first | refine zcd ?_ | intro K' hK | (with_reducible refine zn hK ?_; clear hK) | ((with_reducible apply o_ap0 (t := 36) apT36 w_none); (case hs => exact ez0); (case hy => exact ez0); (case hsrc => exact src_row (rowOf_same _ _ _ _ _) rfl); (case hc => exact rfl); (case hm => omega); (case h0 => omega)) | ((with_reducible first | apply zo1 | apply zo2 | apply o_guard rfl | apply x_cond | apply k_e1 rfl | apply k_e2 rfl | apply k_e0 rfl | apply k_e3 rfl | apply k_e4 rfl); (case he => exact ez4 ht0 ht1 ht2 ht3); (try case hok => exact ezO); all_goals try (intro hb; (try simp only [hbs, reduceCtorEq] at hb); try exact ezX)) | ((with_reducible apply o_undef rfl); (case hb => exact ez0)))
                refine k_round (T.length - 1) (by omega) ⟨1, .slice (some ⟨n' + 1, 0, none⟩) 1 1, .slice (some ⟨n' + 1 + 1 + 1, 0, none⟩) 1 1, rfl, by omega, by simp (disch := first | assumption | omega | rfl | decide) only [go_sem, seval, tys] <;> rfl, by omega, (ezT hT2), .inr ⟨by omega, n' + 1, n' + 1 + 1 + 1, by omega, by omega, by omega, by omega, by omega, rfl, rfl, ?_, ?_⟩⟩
                · rw [hrs, hov, hn0]; simp (disch := first | assumption | omega | rfl | decide) only [go_sem, seval, tys] <;> rfl
                · rw [hra, hov, hn0]; simp (disch := first | assumption | omega | rfl | decide) only [go_sem, seval, tys] <;> rfl
              · have w4 := rwOf_row q4
                have w5 := rwOf_row q5
                (repeat' first | refine zcd ?_ | intro K' hK | (with_reducible refine zn hK ?_; clear hK) | ((with_reducible apply o_apR (t := 36) apT36 w_none); (case hs => exact ez2 w4 w5); (case hy => exact ez2 w4 w5); (case hsrc => exact src_row (rowOf_same _ _ _ _ _) rfl); (case hr => exact ez2 w4 w5); (case hc => exact rfl); (case hm => omega); (case hli => omega); (case hln => omega); (case hcs => first | (rw [iv_length, sz_length, hEl]; omega) | (rw [iv_length, al_length, hEl]; omega))) | ((with_reducible first | apply zo1 | apply zo2 | apply o_guard rfl | apply x_cond | apply k_e1 rfl | apply k_e2 rfl | apply k_e0 rfl | apply k_e3 rfl | apply k_e4 rfl); (case he => exact ez4 ht0 ht1 ht2 ht3); (try case hok => exact ezO); all_goals try (intro hb; (try simp only [hbs, reduceCtorEq] at hb); try exact ezX)) | ((with_reducible apply o_undef rfl); (case hb => exact ez0)))
                refine k_round (T.length - (i + 1)) (by omega) ⟨i + 1, .slice (some ⟨n' + 1, 0, none⟩) (i + 1) (i + 1), .slice (some ⟨n' + 1 + 1 + 1, 0, none⟩) (i + 1) (i + 1), rfl, by omega, by simp (disch := first | assumption | omega | rfl | decide) only [go_sem, seval, tys] <;> rfl, by omega, (ezT hT2), .inr ⟨by omega, n' + 1, n' + 1 + 1 + 1, by omega, by omega, by omega, by omega, by omega, rfl, rfl, ?_, ?_⟩⟩
                · rw [hrs, hov]; simp (disch := first | assumption | omega | rfl | decide) only [go_sem, seval, tys, hts]
                · rw [hra, hov]; simp (disch := first | assumption | omega | rfl | decide) only [go_sem, seval, tys, hta]
            · by_cases h6 : t.kd = 6
              · have hov := eOne_6 (C := 1000000) (E := E) h6
                have har := fine_arr hfine h6
                obtain ⟨j, hj⟩ := Int.eq_ofNat_of_zero_le har.1
                rw [hj] at hov har ht1
                have hgs := sz_get (E := E) (j := j) (by omega)
                obtain ⟨g1, g2⟩ := hgs
                obtain ⟨b1, b2, b3⟩ := Ext.at_mem hEok (i := (j : Int)) har.1 (by omega)
                have hmul : 0 ≤ t.ln * (E.at_ (j : Int)).1 ∧ t.ln * (E.at_ (j : Int)).1 ≤ 16 * 1000000 := ⟨Int.mul_nonneg (by omega) b1, Int.mul_le_mul har.2.2.2 b2 b1 (by omega)⟩
                rw [h6] at ht0
                rcases hO with ⟨h0, -, -⟩ | ⟨h0, id1, id2, k1, k2, k3, k4, k5, rfl, rfl, q4, q5⟩
                · omega
                · have w4 := rwOf_row q4
                  have w5 := rwOf_row q5
                  have e4 := fun o => cellAt_row (off := o) q4
                  have e5 := fun o => cellAt_row (off := o) q5
                  (repeat' first | refine zcd ?_ | intro K' hK | (with_reducible refine zn hK ?_; clear hK) | (with_reducible refine x_drawnD (id := 14) [(4, 10), (4, 12), (4, 20), (10, 20), (12, 20), (4, 22), (10, 22), (12, 22)] (by kernel_rfl) fun K' hK => ?_) | ((with_reducible apply d_nil); (case hp => exact ezP); (case' hx => (refine hK _ _ _ ?_; clear hK))) | ((with_reducible apply d_pure w_none); (case hp => exact rfl); (case hc => exact rfl); (case he => exact ez9 ht0 ht1 ht2 ht3 e4 e5 g1 g2 @min_far)) | ((with_reducible apply d_eff w_none); (case hc => exact rfl); (case he => exact ez9 ht0 ht1 ht2 ht3 e4 e5 g1 g2 @min_far); (case hok => exact ezO)) | ((with_reducible apply d_guard rfl); (case hb => exact ez9 ht0 ht1 ht2 ht3 e4 e5 g1 g2 @min_far); (case' h1 => intro hb; (try simp only [hbs, reduceCtorEq] at hb); try exact ezX); (case' h2 => intro hb; (try simp only [hbs, reduceCtorEq] at hb); try exact ezX)) | ((with_reducible apply o_apR (t := 36) apT36 w_none); (case hs => exact ez2 w4 w5); (case hy => exact ez2 w4 w5); (case hsrc => exact src_row (rowOf_same _ _ _ _ _) rfl); (case hr => exact ez2 w4 w5); (case hc => exact rfl); (case hm => omega); (case hli => omega); (case hln => omega); (case hcs => first | (rw [iv_length, sz_length, hEl]; omega) | (rw [iv_length, al_length, hEl]; omega))) | ((with_reducible first | apply zo1 | apply zo2 | apply o_guard rfl | apply x_cond | apply k_e1 rfl | apply k_e2 rfl | apply k_e0 rfl | apply k_e3 rfl | apply k_e4 rfl); (case he => exact ez9 ht0 ht1 ht2 ht3 e4 e5 g1 g2 @min_far); (try case hok => exact ezO); all_goals try (intro hb; (try simp only [hbs, reduceCtorEq] at hb); try exact ezX)) | ((with_reducible apply o_undef rfl); (case hb => exact ez0)))
                  refine k_round (T.length - (i + 1)) (by omega) ⟨i + 1, .slice (some ⟨n' + 1, 0, none⟩) (i + 1) (i + 1), .slice (some ⟨n' + 1 + 1 + 1, 0, none⟩) (i + 1) (i + 1), rfl, by omega, by simp (disch := first | assumption | omega | rfl | decide) only [go_sem, seval, tys] <;> rfl, by omega, (ezT hT2), .inr ⟨by omega, n' + 1, n' + 1 + 1 + 1, by omega, by omega, by omega, by omega, by omega, rfl, rfl, ?_, ?_⟩⟩
                  · rw [hrs, hov]; simp (disch := first | assumption | omega | rfl | decide) only [go_sem, seval, tys, hts]
                  · rw [hra, hov]; simp (disch := first | assumption | omega | rfl | decide) only [go_sem, seval, tys, hta]
              · have h5 : t.kd = 5 := by omega
                have hov := eOne_5 (C := 1000000) (E := E) h5
                have hfs0 : t.fs ≠ [] := fun hz => by
                  have := hfine
                  rw [fineB_5 h5, hz] at this
                  simp at this
                have hfr : ∀ f ∈ t.fs, 0 ≤ f.2 ∧ f.2 < i := fun f hf => by
                  obtain ⟨q, hq, rfl⟩ := List.getElem_of_mem hf
                  exact fine_fld hfine hq
                have hfo : FOk 1000000 E t.fs := fine_fok hEok (m := T.length) (by rw [hEl]; exact hfine)
                obtain ⟨fs, hfs⟩ : ∃ fs, t.fs = fs := ⟨_, rfl⟩
                rw [hfs] at hov hfr hfo hfd2 hfl hfs0 ht3
                have hxo : ∀ f ∈ fs, 0 ≤ f.2 ∧ f.2 < E.length := fun f hf => by have := hfr f hf; omega
                have hfp : 0 < fs.length := List.length_pos_iff.2 hfs0
                rw [h5] at ht0
                rcases hO with ⟨h0, -, -⟩ | ⟨h0, id1, id2, k1, k2, k3, k4, k5, rfl, rfl, q4, q5⟩
                · have := hfr fs[0] (List.getElem_mem hfp); omega
                · have w4 := rwOf_row q4
                  have w5 := rwOf_row q5
                  (repeat' first | refine zcd ?_ | intro K' hK | (with_reducible refine zn hK ?_; clear hK) | ((with_reducible apply o_callF (g := 32) w_none); (case ha => exact ez0); (case hs => (((with_reducible apply rtog_ev (E := E) (fs := fs)); (case hk => exact hk); (case hm => exact hEl.symm); (case h0 => exact hfs0); (case hs => exact RdH.ofRow q4 (by omega)); (case ha => exact RdH.ofRow q5 (by omega)); (case hr => exact hfd2.more (by omega)); (case hl2 => omega); (case hf => exact hfo); (case hx => exact hxo)))); (case' hk => rintro _ h' n' ⟨rfl, rfl, rfl⟩)) | ((with_reducible apply o_apR (t := 36) apT36 w_none); (case hs => exact ez2 w4 w5); (case hy => exact ez2 w4 w5); (case hsrc => exact src_row (rowOf_same _ _ _ _ _) rfl); (case hr => exact ez2 w4 w5); (case hc => exact rfl); (case hm => omega); (case hli => omega); (case hln => omega); (case hcs => first | (rw [iv_length, sz_length, hEl]; omega) | (rw [iv_length, al_length, hEl]; omega))) | ((with_reducible first | apply zo1 | apply zo2 | apply o_guard rfl | apply x_cond | apply k_e1 rfl | apply k_e2 rfl | apply k_e0 rfl | apply k_e3 rfl | apply k_e4 rfl); (case he => exact ez4 ht0 ht1 ht2 ht3); (try case hok => exact ezO); all_goals try (intro hb; (try simp only [hbs, reduceCtorEq] at hb); try exact ezX)) | ((with_reducible apply o_undef rfl); (case hb => exact ez0)))
                  refine k_round (T.length - (i + 1)) (by omega) ⟨i + 1, .slice (some ⟨n' + 1 + 1, 0, none⟩) (i + 1) (i + 1), .slice (some ⟨n' + 1 + 1 + 1 + 1, 0, none⟩) (i + 1) (i + 1), rfl, by omega, by simp (disch := first | assumption | omega | rfl | decide) only [go_sem, seval, tys] <;> rfl, by omega, (ezT hT2), .inr ⟨by omega, n' + 1 + 1, n' + 1 + 1 + 1 + 1, by omega, by omega, by omega, by omega, by omega, rfl, rfl, ?_, ?_⟩⟩
                  · rw [hrs, hov]; simp (disch := first | assumption | omega | rfl | decide) only [go_sem, seval, tys, hts]
                  · rw [hra, hov]; simp (disch := first | assumption | omega | rfl | decide) only [go_sem, seval, tys, hta]
    · obtain rfl : i = T.length := by omega
      rcases hO with ⟨h0, -, -⟩ | ⟨h0, id1, id2, k1, k2, k3, k4, k5, rfl, rfl, q4, q5⟩
      · omega
      · rw [List.take_length] at q4 q5
        (repeat' first | refine zcd ?_ | intro K' hK | (with_reducible refine zn hK ?_; clear hK) | fail | ((with_reducible first | apply zo1 | apply zo2 | apply o_guard rfl | apply x_cond | apply k_e1 rfl | apply k_e2 rfl | apply k_e0 rfl | apply k_e3 rfl | apply k_e4 rfl); (case he => exact ez0); (try case hok => exact ezO); all_goals try (intro hb; (try simp only [hbs, reduceCtorEq] at hb); try exact ezX)) | ((with_reducible apply o_undef rfl); (case hb => exact ez0)))
        refine sw_row2 (m1 := id1) (m2 := id2) ezI k5 rfl (by omega) (by omega) (by simp (disch := first | assumption | omega | rfl | decide) only [go_sem, seval, tys, q4]; exact rfl) (by simp (disch := first | assumption | omega | rfl | decide) only [go_sem, seval, tys, q5]; exact rfl) (iv_idA _ _) (iv_idA _ _) (by simp only [reV_tuple, reV1_slice, List.map_cons, List.map_nil, reN_one, reN_two k5]; exact rfl) ?_
        exact ⟨rfl, rfl, rfl⟩
end Go.Proofs.Ytkngdfbibffdcaa.Ce
