/- Parts of the proof of ValueElsewhere: Gk. No condition of its own. -/
import Derived.Test.YtcpkdjikembpnaaVeaq
set_option linter.unusedVariables false
set_option linter.unusedSimpArgs false
set_option maxRecDepth 100000
set_option maxHeartbeats 4000000
namespace Go.Proofs.Ytcpkdjikembpnaa.Ce
open Go.RowKit
def LdW (kd : Int) (r : Except Int V) (h : Hp) (n : Nat) (v : Value) (h' : Hp) (n' : Nat) : Prop := match r with
  | .error e => v = .tuple ⟨[.agg ⟨vcell kd 0 [] none 0 0 false⟩, .int .i64 e]⟩ ∧ e ≠ 0 ∧ h' = h ∧ n' = n
  | .ok x => ∃ cs, v = .tuple ⟨[.agg ⟨cs⟩, .int .i64 0]⟩ ∧ FH h' n n' x cs ∧ n ≤ n' ∧ ∀ b, b < n → h'.get b = h.get b
theorem zip_rep (el z : Int) (m : Nat) : (List.replicate m el).zip ((List.range m).map fun (i : Nat) => (i : Int) * z) = (List.range m).map fun (i : Nat) => (el, (i : Int) * z) := by
  refine List.ext_getElem (by simp) fun j h1 h2 => ?_
  simp
theorem RgH.keep {h h' : Hp} {B n : Nat} {A : Option Addr} {L : List Rg} (hr : RgH h B A L) (hB : B ≤ n) (hk : ∀ b, b < n → h'.get b = h.get b) : RgH h' B A L := ⟨hr.rd.keep hB hk, fun g hg => (hr.fd g hg).keep hB hk, hr.nl, hr.bd, hr.ln⟩
variable (k d cl : Nat) (h : Hp) (n : Nat)
theorem mfollow_ev (hk : 30000 ≤ k) (TA A : Option Addr) (T : List Tp) (L : List Rg) (tc gc : Nat) (hT : TabH h n TA T) (hS : ∀ t ∈ T, t.fs.length ≤ 20000) (hm : T.length ≤ 9223372036854775807) (hR : RgH h n A L) (hl : L.length ≤ 100) (hE : lstE L = 0) (hC : ∀ g ∈ L, chkG g = 0) (x : Tp) (hkd : 0 ≤ x.kd ∧ x.kd < 256) (y : Nat) (hy : x.el = (y : Int)) (ho : OkV T y) (a : Int) (ha0 : 0 ≤ a) (ha1 : a < 18446744073709551616) (nn most dp : Nat) (hnm : nn ≤ most) (hm16 : most ≤ 16) (hdp : dp ≤ 3) (g : Nat → List UInt8 → Nat → Except Int V)
    (ih : 1 ≤ dp → ∀ (cl : Nat) (h6 : Hp) (n6 : Nat) (bid boff m c : Nat) (bs : List UInt8), TabH h6 n6 TA T → RgH h6 n6 A L → m = bs.length → RdH h6 n6 (some ⟨bid, boff, none⟩) (bv bs) → sizT T y ≤ bs.length → bs.length ≤ 20000 →
      SQ k (d + 10) cl 40 [.agg ⟨[.slice TA T.length tc, .slice A L.length gc]⟩, .slice (some ⟨bid, boff, none⟩) m c, .int .i64 (y : Int), .int .i64 ((dp - 1 : Nat) : Int)] h6 n6 (LdV (g (dp - 1) bs y) h6 n6)) :
    SQ k (d + 12) cl 68 [.agg ⟨[.slice TA T.length tc, .slice A L.length gc]⟩, .int .u64 a, .agg ⟨[.int .u8 x.kd, .int .i64 x.el, .int .i64 x.ln, .slice x.A x.fs.length x.c]⟩, .int .i64 nn, .int .i64 most, .int .i64 dp] h n (LdW x.kd (folP g T L x a nn most dp) h n) := by
  obtain ⟨z, hz⟩ : ∃ z, sizT T y = z := ⟨_, rfl⟩
  have hzb := ho.bnd
  have hzp := siz_pos (y + 1) ho (by omega)
  rw [hz] at hzb hzp
  have hmu : 0 ≤ z * (most : Int) ∧ z * (most : Int) ≤ 256 * 16 := ⟨Int.mul_nonneg hzb.1 (by omega), Int.mul_le_mul hzb.2 (by omega) (by omega) (by omega)⟩
  obtain ⟨w, hw⟩ := Int.eq_ofNat_of_zero_le hmu.1
  have hfolw : folP g T L x a nn most dp = match findB L a w with
      | none => .error 16
      | some b => if nn = 0 then .ok (.mk x.kd 0 [] [] false) else if dp = 0 then .ok (.mk x.kd 0 [] [] true)
        else asV x.kd (listP (g (dp - 1)) b ((List.range nn).map fun (i : Nat) => ((y : Int), (i : Int) * z))) := by
    unfold folP
    rw [hy, Int.toNat_natCast, hz, hw, Int.toNat_natCast]
    rfl
  rw [hfolw]
  obtain ⟨kd, el, ln, fs, FA, fc⟩ := x
  dsimp only at hkd hy ⊢
  subst hy
  have hw16 : w ≤ 4096 := by omega
  have qs := fun (h6 : Hp) (n6 : Nat) (hT6 : TabH h6 n6 TA T) => (vsize_ev k (d + 2) n h6 n6 hk TA T tc hT6 hS hm y ho).mono (Φ' := fun v h' n' => v = .int .i64 z ∧ h6 = h' ∧ n6 = n') fun _ _ _ hp => ⟨by rw [hp.1, hz], hp.2.1.symm, hp.2.2.symm⟩
  cases hf : findB L a w with
  | none =>
    dsimp only
    have qf := fun (h6 : Hp) (n6 : Nat) (hR6 : RgH h6 n6 A L) => (mfind_no k (d + 4) n h6 n6 hk TA T.length tc A L gc hR6 hl hE a w ha0 ha1 (by omega) hf).mono (Φ' := fun v h' n' => v = .tuple ⟨[.slice none 0 0, .int .i64 16]⟩ ∧ h6 = h' ∧ n6 = n') fun _ _ _ hp => ⟨hp.1, hp.2.1.symm, hp.2.2.symm⟩
    refine enter Try.func68 (by kernel_rfl) rfl (by kernel_rfl) rfl rfl rfl ?_
    (repeat' first | refine zcd ?_ | intro K' hK | (with_reducible refine zn hK ?_; clear hK) | ((with_reducible apply o_callF (g := 84) w_none); (case ha => exact ez0); (case hs => ((with_reducible apply qs); exact ezT hT)); (case' hk => rintro _ h' n' ⟨rfl, rfl, rfl⟩)) | ((with_reducible apply o_callF (g := 101) w_none); (case ha => exact ez0); (case hs => ((with_reducible apply qf); exact ezG hR)); (case' hk => rintro _ h' n' ⟨rfl, rfl, rfl⟩)) | ((with_reducible first | apply zo1 | apply zo2 | apply o_guard rfl | apply x_cond | apply k_e1 rfl | apply k_e2 rfl | apply k_e0 rfl | apply k_e3 rfl | apply k_e4 rfl); (case he => exact ez1 hw); (try case hok => exact ezO); all_goals try (intro hb; (try simp only [hbs, reduceCtorEq] at hb); try exact ezX)) | ((with_reducible apply o_undef rfl); (case hb => exact ez0)))
    all_goals exact sw_flat rfl rfl ⟨rfl, by decide, rfl, rfl⟩
  | some ys =>
    have hyl := findB_len hf
    dsimp only
    have qf := fun (h6 : Hp) (n6 : Nat) (hR6 : RgH h6 n6 A L) => mfind_ok k (d + 4) n h6 n6 hk TA T.length tc A L gc hR6 hl hE hC a w ha0 ha1 (by omega) ys hf
    by_cases hn0 : nn = 0
    · subst hn0
      rw [if_pos rfl]
      refine enter Try.func68 (by kernel_rfl) rfl (by kernel_rfl) rfl rfl rfl ?_
      (repeat' first | refine zcd ?_ | intro K' hK | (with_reducible refine zn hK ?_; clear hK) | ((with_reducible apply o_callF (g := 84) w_none); (case ha => exact ez0); (case hs => ((with_reducible apply qs); exact ezT hT)); (case' hk => rintro _ h' n' ⟨rfl, rfl, rfl⟩)) | ((with_reducible apply o_callF (g := 101) w_none); (case ha => exact ez0); (case hs => ((with_reducible apply qf); exact ezG hR)); (case' hk => rintro _ h' n' ⟨rfl, rfl, rfl⟩)) | ((with_reducible first | apply zo1 | apply zo2 | apply o_guard rfl | apply x_cond | apply k_e1 rfl | apply k_e2 rfl | apply k_e0 rfl | apply k_e3 rfl | apply k_e4 rfl); (case he => exact ez1 hw); (try case hok => exact ezO); all_goals try (intro hb; (try simp only [hbs, reduceCtorEq] at hb); try exact ezX)) | ((with_reducible apply o_undef rfl); (case hb => exact ez0)))
      all_goals exact sw_flat rfl rfl ⟨_, rfl, .leaf kd 0 [] false, Nat.le_refl _, fun _ _ => rfl⟩
    · rw [if_neg hn0]
      by_cases hd0 : dp = 0
      · subst hd0
        rw [if_pos rfl]
        refine enter Try.func68 (by kernel_rfl) rfl (by kernel_rfl) rfl rfl rfl ?_
        (repeat' first | refine zcd ?_ | intro K' hK | (with_reducible refine zn hK ?_; clear hK) | ((with_reducible apply o_callF (g := 84) w_none); (case ha => exact ez0); (case hs => ((with_reducible apply qs); exact ezT hT)); (case' hk => rintro _ h' n' ⟨rfl, rfl, rfl⟩)) | ((with_reducible apply o_callF (g := 101) w_none); (case ha => exact ez0); (case hs => ((with_reducible apply qf); exact ezG hR)); (case' hk => rintro _ h' n' ⟨rfl, rfl, rfl⟩)) | ((with_reducible first | apply zo1 | apply zo2 | apply o_guard rfl | apply x_cond | apply k_e1 rfl | apply k_e2 rfl | apply k_e0 rfl | apply k_e3 rfl | apply k_e4 rfl); (case he => exact ez1 hw); (try case hok => exact ezO); all_goals try (intro hb; (try simp only [hbs, reduceCtorEq] at hb); try exact ezX)) | ((with_reducible apply o_undef rfl); (case hb => exact ez0)))
        all_goals exact sw_flat rfl rfl ⟨_, rfl, .leaf kd 0 [] true, Nat.le_refl _, fun _ _ => rfl⟩
      · rw [if_neg hd0]
        refine enter Try.func68 (by kernel_rfl) rfl (by kernel_rfl) rfl rfl rfl ?_
        (repeat' first | refine zcd ?_ | intro K' hK | (with_reducible refine zn hK ?_; clear hK) | ((with_reducible apply o_callF (g := 84) w_none); (case ha => exact ez0); (case hs => ((with_reducible apply qs); exact ezT hT)); (case' hk => rintro _ h' n' ⟨rfl, rfl, rfl⟩)) | ((with_reducible apply o_callF (g := 101) w_none); (case ha => exact ez0); (case hs => ((with_reducible apply qf); exact ezG hR)); (case' hk => rintro _ h' n' ⟨rfl, rfl, rfl⟩)) | ((with_reducible first | apply zo1 | apply zo2 | apply o_guard rfl | apply x_cond | apply k_e1 rfl | apply k_e2 rfl | apply k_e0 rfl | apply k_e3 rfl | apply k_e4 rfl); (case he => exact ez1 hw); (try case hok => exact ezO); all_goals try (intro hb; (try simp only [hbs, reduceCtorEq] at hb); try exact ezX)) | ((with_reducible apply o_undef rfl); (case hb => exact ez0)))
        have hzq : ∀ q : Nat, q < nn → 0 ≤ (q : Int) * z ∧ (q : Int) * z + z ≤ w := fun q hq => by
          have h1 : ((q : Int) + 1) * z ≤ (most : Int) * z := Int.mul_le_mul_of_nonneg_right (by omega) hzb.1
          rw [Int.add_mul, Int.one_mul, Int.mul_comm (most : Int) z, hw] at h1
          exact ⟨Int.mul_nonneg (by omega) hzb.1, h1⟩
        have hdp1 : (dp : Int) - 1 = ((dp - 1 : Nat) : Int) := by omega
        refine x_loopV [18, 19, 20, 51, 52, 53, 54, 55, 56, 57, 58, 59, 60, 61, 62, 63, 64, 65] [18, 19, 51] (fun r vs h5 n5 => ∃ (q : Nat) (OP OQ : Value), r = nn - q ∧ q ≤ nn ∧ vs = [OP, OQ, .int .i64 q] ∧ n + 5 ≤ n5 ∧ (∀ b, b < n → h5.get b = h.get b) ∧
          rowOf h5 n = some (78, false, [.slice TA T.length tc, .slice A L.length gc]) ∧ rowOf h5 (n + 1) = some (64, false, [.int .u8 kd, .int .i64 (y : Int), .int .i64 ln, .slice FA fs.length fc]) ∧ rowOf h5 (n + 2) = some (32, false, vcell 0 0 [] none 0 0 false) ∧
          rowOf h5 (n + 3) = some (5, false, bv ys) ∧ rowOf h5 (n + 4) = some (32, false, vcell kd 0 [] none 0 0 false) ∧
          ((q = 0 ∧ OP = .slice none 0 0 ∧ OQ = .slice none 0 0) ∨ (0 < q ∧ ∃ i1 i2, n + 5 ≤ i1 ∧ i1 < n5 ∧ n + 5 ≤ i2 ∧ i2 < n5 ∧ i1 ≠ i2 ∧ OP = .slice (some ⟨i1, 0, none⟩) q q ∧ OQ = .slice (some ⟨i2, 0, none⟩) q q ∧
            rowOf h5 i1 = some (3, false, iv (List.replicate q (y : Int))) ∧ rowOf h5 i2 = some (3, false, iv ((List.range q).map fun (i : Nat) => (i : Int) * z))))) nn rfl (by omega) ?_ ?_
        · exact ⟨0, _, _, rfl, by omega, ez0, by omega, ezN, ez0, ez0, ez0, ez0, ez0, .inl ⟨rfl, rfl, rfl⟩⟩
        · rintro r g1 _ h5 n5 ⟨q, OP, OQ, rfl, hq, rfl, hn5, hkp, r6, r8, r12, rY, r17, hO⟩
          have f6 := cellsAt_row (off := 0) (k := 2) r6
          have f8 := cellAt_row (off := 1) r8
          by_cases hqn : q < nn
          · have hqz := hzq q hqn
            obtain ⟨qz, hqze⟩ : ∃ qz, (q : Int) * z = qz := ⟨_, rfl⟩
            rw [hqze] at hqz
            have hrep : List.replicate (q + 1) (y : Int) = List.replicate q (y : Int) ++ [(y : Int)] := by rw [List.replicate_succ']
            have hran : (List.range (q + 1)).map (fun (i : Nat) => (i : Int) * z) = (List.range q).map (fun (i : Nat) => (i : Int) * z) ++ [qz] := by rw [List.range_succ, List.map_append, ← hqze]; rfl
            rcases hO with ⟨rfl, rfl, rfl⟩ | ⟨hq0, i1, i2, j1, j2, j3, j4, j5, rfl, rfl, q1, q2⟩
            · (repeat' first | refine zcd ?_ | intro K' hK | (with_reducible refine zn hK ?_; clear hK) | ((with_reducible apply o_ap0 (t := 99) apT99 w_none); (case hs => exact ez0); (case hy => exact ez0); (case hsrc => exact src_row (rowOf_same _ _ _ _ _) rfl); (case hc => exact rfl); (case hm => omega); (case h0 => omega)) | ((with_reducible first | apply zo1 | apply zo2 | apply o_guard rfl | apply x_cond | apply k_e1 rfl | apply k_e2 rfl | apply k_e0 rfl | apply k_e3 rfl | apply k_e4 rfl); (case he => exact ez2 f8 hqze); (try case hok => exact ezO); all_goals try (intro hb; (try simp only [hbs, reduceCtorEq] at hb); try exact ezX)) | ((with_reducible apply o_undef rfl); (case hb => exact ez0)))
              refine k_round (nn - 1) (by omega) ⟨1, .slice (some ⟨n5 + 1, 0, none⟩) 1 1, .slice (some ⟨n5 + 1 + 1 + 1, 0, none⟩) 1 1, rfl, by omega, ez0, by omega, (ezB hkp), (ezW r6), (ezW r8), (ezW r12), (ezW rY), (ezW r17), .inr ⟨by omega, n5 + 1, n5 + 1 + 1 + 1, by omega, by omega, by omega, by omega, by omega, rfl, rfl, by rw [rowOf_ne _ _ (by omega), rowOf_ne _ _ (by omega), rowOf_same]; rfl, ?_⟩⟩
              rw [hran, ← hqze, rowOf_same]
              simp [iv]
            · have w1 := rwOf_row q1
              have w2 := rwOf_row q2
              have ht1 : (iv (List.replicate q (y : Int))).take q = iv (List.replicate q (y : Int)) := List.take_of_length_le (by rw [iv_length, List.length_replicate]; omega)
              have ht2 : (iv ((List.range q).map fun (i : Nat) => (i : Int) * z)).take q = iv ((List.range q).map fun (i : Nat) => (i : Int) * z) := List.take_of_length_le (by rw [iv_length, List.length_map, List.length_range]; omega)
              (repeat' first | refine zcd ?_ | intro K' hK | (with_reducible refine zn hK ?_; clear hK) | ((with_reducible apply o_apR (t := 99) apT99 w_none); (case hs => exact ez2 w1 w2); (case hy => exact ez2 w1 w2); (case hsrc => exact src_row (rowOf_same _ _ _ _ _) rfl); (case hr => exact ez2 w1 w2); (case hc => exact rfl); (case hm => omega); (case hli => omega); (case hln => omega); (case hcs => first | (rw [iv_length, List.length_replicate]; omega) | (rw [iv_length, List.length_map, List.length_range]; omega))) | ((with_reducible first | apply zo1 | apply zo2 | apply o_guard rfl | apply x_cond | apply k_e1 rfl | apply k_e2 rfl | apply k_e0 rfl | apply k_e3 rfl | apply k_e4 rfl); (case he => exact ez4 f8 hqze w1 w2); (try case hok => exact ezO); all_goals try (intro hb; (try simp only [hbs, reduceCtorEq] at hb); try exact ezX)) | ((with_reducible apply o_undef rfl); (case hb => exact ez0)))
              refine k_round (nn - (q + 1)) (by omega) ⟨q + 1, .slice (some ⟨n5 + 1, 0, none⟩) (q + 1) (q + 1), .slice (some ⟨n5 + 1 + 1 + 1, 0, none⟩) (q + 1) (q + 1), rfl, by omega, ez0, by omega, (ezB hkp), (ezW r6), (ezW r8), (ezW r12), (ezW rY), (ezW r17), .inr ⟨by omega, n5 + 1, n5 + 1 + 1 + 1, by omega, by omega, by omega, by omega, by omega, rfl, rfl, ?_, ?_⟩⟩
              · rw [hrep, iv_app1]
                (repeat rw [rowOf_ne _ _ (by omega)])
                rw [rowOf_same]
                exact ez1 ht1
              · rw [hran, iv_app1, rowOf_same]
                exact ez1 ht2
          · obtain rfl : q = nn := by omega
            rcases hO with ⟨hq0, -⟩ | ⟨hq0, i1, i2, j1, j2, j3, j4, j5, rfl, rfl, q1, q2⟩
            · exact absurd hq0 hn0
            · have ql := mlist_ev k (d + 10) n h5 n5 hk TA T.length tc A L.length gc (n + 3) 0 ys.length ys (some ⟨i1, 0, none⟩) (some ⟨i2, 0, none⟩) (List.replicate q (y : Int)) ((List.range q).map fun (i : Nat) => (i : Int) * z) q q q q ((dp - 1 : Nat) : Int) (g (dp - 1)) (RdH.ofRow rY (by omega)) (RdH.ofRow q1 (by omega)) (RdH.ofRow q2 (by omega)) (by simp) (by simp) (by simp) (by simp; omega) (by omega) (fun j hj => by
                  have hjq : j < q := by simpa using hj
                  have := hzq j hjq
                  simp only [List.getElem_map, List.getElem_range]
                  omega) (fun j hj hj2 cl h6 n6 m c hn6 hk6 hm6 hr6 => by
                  have hjq : j < q := by simpa using hj
                  have hjz := hzq j hjq
                  simp only [List.getElem_map, List.getElem_range, List.getElem_replicate, Int.toNat_natCast] at hm6 hr6 ⊢
                  exact ih (by omega) cl h6 n6 (n + 3) _ m c _ ((hT.keep (Nat.le_refl _) fun b hb => by rw [hk6 b (by omega)]; exact hkp b hb).more (by omega)) ((hR.keep (Nat.le_refl _) fun b hb => by rw [hk6 b (by omega)]; exact hkp b hb).more (by omega)) hm6 hr6 (by rw [List.length_drop]; omega) (by rw [List.length_drop]; omega))
              rw [zip_rep] at ql
              obtain ⟨res, hres⟩ : ∃ res, listP (g (dp - 1)) ys ((List.range q).map fun (i : Nat) => ((y : Int), (i : Int) * z)) = res := ⟨_, rfl⟩
              rw [hres] at ql ⊢
              have hrl := fun l (e : res = .ok l) => listP_len (g (dp - 1)) ys _ l (hres.trans e)
              rw [hyl] at ql
              have w12 := rwOf_row r12
              have w17 := rwOf_row r17
              have f17 := cellsAt_row (off := 0) (k := 5) r17
              cases res with
              | error e =>
                have ql : SQ k (d + 11) n 69 [.agg ⟨[.slice TA T.length tc, .slice A L.length gc]⟩, .slice (some ⟨n + 3, 0, none⟩) w w, .slice (some ⟨i1, 0, none⟩) q q, .slice (some ⟨i2, 0, none⟩) q q, .int .i64 ((dp - 1 : Nat) : Int)] h5 n5 fun v h' n' => v = .tuple ⟨[.slice none 0 0, .int .i64 e]⟩ ∧ e ≠ 0 ∧ h5 = h' ∧ n5 = n' := ql.mono fun _ _ _ hp => ⟨hp.1, hp.2.1, hp.2.2.1.symm, hp.2.2.2.symm⟩
                (repeat' first | refine zcd ?_ | intro K' hK | (with_reducible refine zn hK ?_; clear hK) | ((with_reducible apply o_callF (g := 69) w_none); (case ha => exact ez0); (case hs => (exact ql)); (case' hk => rintro _ h' n' ⟨rfl, he0, rfl, rfl⟩)) | ((with_reducible first | apply zo1 | apply zo2 | apply o_guard rfl | apply x_cond | apply k_e1 rfl | apply k_e2 rfl | apply k_e0 rfl | apply k_e3 rfl | apply k_e4 rfl); (case he => exact ez5 f6 hdp1 w12 w17 f17); (try case hok => exact ezO); all_goals try (intro hb; (try simp only [hbs, reduceCtorEq] at hb); try exact ezX)) | ((with_reducible apply o_undef rfl); (case hb => exact ez0)))
                all_goals exact sw_flat rfl rfl ⟨rfl, he0, rfl, rfl⟩
              | ok l =>
                have hll := hrl l rfl
                rw [List.length_map, List.length_range] at hll
                have ql : SQ k (d + 11) n 69 [.agg ⟨[.slice TA T.length tc, .slice A L.length gc]⟩, .slice (some ⟨n + 3, 0, none⟩) w w, .slice (some ⟨i1, 0, none⟩) q q, .slice (some ⟨i2, 0, none⟩) q q, .int .i64 ((dp - 1 : Nat) : Int)] h5 n5 fun v h' n' => ∃ lid, v = .tuple ⟨[.slice (some ⟨lid, 0, none⟩) l.length l.length, .int .i64 0]⟩ ∧ FHs h' n5 n' l (.slice (some ⟨lid, 0, none⟩) l.length l.length) ∧ n5 ≤ n' ∧ ∀ b, b < n5 → h'.get b = h5.get b := ql.mono fun v h' n' ⟨O, e1, hf, a, b⟩ => by
                  rcases hf with ⟨e2, -⟩ | ⟨hne, lid, rows, x1, x2, e3, x4⟩
                  · rw [e2] at hll; simp at hll; omega
                  · subst e3
                    exact ⟨lid, e1, .inr ⟨hne, lid, rows, x1, x2, rfl, x4⟩, a, b⟩
                (repeat' first | refine zcd ?_ | intro K' hK | (with_reducible refine zn hK ?_; clear hK) | ((with_reducible apply o_callF (g := 69) w_none); (case ha => exact ez0); (case hs => (exact ql)); (case' hk => rintro _ h' n' ⟨lid, rfl, hfx, hn6, hk6⟩)) | ((with_reducible first | apply zo1 | apply zo2 | apply o_guard rfl | apply x_cond | apply k_e1 rfl | apply k_e2 rfl | apply k_e0 rfl | apply k_e3 rfl | apply k_e4 rfl); (case he => exact ez2 f6 hdp1); (try case hok => exact ezO); all_goals try (intro hb; (try simp only [hbs, reduceCtorEq] at hb); try exact ezX)) | ((with_reducible apply o_undef rfl); (case hb => exact ez0)))
                have w12 := rwOf_row (show rowOf h' (n + 2) = _ from by rw [rowOf_keep (hk6 _ (by omega))]; exact r12)
                have w17 := rwOf_row (show rowOf h' (n + 4) = _ from by rw [rowOf_keep (hk6 _ (by omega))]; exact r17)
                (repeat' first | refine zcd ?_ | intro K' hK | (with_reducible refine zn hK ?_; clear hK) | fail | ((with_reducible first | apply zo1 | apply zo2 | apply o_guard rfl | apply x_cond | apply k_e1 rfl | apply k_e2 rfl | apply k_e0 rfl | apply k_e3 rfl | apply k_e4 rfl); (case he => exact ez2 w12 w17); (try case hok => exact ezO); all_goals try (intro hb; (try simp only [hbs, reduceCtorEq] at hb); try exact ezX)) | ((with_reducible apply o_undef rfl); (case hb => exact ez0)))
                refine sw_fh (FHs.val (hfx.keep (by omega) (Nat.le_refl _) fun b hb1 hb2 => by (repeat rw [Hp.get_ne _ _ (by omega)])) kd 0 [] false) (by omega) (ezC hk6 hkp) fun cs2 h2 n2 a b c => ⟨cs2, rfl, a, b, c⟩
end Go.Proofs.Ytcpkdjikembpnaa.Ce
