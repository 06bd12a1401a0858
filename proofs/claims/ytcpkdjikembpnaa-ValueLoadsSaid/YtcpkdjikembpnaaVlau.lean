/- Parts of the proof of ValueLoads: Gf, Ga, Mh, Gg, Gh, He, Ks. No condition of its own. -/
import Derived.Test.YtcpkdjikembpnaaVlah
import Derived.Test.YtcpkdjikembpnaaVlai
import Derived.Test.YtcpkdjikembpnaaVlak
import Derived.Test.YtcpkdjikembpnaaVlam
import Derived.Test.YtcpkdjikembpnaaVlan
import Derived.Test.YtcpkdjikembpnaaVlar
import Derived.Test.YtcpkdjikembpnaaVlat
set_option linter.unusedVariables false
set_option linter.unusedSimpArgs false
set_option maxRecDepth 100000
set_option maxHeartbeats 4000000
namespace Go.Proofs.Ytcpkdjikembpnaa.Ce
open Go.RowKit
def sizT (T : List Tp) (x : Nat) : Int := ((eRow 1048576 T).at_ (x : Int)).1
structure OkV (T : List Tp) (t : Nat) : Prop where
  chk : ChkT T
  lt : t < T.length
  sm : ∀ x : Nat, Rch T true t x → sizT T x ≤ 256
theorem OkV.size {T : List Tp} {t : Nat} (h : OkV T t) : szR 1048576 T t = (sizT T t, ((eRow 1048576 T).at_ (t : Int)).2, 0) := by
  have h1 := h.sm t .refl
  have h2 := h.lt
  unfold sizT at *
  unfold szR
  rw [if_pos h.chk, if_pos ⟨by omega, by omega⟩, if_neg (by omega)]
theorem OkV.lead {T : List Tp} {t y : Nat} (h : OkV T t) (hy : (y : Int) ∈ leadsT true (T[t]'h.lt)) : OkV T y := by
  have hr : Rch T true t y := .step .refl h.lt hy
  exact ⟨h.chk, hr.lt h.chk.2.1 h.lt, fun x hx => h.sm x (hr.trans hx)⟩
theorem sizT_ok {T : List Tp} (hC : ChkT T) {t : Nat} (ht : t < T.length) : EOk 1048576 ((eRow 1048576 T).at_ (t : Int)) := by
  have hE := eRow_ok (C := 1048576) (by omega) (by decide) hC.2.1 T.length (Nat.le_refl _)
  rw [List.take_length] at hE
  exact Ext.at_mem hE (by omega) (by rw [eRow_length]; omega)
theorem OkV.bnd {T : List Tp} {t : Nat} (h : OkV T t) : 0 ≤ sizT T t ∧ sizT T t ≤ 256 := ⟨(sizT_ok h.chk h.lt).1, h.sm t .refl⟩
def prtT (t : Tp) : List Int := t.fs.map (·.2) ++ List.replicate t.ln.toNat t.el
def offsT (T : List Tp) (t : Tp) : List Int := if t.kd = 5 then (layR 1048576 (eRow 1048576 T) t.fs).1 else (List.range t.ln.toNat).map fun (i : Nat) => (i : Int) * sizT T t.el.toNat
theorem fine_ln {m i : Nat} {t : Tp} (h : fineB m i t = true) (h6 : t.kd ≠ 6) : t.ln = 0 := by
  unfold fineB at h
  repeat' split at h
  all_goals simp_all
variable (k d cl : Nat) (h : Hp) (n : Nat)
theorem vsize_ev (hk : 30000 ≤ k) (A : Option Addr) (T : List Tp) (c : Nat) (hT : TabH h n A T) (hS : ∀ t ∈ T, t.fs.length ≤ 20000) (hm : T.length ≤ 9223372036854775807) (t : Nat) (ho : OkV T t) :
    SQ k (d + 9) cl 84 [.slice A T.length c, .int .i64 t] h n fun v h' n' => v = .int .i64 (sizT T t) ∧ h' = h ∧ n' = n := by
  have q := (lsize_ev k d n h n hk A T c hT hS hm t).mono (Φ' := fun v h' n' => v = .tuple ⟨[.int .i64 (sizT T t), .int .i64 ((eRow 1048576 T).at_ (t : Int)).2, .int .i64 0]⟩ ∧ h = h' ∧ n = n') fun _ _ _ hp => ⟨by rw [hp.1, ho.size], hp.2.1.symm, hp.2.2.symm⟩
  refine enter Try.func84 (by kernel_rfl) rfl (by kernel_rfl) rfl rfl rfl ?_
  (repeat' first | refine zcd ?_ | intro K' hK | (with_reducible refine zn hK ?_; clear hK) | ((with_reducible apply o_callF (g := 27) w_none); (case ha => exact ez0); (case hs => (exact q)); (case' hk => rintro _ h' n' ⟨rfl, rfl, rfl⟩)) | ((with_reducible first | apply zo1 | apply zo2 | apply o_guard rfl | apply x_cond | apply k_e1 rfl | apply k_e2 rfl | apply k_e0 rfl | apply k_e3 rfl | apply k_e4 rfl); (case he => exact ez0); (try case hok => exact ezO); all_goals try (intro hb; (try simp only [hbs, reduceCtorEq] at hb); try exact ezX)) | ((with_reducible apply o_undef rfl); (case hb => exact ez0)))
  all_goals exact sw_flat rfl rfl ⟨rfl, rfl, rfl⟩
theorem vparts_none (hk : 30000 ≤ k) (t : Tp) (hf : t.fs = []) (hl : t.ln = 0) :
    SQ k (d + 1) cl 70 [.agg ⟨[.int .u8 t.kd, .int .i64 t.el, .int .i64 t.ln, .slice t.A t.fs.length t.c]⟩] h n fun v h' n' => v = .slice none 0 0 ∧ h' = h ∧ n' = n := by
  obtain ⟨kd, el, ln, fs, FA, fc⟩ := t
  dsimp only at hf hl ⊢
  subst hf
  subst hl
  refine enter Try.func70 (by kernel_rfl) rfl (by kernel_rfl) rfl rfl rfl ?_
  (repeat' first | refine zcd ?_ | intro K' hK | (with_reducible refine zn hK ?_; clear hK) | (with_reducible refine x_turns ?_) | (with_reducible refine x_turn (by omega) ?_) | (with_reducible refine k_turn ?_) | ((with_reducible first | apply zo1 | apply zo2 | apply o_guard rfl | apply x_cond | apply k_e1 rfl | apply k_e2 rfl | apply k_e0 rfl | apply k_e3 rfl | apply k_e4 rfl); (case he => exact ez0); (try case hok => exact ezO); all_goals try (intro hb; (try simp only [hbs, reduceCtorEq] at hb); try exact ezX)) | ((with_reducible apply o_undef rfl); (case hb => exact ez0)))
  all_goals exact sw_flat rfl rfl ⟨rfl, rfl, rfl⟩
theorem vparts_arr (hk : 30000 ≤ k) (t : Tp) (hf : t.fs = []) (hl0 : 1 ≤ t.ln) (hl1 : t.ln ≤ 16) :
    SQ k (d + 1) cl 70 [.agg ⟨[.int .u8 t.kd, .int .i64 t.el, .int .i64 t.ln, .slice t.A t.fs.length t.c]⟩] h n fun v h' n' => v = .slice (some ⟨n, 0, none⟩) t.ln.toNat t.ln.toNat ∧ h' = h.set n (.row 3 false (iv (List.replicate t.ln.toNat t.el))) ∧ n' = n + 1 := by
  obtain ⟨kd, el, ln, fs, FA, fc⟩ := t
  dsimp only at hf hl0 hl1 ⊢
  subst hf
  obtain ⟨m, rfl⟩ := Int.eq_ofNat_of_zero_le (show 0 ≤ ln by omega)
  rw [Int.toNat_natCast]
  refine enter Try.func70 (by kernel_rfl) rfl (by kernel_rfl) rfl rfl rfl ?_
  (repeat' first | refine zcd ?_ | intro K' hK | (with_reducible refine zn hK ?_; clear hK) | fail | ((with_reducible first | apply zo1 | apply zo2 | apply o_guard rfl | apply x_cond | apply k_e1 rfl | apply k_e2 rfl | apply k_e0 rfl | apply k_e3 rfl | apply k_e4 rfl); (case he => exact ez0); (try case hok => exact ezO); all_goals try (intro hb; (try simp only [hbs, reduceCtorEq] at hb); try exact ezX)) | ((with_reducible apply o_undef rfl); (case hb => exact ez0)))
  (with_reducible refine x_turns ?_)
  (with_reducible refine x_turn (by omega) ?_)
  (repeat' first | refine zcd ?_ | intro K' hK | (with_reducible refine zn hK ?_; clear hK) | fail | ((with_reducible first | apply zo1 | apply zo2 | apply o_guard rfl | apply x_cond | apply k_e1 rfl | apply k_e2 rfl | apply k_e0 rfl | apply k_e3 rfl | apply k_e4 rfl); (case he => exact ez0); (try case hok => exact ezO); all_goals try (intro hb; (try simp only [hbs, reduceCtorEq] at hb); try exact ezX)) | ((with_reducible apply o_undef rfl); (case hb => exact ez0)))
  refine x_loopV [3, 21, 22, 23, 24, 25, 26, 27, 28] [3, 21] (fun r vs h5 n5 => ∃ (q : Nat) (O : Value), r = m - q ∧ q ≤ m ∧ vs = [O, .int .i64 q] ∧ n + 1 ≤ n5 ∧ rowOf h5 n = some (64, false, [.int .u8 kd, .int .i64 el, .int .i64 (m : Int), .slice FA 0 fc]) ∧ OwnI (List.replicate q el) O h5 (n + 1) n5) m rfl (by omega) ?_ ?_
  · exact ⟨0, .slice none 0 0, rfl, by omega, ez0, by omega, ez0, .inl ⟨rfl, rfl⟩⟩
  · rintro r g _ h5 n5 ⟨q, O, rfl, hq, rfl, hn5, r1, hO⟩
    have f1 := cellAt_row (off := 1) r1
    by_cases hqm : q < m
    · have hrep : List.replicate (q + 1) el = List.replicate q el ++ [el] := by rw [List.replicate_succ']
      have hll : (List.replicate q el).length = q := List.length_replicate
      obtain ⟨acc, hacc⟩ : ∃ acc, List.replicate q el = acc := ⟨_, rfl⟩
      rw [hacc] at hO hrep hll
      rcases hO with ⟨hp0, rfl⟩ | ⟨hp0, id, j1, j2, rfl, q4⟩
      · (repeat' first | refine zcd ?_ | intro K' hK | (with_reducible refine zn hK ?_; clear hK) | ((with_reducible apply o_ap0 (t := 99) apT99 w_none); (case hs => exact ez0); (case hy => exact ez0); (case hsrc => exact src_row (rowOf_same _ _ _ _ _) rfl); (case hc => exact rfl); (case hm => omega); (case h0 => omega)) | ((with_reducible first | apply zo1 | apply zo2 | apply o_guard rfl | apply x_cond | apply k_e1 rfl | apply k_e2 rfl | apply k_e0 rfl | apply k_e3 rfl | apply k_e4 rfl); (case he => exact ez1 f1); (try case hok => exact ezO); all_goals try (intro hb; (try simp only [hbs, reduceCtorEq] at hb); try exact ezX)) | ((with_reducible apply o_undef rfl); (case hb => exact ez0)))
        refine k_round (m - (q + 1)) (by omega) ⟨q + 1, .slice (some ⟨n5 + 1, 0, none⟩) 1 1, rfl, by omega, ez0, by omega, (by rw [rowOf_ne _ _ (by omega), rowOf_ne _ _ (by omega)]; exact r1), .inr ⟨by rw [hrep]; simp, n5 + 1, by omega, by omega, by rw [hrep, hp0]; rfl, by rw [hrep, hp0]; exact rowOf_same _ _ _ _ _⟩⟩
      · have w4 := rwOf_row q4
        have htw : (iv acc).take acc.length = iv acc := List.take_of_length_le (by rw [iv_length]; omega)
        (repeat' first | refine zcd ?_ | intro K' hK | (with_reducible refine zn hK ?_; clear hK) | ((with_reducible apply o_apR (t := 99) apT99 w_none); (case hs => exact ez1 w4); (case hy => exact ez1 w4); (case hsrc => exact src_row (rowOf_same _ _ _ _ _) rfl); (case hr => exact ez1 w4); (case hc => exact rfl); (case hm => omega); (case hli => omega); (case hln => omega); (case hcs => rw [iv_length]; omega)) | ((with_reducible first | apply zo1 | apply zo2 | apply o_guard rfl | apply x_cond | apply k_e1 rfl | apply k_e2 rfl | apply k_e0 rfl | apply k_e3 rfl | apply k_e4 rfl); (case he => exact ez2 f1 w4); (try case hok => exact ezO); all_goals try (intro hb; (try simp only [hbs, reduceCtorEq] at hb); try exact ezX)) | ((with_reducible apply o_undef rfl); (case hb => exact ez0)))
        refine k_round (m - (q + 1)) (by omega) ⟨q + 1, .slice (some ⟨n5 + 1, 0, none⟩) (acc.length + 1) (acc.length + 1), rfl, by omega, ez0, by omega, (by rw [rowOf_ne _ _ (by omega), rowOf_ne _ _ (by omega), rowOf_ne _ _ (by omega)]; exact r1), .inr ⟨by rw [hrep]; simp, n5 + 1, by omega, by omega, by rw [hrep, List.length_append]; rfl, by rw [hrep, iv_app1]; exact ez1 htw⟩⟩
    · obtain rfl : q = m := by omega
      rcases hO with ⟨hp0, -⟩ | ⟨hp0, id, j1, j2, rfl, q4⟩
      · exact absurd hp0 (by simp; omega)
      · (repeat' first | refine zcd ?_ | intro K' hK | (with_reducible refine zn hK ?_; clear hK) | fail | ((with_reducible first | apply zo1 | apply zo2 | apply o_guard rfl | apply x_cond | apply k_e1 rfl | apply k_e2 rfl | apply k_e0 rfl | apply k_e3 rfl | apply k_e4 rfl); (case he => exact ez1 f1); (try case hok => exact ezO); all_goals try (intro hb; (try simp only [hbs, reduceCtorEq] at hb); try exact ezX)) | ((with_reducible apply o_undef rfl); (case hb => exact ez0)))
        rw [List.length_replicate]
        refine sw_row (m := id) ezI rfl (by omega) q4 (iv_idA _ _) ezR ?_
        exact ⟨rfl, rfl, rfl⟩
theorem vparts_fld (hk : 30000 ≤ k) (t : Tp) (hr : RdH h n t.A (fv t.fs)) (h0 : t.fs ≠ []) (hl : t.ln = 0) (hl2 : t.fs.length ≤ 20000) :
    SQ k (d + 1) cl 70 [.agg ⟨[.int .u8 t.kd, .int .i64 t.el, .int .i64 t.ln, .slice t.A t.fs.length t.c]⟩] h n fun v h' n' => v = .slice (some ⟨n, 0, none⟩) t.fs.length t.fs.length ∧ h' = h.set n (.row 3 false (iv (t.fs.map (·.2)))) ∧ n' = n + 1 := by
  obtain ⟨kd, el, ln, fs, FA, fc⟩ := t
  dsimp only at hr h0 hl hl2 ⊢
  subst hl
  have h0l : 0 < fs.length := List.length_pos_iff.2 h0
  refine enter Try.func70 (by kernel_rfl) rfl (by kernel_rfl) rfl rfl rfl ?_
  (repeat' first | refine zcd ?_ | intro K' hK | (with_reducible refine zn hK ?_; clear hK) | fail | ((with_reducible first | apply zo1 | apply zo2 | apply o_guard rfl | apply x_cond | apply k_e1 rfl | apply k_e2 rfl | apply k_e0 rfl | apply k_e3 rfl | apply k_e4 rfl); (case he => exact ez0); (try case hok => exact ezO); all_goals try (intro hb; (try simp only [hbs, reduceCtorEq] at hb); try exact ezX)) | ((with_reducible apply o_undef rfl); (case hb => exact ez0)))
  refine x_loopV [3, 5, 9, 10, 11, 12, 13, 14, 15, 16, 17, 18] [3, 9] (fun m vs h5 n5 => ∃ (q : Nat) (O : Value), m = fs.length - q ∧ q ≤ fs.length ∧ vs = [O, .int .i64 q] ∧ n + 1 ≤ n5 ∧ RdH h5 n FA (fv fs) ∧ rowOf h5 n = some (64, false, [.int .u8 kd, .int .i64 el, .int .i64 0, .slice FA fs.length fc]) ∧ OwnI ((fs.take q).map (·.2)) O h5 (n + 1) n5) fs.length rfl (by omega) ?_ ?_
  · exact ⟨0, .slice none 0 0, rfl, by omega, ez0, by omega, hr.set (Nat.le_refl _) _, ez0, .inl ⟨rfl, rfl⟩⟩
  · rintro m g _ h5 n5 ⟨q, O, rfl, hq, rfl, hn5, r2, r1, hO⟩
    have f2 := cellAt_row (off := 2) r1
    by_cases hqf : q < fs.length
    · obtain ⟨id2, off2, rfl, hid2, hfa, -, -⟩ := fld_at r2 hqf
      obtain ⟨nm, hnm⟩ : ∃ nm, (fs[q]).1 = nm := ⟨_, rfl⟩
      obtain ⟨ty, hty⟩ : ∃ ty, (fs[q]).2 = ty := ⟨_, rfl⟩
      rw [hnm, hty] at hfa
      have htk : (fs.take (q + 1)).map (·.2) = (fs.take q).map (·.2) ++ [ty] := by rw [List.take_succ_eq_append_getElem hqf, List.map_append, ← hty]; rfl
      have htl : ((fs.take q).map (·.2)).length = q := by rw [List.length_map, List.length_take]; omega
      obtain ⟨acc, hacc⟩ : ∃ acc, (fs.take q).map (·.2) = acc := ⟨_, rfl⟩
      rw [hacc] at hO htk htl
      rcases hO with ⟨hp0, rfl⟩ | ⟨hp0, id, k1, k2, rfl, q4⟩
      · (repeat' first | refine zcd ?_ | intro K' hK | (with_reducible refine zn hK ?_; clear hK) | ((with_reducible apply o_ap0 (t := 99) apT99 w_none); (case hs => exact ez0); (case hy => exact ez0); (case hsrc => exact src_row (rowOf_same _ _ _ _ _) rfl); (case hc => exact rfl); (case hm => omega); (case h0 => omega)) | ((with_reducible first | apply zo1 | apply zo2 | apply o_guard rfl | apply x_cond | apply k_e1 rfl | apply k_e2 rfl | apply k_e0 rfl | apply k_e3 rfl | apply k_e4 rfl); (case he => exact ez1 hfa); (try case hok => exact ezO); all_goals try (intro hb; (try simp only [hbs, reduceCtorEq] at hb); try exact ezX)) | ((with_reducible apply o_undef rfl); (case hb => exact ez0)))
        refine k_round (fs.length - (q + 1)) (by omega) ⟨q + 1, .slice (some ⟨n5 + 1 + 1, 0, none⟩) 1 1, rfl, by omega, ez0, by omega, (ezD r2), (by repeat' (first | exact r1 | rw [rowOf_ne _ _ (by omega)])), .inr ⟨by rw [htk]; simp, n5 + 1 + 1, by omega, by omega, by rw [htk, hp0]; rfl, by rw [htk, hp0]; exact rowOf_same _ _ _ _ _⟩⟩
      · have w4 := rwOf_row q4
        have htw : (iv acc).take acc.length = iv acc := List.take_of_length_le (by rw [iv_length]; omega)
        (repeat' first | refine zcd ?_ | intro K' hK | (with_reducible refine zn hK ?_; clear hK) | ((with_reducible apply o_apR (t := 99) apT99 w_none); (case hs => exact ez1 w4); (case hy => exact ez1 w4); (case hsrc => exact src_row (rowOf_same _ _ _ _ _) rfl); (case hr => exact ez1 w4); (case hc => exact rfl); (case hm => omega); (case hli => omega); (case hln => omega); (case hcs => rw [iv_length]; omega)) | ((with_reducible first | apply zo1 | apply zo2 | apply o_guard rfl | apply x_cond | apply k_e1 rfl | apply k_e2 rfl | apply k_e0 rfl | apply k_e3 rfl | apply k_e4 rfl); (case he => exact ez2 hfa w4); (try case hok => exact ezO); all_goals try (intro hb; (try simp only [hbs, reduceCtorEq] at hb); try exact ezX)) | ((with_reducible apply o_undef rfl); (case hb => exact ez0)))
        refine k_round (fs.length - (q + 1)) (by omega) ⟨q + 1, .slice (some ⟨n5 + 1 + 1, 0, none⟩) (acc.length + 1) (acc.length + 1), rfl, by omega, ez0, by omega, (ezD r2), (by repeat' (first | exact r1 | rw [rowOf_ne _ _ (by omega)])), .inr ⟨by rw [htk]; simp, n5 + 1 + 1, by omega, by omega, by rw [htk, List.length_append]; rfl, by rw [htk, iv_app1]; exact ez1 htw⟩⟩
    · obtain rfl : q = fs.length := by omega
      rw [List.take_length] at hO
      rcases hO with ⟨hp0, -⟩ | ⟨hp0, id, k1, k2, rfl, q4⟩
      · exact absurd (List.map_eq_nil_iff.1 hp0) h0
      · (repeat' first | refine zcd ?_ | intro K' hK | (with_reducible refine zn hK ?_; clear hK) | fail | ((with_reducible first | apply zo1 | apply zo2 | apply o_guard rfl | apply x_cond | apply k_e1 rfl | apply k_e2 rfl | apply k_e0 rfl | apply k_e3 rfl | apply k_e4 rfl); (case he => exact ez1 f2); (try case hok => exact ezO); all_goals try (intro hb; (try simp only [hbs, reduceCtorEq] at hb); try exact ezX)) | ((with_reducible apply o_undef rfl); (case hb => exact ez0)))
        (with_reducible refine x_turns ?_)
        (with_reducible refine x_turn (by omega) ?_)
        (repeat' first | refine zcd ?_ | intro K' hK | (with_reducible refine zn hK ?_; clear hK) | fail | ((with_reducible first | apply zo1 | apply zo2 | apply o_guard rfl | apply x_cond | apply k_e1 rfl | apply k_e2 rfl | apply k_e0 rfl | apply k_e3 rfl | apply k_e4 rfl); (case he => exact ez1 f2); (try case hok => exact ezO); all_goals try (intro hb; (try simp only [hbs, reduceCtorEq] at hb); try exact ezX)) | ((with_reducible apply o_undef rfl); (case hb => exact ez0)))
        rw [List.length_map]
        refine sw_row (m := id) ezI rfl (by omega) q4 (iv_idA _ _) ezR ?_
        exact ⟨rfl, rfl, rfl⟩
theorem vparts_ev (hk : 30000 ≤ k) {m i : Nat} (t : Tp) (hf : fineB m i t = true) (hr : RdH h n t.A (fv t.fs)) :
    SQ k (d + 1) cl 70 [.agg ⟨[.int .u8 t.kd, .int .i64 t.el, .int .i64 t.ln, .slice t.A t.fs.length t.c]⟩] h n (IntsV (prtT t) h n) := by
  by_cases h6 : t.kd = 6
  · have hn := fine_nofs hf (by omega)
    obtain ⟨-, -, hl0, hl1⟩ := fine_arr hf h6
    have e : prtT t = List.replicate t.ln.toNat t.el := by unfold prtT; rw [hn]; rfl
    rw [e]
    refine (vparts_arr k d cl h n hk t hn hl0 hl1).mono fun _ _ _ hh => .inr ⟨by simp; omega, ?_⟩
    rw [List.length_replicate]
    exact hh
  · have hl := fine_ln hf h6
    have e : prtT t = t.fs.map (·.2) := by unfold prtT; rw [hl]; simp
    rw [e]
    have hlen := fine_len hf
    by_cases h0 : t.fs = []
    · exact (vparts_none k d cl h n hk t h0 hl).mono fun _ _ _ hh => .inl ⟨by rw [h0]; rfl, hh⟩
    · refine (vparts_fld k d cl h n hk t hr h0 hl (by omega)).mono fun _ _ _ hh => .inr ⟨by simpa using h0, ?_⟩
      rw [List.length_map]
      exact hh
theorem fine_some0 {m i : Nat} {t : Tp} (h : fineB m i t = true) (h5 : t.kd = 5) : 0 < t.fs.length := by
  rw [fineB_5 h5] at h
  simp at h
  omega
theorem lead_fld {far : Bool} {T : List Tp} {i : Nat} {t : Tp} (h5 : t.kd = 5) {q : Nat} (hq : q < t.fs.length) : (t.fs[q]).2 ∈ leadsT far t := by
  unfold leadsT
  rw [if_neg (by omega)]
  exact List.mem_map_of_mem (List.getElem_mem hq)
theorem OkV.fld {T : List Tp} {i : Nat} (h : OkV T i) (h5 : (T[i]'h.lt).kd = 5) : ∀ f ∈ (T[i]'h.lt).fs, ∃ y : Nat, f.2 = (y : Int) ∧ y < i ∧ OkV T y := fun f hf => by
  obtain ⟨q, hq, e⟩ := List.getElem_of_mem hf
  have h1 := fine_fld (h.chk.2.1 i h.lt) hq
  obtain ⟨y, hy⟩ := Int.eq_ofNat_of_zero_le h1.1
  have h2 := lead_fld (far := true) (T := T) (i := i) h5 hq
  rw [hy] at h1 h2
  exact ⟨y, by rw [← e, hy], by omega, h.lead h2⟩
theorem OkV.elm {T : List Tp} {i : Nat} (h : OkV T i) (h6 : (T[i]'h.lt).kd = 6) : ∃ y : Nat, (T[i]'h.lt).el = (y : Int) ∧ y < i ∧ OkV T y := by
  have h1 := fine_arr (h.chk.2.1 i h.lt) h6
  obtain ⟨y, hy⟩ := Int.eq_ofNat_of_zero_le h1.1
  refine ⟨y, hy, by omega, h.lead ?_⟩
  rw [← hy]
  unfold leadsT
  rw [if_pos (.inl h6)]
  exact List.mem_singleton_self _
theorem OkV.ptr {T : List Tp} {i : Nat} (h : OkV T i) (h4 : (T[i]'h.lt).kd = 4 ∨ (T[i]'h.lt).kd = 7) : ∃ y : Nat, (T[i]'h.lt).el = (y : Int) ∧ OkV T y := by
  have h1 := fine_el (h.chk.2.1 i h.lt) h4
  obtain ⟨y, hy⟩ := Int.eq_ofNat_of_zero_le h1.1
  refine ⟨y, hy, h.lead ?_⟩
  rw [← hy]
  unfold leadsT
  rw [if_pos (.inr ⟨rfl, h4⟩)]
  exact List.mem_singleton_self _
theorem voffs_fld (hk : 30000 ≤ k) (A : Option Addr) (T : List Tp) (c : Nat) (hT : TabH h n A T) (hS : ∀ t ∈ T, t.fs.length ≤ 20000) (hm : T.length ≤ 9223372036854775807) (i : Nat) (ho : OkV T i) (t : Tp) (ht : T[i]'ho.lt = t) (h5 : t.kd = 5) :
    SQ k (d + 10) cl 71 [.slice A T.length c, .agg ⟨[.int .u8 t.kd, .int .i64 t.el, .int .i64 t.ln, .slice t.A t.fs.length t.c]⟩] h n fun v h' n' => v = .slice (some ⟨n, 0, none⟩) t.fs.length t.fs.length ∧ h' = h.set n (.row 3 false (iv (offsT T t))) ∧ n' = n + 1 := by
  have hfi := ho.chk.2.1 i ho.lt
  have hfd := hT.fd _ (List.getElem_mem ho.lt)
  have hfl := ho.fld (by rw [ht]; exact h5)
  rw [ht] at hfi hfd hfl
  have hlen := fine_len hfi
  have e : offsT T t = (layR 1048576 (eRow 1048576 T) t.fs).1 := by unfold offsT; rw [if_pos h5]
  rw [e, h5]
  have q := fun (h6 : Hp) (n6 : Nat) (hT6 : TabH h6 n6 A T) (hr6 : RdH h6 n6 t.A (fv t.fs)) => lofs_ok k (d + 2) n h6 n6 hk A T c hT6 hS hm t.A t.fs t.c hr6 (by omega) ho.chk (by omega) (fun f hf => by obtain ⟨y, e, -, hy⟩ := hfl f hf; have := hy.lt; omega) (fun f hf => by obtain ⟨y, e, -, hy⟩ := hfl f hf; rw [e]; exact hy.bnd.2)
  refine enter Try.func71 (by kernel_rfl) rfl (by kernel_rfl) rfl rfl rfl ?_
  (repeat' first | refine zcd ?_ | intro K' hK | (with_reducible refine zn hK ?_; clear hK) | ((with_reducible apply o_callF (g := 102) w_none); (case ha => exact ez0); (case hs => ((with_reducible apply q); (exact (hT.set (Nat.le_refl _) _).more (by omega)); (exact (hfd.set (Nat.le_refl _) _).more (by omega)))); (case' hk => rintro _ h' n' ⟨rfl, rfl, rfl⟩)) | ((with_reducible first | apply zo1 | apply zo2 | apply o_guard rfl | apply x_cond | apply k_e1 rfl | apply k_e2 rfl | apply k_e0 rfl | apply k_e3 rfl | apply k_e4 rfl); (case he => exact ez0); (try case hok => exact ezO); all_goals try (intro hb; (try simp only [hbs, reduceCtorEq] at hb); try exact ezX)) | ((with_reducible apply o_undef rfl); (case hb => exact ez0)))
  all_goals (refine sw_row ezI rfl (by omega) (by simp (disch := first | assumption | omega | rfl | decide) only [go_sem, seval, tys]; exact rfl) (iv_idA _ _) ezR ?_; exact ⟨rfl, rfl, rfl⟩)
theorem voffs_none (hk : 30000 ≤ k) (A : Option Addr) (T : List Tp) (c : Nat) (hT : TabH h n A T) (hS : ∀ t ∈ T, t.fs.length ≤ 20000) (hm : T.length ≤ 9223372036854775807) (t : Tp) (h5 : t.kd ≠ 5) (hl : t.ln = 0) :
    SQ k (d + 10) cl 71 [.slice A T.length c, .agg ⟨[.int .u8 t.kd, .int .i64 t.el, .int .i64 t.ln, .slice t.A t.fs.length t.c]⟩] h n fun v h' n' => v = .slice none 0 0 ∧ h' = h ∧ n' = n := by
  obtain ⟨kd, el, ln, fs, FA, fc⟩ := t
  dsimp only at h5 hl ⊢
  subst hl
  refine enter Try.func71 (by kernel_rfl) rfl (by kernel_rfl) rfl rfl rfl ?_
  (repeat' first | refine zcd ?_ | intro K' hK | (with_reducible refine zn hK ?_; clear hK) | (with_reducible refine x_turns ?_) | (with_reducible refine x_turn (by omega) ?_) | (with_reducible refine k_turn ?_) | ((with_reducible first | apply zo1 | apply zo2 | apply o_guard rfl | apply x_cond | apply k_e1 rfl | apply k_e2 rfl | apply k_e0 rfl | apply k_e3 rfl | apply k_e4 rfl); (case he => exact ez0); (try case hok => exact ezO); all_goals try (intro hb; (try simp only [hbs, reduceCtorEq] at hb); try exact ezX)) | ((with_reducible apply o_undef rfl); (case hb => exact ez0)))
  all_goals exact sw_flat rfl rfl ⟨rfl, rfl, rfl⟩
theorem voffs_arr (hk : 30000 ≤ k) (A : Option Addr) (T : List Tp) (c : Nat) (hT : TabH h n A T) (hS : ∀ t ∈ T, t.fs.length ≤ 20000) (hm : T.length ≤ 9223372036854775807) (t : Tp) (h6 : t.kd = 6) (hl0 : 1 ≤ t.ln) (hl1 : t.ln ≤ 16) (y : Nat) (hy : t.el = (y : Int)) (ho : OkV T y) :
    SQ k (d + 10) cl 71 [.slice A T.length c, .agg ⟨[.int .u8 t.kd, .int .i64 t.el, .int .i64 t.ln, .slice t.A t.fs.length t.c]⟩] h n fun v h' n' => v = .slice (some ⟨n, 0, none⟩) t.ln.toNat t.ln.toNat ∧ h' = h.set n (.row 3 false (iv (offsT T t))) ∧ n' = n + 1 := by
  have e : offsT T t = (List.range t.ln.toNat).map fun (i : Nat) => (i : Int) * sizT T y := by unfold offsT; rw [if_neg (by omega), hy, Int.toNat_natCast]
  rw [e]
  obtain ⟨kd, el, ln, fs, FA, fc⟩ := t
  dsimp only at h6 hl0 hl1 hy ⊢
  subst h6
  subst hy
  obtain ⟨m, rfl⟩ := Int.eq_ofNat_of_zero_le (show 0 ≤ ln by omega)
  rw [Int.toNat_natCast]
  obtain ⟨z, hz⟩ : ∃ z, sizT T y = z := ⟨_, rfl⟩
  have hzb := ho.bnd
  rw [hz] at hzb
  have q := fun (h6 : Hp) (n6 : Nat) (hT6 : TabH h6 n6 A T) => (vsize_ev k d n h6 n6 hk A T c hT6 hS hm y ho).mono (Φ' := fun v h' n' => v = .int .i64 z ∧ h6 = h' ∧ n6 = n') fun _ _ _ hp => ⟨by rw [hp.1, hz], hp.2.1.symm, hp.2.2.symm⟩
  simp only [hz]
  refine enter Try.func71 (by kernel_rfl) rfl (by kernel_rfl) rfl rfl rfl ?_
  (repeat' first | refine zcd ?_ | intro K' hK | (with_reducible refine zn hK ?_; clear hK) | fail | ((with_reducible first | apply zo1 | apply zo2 | apply o_guard rfl | apply x_cond | apply k_e1 rfl | apply k_e2 rfl | apply k_e0 rfl | apply k_e3 rfl | apply k_e4 rfl); (case he => exact ez0); (try case hok => exact ezO); all_goals try (intro hb; (try simp only [hbs, reduceCtorEq] at hb); try exact ezX)) | ((with_reducible apply o_undef rfl); (case hb => exact ez0)))
  refine x_loopV [9, 10, 26, 27, 28, 29, 30, 31, 32, 33, 34, 35, 36, 37, 38] [9, 26] (fun r vs h5 n5 => ∃ (q : Nat) (O : Value), r = m - q ∧ q ≤ m ∧ vs = [O, .int .i64 q] ∧ n + 1 ≤ n5 ∧ TabH h5 n A T ∧ rowOf h5 n = some (64, false, [.int .u8 6, .int .i64 (y : Int), .int .i64 (m : Int), .slice FA fs.length fc]) ∧ OwnI ((List.range q).map fun (i : Nat) => (i : Int) * z) O h5 (n + 1) n5) m rfl (by omega) ?_ ?_
  · exact ⟨0, .slice none 0 0, rfl, by omega, ez0, by omega, hT.set (Nat.le_refl _) _, ez0, .inl ⟨rfl, rfl⟩⟩
  · rintro r g _ h5 n5 ⟨q', O, rfl, hq, rfl, hn5, hT5, r1, hO⟩
    have f1 := cellAt_row (off := 1) r1
    by_cases hqm : q' < m
    · have hmu : 0 ≤ (q' : Int) * z ∧ (q' : Int) * z ≤ 16 * 256 := ⟨Int.mul_nonneg (by omega) hzb.1, Int.mul_le_mul (by omega) hzb.2 hzb.1 (by omega)⟩
      have hrep : (List.range (q' + 1)).map (fun (i : Nat) => (i : Int) * z) = (List.range q').map (fun (i : Nat) => (i : Int) * z) ++ [(q' : Int) * z] := by rw [List.range_succ, List.map_append]; rfl
      have hll : ((List.range q').map (fun (i : Nat) => (i : Int) * z)).length = q' := by rw [List.length_map, List.length_range]
      obtain ⟨acc, hacc⟩ : ∃ acc, (List.range q').map (fun (i : Nat) => (i : Int) * z) = acc := ⟨_, rfl⟩
      rw [hacc] at hO hrep hll
      obtain ⟨qz, hqz⟩ : ∃ qz, (q' : Int) * z = qz := ⟨_, rfl⟩
      rw [hqz] at hmu hrep
      rcases hO with ⟨hp0, rfl⟩ | ⟨hp0, id, j1, j2, rfl, q4⟩
      · (repeat' first | refine zcd ?_ | intro K' hK | (with_reducible refine zn hK ?_; clear hK) | ((with_reducible apply o_callF (g := 84) w_none); (case ha => exact ez0); (case hs => ((with_reducible apply q); (exact hT5.more (by omega)))); (case' hk => rintro _ h' n' ⟨rfl, rfl, rfl⟩)) | ((with_reducible apply o_ap0 (t := 99) apT99 w_none); (case hs => exact ez0); (case hy => exact ez0); (case hsrc => exact src_row (rowOf_same _ _ _ _ _) rfl); (case hc => exact rfl); (case hm => omega); (case h0 => omega)) | ((with_reducible first | apply zo1 | apply zo2 | apply o_guard rfl | apply x_cond | apply k_e1 rfl | apply k_e2 rfl | apply k_e0 rfl | apply k_e3 rfl | apply k_e4 rfl); (case he => exact ez2 f1 hqz); (try case hok => exact ezO); all_goals try (intro hb; (try simp only [hbs, reduceCtorEq] at hb); try exact ezX)) | ((with_reducible apply o_undef rfl); (case hb => exact ez0)))
        refine k_round (m - (q' + 1)) (by omega) ⟨q' + 1, .slice (some ⟨n5 + 1, 0, none⟩) 1 1, rfl, by omega, ez0, by omega, (ezT hT5), (by repeat' (first | exact r1 | rw [rowOf_ne _ _ (by omega)])), .inr ⟨by rw [hrep]; simp, n5 + 1, by omega, by omega, by rw [hrep, hp0]; rfl, by rw [hrep, hp0]; exact rowOf_same _ _ _ _ _⟩⟩
      · have w4 := rwOf_row q4
        have htw : (iv acc).take acc.length = iv acc := List.take_of_length_le (by rw [iv_length]; omega)
        (repeat' first | refine zcd ?_ | intro K' hK | (with_reducible refine zn hK ?_; clear hK) | ((with_reducible apply o_callF (g := 84) w_none); (case ha => exact ez0); (case hs => ((with_reducible apply q); (exact hT5.more (by omega)))); (case' hk => rintro _ h' n' ⟨rfl, rfl, rfl⟩)) | ((with_reducible apply o_apR (t := 99) apT99 w_none); (case hs => exact ez1 w4); (case hy => exact ez1 w4); (case hsrc => exact src_row (rowOf_same _ _ _ _ _) rfl); (case hr => exact ez1 w4); (case hc => exact rfl); (case hm => omega); (case hli => omega); (case hln => omega); (case hcs => rw [iv_length]; omega)) | ((with_reducible first | apply zo1 | apply zo2 | apply o_guard rfl | apply x_cond | apply k_e1 rfl | apply k_e2 rfl | apply k_e0 rfl | apply k_e3 rfl | apply k_e4 rfl); (case he => exact ez3 f1 hqz w4); (try case hok => exact ezO); all_goals try (intro hb; (try simp only [hbs, reduceCtorEq] at hb); try exact ezX)) | ((with_reducible apply o_undef rfl); (case hb => exact ez0)))
        refine k_round (m - (q' + 1)) (by omega) ⟨q' + 1, .slice (some ⟨n5 + 1, 0, none⟩) (acc.length + 1) (acc.length + 1), rfl, by omega, ez0, by omega, (ezT hT5), (by repeat' (first | exact r1 | rw [rowOf_ne _ _ (by omega)])), .inr ⟨by rw [hrep]; simp, n5 + 1, by omega, by omega, by rw [hrep, List.length_append]; rfl, by rw [hrep, iv_app1]; exact ez1 htw⟩⟩
    · obtain rfl : q' = m := by omega
      rcases hO with ⟨hp0, -⟩ | ⟨hp0, id, j1, j2, rfl, q4⟩
      · exact absurd hp0 (by simp; omega)
      · (repeat' first | refine zcd ?_ | intro K' hK | (with_reducible refine zn hK ?_; clear hK) | fail | ((with_reducible first | apply zo1 | apply zo2 | apply o_guard rfl | apply x_cond | apply k_e1 rfl | apply k_e2 rfl | apply k_e0 rfl | apply k_e3 rfl | apply k_e4 rfl); (case he => exact ez1 f1); (try case hok => exact ezO); all_goals try (intro hb; (try simp only [hbs, reduceCtorEq] at hb); try exact ezX)) | ((with_reducible apply o_undef rfl); (case hb => exact ez0)))
        rw [List.length_map, List.length_range]
        refine sw_row (m := id) ezI rfl (by omega) q4 (iv_idA _ _) ezR ?_
        exact ⟨rfl, rfl, rfl⟩
theorem offsT_len {T : List Tp} {t : Tp} (h5 : t.kd = 5) : (offsT T t).length = t.fs.length := by
  unfold offsT
  rw [if_pos h5]
  have := layR_len 1048576 (eRow 1048576 T) t.fs t.fs.length (Nat.le_refl _)
  rwa [List.take_length] at this
theorem voffs_ev (hk : 30000 ≤ k) (A : Option Addr) (T : List Tp) (c : Nat) (hT : TabH h n A T) (hS : ∀ t ∈ T, t.fs.length ≤ 20000) (hm : T.length ≤ 9223372036854775807) (i : Nat) (ho : OkV T i) (t : Tp) (ht : T[i]'ho.lt = t) :
    SQ k (d + 10) cl 71 [.slice A T.length c, .agg ⟨[.int .u8 t.kd, .int .i64 t.el, .int .i64 t.ln, .slice t.A t.fs.length t.c]⟩] h n (IntsV (offsT T t) h n) := by
  have hfi := ho.chk.2.1 i ho.lt
  rw [ht] at hfi
  by_cases h5 : t.kd = 5
  · have hfs : t.fs ≠ [] := fun e => by
      have := fine_some0 hfi h5
      rw [e] at this
      exact absurd this (by simp)
    refine (voffs_fld k d cl h n hk A T c hT hS hm i ho t ht h5).mono fun _ _ _ hh => .inr ⟨fun e => hfs (List.length_eq_zero_iff.1 (by rw [← offsT_len (T := T) h5, e]; rfl)), ?_⟩
    rw [offsT_len h5]
    exact hh
  · by_cases h6 : t.kd = 6
    · obtain ⟨y, hy, -, hoy⟩ := ho.elm (by rw [ht]; exact h6)
      rw [ht] at hy
      obtain ⟨-, -, hl0, hl1⟩ := fine_arr hfi h6
      have hlen : (offsT T t).length = t.ln.toNat := by unfold offsT; rw [if_neg h5, List.length_map, List.length_range]
      refine (voffs_arr k d cl h n hk A T c hT hS hm t h6 hl0 hl1 y hy hoy).mono fun _ _ _ hh => .inr ⟨fun e => by rw [e] at hlen; simp at hlen; omega, ?_⟩
      rw [hlen]
      exact hh
    · have hl := fine_ln hfi h6
      exact (voffs_none k d cl h n hk A T c hT hS hm t h5 hl).mono fun _ _ _ hh => .inl ⟨by unfold offsT; rw [if_neg h5, hl]; rfl, hh⟩
end Go.Proofs.Ytcpkdjikembpnaa.Ce
namespace Go.Proofs.Ytcpkdjikembpnaa.Ce
open Go.RowKit
inductive V where
  | mk (kd i : Int) (s : List UInt8) (l : List V) (c : Bool)
def V.kd : V → Int | .mk kd _ _ _ _ => kd
def V.i : V → Int | .mk _ i _ _ _ => i
def V.s : V → List UInt8 | .mk _ _ s _ _ => s
def V.l : V → List V | .mk _ _ _ l _ => l
def V.c : V → Bool | .mk _ _ _ _ c => c
def Bd : Nat → V → Prop
  | 0, _ => False
  | N + 1, v => v.l.length ≤ 20000 ∧ ∀ w ∈ v.l, Bd N w
theorem Bd.up : ∀ {N : Nat} {v : V}, Bd N v → ∀ {M : Nat}, N ≤ M → Bd M v
  | N + 1, v, h, M + 1, hM => ⟨h.1, fun w hw => (h.2 w hw).up (by omega)⟩
theorem V.eq_iff {v w : V} : v = w ↔ v.kd = w.kd ∧ v.i = w.i ∧ v.s = w.s ∧ v.c = w.c ∧ v.l = w.l := by
  cases v; cases w
  simp only [V.kd, V.i, V.s, V.c, V.l, V.mk.injEq]
  constructor
  · rintro ⟨a, b, c, d, e⟩; exact ⟨a, b, c, e, d⟩
  · rintro ⟨a, b, c, d, e⟩; exact ⟨a, b, c, e, d⟩
open Classical in
noncomputable def sameV (v w : V) : Bool := decide (v = w)
theorem sameV_t {v : V} : sameV v v = true := by unfold sameV; simp
theorem sameV_f {v w : V} (h : v ≠ w) : sameV v w = false := by unfold sameV; simp [h]
abbrev vcell (kd i : Int) (s : List UInt8) (A : Option Addr) (n cc : Nat) (c : Bool) : List Value := [.int .u8 kd, .int .i64 i, .string ⟨⟨s⟩⟩, .slice A n cc, .bool c]
inductive VH (h : Hp) (B : Nat) : V → List Value → Prop
  | leaf (kd i : Int) (s : List UInt8) (c : Bool) (A : Option Addr) (cc : Nat) (h0 : A = none → cc = 0) : VH h B (.mk kd i s [] c) (vcell kd i s A 0 cc c)
  | node (kd i : Int) (s : List UInt8) (c : Bool) (l : List V) (id off cc : Nat) (cs : Nat → List Value) (hl : l ≠ []) (hid : id < B) (hc : ∀ j, j < l.length → cellsAt h id (off + j * 5) 5 = some (cs j))
      (hk : ∀ j (hj : j < l.length), VH h B l[j] (cs j)) : VH h B (.mk kd i s l c) (vcell kd i s (some ⟨id, off, none⟩) l.length cc c)
theorem cellsAt_keep {h h' : Hp} {id off k : Nat} (e : h'.get id = h.get id) : cellsAt h' id off k = cellsAt h id off k := by unfold cellsAt; rw [show rowOf h' id = rowOf h id from by unfold rowOf; rw [e]]
theorem VH.keep {h h' : Hp} {B B' : Nat} {v : V} {cs : List Value} (hv : VH h B v cs) (hB : B ≤ B') (hk : ∀ b, b < B → h'.get b = h.get b) : VH h' B' v cs := by
  induction hv with
  | leaf kd i s c A cc h0 => exact .leaf kd i s c A cc h0
  | node kd i s c l id off cc cs hl hid hc _ ih => exact .node kd i s c l id off cc cs hl (by omega) (fun j hj => by rw [cellsAt_keep (hk id hid)]; exact hc j hj) ih
theorem VH.more {h : Hp} {B B' : Nat} {v : V} {cs : List Value} (hv : VH h B v cs) (hB : B ≤ B') : VH h B' v cs := hv.keep hB fun _ _ => rfl
theorem VH.set {h : Hp} {B id : Nat} {v : V} {cs : List Value} (hv : VH h B v cs) (hB : B ≤ id) (x : AObj) : VH (h.set id x) B v cs := hv.keep (Nat.le_refl _) fun b hb => Hp.get_ne _ _ (by omega)
theorem VH.inv {h : Hp} {B : Nat} {v : V} {cs : List Value} (hv : VH h B v cs) : ∃ A cc, cs = vcell v.kd v.i v.s A v.l.length cc v.c ∧ (A = none → cc = 0) ∧ (v.l ≠ [] → ∃ id off, A = some ⟨id, off, none⟩ ∧ id < B ∧ ∃ ks : Nat → List Value, (∀ j, j < v.l.length → cellsAt h id (off + j * 5) 5 = some (ks j)) ∧ ∀ j (hj : j < v.l.length), VH h B v.l[j] (ks j)) := by
  cases hv with
  | leaf kd i s c A cc h0 => exact ⟨A, cc, rfl, h0, fun h => absurd rfl h⟩
  | node kd i s c l id off cc cs hl hid hc hk => exact ⟨some ⟨id, off, none⟩, cc, rfl, (fun h => nomatch h), fun _ => ⟨id, off, rfl, hid, cs, hc, hk⟩⟩
def LH (h : Hp) (B : Nat) (A : Option Addr) (l : List V) : Prop :=
  l ≠ [] → ∃ id off, A = some ⟨id, off, none⟩ ∧ id < B ∧ ∃ ks : Nat → List Value, (∀ j, j < l.length → cellsAt h id (off + j * 5) 5 = some (ks j)) ∧ ∀ j (hj : j < l.length), VH h B l[j] (ks j)
theorem LH.keep {h h' : Hp} {B B' : Nat} {A : Option Addr} {l : List V} (hl : LH h B A l) (hB : B ≤ B') (hk : ∀ b, b < B → h'.get b = h.get b) : LH h' B' A l := fun hn => by
  obtain ⟨id, off, e, hid, ks, h1, h2⟩ := hl hn
  exact ⟨id, off, e, by omega, ks, fun j hj => by rw [cellsAt_keep (hk id hid)]; exact h1 j hj, fun j hj => (h2 j hj).keep hB hk⟩
theorem LH.more {h : Hp} {B B' : Nat} {A : Option Addr} {l : List V} (hl : LH h B A l) (hB : B ≤ B') : LH h B' A l := hl.keep hB fun _ _ => rfl
theorem LH.set {h : Hp} {B id : Nat} {A : Option Addr} {l : List V} (hl : LH h B A l) (hB : B ≤ id) (x : AObj) : LH (h.set id x) B A l := hl.keep (Nat.le_refl _) fun b hb => Hp.get_ne _ _ (by omega)
theorem VH.cut {h : Hp} {B : Nat} {v : V} {cs : List Value} (hv : VH h B v cs) : ∃ A cc, cs = vcell v.kd v.i v.s A v.l.length cc v.c ∧ (A = none → cc = 0) ∧ LH h B A v.l := hv.inv
theorem LH.at_ {h : Hp} {B : Nat} {A : Option Addr} {l : List V} (hl : LH h B A l) {q : Nat} (hq : q < l.length) : ∃ id off A1 cc, A = some ⟨id, off, none⟩ ∧ id < B ∧ cellsAt h id (off + q * 5) 5 = some (vcell l[q].kd l[q].i l[q].s A1 l[q].l.length cc l[q].c) ∧ VH h B l[q] (vcell l[q].kd l[q].i l[q].s A1 l[q].l.length cc l[q].c) := by
  obtain ⟨id, off, e, hid, ks, h1, h2⟩ := hl (fun h => by rw [h] at hq; exact absurd hq (Nat.not_lt_zero _))
  obtain ⟨A1, cc, e2, -, -⟩ := (h2 q hq).inv
  have a := h1 q hq
  have b := h2 q hq
  rw [e2] at a b
  exact ⟨id, off, A1, cc, e, hid, a, b⟩
end Go.Proofs.Ytcpkdjikembpnaa.Ce
namespace Go.Proofs.Ytcpkdjikembpnaa.Ce
open Go.RowKit
theorem sw_keep {h h' : Hp} {n n' m e : Nat} {ro : Bool} {cs : List Value} {v u : Value} {Φ : Value → Hp → Nat → Prop} (hv : idV n v = [m]) (hg : rowOf h' m = some (e, ro, cs)) (hu : u ∈ cs) (hi : idA n u ≠ []) (hk : Φ v h' n') : kSweep h n Φ v h' n' := by
  have hp : plainO n (h'.get m) = false := by
    rw [rowOf_some hg]
    show cs.all (fun v => (idA n v).isEmpty) = false
    rw [List.all_eq_false]
    exact ⟨u, hu, by simpa using hi⟩
  have e : sweep h n (v, h', n') = (v, h', n') := by
    unfold sweep
    dsimp only
    rw [hv]
    simp [once, hp]
  unfold kSweep
  rw [e]
  exact hk
variable (k d cl : Nat) (h : Hp) (n : Nat)
end Go.Proofs.Ytcpkdjikembpnaa.Ce
namespace Go.Proofs.Ytcpkdjikembpnaa.Ce
open Go.RowKit
inductive FH (h : Hp) (lo hi : Nat) : V → List Value → Prop
  | leaf (kd i : Int) (s : List UInt8) (c : Bool) : FH h lo hi (.mk kd i s [] c) (vcell kd i s none 0 0 c)
  | node (kd i : Int) (s : List UInt8) (c : Bool) (l : List V) (id : Nat) (rows : List Value) (hl : l ≠ []) (h1 : lo ≤ id) (h2 : id < hi) (hr : rowOf h id = some (32, false, rows)) (hlen : rows.length = l.length * 5)
      (hk : ∀ j (hj : j < l.length), FH h lo hi l[j] ((rows.drop (j * 5)).take 5)) : FH h lo hi (.mk kd i s l c) (vcell kd i s (some ⟨id, 0, none⟩) l.length l.length c)
def FHs (h : Hp) (lo hi : Nat) (l : List V) (O : Value) : Prop :=
  (l = [] ∧ O = .slice none 0 0) ∨ (l ≠ [] ∧ ∃ id rows, lo ≤ id ∧ id < hi ∧ O = .slice (some ⟨id, 0, none⟩) l.length l.length ∧ rowOf h id = some (32, false, rows) ∧ rows.length = l.length * 5 ∧ ∀ j (hj : j < l.length), FH h lo hi l[j] ((rows.drop (j * 5)).take 5))
section
variable {h h' : Hp} {lo hi lo' hi' : Nat} {v : V} {cs : List Value}
theorem FH.keep (hv : FH h lo hi v cs) (h1 : lo' ≤ lo) (h2 : hi ≤ hi') (hk : ∀ b, lo ≤ b → b < hi → h'.get b = h.get b) : FH h' lo' hi' v cs := by
  induction hv with
  | leaf kd i s c => exact .leaf kd i s c
  | node kd i s c l id rows hl a b hr hlen _ ih => exact .node kd i s c l id rows hl (by omega) (by omega) (by rw [show rowOf h' id = rowOf h id from by unfold rowOf; rw [hk id a b]]; exact hr) hlen ih
theorem FH.more (hv : FH h lo hi v cs) (h1 : lo' ≤ lo) (h2 : hi ≤ hi') : FH h lo' hi' v cs := hv.keep h1 h2 fun _ _ _ => rfl
theorem FH.len (hv : FH h lo hi v cs) : cs.length = 5 := by cases hv <;> rfl
theorem FH.cells (hv : FH h lo hi v cs) : ∃ A cc, cs = vcell v.kd v.i v.s A v.l.length cc v.c := by
  cases hv with
  | leaf kd i s c => exact ⟨none, 0, rfl⟩
  | node kd i s c l id rows hl a b hr hlen hk => exact ⟨_, _, rfl⟩
theorem FH.vh (hv : FH h lo hi v cs) : VH h hi v cs := by
  induction hv with
  | leaf kd i s c => exact .leaf kd i s c none 0 fun _ => rfl
  | node kd i s c l id rows hl a b hr hlen hk ih =>
    refine .node kd i s c l id 0 l.length (fun j => (rows.drop (j * 5)).take 5) hl b (fun j hj => ?_) ih
    rw [cellsAt_row hr, ldrop_eq, Nat.zero_add]
    have hlj : 5 ≤ (rows.drop (j * 5)).length := by
      rw [List.length_drop, hlen]
      have : (j + 1) * 5 ≤ l.length * 5 := Nat.mul_le_mul_right 5 hj
      omega
    exact ltake_of hlj
theorem FHs.val {l : List V} {O : Value} (hl : FHs h lo hi l O) (kd i : Int) (s : List UInt8) (c : Bool) : FH h lo hi (.mk kd i s l c) [.int .u8 kd, .int .i64 i, .string ⟨⟨s⟩⟩, O, .bool c] := by
  rcases hl with ⟨rfl, rfl⟩ | ⟨hn, id, rows, a, b, rfl, hr, hlen, hk⟩
  · exact .leaf kd i s c
  · exact .node kd i s c l id rows hn a b hr hlen hk
theorem FHs.keep {l : List V} {O : Value} (hl : FHs h lo hi l O) (h1 : lo' ≤ lo) (h2 : hi ≤ hi') (hk : ∀ b, lo ≤ b → b < hi → h'.get b = h.get b) : FHs h' lo' hi' l O := by
  rcases hl with e | ⟨hn, id, rows, a, b, e, hr, hlen, hkk⟩
  · exact .inl e
  · exact .inr ⟨hn, id, rows, by omega, by omega, e, by rw [show rowOf h' id = rowOf h id from by unfold rowOf; rw [hk id a b]]; exact hr, hlen, fun j hj => (hkk j hj).keep h1 h2 hk⟩
theorem rows_snoc {l : List V} {x : V} {rows cs : List Value} (hlen : rows.length = l.length * 5) (hk : ∀ j (hj : j < l.length), FH h lo hi l[j] ((rows.drop (j * 5)).take 5)) (hx : FH h lo hi x cs) :
    (rows ++ cs).length = (l ++ [x]).length * 5 ∧ ∀ j (hj : j < (l ++ [x]).length), FH h lo hi (l ++ [x])[j] (((rows ++ cs).drop (j * 5)).take 5) := by
  have hc := hx.len
  refine ⟨by rw [List.length_append, List.length_append, hlen, hc]; simp; omega, fun j hj => ?_⟩
  by_cases e : j < l.length
  · rw [List.getElem_append_left e]
    have hb : (j + 1) * 5 ≤ l.length * 5 := Nat.mul_le_mul_right 5 e
    have e2 : ((rows ++ cs).drop (j * 5)).take 5 = (rows.drop (j * 5)).take 5 := by
      rw [List.drop_append_of_le_length (by omega), List.take_append_of_le_length (by rw [List.length_drop]; omega)]
    rw [e2]
    exact hk j e
  · have hj2 : j = l.length := by simp at hj; omega
    subst hj2
    have e1 : (l ++ [x])[l.length]'hj = x := by simp
    rw [e1, ← hlen, List.drop_left, ← hc, List.take_length]
    exact hx
theorem FH.plain (hv : FH h lo hi v cs) (hp : ∀ u ∈ cs, idA lo u = []) (h2 : Hp) (hi2 : Nat) : FH h2 lo hi2 v cs := by
  cases hv with
  | leaf kd i s c => exact .leaf kd i s c
  | node kd i s c l id rows hl a b hr hlen hk =>
    have := hp (.slice (some ⟨id, 0, none⟩) l.length l.length) (by simp)
    have e : idA lo (.slice (some ⟨id, 0, none⟩) l.length l.length) = [id] := by
      show (bif Nat.ble lo id then [id] else []) = [id]
      rw [ble_t a]
      rfl
    rw [e] at this
    cases this
end
variable {h h' : Hp} {n n' : Nat} {Φ : Value → Hp → Nat → Prop}
theorem sw_fhs {l : List V} {O : Value} {e : Int} (hf : FHs h' n n' l O) (hn : n ≤ n') (hkeep : ∀ b, b < n → h'.get b = h.get b)
    (hk : ∀ O2 h2 n2, FHs h2 n n2 l O2 → n ≤ n2 → (∀ b, b < n → h2.get b = h.get b) → Φ (.tuple ⟨[O2, .int .i64 e]⟩) h2 n2) : kSweep h n Φ (.tuple ⟨[O, .int .i64 e]⟩) h' n' := by
  rcases hf with ⟨rfl, rfl⟩ | ⟨hl, id, rows, a, b, rfl, hr, hlen, hkk⟩
  · exact sw_flat rfl rfl (hk _ h n (.inl ⟨rfl, rfl⟩) (Nat.le_refl _) fun _ _ => rfl)
  · have hid : idV n (.tuple ⟨[.slice (some ⟨id, 0, none⟩) l.length l.length, .int .i64 e]⟩) = [id] := by
      show (bif Nat.ble n id then [id] else []) ++ _ = [id]
      rw [ble_t a]
      rfl
    by_cases hp : ∀ u ∈ rows, idA n u = []
    · refine sw_row (v' := .tuple ⟨[.slice (some ⟨n, 0, none⟩) l.length l.length, .int .i64 e]⟩) hid rfl b hr hp ?_ ?_
      · show Value.tuple ⟨[.slice (some ⟨reN n [id] id, 0, none⟩) l.length l.length, .int .i64 e]⟩ = _
        rw [reN_hit]
      · refine hk _ _ _ (.inr ⟨hl, n, rows, Nat.le_refl _, by omega, rfl, rowOf_same _ _ _ _ _, hlen, fun j hj => ?_⟩) (by omega) fun b hb => Hp.get_ne _ _ (by omega)
        exact (hkk j hj).plain (fun u hu => hp u (List.mem_of_mem_drop (List.mem_of_mem_take hu))) _ _
    · have hp2 : ∃ u ∈ rows, idA n u ≠ [] := Classical.byContradiction fun hh => hp fun u hu => Classical.byContradiction fun h2 => hh ⟨u, hu, h2⟩
      obtain ⟨u, hu, hi⟩ := hp2
      exact sw_keep hid hr hu hi (hk _ h' n' (.inr ⟨hl, id, rows, a, b, rfl, hr, hlen, hkk⟩) hn hkeep)
theorem sw_fh {x : V} {cs : List Value} {e : Int} (hf : FH h' n n' x cs) (hn : n ≤ n') (hkeep : ∀ b, b < n → h'.get b = h.get b)
    (hk : ∀ cs2 h2 n2, FH h2 n n2 x cs2 → n ≤ n2 → (∀ b, b < n → h2.get b = h.get b) → Φ (.tuple ⟨[.agg ⟨cs2⟩, .int .i64 e]⟩) h2 n2) : kSweep h n Φ (.tuple ⟨[.agg ⟨cs⟩, .int .i64 e]⟩) h' n' := by
  cases hf with
  | leaf kd i s c => exact sw_flat rfl rfl (hk _ h n (.leaf kd i s c) (Nat.le_refl _) fun _ _ => rfl)
  | node kd i s c l id rows hl a b hr hlen hkk =>
    have hid : idV n (.tuple ⟨[.agg ⟨vcell kd i s (some ⟨id, 0, none⟩) l.length l.length c⟩, .int .i64 e]⟩) = [id] := by
      show ((bif Nat.ble n id then [id] else []) ++ []) ++ _ = [id]
      rw [ble_t a]
      rfl
    by_cases hp : ∀ u ∈ rows, idA n u = []
    · refine sw_row (v' := .tuple ⟨[.agg ⟨vcell kd i s (some ⟨n, 0, none⟩) l.length l.length c⟩, .int .i64 e]⟩) hid rfl b hr hp ?_ ?_
      · show Value.tuple ⟨[.agg ⟨vcell kd i s (some ⟨reN n [id] id, 0, none⟩) l.length l.length c⟩, .int .i64 e]⟩ = _
        rw [reN_hit]
      · refine hk _ _ _ (.node kd i s c l n rows hl (Nat.le_refl _) (by omega) (rowOf_same _ _ _ _ _) hlen fun j hj => ?_) (by omega) fun b hb => Hp.get_ne _ _ (by omega)
        exact (hkk j hj).plain (fun u hu => hp u (List.mem_of_mem_drop (List.mem_of_mem_take hu))) _ _
    · have hp2 : ∃ u ∈ rows, idA n u ≠ [] := Classical.byContradiction fun hh => hp fun u hu => Classical.byContradiction fun h2 => hh ⟨u, hu, h2⟩
      obtain ⟨u, hu, hi⟩ := hp2
      exact sw_keep hid hr hu hi (hk _ h' n' (.node kd i s c l id rows hl a b hr hlen hkk) hn hkeep)
end Go.Proofs.Ytcpkdjikembpnaa.Ce
namespace Go.Proofs.Ytcpkdjikembpnaa.Ce
open Go.RowKit
def i64 (w : Int) : Int := IntKind.wrap .i64 w
def listP (g : List UInt8 → Nat → Except Int V) (bs : List UInt8) : List (Int × Int) → Except Int (List V)
  | [] => .ok []
  | p :: r => match g (bs.drop p.2.toNat) p.1.toNat with
    | .error e => .error e
    | .ok v => match listP g bs r with
      | .error e => .error e
      | .ok l => .ok (v :: l)
theorem listP_snoc (g : List UInt8 → Nat → Except Int V) (bs : List UInt8) (p : Int × Int) : ∀ (l : List (Int × Int)) (acc : List V), listP g bs l = .ok acc →
    listP g bs (l ++ [p]) = match g (bs.drop p.2.toNat) p.1.toNat with
      | .error e => .error e
      | .ok v => .ok (acc ++ [v])
  | [], acc, h => by
    unfold listP at h
    injection h with h
    subst h
    show listP g bs (p :: []) = _
    unfold listP listP
    cases g (bs.drop p.2.toNat) p.1.toNat <;> rfl
  | q :: l, acc, h => by
    unfold listP at h
    rw [List.cons_append]
    unfold listP
    cases hg : g (bs.drop q.2.toNat) q.1.toNat with
    | error e => rw [hg] at h; cases h
    | ok v =>
      rw [hg] at h
      dsimp only at h ⊢
      cases hl : listP g bs l with
      | error e => rw [hl] at h; cases h
      | ok l2 =>
        rw [hl] at h
        injection h with h
        subst h
        rw [listP_snoc g bs p l l2 hl]
        cases g (bs.drop p.2.toNat) p.1.toNat <;> rfl
theorem listP_err (g : List UInt8 → Nat → Except Int V) (bs : List UInt8) {e : Int} : ∀ (l r : List (Int × Int)), listP g bs l = .error e → listP g bs (l ++ r) = .error e
  | [], r, h => by unfold listP at h; cases h
  | q :: l, r, h => by
    unfold listP at h
    rw [List.cons_append]
    unfold listP
    cases hg : g (bs.drop q.2.toNat) q.1.toNat with
    | error e2 => rw [hg] at h; exact h
    | ok v =>
      rw [hg] at h
      dsimp only at h ⊢
      cases hl : listP g bs l with
      | error e2 => rw [hl] at h; injection h with h; subst h; rw [listP_err g bs l r hl]
      | ok l2 => rw [hl] at h; cases h
theorem listP_len (g : List UInt8 → Nat → Except Int V) (bs : List UInt8) : ∀ (l : List (Int × Int)) (acc : List V), listP g bs l = .ok acc → acc.length = l.length
  | [], acc, h => by unfold listP at h; injection h with h; subst h; rfl
  | q :: l, acc, h => by
    unfold listP at h
    cases hg : g (bs.drop q.2.toNat) q.1.toNat with
    | error e => rw [hg] at h; cases h
    | ok v =>
      rw [hg] at h
      dsimp only at h
      cases hl : listP g bs l with
      | error e => rw [hl] at h; cases h
      | ok l2 =>
        rw [hl] at h
        injection h with h
        subst h
        rw [List.length_cons, List.length_cons, listP_len g bs l l2 hl]
def asV (kd : Int) : Except Int (List V) → Except Int V
  | .ok l => .ok (.mk kd 0 [] l false)
  | .error e => .error e
def folP (g : Nat → List UInt8 → Nat → Except Int V) (T : List Tp) (L : List Rg) (x : Tp) (a : Int) (n most dp : Nat) : Except Int V :=
  match findB L a (sizT T x.el.toNat * most).toNat with
  | none => .error 16
  | some b => if n = 0 then .ok (.mk x.kd 0 [] [] false) else if dp = 0 then .ok (.mk x.kd 0 [] [] true)
    else asV x.kd (listP (g (dp - 1)) b ((List.range n).map fun (i : Nat) => (x.el, (i : Int) * sizT T x.el.toNat)))
def loadP (T : List Tp) (L : List Rg) : Nat → Nat → List UInt8 → Nat → Except Int V
  | 0, _, _, _ => .error 0
  | f + 1, dp, bs, t => match T[t]? with
    | none => .error 0
    | some x =>
      if x.kd = 1 then (if 1 < (bs.getD 0 0).toNat then .error 12 else .ok (.mk 1 (bs.getD 0 0).toNat [] [] false))
      else if x.kd = 2 then .ok (.mk 2 (i64 (wordV bs 0 8)) [] [] false)
      else if x.kd = 3 then (if (textB L (wordV bs 0 8) (wordV bs 8 8)).2 = 0 then .ok (.mk 3 0 (textB L (wordV bs 0 8) (wordV bs 8 8)).1 [] false) else .error (textB L (wordV bs 0 8) (wordV bs 8 8)).2)
      else if x.kd = 4 then (if wordV bs 0 8 = 0 then .ok (.mk 4 0 [] [] false) else folP (loadP T L f) T L x (wordV bs 0 8) 1 1 dp)
      else if x.kd = 7 then (if wordV bs 16 8 < wordV bs 8 8 ∨ 16 < wordV bs 16 8 ∨ (wordV bs 0 8 = 0 ∧ 0 < wordV bs 16 8) then .error 12
        else if wordV bs 0 8 = 0 then .ok (.mk 7 0 [] [] false) else folP (loadP T L f) T L x (wordV bs 0 8) (wordV bs 8 8).toNat (wordV bs 16 8).toNat dp)
      else asV x.kd (listP (loadP T L f dp) bs ((prtT x).zip (offsT T x)))
def LdV (r : Except Int V) (h : Hp) (n : Nat) (v : Value) (h' : Hp) (n' : Nat) : Prop := match r with
  | .error e => v = .tuple ⟨[.agg ⟨vcell 0 0 [] none 0 0 false⟩, .int .i64 e]⟩ ∧ e ≠ 0 ∧ h' = h ∧ n' = n
  | .ok x => ∃ cs, v = .tuple ⟨[.agg ⟨cs⟩, .int .i64 0]⟩ ∧ FH h' n n' x cs ∧ n ≤ n' ∧ ∀ b, b < n → h'.get b = h.get b
def LdL (r : Except Int (List V)) (h : Hp) (n : Nat) (v : Value) (h' : Hp) (n' : Nat) : Prop := match r with
  | .error e => v = .tuple ⟨[.slice none 0 0, .int .i64 e]⟩ ∧ e ≠ 0 ∧ h' = h ∧ n' = n
  | .ok l => ∃ O, v = .tuple ⟨[O, .int .i64 0]⟩ ∧ FHs h' n n' l O ∧ n ≤ n' ∧ ∀ b, b < n → h'.get b = h.get b
theorem textB_err {L : List Rg} {a w : Int} : (textB L a w).2 = 0 ∨ (textB L a w).2 = 12 ∨ (textB L a w).2 = 16 := by
  unfold textB
  repeat' split
  all_goals simp
end Go.Proofs.Ytcpkdjikembpnaa.Ce
namespace Go.Proofs.Ytcpkdjikembpnaa.Ce
open Go.RowKit
theorem lst_chk {L : List Rg} (hE : lstE L = 0) : ∀ g ∈ L, chkG g = 0 := by
  unfold lstE at hE
  split at hE
  · cases hE
  · split at hE
    · cases hE
    · rename_i h
      exact Classical.not_not.1 h
theorem ovl_comm {x y : Rg} (h : ovl x y) : ovl y x := ⟨h.2.1, h.1, h.2.2.2, h.2.2.1⟩
theorem lst_apart {L : List Rg} (hE : lstE L = 0) {i j : Nat} (hi : i < L.length) (hj : j < L.length) (hn : i ≠ j) : ¬ ovl L[i] L[j] := by
  unfold lstE at hE
  split at hE
  · cases hE
  · split at hE
    · cases hE
    · split at hE
      · cases hE
      · rename_i _ _ h
        intro ho
        rcases Nat.lt_or_gt_of_ne hn with h1 | h1
        · exact h ⟨j, i, hj, h1, ovl_comm ho⟩
        · exact h ⟨i, j, hi, h1, ho⟩
def AtB (L : List Rg) (a : Int) (bs : List UInt8) : Prop := ∃ i, ∃ hi : i < L.length, L[i].b ≤ a ∧ a + bs.length ≤ L[i].b + L[i].xs.length ∧ (L[i].xs.drop (a - L[i].b).toNat).take bs.length = bs
theorem AtB.drop {L : List Rg} {a : Int} {bs : List UInt8} (h : AtB L a bs) {o : Nat} (ho : o ≤ bs.length) : AtB L (a + o) (bs.drop o) := by
  obtain ⟨i, hi, h1, h2, h3⟩ := h
  refine ⟨i, hi, by omega, by rw [List.length_drop]; omega, ?_⟩
  have e : (a + o - L[i].b).toNat = (a - L[i].b).toNat + o := by omega
  have e2 : bs.drop o = ((L[i].xs.drop (a - L[i].b).toNat).take bs.length).drop o := by rw [h3]
  rw [e, e2, List.drop_take, List.drop_drop, List.length_take, List.length_drop]
  congr 1
  omega
theorem AtB.bnd {L : List Rg} (hE : lstE L = 0) {a : Int} {bs : List UInt8} (h : AtB L a bs) : 0 ≤ a ∧ a + bs.length ≤ 18446744073709551615 := by
  obtain ⟨i, hi, h1, h2, h3⟩ := h
  obtain ⟨g2, g3, g4, g5⟩ := chkR_ok (lst_chk hE _ (List.getElem_mem hi))
  omega
theorem AtB.fst {L : List Rg} (hE : lstE L = 0) {a : Int} {bs : List UInt8} (h : AtB L a bs) {o w : Nat} (hw : 1 ≤ w) (how : o + w ≤ bs.length) :
    ∃ i, ∃ hi : i < L.length, fstI L (a + o) w 0 = some i ∧ L[i].b ≤ a ∧ a + bs.length ≤ L[i].b + L[i].xs.length ∧ (L[i].xs.drop (a - L[i].b).toNat).take bs.length = bs := by
  obtain ⟨i, hi, h1, h2, h3⟩ := h
  refine ⟨i, hi, fstI_hit hi (inb_iff.2 ⟨by omega, by omega⟩) fun p hp hpl => ?_, h1, h2, h3⟩
  cases hb : inb L[p].b L[p].xs.length (a + o) w with
  | false => rfl
  | true =>
    obtain ⟨b1, b2⟩ := inb_iff.1 hb
    exact absurd ⟨by omega, by omega, by omega, by omega⟩ (lst_apart hE hi hpl (by omega))
theorem wordV_at {xs bs : List UInt8} {p o : Nat} (h : (xs.drop p).take bs.length = bs) (ho : o + 8 ≤ bs.length) : wordV xs (p + o) 8 = wordV bs o 8 := by
  have e : (bs.drop o).take 8 = (xs.drop (p + o)).take 8 := by
    conv => lhs; rw [← h]
    rw [List.drop_take, List.take_take, List.drop_drop]
    congr 1
    omega
  unfold wordV
  rw [e]
theorem getD_at {xs bs : List UInt8} {p o : Nat} (h : (xs.drop p).take bs.length = bs) (ho : o < bs.length) : xs.getD (p + o) 0 = bs.getD o 0 := by
  conv => rhs; rw [← h]
  rw [List.getD_eq_getElem?_getD, List.getD_eq_getElem?_getD, List.getElem?_take, if_pos ho, List.getElem?_drop]
theorem findB_at {L : List Rg} {a : Int} {w : Nat} {ys : List UInt8} (hf : findB L a w = some ys) : AtB L a ys := by
  have hl := findB_len hf
  unfold findB at hf
  split at hf
  · cases hfi : fstI L a (max (w : Int) 1) 0 with
    | none => rw [hfi] at hf; cases hf
    | some i =>
      rw [hfi] at hf
      obtain ⟨q, hq, e, hin, -⟩ := fstI_some hfi
      obtain rfl : i = q := by omega
      dsimp only at hf
      rw [List.getElem?_eq_getElem hq] at hf
      injection hf with hf
      obtain ⟨hi1, hi2⟩ := inb_iff.1 hin
      exact ⟨i, hq, hi1, by omega, by rw [hl]; exact hf⟩
  · cases hf
theorem there_no {L : List Rg} {a : Int} {w : Nat} (hf : findB L a w = none) : thereR L a w = [.agg ⟨[.int .u64 0, .slice none 0 0]⟩, .bool false] := by
  unfold findB at hf
  unfold thereR
  by_cases h8 : a % 8 = 0
  · rw [if_pos h8] at hf ⊢
    cases hfi : fstI L a (max (w : Int) 1) 0 with
    | none => rfl
    | some i =>
      rw [hfi] at hf
      obtain ⟨q, hq, e, hin, -⟩ := fstI_some hfi
      obtain rfl : i = q := by omega
      dsimp only at hf
      rw [List.getElem?_eq_getElem hq] at hf
      cases hf
  · rw [if_neg h8]
theorem there_some {L : List Rg} {a : Int} {w : Nat} {ys : List UInt8} (hf : findB L a w = some ys) : ∃ g ∈ L, thereR L a w = [.agg ⟨gcell g⟩, .bool true] ∧ g.b ≤ a ∧ a + max (w : Int) 1 ≤ g.b + g.xs.length ∧ (g.xs.drop (a - g.b).toNat).take w = ys := by
  unfold findB at hf
  unfold thereR
  by_cases h8 : a % 8 = 0
  · rw [if_pos h8] at hf ⊢
    cases hfi : fstI L a (max (w : Int) 1) 0 with
    | none => rw [hfi] at hf; cases hf
    | some i =>
      rw [hfi] at hf
      obtain ⟨q, hq, e, hin, -⟩ := fstI_some hfi
      obtain rfl : i = q := by omega
      dsimp only at hf ⊢
      rw [List.getElem?_eq_getElem hq] at hf ⊢
      injection hf with hf
      obtain ⟨hi1, hi2⟩ := inb_iff.1 hin
      exact ⟨L[i], List.getElem_mem hq, rfl, hi1, by omega, hf⟩
  · rw [if_neg h8] at hf
    cases hf
end Go.Proofs.Ytcpkdjikembpnaa.Ce
namespace Go.Proofs.Ytcpkdjikembpnaa.Ce
open Go.RowKit
section
variable {P : Program} {F : CallE} {h : Hp} {n : Nat} {Φ : Value → Hp → Nat → Prop}
theorem reN_two {m1 m2 : Nat} (hne : m1 ≠ m2) : reN n [m1, m2] m2 = n + 1 := by
  unfold reN
  rw [show Nat.beq m1 m2 = false from by rw [Bool.eq_false_iff]; intro hh; exact hne (Nat.eq_of_beq_eq_true hh)]
  unfold reN
  rw [Nat.beq_refl]
  rfl
theorem reN_one {m1 : Nat} {l : List Nat} : reN n (m1 :: l) m1 = n := by
  unfold reN
  rw [Nat.beq_refl]
  rfl
theorem sw_row2 {v v' : Value} {h' : Hp} {n' m1 m2 e1 e2 : Nat} {ro1 ro2 : Bool} {cs1 cs2 : List Value} (hv : idV n v = [m1, m2]) (hne : m1 ≠ m2) (hn : noFn v = true) (h1 : m1 < n') (h2 : m2 < n') (g1 : rowOf h' m1 = some (e1, ro1, cs1)) (g2 : rowOf h' m2 = some (e2, ro2, cs2))
    (c1 : ∀ v ∈ cs1, idA n v = []) (c2 : ∀ v ∈ cs2, idA n v = []) (hre : reV n [m1, m2] v = v') (hk : Φ v' ((h.set n (.row e1 ro1 cs1)).set (n + 1) (.row e2 ro2 cs2)) (n + 1 + 1)) : kSweep h n Φ v h' n' := by
  have g1' : h'.get m1 = .row e1 ro1 cs1 := rowOf_some g1
  have g2' : h'.get m2 = .row e2 ro2 cs2 := rowOf_some g2
  have p1 : plainO n (AObj.row e1 ro1 cs1) = true := by
    show cs1.all (fun v => (idA n v).isEmpty) = true
    rw [List.all_eq_true]
    intro v hv
    rw [c1 v hv]
    rfl
  have p2 : plainO n (AObj.row e2 ro2 cs2) = true := by
    show cs2.all (fun v => (idA n v).isEmpty) = true
    rw [List.all_eq_true]
    intro v hv
    rw [c2 v hv]
    rfl
  have b1 : Nat.blt m1 n' = true := by rw [Nat.blt_eq]; exact h1
  have b2 : Nat.blt m2 n' = true := by rw [Nat.blt_eq]; exact h2
  have ho : once [m1, m2] = [m1, m2] := by simp [once, hne]
  have e : sweep h n (v, h', n') = (v', (h.set n (.row e1 ro1 cs1)).set (n + 1) (.row e2 ro2 cs2), n + 1 + 1) := by
    unfold sweep
    dsimp only
    rw [hv, hn, ho]
    simp only [List.all_cons, List.all_nil, b1, b2, g1', g2', p1, p2, Bool.and_true, cond_true, hre]
    simp [g1', g2']
  unfold kSweep
  rw [e]
  exact hk
end
end Go.Proofs.Ytcpkdjikembpnaa.Ce
