/- Parts of the proof of ValueStores: Ir. No condition of its own. -/
import Derived.Test.YtcpkdjikembpnaaVtax
import Derived.Test.YtcpkdjikembpnaaVtaz
import Derived.Test.YtcpkdjikembpnaaVtbb
import Derived.Test.YtcpkdjikembpnaaVtbc
set_option linter.unusedVariables false
set_option linter.unusedSimpArgs false
set_option maxRecDepth 100000
set_option maxHeartbeats 4000000
namespace Go.Proofs.Ytcpkdjikembpnaa.Ce
open Go.RowKit
section
variable (k d : Nat)
theorem wrd1 (hk : 30000 ≤ k) (a : Int) (cl : Nat) (h6 : Hp) (n6 id : Nat) (r : RdH h6 n6 (some ⟨id, 0, none⟩) [.int .u64 a]) (ha : 0 ≤ a ∧ a < 18446744073709551616) :
  SQ k (d + 2) cl 86 [.slice (some ⟨id, 0, none⟩) 1 1] h6 n6 fun v h' n' => v = .slice (some ⟨n6, 0, none⟩) 8 8 ∧ h6.set n6 (.row 5 false (bv (litP [a]))) = h' ∧ n6 + 1 = n' :=
 words_ev k d cl h6 n6 hk (some ⟨id, 0, none⟩) [a] 1 r (by simp) (fun w hw => by simp at hw; omega)
theorem wrd2 (hk : 30000 ≤ k) (a b : Int) (cl : Nat) (h6 : Hp) (n6 id : Nat) (r : RdH h6 n6 (some ⟨id, 0, none⟩) [.int .u64 a, .int .u64 b]) (ha : 0 ≤ a ∧ a < 18446744073709551616) (hb : 0 ≤ b ∧ b < 18446744073709551616) :
  SQ k (d + 2) cl 86 [.slice (some ⟨id, 0, none⟩) 2 2] h6 n6 fun v h' n' => v = .slice (some ⟨n6, 0, none⟩) 16 16 ∧ h6.set n6 (.row 5 false (bv (litP [a, b]))) = h' ∧ n6 + 1 = n' :=
 words_ev k d cl h6 n6 hk (some ⟨id, 0, none⟩) [a, b] 2 r (by simp) (fun w hw => by simp at hw; omega)
theorem wrd3 (hk : 30000 ≤ k) (a b : Int) (cl : Nat) (h6 : Hp) (n6 id : Nat) (r : RdH h6 n6 (some ⟨id, 0, none⟩) [.int .u64 a, .int .u64 b, .int .u64 b]) (ha : 0 ≤ a ∧ a < 18446744073709551616) (hb : 0 ≤ b ∧ b < 18446744073709551616) :
  SQ k (d + 2) cl 86 [.slice (some ⟨id, 0, none⟩) 3 3] h6 n6 fun v h' n' => v = .slice (some ⟨n6, 0, none⟩) 24 24 ∧ h6.set n6 (.row 5 false (bv (litP [a, b, b]))) = h' ∧ n6 + 1 = n' :=
 words_ev k d cl h6 n6 hk (some ⟨id, 0, none⟩) [a, b, b] 3 r (by simp) (fun w hw => by simp at hw; omega)
end
variable (k : Nat)
theorem rstored_ev (hk : 30000 ≤ k) (TA : Option Addr) (T : List Tp) (tc : Nat) (hS : ∀ t ∈ T, t.fs.length ≤ 20000) (hm : T.length ≤ 9223372036854775807) (lim : Int) : ∀ (N t : Nat) (v : V) (dp : Nat), OkV T t → fitP T N t v dp = true → ∀ (d cl : Nat) (h : Hp) (n : Nat) (A : Option Addr) (c : Nat) (hs : List UInt8) (cs : List Value), TabH h n TA T → VH h n v cs → HR h n A c hs → hs.length ≤ 20000 →
  SQ k (d + N + 8) cl 50 [.slice TA T.length tc, .agg ⟨[.int .u64 65536, .slice A hs.length c]⟩, .int .i64 lim, .int .i64 t, .agg ⟨cs⟩] h n (StV (storeP T lim N hs t v) A h n) := by
 intro N
 induction N with
 | zero => intro t v dp _ hf; rw [fitP] at hf; cases hf
 | succ N ih =>
 intro t v dp ho hf d cl h n A c hs cs hT hv hh hhl
 rw [show d + (N + 1) + 8 = d + N + 8 + 1 from by omega]
 have htl := ho.lt
 have hfi := ho.chk.2.1 t htl
 have hkd := fine_kd hfi
 have hpt := fun e => ho.ptr e
 have hpl := prt_len ho
 have hpi := fun q (a : q < (prtT T[t]).length) (b : q < (offsT T T[t]).length) => prt_in ho a b
 have hbd := ho.bnd
 have hsp := siz_pos (t + 1) ho (by omega)
 have hs1 := fun e => ho.siz1 e
 have hs24 := fun e => ho.siz24 e
 have hs3 := fun e => ho.siz3 e
 have hs7 := fun e => ho.siz7 e
 obtain ⟨tid, toff, hTA, htid, -, hti, hte, -, -⟩ := hT.at_ htl
 subst hTA
 obtain ⟨A1, cc1, rfl, hA1, hl1⟩ := hv.cut
 obtain ⟨vk, i, s, l, vc⟩ := v
 have hx := List.getElem?_eq_getElem htl
 obtain ⟨e1, e2, f1, f2, f3, f47, f56⟩ := fitP_inv hx hf
 simp only [V.kd, V.i, V.s, V.l, V.c] at hl1 hv ⊢
 rw [storeP_at hx]
 have q1 := wrd1 k (d + N + 6) hk
 have q2 := wrd2 k (d + N + 6) hk
 have q3 := wrd3 k (d + N + 6) hk
 rw [show d + N + 6 + 2 = d + N + 8 from rfl] at q1 q2 q3
 have qp5 := fun e => fun (cl : Nat) (h6 : Hp) (n6 : Nat) (hT6 : TabH h6 n6 (some ⟨tid, toff, none⟩) T) => rpt_fld k (d + N + 3) cl h6 n6 hk (some ⟨tid, toff, none⟩) T tc hT6 t ho e
 have qp6 := fun e => fun (cl : Nat) (h6 : Hp) (n6 : Nat) (hT6 : TabH h6 n6 (some ⟨tid, toff, none⟩) T) => rpt_arr k (d + N + 2) cl h6 n6 hk (some ⟨tid, toff, none⟩) T tc hT6 t ho e
 rw [show d + N + 3 + 5 = d + N + 8 from rfl] at qp5
 rw [show d + N + 2 + 6 = d + N + 8 from rfl] at qp6
 obtain ⟨z, hz⟩ := Int.eq_ofNat_of_zero_le hbd.1
 have qz := fun (cl : Nat) (h6 : Hp) (n6 : Nat) (hT6 : TabH h6 n6 (some ⟨tid, toff, none⟩) T) => (rsize15_ev k (d + N + 3) cl h6 n6 hk (some ⟨tid, toff, none⟩) T tc hT6 t ho).mono (Φ' := fun v h' n' => v = .int .i64 (z : Int) ∧ h6 = h' ∧ n6 = n') fun _ _ _ hp => ⟨by rw [hp.1, hz], hp.2⟩
 rw [show d + N + 3 + 5 = d + N + 8 from rfl] at qz
 simp only [hz] at hbd hsp hpi hs1 hs24 hs3 hs7
 rw [hz, Int.toNat_natCast]
 clear hx
 obtain ⟨x, hx⟩ : ∃ x, T[t] = x := ⟨_, rfl⟩
 simp only [hx] at hfi hkd hpt hpl hpi hti hte e1 f47 f56 hs1 hs24 hs3 hs7 qp5 qp6 ⊢
 obtain ⟨kd, el, ln, fs, FA, fc⟩ := x
 dsimp only at hkd hpt hpl hpi hti hte e1 f47 f56 hs1 hs24 hs3 hs7 qp5 qp6 ⊢
 subst e1
 subst e2
 have hck : vk = 1 ∨ vk = 2 ∨ vk = 3 ∨ (vk = 4 ∨ vk = 7) ∨ vk = 5 ∨ vk = 6 := by omega
 rcases hck with rfl | rfl | rfl | h47 | hc56
 ·rw [if_pos rfl]
  obtain ⟨hi, rfl, rfl⟩ := f1 rfl
  obtain rfl : z = 1 := by have := hs1 rfl; omega
  clear f1 f2 f3 f47 f56 hpt hpl hpi q1 q2 q3 qp5 qp6
  rcases hi with rfl | rfl
  all_goals
   refine enter Try.func50 (by kernel_rfl) rfl (by kernel_rfl) rfl rfl rfl ?_
   (repeat' first | refine zcd ?_ | intro K' hK | (with_reducible refine zn hK ?_; clear hK) | ((with_reducible apply o_callF (g := 85) w_none); (case ha => exact ez0); (case hs => ((with_reducible apply qz); ((refine TabH.more (B := n) ?_ (by omega)); (repeat' first | exact hT | refine TabH.set ?_ (by omega) _)))); (case' hk => rintro _ h' n' ⟨rfl, rfl, rfl⟩)) | ((with_reducible first | apply zo1 | apply zo2 | apply o_guard rfl | apply x_cond | apply k_e1 rfl | apply k_e2 rfl | apply k_e0 rfl | apply k_e3 rfl | apply k_e4 rfl); (case he => exact ez0); (try case hok => exact ezO); all_goals try (intro hb; (try simp only [hbs, reduceCtorEq] at hb); try exact ezX)) | ((with_reducible apply o_undef rfl); (case hb => exact ez0)))
  ·exact sw_store (own := [UInt8.ofNat 0]) hh ((hh.keep (Nat.le_refl _) ezN).le (by omega)) (.inl rfl) (hh.ne1 (by omega)) (by omega) (by omega) ezN ez0
  ·exact sw_store (own := [UInt8.ofNat 1]) hh ((hh.keep (Nat.le_refl _) ezN).le (by omega)) (.inl rfl) (hh.ne1 (by omega)) (by omega) (by omega) ezN ez0
 ·rw [if_neg (by decide), if_pos rfl]
  obtain ⟨rfl, rfl⟩ := f2 rfl
  clear f1 f2 f3 f47 f56 hpt hpl hpi q2 q3 qp5 qp6
  have hwb := wrap_bnd i
  obtain ⟨w, hw⟩ : ∃ w, IntKind.wrap .u64 i = w := ⟨_, rfl⟩
  rw [hw] at hwb ⊢
  refine enter Try.func50 (by kernel_rfl) rfl (by kernel_rfl) rfl rfl rfl ?_
  (repeat' first | refine zcd ?_ | intro K' hK | (with_reducible refine zn hK ?_; clear hK) | ((with_reducible apply o_callF (g := 85) w_none); (case ha => exact ez0); (case hs => ((with_reducible apply qz); ((refine TabH.more (B := n) ?_ (by omega)); (repeat' first | exact hT | refine TabH.set ?_ (by omega) _)))); (case' hk => rintro _ h' n' ⟨rfl, rfl, rfl⟩)) | (with_reducible refine x_drawnD (id := 7) [(0, 2), (0, 3), (0, 5)] (by kernel_rfl) fun K' hK => ?_) | ((with_reducible apply d_nil); (case hp => exact ezP); (case' hx => (refine hK _ _ _ ?_; clear hK))) | ((with_reducible apply d_pure w_none); (case hp => exact rfl); (case hc => exact rfl); (case he => exact ez1 hw)) | ((with_reducible apply d_eff w_none); (case hc => exact rfl); (case he => exact ez1 hw); (case hok => exact ezO)) | ((with_reducible apply d_guard rfl); (case hb => exact ez1 hw); (case' h1 => intro hb; (try simp only [hbs, reduceCtorEq] at hb); try exact ezX); (case' h2 => intro hb; (try simp only [hbs, reduceCtorEq] at hb); try exact ezX)) | ((with_reducible apply d_callS (g := 86) w_none); (case hs0 => exact rfl); (case ha => exact ez0); (case hs => ((with_reducible apply q1); (all_goals first | exact RdH.row (by omega) | omega))); (case' hk => rintro _ h' n' ⟨rfl, rfl, rfl⟩)) | ((with_reducible apply d_callN (g := 86) w_none); (case hs0 => exact rfl); (case ha => exact ez0); (case hs => ((with_reducible apply q1); (all_goals first | exact RdH.row (by omega) | omega))); (case' hk => rintro _ h' n' ⟨rfl, rfl, rfl⟩)) | ((with_reducible first | apply zo1 | apply zo2 | apply o_guard rfl | apply x_cond | apply k_e1 rfl | apply k_e2 rfl | apply k_e0 rfl | apply k_e3 rfl | apply k_e4 rfl); (case he => exact ez1 hw); (try case hok => exact ezO); all_goals try (intro hb; (try simp only [hbs, reduceCtorEq] at hb); try exact ezX)) | ((with_reducible apply o_undef rfl); (case hb => exact ez0)))
  exact sw_store (own := litP [w]) hh ((hh.keep (Nat.le_refl _) ezN).le (by omega)) (.inl rfl) (hh.ne1 (by omega)) (by omega) (by omega) ezN ez0
 ·rw [if_neg (by decide), if_neg (by decide), if_pos rfl]
  obtain ⟨rfl, rfl, hsl⟩ := f3 rfl
  obtain rfl : z = 16 := by have := hs3 rfl; omega
  clear f1 f2 f3 f47 f56 hpt hpl hpi q1 q3 qp5 qp6
  by_cases hs0 : s = []
  ·subst hs0
   rw [if_pos rfl, litP_z [0, 0] (by simp)]
   refine enter Try.func50 (by kernel_rfl) rfl (by kernel_rfl) rfl rfl rfl ?_
   (repeat' first | refine zcd ?_ | intro K' hK | (with_reducible refine zn hK ?_; clear hK) | ((with_reducible apply o_callF (g := 85) w_none); (case ha => exact ez0); (case hs => ((with_reducible apply qz); ((refine TabH.more (B := n) ?_ (by omega)); (repeat' first | exact hT | refine TabH.set ?_ (by omega) _)))); (case' hk => rintro _ h' n' ⟨rfl, rfl, rfl⟩)) | ((with_reducible first | apply zo1 | apply zo2 | apply o_guard rfl | apply x_cond | apply k_e1 rfl | apply k_e2 rfl | apply k_e0 rfl | apply k_e3 rfl | apply k_e4 rfl); (case he => exact ez1 @size_mk); (try case hok => exact ezO); all_goals try (intro hb; (try simp only [hbs, reduceCtorEq] at hb); try exact ezX)) | ((with_reducible apply o_undef rfl); (case hb => exact ez0)))
   exact sw_store (own := zb 16) hh ((hh.keep (Nat.le_refl _) ezN).le (by omega)) (.inl rfl) (hh.ne1 (by omega)) (by omega) (by omega) ezN ez0
  ·rw [if_neg hs0]
   have hs1 : 0 < s.length := List.length_pos_iff.2 hs0
   have hwl := wrap_len (show s.length ≤ 20000 by omega)
   have hA : RdH h n A (bv hs) ∧ (A = none → c = 0) := hh.rd
   have hle : ByteArray.size ⟨⟨s⟩⟩ ≤ 1000000 := by rw [size_mk]; omega
   by_cases hal : allocE 65536 hs.length s.length lim = 0
   ·rw [if_pos hal]
    have qp := fun (cl : Nat) (h6 : Hp) (n6 id : Nat) (hr6 : RdH h6 n6 A (bv hs)) (hr7 : RdH h6 n6 (some ⟨id, 0, none⟩) (bv s)) => (rput14_ok k (d + N + 4) cl h6 n6 hk 65536 A hs c (some ⟨id, 0, none⟩) s s.length lim hr6 hA.2 hr7 (fun e => by cases e) hal).mono (Φ' := fun v h' n' => v = .tuple ⟨[.agg ⟨[.int .u64 65536, .slice (some ⟨n6, 0, none⟩) (putL hs s).length (putL hs s).length]⟩, .int .u64 (65536 + hs.length), .int .i64 0]⟩ ∧ h6.set n6 (.row 5 false (bv (putL hs s))) = h' ∧ n6 + 1 = n') fun _ _ _ hp => ⟨hp.1, hp.2.1.symm, hp.2.2.symm⟩
    rw [show d + N + 4 + 4 = d + N + 8 from rfl] at qp
    obtain ⟨pl, hpl⟩ : ∃ pl, putL hs s = pl := ⟨_, rfl⟩
    simp only [hpl] at qp ⊢
    refine enter Try.func50 (by kernel_rfl) rfl (by kernel_rfl) rfl rfl rfl ?_
    (repeat' first | refine zcd ?_ | intro K' hK | (with_reducible refine zn hK ?_; clear hK) | ((with_reducible apply o_callF (g := 85) w_none); (case ha => exact ez0); (case hs => ((with_reducible apply qz); ((refine TabH.more (B := n) ?_ (by omega)); (repeat' first | exact hT | refine TabH.set ?_ (by omega) _)))); (case' hk => rintro _ h' n' ⟨rfl, rfl, rfl⟩)) | (with_reducible refine x_drawnD (id := 12) [(0, 3), (0, 5), (0, 7)] (by kernel_rfl) fun K' hK => ?_) | ((with_reducible apply d_nil); (case hp => exact ezP); (case' hx => (refine hK _ _ _ ?_; clear hK))) | ((with_reducible apply d_pure w_none); (case hp => exact rfl); (case hc => exact rfl); (case he => exact ez2 @size_mk hwl)) | ((with_reducible apply d_eff w_none); (case hc => exact rfl); (case he => exact ez2 @size_mk hwl); (case hok => exact ezO)) | ((with_reducible apply d_guard rfl); (case hb => exact ez2 @size_mk hwl); (case' h1 => intro hb; (try simp only [hbs, reduceCtorEq] at hb); try exact ezX); (case' h2 => intro hb; (try simp only [hbs, reduceCtorEq] at hb); try exact ezX)) | ((with_reducible apply o_callF (g := 87) w_none); (case ha => exact ez0); (case hs => ((with_reducible apply qp); (all_goals first | exact RdH.row (by omega) | ((refine RdH.more (B := n) ?_ (by omega)); (repeat' first | exact hA.1 | refine RdH.set ?_ (by omega) _))))); (case' hk => rintro _ h' n' ⟨rfl, rfl, rfl⟩)) | ((with_reducible apply d_callS (g := 86) w_none); (case hs0 => exact rfl); (case ha => exact ez0); (case hs => ((with_reducible apply q2); (all_goals first | exact RdH.row (by omega) | omega))); (case' hk => rintro _ h' n' ⟨rfl, rfl, rfl⟩)) | ((with_reducible apply d_callN (g := 86) w_none); (case hs0 => exact rfl); (case ha => exact ez0); (case hs => ((with_reducible apply q2); (all_goals first | exact RdH.row (by omega) | omega))); (case' hk => rintro _ h' n' ⟨rfl, rfl, rfl⟩)) | ((with_reducible first | apply zo1 | apply zo2 | apply o_guard rfl | apply x_cond | apply k_e1 rfl | apply k_e2 rfl | apply k_e0 rfl | apply k_e3 rfl | apply k_e4 rfl); (case he => exact ez3 @bvals_bv @size_mk hwl); (try case hok => exact ezO); all_goals try (intro hb; (try simp only [hbs, reduceCtorEq] at hb); try exact ezX)) | ((with_reducible apply o_undef rfl); (case hb => exact ez0)))
    exact sw_store (own := litP [65536 + (hs.length : Int), (s.length : Int)]) hh (.inr ⟨_, rfl, by omega, ez0⟩) (.inr ⟨_, rfl, by omega⟩) (fun e => by injection e with e; injection e with e; omega) (by omega) (by omega) ezN ez0
   ·rw [if_neg hal]
    obtain ⟨E, hE⟩ : ∃ E, allocE 65536 hs.length s.length lim = E := ⟨_, rfl⟩
    have qp := fun (cl : Nat) (h6 : Hp) (n6 id : Nat) => (rput14_err k (d + N + 4) cl h6 n6 hk 65536 A hs.length c (some ⟨id, 0, none⟩) s.length s.length lim (by omega) (by omega) hal).mono (Φ' := fun v h' n' => v = .tuple ⟨[.agg ⟨[.int .u64 0, .slice none 0 0]⟩, .int .u64 0, .int .i64 E]⟩ ∧ h6 = h' ∧ n6 = n') fun _ _ _ hp => ⟨by rw [hp.1, hE], hp.2.1.symm, hp.2.2.symm⟩
    rw [show d + N + 4 + 4 = d + N + 8 from rfl] at qp
    rw [hE] at hal ⊢
    refine enter Try.func50 (by kernel_rfl) rfl (by kernel_rfl) rfl rfl rfl ?_
    (repeat' first | refine zcd ?_ | intro K' hK | (with_reducible refine zn hK ?_; clear hK) | ((with_reducible apply o_callF (g := 85) w_none); (case ha => exact ez0); (case hs => ((with_reducible apply qz); ((refine TabH.more (B := n) ?_ (by omega)); (repeat' first | exact hT | refine TabH.set ?_ (by omega) _)))); (case' hk => rintro _ h' n' ⟨rfl, rfl, rfl⟩)) | (with_reducible refine x_drawnD (id := 12) [(0, 3), (0, 5), (0, 7)] (by kernel_rfl) fun K' hK => ?_) | ((with_reducible apply d_nil); (case hp => exact ezP); (case' hx => (refine hK _ _ _ ?_; clear hK))) | ((with_reducible apply d_pure w_none); (case hp => exact rfl); (case hc => exact rfl); (case he => exact ez2 @size_mk hwl)) | ((with_reducible apply d_eff w_none); (case hc => exact rfl); (case he => exact ez2 @size_mk hwl); (case hok => exact ezO)) | ((with_reducible apply d_guard rfl); (case hb => exact ez2 @size_mk hwl); (case' h1 => intro hb; (try simp only [hbs, reduceCtorEq] at hb); try exact ezX); (case' h2 => intro hb; (try simp only [hbs, reduceCtorEq] at hb); try exact ezX)) | ((with_reducible apply o_callF (g := 87) w_none); (case ha => exact ez0); (case hs => ((with_reducible apply qp))); (case' hk => rintro _ h' n' ⟨rfl, rfl, rfl⟩)) | ((with_reducible apply d_callS (g := 86) w_none); (case hs0 => exact rfl); (case ha => exact ez0); (case hs => ((with_reducible apply q2); (all_goals first | exact RdH.row (by omega) | omega))); (case' hk => rintro _ h' n' ⟨rfl, rfl, rfl⟩)) | ((with_reducible apply d_callN (g := 86) w_none); (case hs0 => exact rfl); (case ha => exact ez0); (case hs => ((with_reducible apply q2); (all_goals first | exact RdH.row (by omega) | omega))); (case' hk => rintro _ h' n' ⟨rfl, rfl, rfl⟩)) | ((with_reducible first | apply zo1 | apply zo2 | apply o_guard rfl | apply x_cond | apply k_e1 rfl | apply k_e2 rfl | apply k_e0 rfl | apply k_e3 rfl | apply k_e4 rfl); (case he => exact ez3 @bvals_bv @size_mk hwl); (try case hok => exact ezO); all_goals try (intro hb; (try simp only [hbs, reduceCtorEq] at hb); try exact ezX)) | ((with_reducible apply o_undef rfl); (case hb => exact ez0)))
    exact sw_serr (own := litP [0, (s.length : Int)]) hal (fun e => by have := litP_length [0, (s.length : Int)]; rw [e] at this; simp at this) (by omega) (by omega) ez0
 ·rw [if_neg (by omega), if_neg (by omega), if_neg (by omega), if_pos h47]
  obtain ⟨rfl, rfl, hll, -, hfe⟩ := f47 h47
  obtain ⟨y, hy, hoy⟩ := hpt h47
  subst hy
  clear f1 f2 f3 f47 f56 hpt hpl hpi q2 qp5 qp6
  have hyb := hoy.bnd
  have hyp := siz_pos (y + 1) hoy (by omega)
  obtain ⟨z2, hz2⟩ := Int.eq_ofNat_of_zero_le hyb.1
  rw [hz2] at hyb hyp
  simp only [Int.toNat_natCast] at hfe
  obtain ⟨g, hgd⟩ : ∃ g, storeP T lim N = g := ⟨_, rfl⟩
  have hg : ∀ (hs : List UInt8) (v2 : V), hs.length ≤ 20000 → v2 ∈ l → ∀ r, g hs y v2 = .ok r → r.2.length = z2 ∧ r.1.length ≤ 20000 := fun hs2 v2 h2 hv2 r hr => by
   have := storeP_ok N y v2 (dp - 1) hs2 hoy (hfe v2 hv2).2 h2 r (by rw [hgd]; exact hr)
   rw [hz2, Int.toNat_natCast] at this
   exact this
  have ihg : ∀ v2 ∈ l, ∀ (cl : Nat) (h6 : Hp) (n6 : Nat) (A : Option Addr) (c : Nat) (hs : List UInt8) (cs : List Value), TabH h6 n6 (some ⟨tid, toff, none⟩) T → VH h6 n6 v2 cs → HR h6 n6 A c hs → hs.length ≤ 20000 →
    SQ k (d + N + 8) cl 50 [.slice (some ⟨tid, toff, none⟩) T.length tc, .agg ⟨[.int .u64 65536, .slice A hs.length c]⟩, .int .i64 lim, .int .i64 y, .agg ⟨cs⟩] h6 n6 (StV (g hs y v2) A h6 n6) := fun v2 hv2 cl h7 n7 A7 c7 hs7 cs7 a b c8 e => by
   rw [← hgd]
   exact ih y v2 (dp - 1) hoy (hfe v2 hv2).2 d cl h7 n7 A7 c7 hs7 cs7 a b c8 e
  rw [hgd]
  clear ih hfe hgd
  have hwl := wrap_len (show l.length ≤ 20000 by omega)
  unfold tgtP
  dsimp only
  by_cases hl0 : l = []
  ·subst hl0
   rw [if_pos rfl]
   rcases h47 with rfl | rfl
   ·obtain rfl : z = 8 := by have := hs24 (.inr rfl); omega
    rw [show litP (ptrP 4 0 0) = zb 8 from litP_z [0] (by simp)]
    refine enter Try.func50 (by kernel_rfl) rfl (by kernel_rfl) rfl rfl rfl ?_
    (repeat' first | refine zcd ?_ | intro K' hK | (with_reducible refine zn hK ?_; clear hK) | ((with_reducible apply o_callF (g := 85) w_none); (case ha => exact ez0); (case hs => ((with_reducible apply qz); ((refine TabH.more (B := n) ?_ (by omega)); (repeat' first | exact hT | refine TabH.set ?_ (by omega) _)))); (case' hk => rintro _ h' n' ⟨rfl, rfl, rfl⟩)) | ((with_reducible first | apply zo1 | apply zo2 | apply o_guard rfl | apply x_cond | apply k_e1 rfl | apply k_e2 rfl | apply k_e0 rfl | apply k_e3 rfl | apply k_e4 rfl); (case he => exact ez0); (try case hok => exact ezO); all_goals try (intro hb; (try simp only [hbs, reduceCtorEq] at hb); try exact ezX)) | ((with_reducible apply o_undef rfl); (case hb => exact ez0)))
    exact sw_store (own := zb 8) hh ((hh.keep (Nat.le_refl _) ezN).le (by omega)) (.inl rfl) (hh.ne1 (by omega)) (by omega) (by omega) ezN ez0
   ·obtain rfl : z = 24 := by have := hs7 rfl; omega
    rw [show litP (ptrP 7 0 0) = zb 24 from litP_z [0, 0, 0] (by simp)]
    refine enter Try.func50 (by kernel_rfl) rfl (by kernel_rfl) rfl rfl rfl ?_
    (repeat' first | refine zcd ?_ | intro K' hK | (with_reducible refine zn hK ?_; clear hK) | ((with_reducible apply o_callF (g := 85) w_none); (case ha => exact ez0); (case hs => ((with_reducible apply qz); ((refine TabH.more (B := n) ?_ (by omega)); (repeat' first | exact hT | refine TabH.set ?_ (by omega) _)))); (case' hk => rintro _ h' n' ⟨rfl, rfl, rfl⟩)) | ((with_reducible first | apply zo1 | apply zo2 | apply o_guard rfl | apply x_cond | apply k_e1 rfl | apply k_e2 rfl | apply k_e0 rfl | apply k_e3 rfl | apply k_e4 rfl); (case he => exact ez0); (try case hok => exact ezO); all_goals try (intro hb; (try simp only [hbs, reduceCtorEq] at hb); try exact ezX)) | ((with_reducible apply o_undef rfl); (case hb => exact ez0)))
    exact sw_store (own := zb 24) hh ((hh.keep (Nat.le_refl _) ezN).le (by omega)) (.inl rfl) (hh.ne1 (by omega)) (by omega) (by omega) ezN ez0
  ·rw [if_neg hl0]
   rcases h47 with h47 | h47
   all_goals
    have hlp : 0 < l.length := List.length_pos_iff.2 hl0
    obtain ⟨res, hres⟩ : ∃ res, catP g hs (l.map fun v => ((y : Int), v)) = res := ⟨_, rfl⟩
    rw [hres]
    obtain ⟨R, hR⟩ : ∃ R : Except Int (List UInt8 × List UInt8), R = tgtR lim vk l.length res := ⟨_, rfl⟩
    refine Sp.mono (Φ := StV R A h n) ?_ fun v h' n' hp => by rw [hR] at hp; exact hp
    refine enter Try.func50 (by kernel_rfl) rfl (by kernel_rfl) rfl rfl rfl ?_
    (repeat' first | refine zcd ?_ | intro K' hK | (with_reducible refine zn hK ?_; clear hK) | ((with_reducible apply o_callF (g := 85) w_none); (case ha => exact ez0); (case hs => ((with_reducible apply qz); ((refine TabH.more (B := n) ?_ (by omega)); (repeat' first | exact hT | refine TabH.set ?_ (by omega) _)))); (case' hk => rintro _ h' n' ⟨rfl, rfl, rfl⟩)) | ((with_reducible first | apply zo1 | apply zo2 | apply o_guard rfl | apply x_cond | apply k_e1 rfl | apply k_e2 rfl | apply k_e0 rfl | apply k_e3 rfl | apply k_e4 rfl); (case he => exact ez0); (try case hok => exact ezO); all_goals try (intro hb; (try simp only [hbs, reduceCtorEq] at hb); try exact ezX)) | ((with_reducible apply o_undef rfl); (case hb => exact ez0)))
    refine x_loopV [11, 12, 17, 18, 19, 20, 21, 92, 93, 94, 95, 96, 97, 98, 99, 100, 101, 102, 103, 104, 105, 106, 107, 108, 109, 110, 111, 112, 113, 114, 115, 116, 117, 118, 119, 120, 121, 122, 123, 124] [17, 18] (fun m vs h5 n5 => ∃ (q : Nat) (OA : Value) (A' : Option Addr) (c' : Nat) (hs' : List UInt8) (owns : List (List UInt8)), m = l.length - q ∧ q ≤ l.length ∧ vs = [OA, .int .i64 q] ∧ n + 4 ≤ n5 ∧ (∀ b, b < n → h5.get b = h.get b) ∧
     rowOf h5 n = some (29, false, [.int .u64 65536, .slice A' hs'.length c']) ∧ rowOf h5 (n + 1) = some (32, false, vcell vk 0 [] A1 l.length cc1 false) ∧ rowOf h5 (n + 2) = some (29, false, [.int .u64 0, .slice none 0 0]) ∧
     HR h5 n5 A' c' hs' ∧ (A' = A ∨ ∃ id, A' = some ⟨id, 0, none⟩ ∧ n + 4 ≤ id) ∧ hs'.length ≤ 20000 ∧ catP g hs ((l.take q).map fun v => ((y : Int), v)) = .ok (hs', owns) ∧ owns.flatten.length = q * z2 ∧ OwnY owns.flatten OA h5 (n + 4) n5 ∧ ∀ b m c, OA = .slice (some ⟨b, 0, none⟩) m c → A' ≠ some ⟨b, 0, none⟩) l.length rfl (by omega) ?_ ?_
    ·exact ⟨0, .slice none 0 0, A, c, hs, [], rfl, by omega, ez0, by omega, ezN, ez0, ez0, ez0, (hh.keep (Nat.le_refl _) ezN).le (by omega), .inl rfl, hhl, rfl, by simp, .inl ⟨rfl, rfl⟩, fun b m c e => by cases e⟩
    ·rintro m g1 _ h5 n5 ⟨q, OA, A', c', hs', owns, rfl, hq, rfl, hn5, hkp, r6, r9, r10, hh5, hA', hsl, hcat, hfl, hO, hOA⟩
     have hT5 : TabH h5 n5 (some ⟨tid, toff, none⟩) T := (hT.keep (Nat.le_refl _) hkp).more (by omega)
     have hL5 : LH h5 n5 A1 l := hl1.keep (by omega) hkp
     have hte5 : cellAt h5 tid (toff + t * 4 + 1) = some (.int .i64 y) := by rw [cellAt_keep (hkp tid htid)]; exact hte
     have f6 := cellsAt_row (off := 0) (k := 2) r6
     have f9 := cellAt_row (off := 3) r9
     have f90 := cellAt_row (off := 0) r9
     by_cases hql : q < l.length
     ·obtain ⟨vid, voff, A2, cc2, rfl, hvid, c1, v1⟩ := hL5.at_ hql
      have qs := fun (cl : Nat) (h6 : Hp) (n6 : Nat) (cs : List Value) (hT6 : TabH h6 n6 (some ⟨tid, toff, none⟩) T) (hv6 : VH h6 n6 l[q] cs) (hh6 : HR h6 n6 A' c' hs') => ihg l[q] (List.getElem_mem hql) cl h6 n6 A' c' hs' cs hT6 hv6 hh6 hsl
      have hgq := hg hs' l[q] hsl (List.getElem_mem hql)
      have hsn := catP_snoc g ((y : Int), l[q]) _ _ _ hcat
      have htk : (l.take (q + 1)).map (fun v => ((y : Int), v)) = (l.take q).map (fun v => ((y : Int), v)) ++ [((y : Int), l[q])] := by rw [List.take_succ_eq_append_getElem hql, List.map_append]; rfl
      rw [← htk] at hsn
      dsimp only at hsn
      rw [Int.toNat_natCast] at hsn
      obtain ⟨e, he⟩ : ∃ e, l[q] = e := ⟨_, rfl⟩
      simp only [he] at c1 v1 qs hgq hsn
      clear htk
      cases hge : g hs' y e with
      | error e0 =>
       simp only [hge] at qs hsn
       have hRe : R = .error e0 := by
        have h1 := catP_err g _ ((l.drop (q + 1)).map fun v => ((y : Int), v)) _ hsn
        rw [← List.map_append, List.take_append_drop, hres] at h1
        rw [hR, h1]
        rfl
       rw [hRe]
       (repeat' first | refine zcd ?_ | intro K' hK | (with_reducible refine zn hK ?_; clear hK) | (with_reducible refine x_drawnD (id := 21) [(1, 7), (1, 9), (7, 9), (1, 12), (7, 12)] (by kernel_rfl) fun K' hK => ?_) | ((with_reducible apply d_nil); (case hp => exact ezP); (case' hx => (refine hK _ _ _ ?_; clear hK))) | ((with_reducible apply d_pure w_none); (case hp => exact rfl); (case hc => exact rfl); (case he => exact ez4 f6 f9 c1 hte5)) | ((with_reducible apply d_eff w_none); (case hc => exact rfl); (case he => exact ez4 f6 f9 c1 hte5); (case hok => exact ezO)) | ((with_reducible apply d_guard rfl); (case hb => exact ez4 f6 f9 c1 hte5); (case' h1 => intro hb; (try simp only [hbs, reduceCtorEq] at hb); try exact ezX); (case' h2 => intro hb; (try simp only [hbs, reduceCtorEq] at hb); try exact ezX)) | ((with_reducible apply d_callS (g := 50) w_none); (case hs0 => exact rfl); (case ha => exact ez0); (case hs => ((with_reducible apply qs); (all_goals first | ((refine TabH.more (B := n5) ?_ (by omega)); (repeat' first | exact hT5 | refine TabH.set ?_ (by omega) _)) | ((refine VH.more (B := n5) ?_ (by omega)); (repeat' first | exact v1 | refine VH.set ?_ (by omega) _)) | exact hh5))); (case' hk => rintro _ h' n' ⟨O, m, c2, rfl, he0, hn6, hk6, -⟩)) | ((with_reducible apply d_callN (g := 50) w_none); (case hs0 => exact rfl); (case ha => exact ez0); (case hs => ((with_reducible apply qs); (all_goals first | ((refine TabH.more (B := n5) ?_ (by omega)); (repeat' first | exact hT5 | refine TabH.set ?_ (by omega) _)) | ((refine VH.more (B := n5) ?_ (by omega)); (repeat' first | exact v1 | refine VH.set ?_ (by omega) _)) | exact hh5))); (case' hk => rintro _ h' n' ⟨O, m, c2, rfl, he0, hn6, hk6, -⟩)) | ((with_reducible first | apply zo1 | apply zo2 | apply o_guard rfl | apply x_cond | apply k_e1 rfl | apply k_e2 rfl | apply k_e0 rfl | apply k_e3 rfl | apply k_e4 rfl); (case he => exact ez1 f9); (try case hok => exact ezO); all_goals try (intro hb; (try simp only [hbs, reduceCtorEq] at hb); try exact ezX)) | ((with_reducible apply o_undef rfl); (case hb => exact ez0)))
       have r10' : rowOf h' (n + 2) = some (29, false, [.int .u64 0, .slice none 0 0]) := (by (repeat rw [rowOf_ne _ _ (by omega)]); rw [rowOf_keep (hk6 _ (by omega))]; (repeat rw [rowOf_ne _ _ (by omega)]); exact r10)
       have w10 := rwOf_row r10'
       (repeat' first | refine zcd ?_ | intro K' hK | (with_reducible refine zn hK ?_; clear hK) | ((with_reducible apply d_nil); (case hp => exact ezP); (case' hx => (refine hK _ _ _ ?_; clear hK))) | ((with_reducible apply d_pure w_none); (case hp => exact rfl); (case hc => exact rfl); (case he => exact ez0)) | ((with_reducible apply d_eff w_none); (case hc => exact rfl); (case he => exact ez0); (case hok => exact ezO)) | ((with_reducible apply d_guard rfl); (case hb => exact ez0); (case' h1 => intro hb; (try simp only [hbs, reduceCtorEq] at hb); try exact ezX); (case' h2 => intro hb; (try simp only [hbs, reduceCtorEq] at hb); try exact ezX)) | ((with_reducible first | apply zo1 | apply zo2 | apply o_guard rfl | apply x_cond | apply k_e1 rfl | apply k_e2 rfl | apply k_e0 rfl | apply k_e3 rfl | apply k_e4 rfl); (case he => exact ez1 w10); (try case hok => exact ezO); all_goals try (intro hb; (try simp only [hbs, reduceCtorEq] at hb); try exact ezX)) | ((with_reducible apply o_undef rfl); (case hb => exact ez0)))
       all_goals exact sw_sno he0
      | ok r =>
       obtain ⟨hs2, own⟩ := r
       obtain ⟨ho1, ho2⟩ := hgq _ hge
       simp only [hge] at qs hsn
       dsimp only at ho1 ho2 hsn
       have ho0 : own ≠ [] := fun e => by rw [e] at ho1; simp at ho1; omega
       (repeat' first | refine zcd ?_ | intro K' hK | (with_reducible refine zn hK ?_; clear hK) | (with_reducible refine x_drawnD (id := 21) [(1, 7), (1, 9), (7, 9), (1, 12), (7, 12)] (by kernel_rfl) fun K' hK => ?_) | ((with_reducible apply d_nil); (case hp => exact ezP); (case' hx => (refine hK _ _ _ ?_; clear hK))) | ((with_reducible apply d_pure w_none); (case hp => exact rfl); (case hc => exact rfl); (case he => exact ez4 f6 f9 c1 hte5)) | ((with_reducible apply d_eff w_none); (case hc => exact rfl); (case he => exact ez4 f6 f9 c1 hte5); (case hok => exact ezO)) | ((with_reducible apply d_guard rfl); (case hb => exact ez4 f6 f9 c1 hte5); (case' h1 => intro hb; (try simp only [hbs, reduceCtorEq] at hb); try exact ezX); (case' h2 => intro hb; (try simp only [hbs, reduceCtorEq] at hb); try exact ezX)) | ((with_reducible apply d_callS (g := 50) w_none); (case hs0 => exact rfl); (case ha => exact ez0); (case hs => ((with_reducible apply qs); (all_goals first | ((refine TabH.more (B := n5) ?_ (by omega)); (repeat' first | exact hT5 | refine TabH.set ?_ (by omega) _)) | ((refine VH.more (B := n5) ?_ (by omega)); (repeat' first | exact v1 | refine VH.set ?_ (by omega) _)) | exact hh5))); (case' hk => rintro _ h' n' ⟨A3, c3, bid, rfl, hr3, ho3, hne3, hb1, hb2, hb3, hn6, hk6⟩)) | ((with_reducible apply d_callN (g := 50) w_none); (case hs0 => exact rfl); (case ha => exact ez0); (case hs => ((with_reducible apply qs); (all_goals first | ((refine TabH.more (B := n5) ?_ (by omega)); (repeat' first | exact hT5 | refine TabH.set ?_ (by omega) _)) | ((refine VH.more (B := n5) ?_ (by omega)); (repeat' first | exact v1 | refine VH.set ?_ (by omega) _)) | exact hh5))); (case' hk => rintro _ h' n' ⟨A3, c3, bid, rfl, hr3, ho3, hne3, hb1, hb2, hb3, hn6, hk6⟩)) | ((with_reducible first | apply zo1 | apply zo2 | apply o_guard rfl | apply x_cond | apply k_e1 rfl | apply k_e2 rfl | apply k_e0 rfl | apply k_e3 rfl | apply k_e4 rfl); (case he => exact ez1 f9); (try case hok => exact ezO); all_goals try (intro hb; (try simp only [hbs, reduceCtorEq] at hb); try exact ezX)) | ((with_reducible apply o_undef rfl); (case hb => exact ez0)))
       have hA3 : A3 = A ∨ ∃ id, A3 = some ⟨id, 0, none⟩ ∧ n + 4 ≤ id := by
        rcases ho3 with rfl | ⟨id, e, hid⟩
        ·exact hA'
        ·exact .inr ⟨id, e, by omega⟩
       have hold : ∀ b, A3 = some ⟨b, 0, none⟩ → b < n' ∧ (b < n ∨ n + 4 ≤ b) := fun b hb => ⟨hr3.old b hb, by
        rcases hA3 with rfl | ⟨id, e, hid⟩
        ·exact .inl (hh.old b hb)
        ·rw [hb] at e
         injection e with e
         injection e with e
         omega⟩
       have hOA3 : ∀ b m c, OA = .slice (some ⟨b, 0, none⟩) m c → A3 ≠ some ⟨b, 0, none⟩ := fun b m c e => by
        rcases ho3 with rfl | ⟨id, e2, hid⟩
        ·exact hOA b m c e
        ·intro e3
         rw [e2] at e3
         injection e3 with e3
         injection e3 with e3
         rcases hO with ⟨-, e4⟩ | ⟨-, id4, -, b2, e4, -⟩
         ·rw [e] at e4; cases e4
         ·rw [e] at e4
          injection e4 with e4
          injection e4 with e4
          injection e4 with e4
          omega
       have r6' : rowOf h' n = some (29, false, [.int .u64 65536, .slice A' hs'.length c']) := (by (repeat rw [rowOf_ne _ _ (by omega)]); rw [rowOf_keep (hk6 _ (by omega))]; (repeat rw [rowOf_ne _ _ (by omega)]); exact r6)
       have r9' : rowOf h' (n + 1) = some (32, false, vcell vk 0 [] (some ⟨vid, voff, none⟩) l.length cc1 false) := (by (repeat rw [rowOf_ne _ _ (by omega)]); rw [rowOf_keep (hk6 _ (by omega))]; (repeat rw [rowOf_ne _ _ (by omega)]); exact r9)
       have r10' : rowOf h' (n + 2) = some (29, false, [.int .u64 0, .slice none 0 0]) := (by (repeat rw [rowOf_ne _ _ (by omega)]); rw [rowOf_keep (hk6 _ (by omega))]; (repeat rw [rowOf_ne _ _ (by omega)]); exact r10)
       have w6 := rwOf_row r6'
       have hkp' : ∀ b, b < n → h'.get b = h.get b := fun b hb => by
        rw [hk6 _ (by omega)]
        (repeat rw [Hp.get_ne _ _ (by omega)])
        exact hkp b hb
       have hO' : OwnY owns.flatten OA h' (n + 4) n' := by
        rcases hO with e | ⟨a, id, b1, b2, b3, b4⟩
        ·exact .inl e
        ·exact .inr ⟨a, id, b1, by omega, b3, (by rw [rowOf_keep (hk6 _ (by omega))]; (repeat rw [rowOf_ne _ _ (by omega)]); exact b4)⟩
       have hfl2 : (owns ++ [own]).flatten = owns.flatten ++ own := by simp
       have hfl3 : (owns ++ [own]).flatten.length = (q + 1) * z2 := by rw [hfl2, List.length_append, hfl, ho1, Nat.add_mul, Nat.one_mul]
       clear hO hk6 r6 r9 r10 f6 f9 f90 c1 v1 qs
       rcases hO' with ⟨hp0, rfl⟩ | ⟨hp0, id, j1, j2, rfl, q4⟩
       ·rw [hp0, List.nil_append] at hfl2
        (repeat' first | refine zcd ?_ | intro K' hK | (with_reducible refine zn hK ?_; clear hK) | ((with_reducible apply d_nil); (case hp => exact ezP); (case' hx => (refine hK _ _ _ ?_; clear hK))) | ((with_reducible apply d_pure w_none); (case hp => exact rfl); (case hc => exact rfl); (case he => exact ez0)) | ((with_reducible apply d_eff w_none); (case hc => exact rfl); (case he => exact ez0); (case hok => exact ezO)) | ((with_reducible apply d_guard rfl); (case hb => exact ez0); (case' h1 => intro hb; (try simp only [hbs, reduceCtorEq] at hb); try exact ezX); (case' h2 => intro hb; (try simp only [hbs, reduceCtorEq] at hb); try exact ezX)) | (with_reducible refine x_drawnD (id := 24) [(0, 3)] (by kernel_rfl) fun K' hK => ?_) | ((with_reducible apply d_nil); (case hp => exact ezP); (case' hx => (refine hK _ _ _ ?_; clear hK))) | ((with_reducible apply d_pure w_none); (case hp => exact rfl); (case hc => exact rfl); (case he => exact ez1 w6)) | ((with_reducible apply d_eff w_none); (case hc => exact rfl); (case he => exact ez1 w6); (case hok => exact ezO)) | ((with_reducible apply d_guard rfl); (case hb => exact ez1 w6); (case' h1 => intro hb; (try simp only [hbs, reduceCtorEq] at hb); try exact ezX); (case' h2 => intro hb; (try simp only [hbs, reduceCtorEq] at hb); try exact ezX)) | ((with_reducible apply d_ap0 (t := 27) apT27 w_none); (case hs => exact ez0); (case hy => exact ez0); (case hsrc => exact src_row (ezW hb3) (by rw [bv_length]; exact (Nat.mul_one _).symm)); (case hc => exact bv_cok own); (case hm => omega); (case h0 => omega); (case' hx => intro rd)) | ((with_reducible first | apply zo1 | apply zo2 | apply o_guard rfl | apply x_cond | apply k_e1 rfl | apply k_e2 rfl | apply k_e0 rfl | apply k_e3 rfl | apply k_e4 rfl); (case he => exact ez0); (try case hok => exact ezO); all_goals try (intro hb; (try simp only [hbs, reduceCtorEq] at hb); try exact ezX)) | ((with_reducible apply o_undef rfl); (case hb => exact ez0)))
        refine k_round (l.length - (q + 1)) (by omega) ⟨q + 1, .slice (some ⟨n' + 1, 0, none⟩) own.length own.length, A3, c3, hs2, owns ++ [own], rfl, by omega, ez0, by omega, (fun b hb => by (repeat rw [Hp.get_ne _ _ (by omega)]); exact hkp' b hb), ez0, (ezW r9'), (ezW r10'), hr3.at_ (by omega) (fun b hb => by have := hold b hb; (repeat rw [Hp.get_ne _ _ (by omega)])), hA3, ho2, hsn, hfl3, ?_, fun b m c e => by injection e with e; injection e with e; injection e with e; intro e2; have := (hold b e2).1; omega⟩
        rw [hfl2]
        exact .inr ⟨ho0, n' + 1, by omega, by omega, rfl, ez0⟩
       ·have w4 := rwOf_row q4
        obtain ⟨acc, hacc⟩ : ∃ acc, owns.flatten = acc := ⟨_, rfl⟩
        rw [hacc] at hfl2 w4 hp0 q4 hfl ⊢
        have hacl : acc.length ≤ 16 * 256 := by rw [hfl]; exact Nat.mul_le_mul (by omega) (by omega)
        have htw : (bv acc).take acc.length = bv acc := List.take_of_length_le (by rw [bv_length]; omega)
        (repeat' first | refine zcd ?_ | intro K' hK | (with_reducible refine zn hK ?_; clear hK) | ((with_reducible apply d_nil); (case hp => exact ezP); (case' hx => (refine hK _ _ _ ?_; clear hK))) | ((with_reducible apply d_pure w_none); (case hp => exact rfl); (case hc => exact rfl); (case he => exact ez0)) | ((with_reducible apply d_eff w_none); (case hc => exact rfl); (case he => exact ez0); (case hok => exact ezO)) | ((with_reducible apply d_guard rfl); (case hb => exact ez0); (case' h1 => intro hb; (try simp only [hbs, reduceCtorEq] at hb); try exact ezX); (case' h2 => intro hb; (try simp only [hbs, reduceCtorEq] at hb); try exact ezX)) | (with_reducible refine x_drawnD (id := 24) [(0, 3)] (by kernel_rfl) fun K' hK => ?_) | ((with_reducible apply d_nil); (case hp => exact ezP); (case' hx => (refine hK _ _ _ ?_; clear hK))) | ((with_reducible apply d_pure w_none); (case hp => exact rfl); (case hc => exact rfl); (case he => exact ez1 w6)) | ((with_reducible apply d_eff w_none); (case hc => exact rfl); (case he => exact ez1 w6); (case hok => exact ezO)) | ((with_reducible apply d_guard rfl); (case hb => exact ez1 w6); (case' h1 => intro hb; (try simp only [hbs, reduceCtorEq] at hb); try exact ezX); (case' h2 => intro hb; (try simp only [hbs, reduceCtorEq] at hb); try exact ezX)) | ((with_reducible apply d_apR (t := 27) apT27 w_none); (case hs => exact ez1 w4); (case hy => exact ez1 w4); (case hsrc => exact src_row (ezW hb3) (by rw [bv_length]; exact (Nat.mul_one _).symm)); (case hr => exact ez1 w4); (case hc => exact bv_cok own); (case hm => omega); (case hli => omega); (case hln => omega); (case hcs => rw [bv_length]; omega); (case' hx => intro rd)) | ((with_reducible first | apply zo1 | apply zo2 | apply o_guard rfl | apply x_cond | apply k_e1 rfl | apply k_e2 rfl | apply k_e0 rfl | apply k_e3 rfl | apply k_e4 rfl); (case he => exact ez0); (try case hok => exact ezO); all_goals try (intro hb; (try simp only [hbs, reduceCtorEq] at hb); try exact ezX)) | ((with_reducible apply o_undef rfl); (case hb => exact ez0)))
        refine k_round (l.length - (q + 1)) (by omega) ⟨q + 1, .slice (some ⟨n' + 1, 0, none⟩) (acc.length + own.length) (acc.length + own.length), A3, c3, hs2, owns ++ [own], rfl, by omega, ez0, by omega, (fun b hb => by (repeat rw [Hp.get_ne _ _ (by omega)]); exact hkp' b hb), ez0, (ezW r9'), (ezW r10'), hr3.at_ (by omega) (fun b hb => by have := hold b hb; have : b ≠ id := (fun e => hOA3 id _ _ rfl (by rw [hb, e])); (repeat rw [Hp.get_ne _ _ (by omega)])), hA3, ho2, hsn, hfl3, ?_, fun b m c e => by injection e with e; injection e with e; injection e with e; intro e2; have := (hold b e2).1; omega⟩
        rw [hfl2]
        exact .inr ⟨by simp [ho0], n' + 1, by omega, by omega, by rw [List.length_append], by rw [bv_app]; exact ez1 htw⟩
     ·obtain rfl : q = l.length := by omega
      rw [List.take_length, hres] at hcat
      subst hcat
      have hpos : 1 ≤ l.length * z2 := Nat.mul_pos hlp (by omega)
      have hup : l.length * z2 ≤ 16 * 256 := Nat.mul_le_mul hll (by omega)
      have w10 := rwOf_row r10
      unfold tgtR at hR
      dsimp only at hR
      rcases hO with ⟨hp0, -⟩ | ⟨hp0, id, j1, j2, rfl, q4⟩
      ·rw [hp0] at hfl
       simp at hfl
       omega
      ·obtain ⟨acc, hacc⟩ : ∃ acc, owns.flatten = acc := ⟨_, rfl⟩
       rw [hacc] at hp0 q4 hfl hR ⊢
       have hh7 : RdH h5 n5 A' (bv hs') ∧ (A' = none → c' = 0) := hh5.rd
       have hh8 : RdH h5 n5 (some ⟨id, 0, none⟩) (bv acc) := RdH.ofRow q4 (by omega)
       by_cases hal : allocE 65536 hs'.length acc.length lim = 0
       ·rw [if_pos hal] at hR
        have qp : ∀ (cl : Nat), SQ k (d + N + 8) cl 87 [.agg ⟨[.int .u64 65536, .slice A' hs'.length c']⟩, .slice (some ⟨id, 0, none⟩) acc.length acc.length, .int .i64 lim] h5 n5 fun v h' n' => v = .tuple ⟨[.agg ⟨[.int .u64 65536, .slice (some ⟨n5, 0, none⟩) (putL hs' acc).length (putL hs' acc).length]⟩, .int .u64 (65536 + hs'.length), .int .i64 0]⟩ ∧ h5.set n5 (.row 5 false (bv (putL hs' acc))) = h' ∧ n5 + 1 = n' := fun cl =>
         (rput14_ok k (d + N + 4) cl h5 n5 hk 65536 A' hs' c' (some ⟨id, 0, none⟩) acc acc.length lim hh7.1 hh7.2 hh8 (fun e => by cases e) hal).mono fun _ _ _ hp => ⟨hp.1, hp.2.1.symm, hp.2.2.symm⟩
        obtain ⟨pl, hpl⟩ : ∃ pl, putL hs' acc = pl := ⟨_, rfl⟩
        simp only [hpl] at qp hR
        rw [hR]
        subst h47
        first
        | ((repeat' first | refine zcd ?_ | intro K' hK | (with_reducible refine zn hK ?_; clear hK) | (with_reducible refine x_drawnD (id := 28) [(0, 3)] (by kernel_rfl) fun K' hK => ?_) | ((with_reducible apply d_nil); (case hp => exact ezP); (case' hx => (refine hK _ _ _ ?_; clear hK))) | ((with_reducible apply d_pure w_none); (case hp => exact rfl); (case hc => exact rfl); (case he => exact ez1 w10)) | ((with_reducible apply d_eff w_none); (case hc => exact rfl); (case he => exact ez1 w10); (case hok => exact ezO)) | ((with_reducible apply d_guard rfl); (case hb => exact ez1 w10); (case' h1 => intro hb; (try simp only [hbs, reduceCtorEq] at hb); try exact ezX); (case' h2 => intro hb; (try simp only [hbs, reduceCtorEq] at hb); try exact ezX)) | ((with_reducible apply o_callF (g := 87) w_none); (case ha => exact ez0); (case hs => (exact qp _)); (case' hk => rintro _ h' n' ⟨rfl, rfl, rfl⟩)) | ((with_reducible apply d_callS (g := 86) w_none); (case hs0 => exact rfl); (case ha => exact ez0); (case hs => ((with_reducible apply q1); (all_goals first | exact RdH.row (by omega) | omega))); (case' hk => rintro _ h' n' ⟨rfl, rfl, rfl⟩)) | ((with_reducible apply d_callN (g := 86) w_none); (case hs0 => exact rfl); (case ha => exact ez0); (case hs => ((with_reducible apply q1); (all_goals first | exact RdH.row (by omega) | omega))); (case' hk => rintro _ h' n' ⟨rfl, rfl, rfl⟩)) | ((with_reducible first | apply zo1 | apply zo2 | apply o_guard rfl | apply x_cond | apply k_e1 rfl | apply k_e2 rfl | apply k_e0 rfl | apply k_e3 rfl | apply k_e4 rfl); (case he => exact ez5 f6 w10 f9 f90 hwl); (try case hok => exact ezO); all_goals try (intro hb; (try simp only [hbs, reduceCtorEq] at hb); try exact ezX)) | ((with_reducible apply o_undef rfl); (case hb => exact ez0))); all_goals exact sw_store (own := litP [65536 + (hs'.length : Int)]) hh (.inr ⟨n5, rfl, by omega, ez0⟩) (.inr ⟨n5, rfl, by omega⟩) (fun e => by injection e with e; injection e with e; omega) (by omega) (by omega) (ezB hkp) ez0)
        | ((repeat' first | refine zcd ?_ | intro K' hK | (with_reducible refine zn hK ?_; clear hK) | (with_reducible refine x_drawnD (id := 29) [(0, 5)] (by kernel_rfl) fun K' hK => ?_) | ((with_reducible apply d_nil); (case hp => exact ezP); (case' hx => (refine hK _ _ _ ?_; clear hK))) | ((with_reducible apply d_pure w_none); (case hp => exact rfl); (case hc => exact rfl); (case he => exact ez1 w10)) | ((with_reducible apply d_eff w_none); (case hc => exact rfl); (case he => exact ez1 w10); (case hok => exact ezO)) | ((with_reducible apply d_guard rfl); (case hb => exact ez1 w10); (case' h1 => intro hb; (try simp only [hbs, reduceCtorEq] at hb); try exact ezX); (case' h2 => intro hb; (try simp only [hbs, reduceCtorEq] at hb); try exact ezX)) | ((with_reducible apply o_callF (g := 87) w_none); (case ha => exact ez0); (case hs => (exact qp _)); (case' hk => rintro _ h' n' ⟨rfl, rfl, rfl⟩)) | ((with_reducible apply d_callS (g := 86) w_none); (case hs0 => exact rfl); (case ha => exact ez0); (case hs => ((with_reducible apply q3); (all_goals first | exact RdH.row (by omega) | omega))); (case' hk => rintro _ h' n' ⟨rfl, rfl, rfl⟩)) | ((with_reducible apply d_callN (g := 86) w_none); (case hs0 => exact rfl); (case ha => exact ez0); (case hs => ((with_reducible apply q3); (all_goals first | exact RdH.row (by omega) | omega))); (case' hk => rintro _ h' n' ⟨rfl, rfl, rfl⟩)) | ((with_reducible first | apply zo1 | apply zo2 | apply o_guard rfl | apply x_cond | apply k_e1 rfl | apply k_e2 rfl | apply k_e0 rfl | apply k_e3 rfl | apply k_e4 rfl); (case he => exact ez5 f6 w10 f9 f90 hwl); (try case hok => exact ezO); all_goals try (intro hb; (try simp only [hbs, reduceCtorEq] at hb); try exact ezX)) | ((with_reducible apply o_undef rfl); (case hb => exact ez0))); all_goals exact sw_store (own := litP [65536 + (hs'.length : Int), (l.length : Int), (l.length : Int)]) hh (.inr ⟨n5, rfl, by omega, ez0⟩) (.inr ⟨n5, rfl, by omega⟩) (fun e => by injection e with e; injection e with e; omega) (by omega) (by omega) (ezB hkp) ez0)
       ·rw [if_neg hal] at hR
        obtain ⟨E, hE⟩ : ∃ E, allocE 65536 hs'.length acc.length lim = E := ⟨_, rfl⟩
        have qp : ∀ (cl : Nat), SQ k (d + N + 8) cl 87 [.agg ⟨[.int .u64 65536, .slice A' hs'.length c']⟩, .slice (some ⟨id, 0, none⟩) acc.length acc.length, .int .i64 lim] h5 n5 fun v h' n' => v = .tuple ⟨[.agg ⟨[.int .u64 0, .slice none 0 0]⟩, .int .u64 0, .int .i64 E]⟩ ∧ h5 = h' ∧ n5 = n' := fun cl =>
         (rput14_err k (d + N + 4) cl h5 n5 hk 65536 A' hs'.length c' (some ⟨id, 0, none⟩) acc.length acc.length lim (by omega) (by omega) hal).mono fun _ _ _ hp => ⟨by rw [hp.1, hE], hp.2.1.symm, hp.2.2.symm⟩
        rw [hE] at hal hR
        rw [hR]
        subst h47
        first
        | ((repeat' first | refine zcd ?_ | intro K' hK | (with_reducible refine zn hK ?_; clear hK) | (with_reducible refine x_drawnD (id := 28) [(0, 3)] (by kernel_rfl) fun K' hK => ?_) | ((with_reducible apply d_nil); (case hp => exact ezP); (case' hx => (refine hK _ _ _ ?_; clear hK))) | ((with_reducible apply d_pure w_none); (case hp => exact rfl); (case hc => exact rfl); (case he => exact ez1 w10)) | ((with_reducible apply d_eff w_none); (case hc => exact rfl); (case he => exact ez1 w10); (case hok => exact ezO)) | ((with_reducible apply d_guard rfl); (case hb => exact ez1 w10); (case' h1 => intro hb; (try simp only [hbs, reduceCtorEq] at hb); try exact ezX); (case' h2 => intro hb; (try simp only [hbs, reduceCtorEq] at hb); try exact ezX)) | ((with_reducible apply o_callF (g := 87) w_none); (case ha => exact ez0); (case hs => (exact qp _)); (case' hk => rintro _ h' n' ⟨rfl, rfl, rfl⟩)) | ((with_reducible apply d_callS (g := 86) w_none); (case hs0 => exact rfl); (case ha => exact ez0); (case hs => ((with_reducible apply q1); (all_goals first | exact RdH.row (by omega) | omega))); (case' hk => rintro _ h' n' ⟨rfl, rfl, rfl⟩)) | ((with_reducible apply d_callN (g := 86) w_none); (case hs0 => exact rfl); (case ha => exact ez0); (case hs => ((with_reducible apply q1); (all_goals first | exact RdH.row (by omega) | omega))); (case' hk => rintro _ h' n' ⟨rfl, rfl, rfl⟩)) | ((with_reducible first | apply zo1 | apply zo2 | apply o_guard rfl | apply x_cond | apply k_e1 rfl | apply k_e2 rfl | apply k_e0 rfl | apply k_e3 rfl | apply k_e4 rfl); (case he => exact ez5 f6 w10 f9 f90 hwl); (try case hok => exact ezO); all_goals try (intro hb; (try simp only [hbs, reduceCtorEq] at hb); try exact ezX)) | ((with_reducible apply o_undef rfl); (case hb => exact ez0))); all_goals exact sw_serr (own := litP [0]) hal (fun e => by have := litP_length [0]; rw [e] at this; simp at this) (by omega) (by omega) ez0)
        | ((repeat' first | refine zcd ?_ | intro K' hK | (with_reducible refine zn hK ?_; clear hK) | (with_reducible refine x_drawnD (id := 29) [(0, 5)] (by kernel_rfl) fun K' hK => ?_) | ((with_reducible apply d_nil); (case hp => exact ezP); (case' hx => (refine hK _ _ _ ?_; clear hK))) | ((with_reducible apply d_pure w_none); (case hp => exact rfl); (case hc => exact rfl); (case he => exact ez1 w10)) | ((with_reducible apply d_eff w_none); (case hc => exact rfl); (case he => exact ez1 w10); (case hok => exact ezO)) | ((with_reducible apply d_guard rfl); (case hb => exact ez1 w10); (case' h1 => intro hb; (try simp only [hbs, reduceCtorEq] at hb); try exact ezX); (case' h2 => intro hb; (try simp only [hbs, reduceCtorEq] at hb); try exact ezX)) | ((with_reducible apply o_callF (g := 87) w_none); (case ha => exact ez0); (case hs => (exact qp _)); (case' hk => rintro _ h' n' ⟨rfl, rfl, rfl⟩)) | ((with_reducible apply d_callS (g := 86) w_none); (case hs0 => exact rfl); (case ha => exact ez0); (case hs => ((with_reducible apply q3); (all_goals first | exact RdH.row (by omega) | omega))); (case' hk => rintro _ h' n' ⟨rfl, rfl, rfl⟩)) | ((with_reducible apply d_callN (g := 86) w_none); (case hs0 => exact rfl); (case ha => exact ez0); (case hs => ((with_reducible apply q3); (all_goals first | exact RdH.row (by omega) | omega))); (case' hk => rintro _ h' n' ⟨rfl, rfl, rfl⟩)) | ((with_reducible first | apply zo1 | apply zo2 | apply o_guard rfl | apply x_cond | apply k_e1 rfl | apply k_e2 rfl | apply k_e0 rfl | apply k_e3 rfl | apply k_e4 rfl); (case he => exact ez5 f6 w10 f9 f90 hwl); (try case hok => exact ezO); all_goals try (intro hb; (try simp only [hbs, reduceCtorEq] at hb); try exact ezX)) | ((with_reducible apply o_undef rfl); (case hb => exact ez0))); all_goals exact sw_serr (own := litP [0, (l.length : Int), (l.length : Int)]) hal (fun e => by have := litP_length [0, (l.length : Int), (l.length : Int)]; rw [e] at this; simp at this) (by omega) (by omega) ez0)
 ·rw [if_neg (by omega), if_neg (by omega), if_neg (by omega), if_neg (by omega)]
  obtain ⟨rfl, rfl, hlp, hfj⟩ := f56 ⟨by omega, by omega, by omega, by omega, by omega⟩
  clear f1 f2 f3 f47 f56 hpt q1 q2 q3
  obtain ⟨ps, hps⟩ : ∃ ps, prtT ⟨vk, el, ln, fs, FA, fc⟩ = ps := ⟨_, rfl⟩
  obtain ⟨os, hos⟩ : ∃ os, offsT T ⟨vk, el, ln, fs, FA, fc⟩ = os := ⟨_, rfl⟩
  simp only [hps] at qp5 qp6 hpl hpi hlp hfj ⊢
  simp only [hos] at qp5 qp6 hpl hpi ⊢
  have qp : ∀ (cl : Nat) (h6 : Hp) (n6 : Nat), TabH h6 n6 (some ⟨tid, toff, none⟩) T → SQ k (d + N + 8) cl 79 [.slice (some ⟨tid, toff, none⟩) T.length tc, .int .i64 t] h6 n6 (PartsV ps os h6 n6) := by
   rcases hc56 with e | e
   ·exact qp5 e
   ·exact qp6 e
  clear qp5 qp6
  obtain ⟨res, hres⟩ : ∃ res, catP (storeP T lim N) hs (ps.zip l) = res := ⟨_, rfl⟩
  rw [hres]
  obtain ⟨R, hR⟩ : ∃ R : Except Int (List UInt8 × List UInt8), R = strR z os res := ⟨_, rfl⟩
  refine Sp.mono (Φ := StV R A h n) ?_ fun v h' n' hp => by rw [hR] at hp; exact hp
  have hvv : vk = 5 ∨ vk = 6 := hc56
  refine enter Try.func50 (by kernel_rfl) rfl (by kernel_rfl) rfl rfl rfl ?_
  (repeat' first | refine zcd ?_ | intro K' hK | (with_reducible refine zn hK ?_; clear hK) | ((with_reducible apply o_callF (g := 85) w_none); (case ha => exact ez0); (case hs => ((with_reducible apply qz); ((refine TabH.more (B := n) ?_ (by omega)); (repeat' first | exact hT | refine TabH.set ?_ (by omega) _)))); (case' hk => rintro _ h' n' ⟨rfl, rfl, rfl⟩)) | ((with_reducible apply o_callF (g := 79) w_none); (case ha => exact ez0); (case hs => ((with_reducible apply qp); ((refine TabH.more (B := n) ?_ (by omega)); (repeat' first | exact hT | refine TabH.set ?_ (by omega) _)))); (case' hk => rintro _ h' n' ⟨rfl, rfl, rfl⟩)) | ((with_reducible first | apply zo1 | apply zo2 | apply o_guard rfl | apply x_cond | apply k_e1 rfl | apply k_e2 rfl | apply k_e0 rfl | apply k_e3 rfl | apply k_e4 rfl); (case he => exact ez0); (try case hok => exact ezO); all_goals try (intro hb; (try simp only [hbs, reduceCtorEq] at hb); try exact ezX)) | ((with_reducible apply o_undef rfl); (case hb => exact ez0)))
  refine x_loopV [11, 12, 28, 29, 30, 31, 32, 158, 159, 160, 161, 162, 163, 164, 165, 166, 167, 168, 169, 170, 171, 172, 173, 174, 175, 176, 177, 178, 179, 180, 181, 182, 183, 184, 185, 186, 187, 188, 189, 190, 191, 192, 193, 194, 195, 196, 197, 198, 199, 200, 201, 202, 203] [28] (fun m vs h5 n5 => ∃ (q : Nat) (A' : Option Addr) (c' : Nat) (hs' : List UInt8) (owns : List (List UInt8)), m = l.length - q ∧ q ≤ l.length ∧ vs = [.int .i64 q] ∧ n + 6 ≤ n5 ∧ (∀ b, b < n → h5.get b = h.get b) ∧
   rowOf h5 n = some (29, false, [.int .u64 65536, .slice A' hs'.length c']) ∧ rowOf h5 (n + 1) = some (32, false, vcell vk 0 [] A1 l.length cc1 false) ∧ rowOf h5 (n + 2) = some (29, false, [.int .u64 0, .slice none 0 0]) ∧
   rowOf h5 (n + 3) = some (5, false, bv (placeP (List.replicate z 0) ((os.take q).zip owns))) ∧ (placeP (List.replicate z 0) ((os.take q).zip owns)).length = z ∧ rowOf h5 (n + 4) = some (3, false, iv ps) ∧ rowOf h5 (n + 5) = some (3, false, iv os) ∧
   HR h5 n5 A' c' hs' ∧ (A' = A ∨ ∃ id, A' = some ⟨id, 0, none⟩ ∧ n + 6 ≤ id) ∧ hs'.length ≤ 20000 ∧ catP (storeP T lim N) hs ((ps.zip l).take q) = .ok (hs', owns)) l.length rfl (by omega) ?_ ?_
  ·exact ⟨0, A, c, hs, [], rfl, by omega, ez0, by omega, ezN, ez0, ez0, ez0, (by rw [show placeP (List.replicate z 0) ((os.take 0).zip []) = List.replicate z 0 from by simp [placeP], ← mk_bzq]; exact ez0), by simp [placeP], ez0, ez0, (hh.keep (Nat.le_refl _) ezN).le (by omega), .inl rfl, hhl, rfl⟩
  ·rintro m g1 _ h5 n5 ⟨q, A', c', hs', owns, rfl, hq, rfl, hn5, hkp, r6, r9, r10, rb, hbl, rp, ro, hh5, hA', hsl, hcat⟩
   have hT5 : TabH h5 n5 (some ⟨tid, toff, none⟩) T := (hT.keep (Nat.le_refl _) hkp).more (by omega)
   have hL5 : LH h5 n5 A1 l := hl1.keep (by omega) hkp
   have f6 := cellsAt_row (off := 0) (k := 2) r6
   have f9 := cellAt_row (off := 3) r9
   have hol := catP_len _ _ _ _ hcat
   dsimp only at hol
   rw [List.length_take, List.length_zip] at hol
   by_cases hql : q < l.length
   ·have hqp : q < ps.length := by omega
    have hqo : q < os.length := by omega
    obtain ⟨vid, voff, A2, cc2, rfl, hvid, c1, v1⟩ := hL5.at_ hql
    obtain ⟨y, hy, hyt, hoy, ha0, ha1⟩ := hpi q hqp hqo
    have hyb := hoy.bnd
    have hyp := siz_pos (y + 1) hoy (by omega)
    have hfq := hfj q hqp hql
    rw [hy, Int.toNat_natCast] at hfq
    have cp : cellAt h5 (n + 4) q = some (.int .i64 y) := by rw [cellAt_row rp, lget_eq, iv_get hqp, hy]
    have qs := fun (cl : Nat) (h6 : Hp) (n6 : Nat) (cs : List Value) (hT6 : TabH h6 n6 (some ⟨tid, toff, none⟩) T) (hv6 : VH h6 n6 l[q] cs) (hh6 : HR h6 n6 A' c' hs') => ih y l[q] dp hoy hfq d cl h6 n6 A' c' hs' cs hT6 hv6 hh6 hsl
    have hgq := storeP_ok (lim := lim) N y l[q] dp hs' hoy hfq hsl
    have hsn := catP_snoc (storeP T lim N) (ps[q], l[q]) _ _ _ hcat
    have htk : (ps.zip l).take (q + 1) = (ps.zip l).take q ++ [(ps[q], l[q])] := by rw [List.take_succ_eq_append_getElem (by rw [List.length_zip]; omega), List.getElem_zip]
    rw [← htk] at hsn
    dsimp only at hsn
    rw [hy, Int.toNat_natCast] at hsn
    have hto : (os.take (q + 1)) = os.take q ++ [os[q]] := List.take_succ_eq_append_getElem hqo
    have cq : cellAt h5 (n + 5) q = some (.int .i64 os[q]) := by rw [cellAt_row ro, lget_eq, iv_get hqo]
    obtain ⟨e, he⟩ : ∃ e, l[q] = e := ⟨_, rfl⟩
    obtain ⟨o, hoe⟩ : ∃ o, os[q] = o := ⟨_, rfl⟩
    simp only [he] at c1 v1 qs hgq hsn
    simp only [hoe] at ha0 ha1 hto cq
    clear htk hfq
    cases hge : storeP T lim N hs' y e with
    | error e0 =>
     simp only [hge] at qs hsn
     have hRe : R = .error e0 := by
      have h1 := catP_err _ _ ((ps.zip l).drop (q + 1)) _ hsn
      rw [List.take_append_drop, hres] at h1
      rw [hR, h1]
      rfl
     rw [hRe]
     (repeat' first | refine zcd ?_ | intro K' hK | (with_reducible refine zn hK ?_; clear hK) | (with_reducible refine x_drawnD (id := 34) [(1, 6), (1, 8), (6, 8), (1, 11), (6, 11)] (by kernel_rfl) fun K' hK => ?_) | ((with_reducible apply d_nil); (case hp => exact ezP); (case' hx => (refine hK _ _ _ ?_; clear hK))) | ((with_reducible apply d_pure w_none); (case hp => exact rfl); (case hc => exact rfl); (case he => exact ez4 f6 f9 cp c1)) | ((with_reducible apply d_eff w_none); (case hc => exact rfl); (case he => exact ez4 f6 f9 cp c1); (case hok => exact ezO)) | ((with_reducible apply d_guard rfl); (case hb => exact ez4 f6 f9 cp c1); (case' h1 => intro hb; (try simp only [hbs, reduceCtorEq] at hb); try exact ezX); (case' h2 => intro hb; (try simp only [hbs, reduceCtorEq] at hb); try exact ezX)) | ((with_reducible apply d_callS (g := 50) w_none); (case hs0 => exact rfl); (case ha => exact ez0); (case hs => ((with_reducible apply qs); (all_goals first | ((refine TabH.more (B := n5) ?_ (by omega)); (repeat' first | exact hT5 | refine TabH.set ?_ (by omega) _)) | ((refine VH.more (B := n5) ?_ (by omega)); (repeat' first | exact v1 | refine VH.set ?_ (by omega) _)) | exact hh5))); (case' hk => rintro _ h' n' ⟨O, m, c2, rfl, he0, hn6, hk6, -⟩)) | ((with_reducible apply d_callN (g := 50) w_none); (case hs0 => exact rfl); (case ha => exact ez0); (case hs => ((with_reducible apply qs); (all_goals first | ((refine TabH.more (B := n5) ?_ (by omega)); (repeat' first | exact hT5 | refine TabH.set ?_ (by omega) _)) | ((refine VH.more (B := n5) ?_ (by omega)); (repeat' first | exact v1 | refine VH.set ?_ (by omega) _)) | exact hh5))); (case' hk => rintro _ h' n' ⟨O, m, c2, rfl, he0, hn6, hk6, -⟩)) | ((with_reducible first | apply zo1 | apply zo2 | apply o_guard rfl | apply x_cond | apply k_e1 rfl | apply k_e2 rfl | apply k_e0 rfl | apply k_e3 rfl | apply k_e4 rfl); (case he => exact ez0); (try case hok => exact ezO); all_goals try (intro hb; (try simp only [hbs, reduceCtorEq] at hb); try exact ezX)) | ((with_reducible apply o_undef rfl); (case hb => exact ez0)))
     have r10' : rowOf h' (n + 2) = some (29, false, [.int .u64 0, .slice none 0 0]) := (by (repeat rw [rowOf_ne _ _ (by omega)]); rw [rowOf_keep (hk6 _ (by omega))]; (repeat rw [rowOf_ne _ _ (by omega)]); exact r10)
     have w10 := rwOf_row r10'
     (repeat' first | refine zcd ?_ | intro K' hK | (with_reducible refine zn hK ?_; clear hK) | ((with_reducible apply d_nil); (case hp => exact ezP); (case' hx => (refine hK _ _ _ ?_; clear hK))) | ((with_reducible apply d_pure w_none); (case hp => exact rfl); (case hc => exact rfl); (case he => exact ez0)) | ((with_reducible apply d_eff w_none); (case hc => exact rfl); (case he => exact ez0); (case hok => exact ezO)) | ((with_reducible apply d_guard rfl); (case hb => exact ez0); (case' h1 => intro hb; (try simp only [hbs, reduceCtorEq] at hb); try exact ezX); (case' h2 => intro hb; (try simp only [hbs, reduceCtorEq] at hb); try exact ezX)) | ((with_reducible first | apply zo1 | apply zo2 | apply o_guard rfl | apply x_cond | apply k_e1 rfl | apply k_e2 rfl | apply k_e0 rfl | apply k_e3 rfl | apply k_e4 rfl); (case he => exact ez1 w10); (try case hok => exact ezO); all_goals try (intro hb; (try simp only [hbs, reduceCtorEq] at hb); try exact ezX)) | ((with_reducible apply o_undef rfl); (case hb => exact ez0)))
     all_goals exact sw_sno he0
    | ok r =>
     obtain ⟨hs2, own⟩ := r
     obtain ⟨ho1, ho2⟩ := hgq _ hge
     simp only [hge] at qs hsn
     dsimp only at ho1 ho2 hsn
     obtain ⟨B, hB⟩ : ∃ B, placeP (List.replicate z 0) ((os.take q).zip owns) = B := ⟨_, rfl⟩
     rw [hB] at rb hbl
     obtain ⟨on, rfl⟩ := Int.eq_ofNat_of_zero_le ha0
     have hpn : placeP (List.replicate z 0) ((os.take (q + 1)).zip (owns ++ [own])) = Go.Proofs.Ytcpkdjikembpnaa.put B on own := by
      rw [hto, List.zip_append (by rw [List.length_take]; omega), ← hB]
      show placeP _ (_ ++ [((on : Int), own)]) = _
      rw [placeP_snoc, Int.toNat_natCast]
     have hpl2 : (Go.Proofs.Ytcpkdjikembpnaa.put B on own).length = z := by rw [put_length (by omega), hbl]
     (repeat' first | refine zcd ?_ | intro K' hK | (with_reducible refine zn hK ?_; clear hK) | (with_reducible refine x_drawnD (id := 34) [(1, 6), (1, 8), (6, 8), (1, 11), (6, 11)] (by kernel_rfl) fun K' hK => ?_) | ((with_reducible apply d_nil); (case hp => exact ezP); (case' hx => (refine hK _ _ _ ?_; clear hK))) | ((with_reducible apply d_pure w_none); (case hp => exact rfl); (case hc => exact rfl); (case he => exact ez4 f6 f9 cp c1)) | ((with_reducible apply d_eff w_none); (case hc => exact rfl); (case he => exact ez4 f6 f9 cp c1); (case hok => exact ezO)) | ((with_reducible apply d_guard rfl); (case hb => exact ez4 f6 f9 cp c1); (case' h1 => intro hb; (try simp only [hbs, reduceCtorEq] at hb); try exact ezX); (case' h2 => intro hb; (try simp only [hbs, reduceCtorEq] at hb); try exact ezX)) | ((with_reducible apply d_callS (g := 50) w_none); (case hs0 => exact rfl); (case ha => exact ez0); (case hs => ((with_reducible apply qs); (all_goals first | ((refine TabH.more (B := n5) ?_ (by omega)); (repeat' first | exact hT5 | refine TabH.set ?_ (by omega) _)) | ((refine VH.more (B := n5) ?_ (by omega)); (repeat' first | exact v1 | refine VH.set ?_ (by omega) _)) | exact hh5))); (case' hk => rintro _ h' n' ⟨A3, c3, bid, rfl, hr3, ho3, hne3, hb1, hb2, hb3, hn6, hk6⟩)) | ((with_reducible apply d_callN (g := 50) w_none); (case hs0 => exact rfl); (case ha => exact ez0); (case hs => ((with_reducible apply qs); (all_goals first | ((refine TabH.more (B := n5) ?_ (by omega)); (repeat' first | exact hT5 | refine TabH.set ?_ (by omega) _)) | ((refine VH.more (B := n5) ?_ (by omega)); (repeat' first | exact v1 | refine VH.set ?_ (by omega) _)) | exact hh5))); (case' hk => rintro _ h' n' ⟨A3, c3, bid, rfl, hr3, ho3, hne3, hb1, hb2, hb3, hn6, hk6⟩)) | ((with_reducible first | apply zo1 | apply zo2 | apply o_guard rfl | apply x_cond | apply k_e1 rfl | apply k_e2 rfl | apply k_e0 rfl | apply k_e3 rfl | apply k_e4 rfl); (case he => exact ez0); (try case hok => exact ezO); all_goals try (intro hb; (try simp only [hbs, reduceCtorEq] at hb); try exact ezX)) | ((with_reducible apply o_undef rfl); (case hb => exact ez0)))
     have r6' : rowOf h' n = some (29, false, [.int .u64 65536, .slice A' hs'.length c']) := (by (repeat rw [rowOf_ne _ _ (by omega)]); rw [rowOf_keep (hk6 _ (by omega))]; (repeat rw [rowOf_ne _ _ (by omega)]); exact r6)
     have r9' : rowOf h' (n + 1) = some (32, false, vcell vk 0 [] (some ⟨vid, voff, none⟩) l.length cc1 false) := (by (repeat rw [rowOf_ne _ _ (by omega)]); rw [rowOf_keep (hk6 _ (by omega))]; (repeat rw [rowOf_ne _ _ (by omega)]); exact r9)
     have r10' : rowOf h' (n + 2) = some (29, false, [.int .u64 0, .slice none 0 0]) := (by (repeat rw [rowOf_ne _ _ (by omega)]); rw [rowOf_keep (hk6 _ (by omega))]; (repeat rw [rowOf_ne _ _ (by omega)]); exact r10)
     have rb' : rowOf h' (n + 3) = some (5, false, bv B) := (by (repeat rw [rowOf_ne _ _ (by omega)]); rw [rowOf_keep (hk6 _ (by omega))]; (repeat rw [rowOf_ne _ _ (by omega)]); exact rb)
     have rp' : rowOf h' (n + 4) = some (3, false, iv ps) := (by (repeat rw [rowOf_ne _ _ (by omega)]); rw [rowOf_keep (hk6 _ (by omega))]; (repeat rw [rowOf_ne _ _ (by omega)]); exact rp)
     have ro' : rowOf h' (n + 5) = some (3, false, iv os) := (by (repeat rw [rowOf_ne _ _ (by omega)]); rw [rowOf_keep (hk6 _ (by omega))]; (repeat rw [rowOf_ne _ _ (by omega)]); exact ro)
     have cq' : cellAt h' (n + 5) q = some (.int .i64 on) := by rw [cellAt_keep (hk6 _ (by omega))]; exact cq
     have w6 := rwOf_row r6'
     have hA3 : A3 = A ∨ ∃ id, A3 = some ⟨id, 0, none⟩ ∧ n + 6 ≤ id := by
      rcases ho3 with rfl | ⟨id, e, hid⟩
      ·exact hA'
      ·exact .inr ⟨id, e, by omega⟩
     have hold : ∀ b, A3 = some ⟨b, 0, none⟩ → b < n' ∧ (b < n ∨ n + 6 ≤ b) := fun b hb => ⟨hr3.old b hb, by
      rcases hA3 with rfl | ⟨id, e, hid⟩
      ·exact .inl (hh.old b hb)
      ·rw [hb] at e
       injection e with e
       injection e with e
       omega⟩
     have hkk : ∀ b, b < n → h'.get b = h.get b := fun b hb => by rw [hk6 _ (by omega)]; exact hkp b hb
     clear hk6 qs c1 v1 f6 f9 r6 r9 r10 rb rp ro cq cp
     (repeat' first | refine zcd ?_ | intro K' hK | (with_reducible refine zn hK ?_; clear hK) | ((with_reducible apply d_nil); (case hp => exact ezP); (case' hx => (refine hK _ _ _ ?_; clear hK))) | ((with_reducible apply d_pure w_none); (case hp => exact rfl); (case hc => exact rfl); (case he => exact ez1 w6)) | ((with_reducible apply d_eff w_none); (case hc => exact rfl); (case he => exact ez1 w6); (case hok => exact ezO)) | ((with_reducible apply d_guard rfl); (case hb => exact ez1 w6); (case' h1 => intro hb; (try simp only [hbs, reduceCtorEq] at hb); try exact ezX); (case' h2 => intro hb; (try simp only [hbs, reduceCtorEq] at hb); try exact ezX)) | ((with_reducible first | apply zo1 | apply zo2 | apply o_guard rfl | apply x_cond | apply k_e1 rfl | apply k_e2 rfl | apply k_e0 rfl | apply k_e3 rfl | apply k_e4 rfl); (case he => exact ez1 w6); (try case hok => exact ezO); all_goals try (intro hb; (try simp only [hbs, reduceCtorEq] at hb); try exact ezX)) | ((with_reducible apply o_undef rfl); (case hb => exact ez0)))
     refine x_loopV [32, 186, 187, 188, 189, 190, 191, 192, 193, 194, 195, 196, 197, 198, 199, 200, 201, 202, 203] [32] (fun m vs h6 n6 => ∃ k : Nat, m = own.length - k ∧ k ≤ own.length ∧ vs = [.int .i64 k] ∧ n6 = n' + 1 ∧ h6 = ((h'.set n' (.row 29 false [.int .u64 65536, .slice A3 hs2.length c3])).set n (.row 29 false [.int .u64 65536, .slice A3 hs2.length c3])).set (n + 3) (.row 5 false (bv (Go.Proofs.Ytcpkdjikembpnaa.put B on (own.take k))))) own.length rfl (by omega) ?_ ?_
     ·refine ⟨0, rfl, by omega, ez0, rfl, ?_⟩
      rw [List.take_zero, put_nil]
      exact (Hp.set_self (by (repeat rw [Hp.get_ne _ _ (by omega)]); exact rowOf_some rb') (by simp)).symm
     ·rintro m g2 _ h6 n6 ⟨k2, rfl, hk2, rfl, rfl, rfl⟩
      by_cases hk3 : k2 < own.length
      ·have ck : cellAt h' bid k2 = some (.int .u8 ((own[k2]).toNat : Int)) := by
        rw [cellAt_row hb3, lget_eq]
        unfold bv
        rw [List.getElem?_map, List.getElem?_eq_getElem hk3]
        rfl
       have htl : (own.take k2).length = k2 := by rw [List.length_take]; omega
       have hbl2 : (bv (Go.Proofs.Ytcpkdjikembpnaa.put B on (own.take k2))).length = z := by rw [bv_length, put_length (by omega), hbl]
       have hon : ((on : Int) + (k2 : Int)).toNat = on + k2 := by omega
       have hpg := put_get (xs := B) (ys := own.take k2) (p := on) (by omega) own[k2]
       rw [htl, ← List.take_succ_eq_append_getElem hk3] at hpg
       (repeat' first | refine zcd ?_ | intro K' hK | (with_reducible refine zn hK ?_; clear hK) | (with_reducible refine x_drawnD (id := 41) [(4, 10)] (by kernel_rfl) fun K' hK => ?_) | ((with_reducible apply d_nil); (case hp => exact ezP); (case' hx => (refine hK _ _ _ ?_; clear hK))) | ((with_reducible apply d_pure w_none); (case hp => exact rfl); (case hc => exact rfl); (case he => exact ez3 cq' ck @overAt_one)) | ((with_reducible apply d_eff w_none); (case hc => exact rfl); (case he => exact ez3 cq' ck @overAt_one); (case hok => exact ezO)) | ((with_reducible apply d_guard rfl); (case hb => exact ez3 cq' ck @overAt_one); (case' h1 => intro hb; (try simp only [hbs, reduceCtorEq] at hb); try exact ezX); (case' h2 => intro hb; (try simp only [hbs, reduceCtorEq] at hb); try exact ezX)) | ((with_reducible first | apply zo1 | apply zo2 | apply o_guard rfl | apply x_cond | apply k_e1 rfl | apply k_e2 rfl | apply k_e0 rfl | apply k_e3 rfl | apply k_e4 rfl); (case he => exact ez0); (try case hok => exact ezO); all_goals try (intro hb; (try simp only [hbs, reduceCtorEq] at hb); try exact ezX)) | ((with_reducible apply o_undef rfl); (case hb => exact ez0)))
       refine k_round (own.length - (k2 + 1)) (by omega) ⟨k2 + 1, rfl, by omega, ez0, rfl, ?_⟩
       rw [← hpg, hon]
      ·obtain rfl : k2 = own.length := by omega
       simp only [List.take_length]
       (repeat' first | refine zcd ?_ | intro K' hK | (with_reducible refine zn hK ?_; clear hK) | fail | ((with_reducible first | apply zo1 | apply zo2 | apply o_guard rfl | apply x_cond | apply k_e1 rfl | apply k_e2 rfl | apply k_e0 rfl | apply k_e3 rfl | apply k_e4 rfl); (case he => exact ez0); (try case hok => exact ezO); all_goals try (intro hb; (try simp only [hbs, reduceCtorEq] at hb); try exact ezX)) | ((with_reducible apply o_undef rfl); (case hb => exact ez0)))
       refine k_round (l.length - (q + 1)) (by omega) ⟨q + 1, A3, c3, hs2, owns ++ [own], rfl, by omega, ez0, by omega, (ezB hkk), ez0, (ezW r9'), (ezW r10'), (by rw [hpn]; exact rowOf_same _ _ _ _ _), by rw [hpn]; exact hpl2, (ezW rp'), (ezW ro'), hr3.at_ (by omega) (fun b hb => by have := hold b hb; (repeat rw [Hp.get_ne _ _ (by omega)])), hA3, ho2, hsn⟩
   ·obtain rfl : q = l.length := by omega
    rw [List.take_of_length_le (by rw [List.length_zip]; omega), hres] at hcat
    subst hcat
    rw [List.take_of_length_le (by omega)] at rb hbl
    unfold strR at hR
    dsimp only at hR
    rw [hR]
    obtain ⟨B, hB⟩ : ∃ B, placeP (List.replicate z 0) (os.zip owns) = B := ⟨_, rfl⟩
    rw [hB] at rb hbl ⊢
    have w10 := rwOf_row r10
    (repeat' first | refine zcd ?_ | intro K' hK | (with_reducible refine zn hK ?_; clear hK) | fail | ((with_reducible first | apply zo1 | apply zo2 | apply o_guard rfl | apply x_cond | apply k_e1 rfl | apply k_e2 rfl | apply k_e0 rfl | apply k_e3 rfl | apply k_e4 rfl); (case he => exact ez2 f6 w10); (try case hok => exact ezO); all_goals try (intro hb; (try simp only [hbs, reduceCtorEq] at hb); try exact ezX)) | ((with_reducible apply o_undef rfl); (case hb => exact ez0)))
    rw [← hbl]
    exact sw_store hh (hh5.at_ (Nat.le_refl _) (fun b hb => by
     have h1 := hh5.old b hb
     have h2 : b < n ∨ n + 6 ≤ b := by
      rcases hA' with rfl | ⟨id, e, hid⟩
      ·exact .inl (hh.old b hb)
      ·rw [hb] at e
       injection e with e
       injection e with e
       omega
     (repeat rw [Hp.get_ne _ _ (by omega)]))) (by
     rcases hA' with rfl | ⟨id, e, hid⟩
     ·exact .inl rfl
     ·exact .inr ⟨id, e, by omega⟩) (by
     rcases hA' with rfl | ⟨id, e, hid⟩
     ·exact hh.ne1 (by omega)
     ·rw [e]
      intro e2
      injection e2 with e2
      injection e2 with e2
      omega) (by omega) (by omega) (ezB hkp) (ezW rb)
end Go.Proofs.Ytcpkdjikembpnaa.Ce
