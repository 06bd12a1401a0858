/- Parts of the proof of ValueStores: Px. No condition of its own. -/
import Derived.Test.YtcpkdjikembpnaaVtav
set_option linter.unusedVariables false
set_option linter.unusedSimpArgs false
set_option maxRecDepth 100000
set_option maxHeartbeats 4000000
namespace Go.Proofs.Ytcpkdjikembpnaa.Ce
open Go.RowKit
variable (k d cl : Nat) (h : Hp) (n : Nat)
theorem ralloc_ok (hk : 30000 ≤ k) (b : Int) (A : Option Addr) (xs : List UInt8) (c : Nat) (i lim : Int) (hr : RdH h n A (bv xs)) (hA : A = none → c = 0) (he : allocE b xs.length i lim = 0) :
  SQ k (d + 3) cl 113 [.agg ⟨[.int .u64 b, .slice A xs.length c]⟩, .int .i64 i, .int .i64 lim] h n fun v h' n' => v = .tuple ⟨[.agg ⟨[.int .u64 b, .slice (some ⟨n, 0, none⟩) (grown xs i).length (grown xs i).length]⟩, .int .u64 (b + xs.length), .int .i64 0]⟩ ∧ h' = h.set n (.row 5 false (bv (grown xs i))) ∧ n' = n + 1 := by
 have hs := sizeI_ge i
 have hc : chkB b xs.length lim = 0 ∧ 0 ≤ i ∧ i ≤ 4096 ∧ xs.length + sizeI i ≤ lim := by unfold allocE at he; grind
 obtain ⟨hc, i0, i1, i2⟩ := hc
 obtain ⟨rfl, g2, g3, g4, g5⟩ := chkB_ok hc
 have hft : fitsB xs.length i lim = true := by unfold fitsB; simp; omega
 refine enter Try.func113 (by kernel_rfl) rfl (by kernel_rfl) rfl rfl rfl ?_
 (repeat' first | refine zcd ?_ | intro K' hK | (with_reducible refine zn hK ?_; clear hK) | ((with_reducible apply o_callF (g := 26) w_none); (case ha => exact ez0); (case hs => exact rlimit_ev (hm := by omega) ..); (case' hk => rintro _ h' n' ⟨rfl, rfl, rfl⟩)) | ((with_reducible apply o_callF (g := 125) w_none); (case ha => exact ez0); (case hs => exact rfits_ev (hk := hk) (hm := by omega) (h0 := i0) (h1 := i1) ..); (case' hk => rintro _ h' n' ⟨rfl, rfl, rfl⟩)) | ((with_reducible apply o_callF (g := 126) w_none); (case ha => exact ez0); (case hs => exact rgrown_ev (hk := hk) (hr := by exact ezD hr) (hA := hA) (hm := by omega) (h0 := i0) (h1 := i1) ..); (case' hk => rintro _ h' n' ⟨rfl, rfl, rfl⟩)) | ((with_reducible first | apply zo1 | apply zo2 | apply o_guard rfl | apply x_cond | apply k_e1 rfl | apply k_e2 rfl | apply k_e0 rfl | apply k_e3 rfl | apply k_e4 rfl); (case he => exact ez2 hft hc); (try case hok => exact ezO); all_goals try (intro hb; (try simp only [hbs, reduceCtorEq] at hb); try exact ezX)) | ((with_reducible apply o_undef rfl); (case hb => exact ez0)))
 (refine sw_row ezI rfl (by omega) (by first | assumption | (simp (disch := first | assumption | omega | rfl | decide) only [go_sem, Nat.reduceBEq, ↓reduceIte, Nat.reduceEqDiff, Nat.reduceAdd, Nat.reduceMul, Int.reduceToNat, Int.reduceAdd, Int.reduceMul, Int.reduceSub, tys] <;> rfl)) (by exact bv_idA _ _) ezR ?_; exact ⟨rfl, rfl, rfl⟩)
theorem ralloc_err (hk : 30000 ≤ k) (b : Int) (A : Option Addr) (m c : Nat) (i lim : Int) (hm : m ≤ 9223372036854775807) (he : allocE b m i lim ≠ 0) :
  SQ k (d + 3) cl 113 [.agg ⟨[.int .u64 b, .slice A m c]⟩, .int .i64 i, .int .i64 lim] h n fun v h' n' => v = .tuple ⟨[.agg ⟨[.int .u64 0, .slice none 0 0]⟩, .int .u64 0, .int .i64 (allocE b m i lim)]⟩ ∧ h' = h ∧ n' = n := by
 have hs := sizeI_ge i
 refine enter Try.func113 (by kernel_rfl) rfl (by kernel_rfl) rfl rfl rfl ?_
 by_cases hc : chkB b m lim = 0
 ·obtain ⟨e1, g2, g3, g4, g5⟩ := chkB_ok hc
  by_cases hi : 0 ≤ i ∧ i ≤ 4096
  ·have hf : allocE b m i lim = 18 ∧ fitsB m i lim = false := by unfold allocE fitsB at *; simp; grind
   obtain ⟨hf, hft⟩ := hf
   (repeat' first | refine zcd ?_ | intro K' hK | (with_reducible refine zn hK ?_; clear hK) | ((with_reducible apply o_callF (g := 26) w_none); (case ha => exact ez0); (case hs => exact rlimit_ev (hm := by omega) ..); (case' hk => rintro _ h' n' ⟨rfl, rfl, rfl⟩)) | ((with_reducible apply o_callF (g := 125) w_none); (case ha => exact ez0); (case hs => exact rfits_ev (hk := hk) (hm := by omega) (h0 := hi.1) (h1 := hi.2) ..); (case' hk => rintro _ h' n' ⟨rfl, rfl, rfl⟩)) | ((with_reducible first | apply zo1 | apply zo2 | apply o_guard rfl | apply x_cond | apply k_e1 rfl | apply k_e2 rfl | apply k_e0 rfl | apply k_e3 rfl | apply k_e4 rfl); (case he => exact ez2 hft hc); (try case hok => exact ezO); all_goals try (intro hb; (try simp only [hbs, reduceCtorEq] at hb); try exact ezX)) | ((with_reducible apply o_undef rfl); (case hb => exact ez0)))
   all_goals exact sw_flat rfl rfl ⟨by rw [hf], rfl, rfl⟩
  ·have hf : allocE b m i lim = 2 := by unfold allocE; grind
   (repeat' first | refine zcd ?_ | intro K' hK | (with_reducible refine zn hK ?_; clear hK) | ((with_reducible apply o_callF (g := 26) w_none); (case ha => exact ez0); (case hs => exact rlimit_ev (hm := by omega) ..); (case' hk => rintro _ h' n' ⟨rfl, rfl, rfl⟩)) | ((with_reducible first | apply zo1 | apply zo2 | apply o_guard rfl | apply x_cond | apply k_e1 rfl | apply k_e2 rfl | apply k_e0 rfl | apply k_e3 rfl | apply k_e4 rfl); (case he => exact ez1 hc); (try case hok => exact ezO); all_goals try (intro hb; (try simp only [hbs, reduceCtorEq] at hb); try exact ezX)) | ((with_reducible apply o_undef rfl); (case hb => exact ez0)))
   all_goals exact sw_flat rfl rfl ⟨by rw [hf], rfl, rfl⟩
 ·have hf : allocE b m i lim = chkB b m lim := by unfold allocE; rw [if_neg hc]
  (repeat' first | refine zcd ?_ | intro K' hK | (with_reducible refine zn hK ?_; clear hK) | ((with_reducible apply o_callF (g := 26) w_none); (case ha => exact ez0); (case hs => exact rlimit_ev (hm := by omega) ..); (case' hk => rintro _ h' n' ⟨rfl, rfl, rfl⟩)) | ((with_reducible first | apply zo1 | apply zo2 | apply o_guard rfl | apply x_cond | apply k_e1 rfl | apply k_e2 rfl | apply k_e0 rfl | apply k_e3 rfl | apply k_e4 rfl); (case he => exact ez0); (try case hok => exact ezO); all_goals try (intro hb; (try simp only [hbs, reduceCtorEq] at hb); try exact ezX)) | ((with_reducible apply o_undef rfl); (case hb => exact ez0)))
  all_goals first | (exfalso; exact hc (by assumption)) | exact sw_flat rfl rfl ⟨by rw [hf], rfl, rfl⟩
theorem rput14_err (hk : 30000 ≤ k) (b : Int) (A : Option Addr) (m c : Nat) (B : Option Addr) (m2 c2 : Nat) (lim : Int) (hm : m ≤ 9223372036854775807) (hm2 : m2 ≤ 9223372036854775807) (he : allocE b m m2 lim ≠ 0) :
  SQ k (d + 4) cl 87 [.agg ⟨[.int .u64 b, .slice A m c]⟩, .slice B m2 c2, .int .i64 lim] h n fun v h' n' => v = .tuple ⟨[.agg ⟨[.int .u64 0, .slice none 0 0]⟩, .int .u64 0, .int .i64 (allocE b m m2 lim)]⟩ ∧ h' = h ∧ n' = n := by
 refine enter Try.func87 (by kernel_rfl) rfl (by kernel_rfl) rfl rfl rfl ?_
 (repeat' first | refine zcd ?_ | intro K' hK | (with_reducible refine zn hK ?_; clear hK) | ((with_reducible apply o_callF (g := 113) w_none); (case ha => exact ez0); (case hs => exact ralloc_err (hk := hk) (hm := hm) (he := he) ..); (case' hk => rintro _ h' n' ⟨rfl, rfl, rfl⟩)) | ((with_reducible first | apply zo1 | apply zo2 | apply o_guard rfl | apply x_cond | apply k_e1 rfl | apply k_e2 rfl | apply k_e0 rfl | apply k_e3 rfl | apply k_e4 rfl); (case he => exact ez1 he); (try case hok => exact ezO); all_goals try (intro hb; (try simp only [hbs, reduceCtorEq] at hb); try exact ezX)) | ((with_reducible apply o_undef rfl); (case hb => exact ez0)))
 all_goals first | (exfalso; exact he (by assumption)) | exact sw_flat rfl rfl ⟨rfl, rfl, rfl⟩
theorem rput14_ok (hk : 30000 ≤ k) (b : Int) (A : Option Addr) (xs : List UInt8) (c : Nat) (B : Option Addr) (ys : List UInt8) (c2 : Nat) (lim : Int) (hr : RdH h n A (bv xs)) (hA : A = none → c = 0) (hr2 : RdH h n B (bv ys)) (hB : B = none → c2 = 0) (he : allocE b xs.length ys.length lim = 0) :
  SQ k (d + 4) cl 87 [.agg ⟨[.int .u64 b, .slice A xs.length c]⟩, .slice B ys.length c2, .int .i64 lim] h n fun v h' n' => v = .tuple ⟨[.agg ⟨[.int .u64 b, .slice (some ⟨n, 0, none⟩) (putL xs ys).length (putL xs ys).length]⟩, .int .u64 (b + xs.length), .int .i64 0]⟩ ∧ h' = h.set n (.row 5 false (bv (putL xs ys))) ∧ n' = n + 1 := by
 have hs := sizeI_ge (ys.length : Int)
 have hc : chkB b xs.length lim = 0 ∧ (ys.length : Int) ≤ 4096 ∧ xs.length + sizeI ys.length ≤ lim := by unfold allocE at he; grind
 obtain ⟨hc, i1, i2⟩ := hc
 obtain ⟨rfl, g2, g3, g4, g5⟩ := chkB_ok hc
 have hgl := grown_length xs ys.length
 have hpl := putL_length xs ys
 refine enter Try.func87 (by kernel_rfl) rfl (by kernel_rfl) rfl rfl rfl ?_
 (repeat' first | refine zcd ?_ | intro K' hK | (with_reducible refine zn hK ?_; clear hK) | ((with_reducible apply o_callF (g := 113) w_none); (case ha => exact ez0); (case hs => exact ralloc_ok (hk := hk) (hr := by exact ezD hr) (hA := hA) (he := he) ..); (case' hk => rintro _ h' n' ⟨rfl, rfl, rfl⟩)) | ((with_reducible first | apply zo1 | apply zo2 | apply o_guard rfl | apply x_cond | apply k_e1 rfl | apply k_e2 rfl | apply k_e0 rfl | apply k_e3 rfl | apply k_e4 rfl); (case he => exact ez1 he); (try case hok => exact ezO); all_goals try (intro hb; (try simp only [hbs, reduceCtorEq] at hb); try exact ezX)) | ((with_reducible apply o_undef rfl); (case hb => exact ez0)))
 refine x_loopV [12, 26, 27, 28, 29, 30, 31, 32, 33, 34, 35, 36, 37, 38, 39, 40, 41, 42, 43] [12] (fun m vs h' n' => m ≤ ys.length ∧ vs = [.int .i64 (ys.length - m)] ∧ n' = n + 4 ∧ RdH h' n B (bv ys) ∧ rowOf h' n = some (29, false, [.int .u64 65536, .slice A xs.length c]) ∧ rowOf h' (n + 1) = some (29, false, [.int .u64 0, .slice none 0 0]) ∧
   rowOf h' (n + 1 + 1) = some (5, false, bv (Go.Proofs.Ytcpkdjikembpnaa.put (grown xs ys.length) xs.length (ys.take (ys.length - m)))) ∧ rowOf h' (n + 1 + 1 + 1) = some (29, false, [.int .u64 65536, .slice (some ⟨n + 1 + 1, 0, none⟩) (grown xs ys.length).length (grown xs ys.length).length])) ys.length rfl (by omega) ?_ ?_
 ·refine ⟨by omega, ?_, rfl, ?_, ?_, ?_, ?_, ?_⟩
  ·simp (disch := first | assumption | omega | rfl | decide) only [go_sem, Nat.reduceBEq, ↓reduceIte, Nat.reduceEqDiff, Nat.reduceAdd, Nat.reduceMul, Int.reduceToNat, Int.reduceAdd, Int.reduceMul, Int.reduceSub, tys]; rw [show (ys.length : Int) - (ys.length : Int) = 0 from by omega]
  ·exact ezD hr2
  ·simp (disch := first | assumption | omega | rfl | decide) only [go_sem, Nat.reduceBEq, ↓reduceIte, Nat.reduceEqDiff, Nat.reduceAdd, Nat.reduceMul, Int.reduceToNat, Int.reduceAdd, Int.reduceMul, Int.reduceSub, tys]
  ·simp (disch := first | assumption | omega | rfl | decide) only [go_sem, Nat.reduceBEq, ↓reduceIte, Nat.reduceEqDiff, Nat.reduceAdd, Nat.reduceMul, Int.reduceToNat, Int.reduceAdd, Int.reduceMul, Int.reduceSub, tys]
  ·simp (disch := first | assumption | omega | rfl | decide) only [go_sem, Nat.reduceBEq, ↓reduceIte, Nat.reduceEqDiff, Nat.reduceAdd, Nat.reduceMul, Int.reduceToNat, Int.reduceAdd, Int.reduceMul, Int.reduceSub, tys]; rw [Nat.sub_self, List.take_zero, put_nil]
  ·simp (disch := first | assumption | omega | rfl | decide) only [go_sem, Nat.reduceBEq, ↓reduceIte, Nat.reduceEqDiff, Nat.reduceAdd, Nat.reduceMul, Int.reduceToNat, Int.reduceAdd, Int.reduceMul, Int.reduceSub, tys]
 ·rintro m g _ h' n' ⟨i0, rfl, rfl, r2, q0, q1, q2, q3⟩
  have c0 := fun o => cellAt_row (off := o) q0
  have c3 := fun o => cellAt_row (off := o) q3
  have d3 := fun o q => cellsAt_row (off := o) (k := q) q3
  have w1 := rwOf_row q1
  have w2 := rwOf_row q2
  have hbl : (bv (Go.Proofs.Ytcpkdjikembpnaa.put (grown xs ys.length) xs.length (ys.take (ys.length - m)))).length = (grown xs ys.length).length := by rw [bv_length, put_length (by rw [List.length_take]; omega)]
  rcases m with _ | m
  ·(repeat' first | refine zcd ?_ | intro K' hK | (with_reducible refine zn hK ?_; clear hK) | fail | ((with_reducible first | apply zo1 | apply zo2 | apply o_guard rfl | apply x_cond | apply k_e1 rfl | apply k_e2 rfl | apply k_e0 rfl | apply k_e3 rfl | apply k_e4 rfl); (case he => exact ez4 c0 c3 d3 w1); (try case hok => exact ezO); all_goals try (intro hb; (try simp only [hbs, reduceCtorEq] at hb); try exact ezX)) | ((with_reducible apply o_undef rfl); (case hb => exact ez0)))
   (refine sw_row ezI rfl (by omega) (ez1 q2) (by exact bv_idA _ _) ezR ?_; exact ⟨by rw [hpl, hgl], by rw [Nat.sub_zero, List.take_length]; rfl, rfl⟩)
  ·obtain ⟨id2, off2, rfl, hid2, hcell⟩ := r2.bytes (by omega)
   have hce := hcell (ys.length - (m + 1)) (by omega)
   have he8 : (((ys.length - (m + 1) : Nat) : Int)) = ys.length - ((m + 1 : Nat) : Int) := by omega
   have htn : ((ys.length : Int) - ((m + 1 : Nat) : Int)).toNat = ys.length - (m + 1) := by omega
   (repeat' first | refine zcd ?_ | intro K' hK | (with_reducible refine zn hK ?_; clear hK) | (with_reducible refine x_drawnD (id := 7) [(1, 3), (1, 10), (3, 10)] (by kernel_rfl) fun K' hK => ?_) | ((with_reducible apply d_nil); (case hp => exact ezP); (case' hx => (refine hK _ _ _ ?_; clear hK))) | ((with_reducible apply d_pure w_none); (case hp => exact rfl); (case hc => exact rfl); (case he => exact ez8 c0 c3 d3 w1 w2 hce @overAt_one htn)) | ((with_reducible apply d_eff w_none); (case hc => exact rfl); (case he => exact ez8 c0 c3 d3 w1 w2 hce @overAt_one htn); (case hok => exact ezO)) | ((with_reducible apply d_guard rfl); (case hb => exact ez8 c0 c3 d3 w1 w2 hce @overAt_one htn); (case' h1 => intro hb; (try simp only [hbs, reduceCtorEq] at hb); try exact ezX); (case' h2 => intro hb; (try simp only [hbs, reduceCtorEq] at hb); try exact ezX)) | ((with_reducible first | apply zo1 | apply zo2 | apply o_guard rfl | apply x_cond | apply k_e1 rfl | apply k_e2 rfl | apply k_e0 rfl | apply k_e3 rfl | apply k_e4 rfl); (case he => exact ez8 c0 c3 d3 w1 w2 hce @overAt_one htn); (try case hok => exact ezO); all_goals try (intro hb; (try simp only [hbs, reduceCtorEq] at hb); try exact ezX)) | ((with_reducible apply o_undef rfl); (case hb => exact ez0)))
   refine k_round m (by omega) ⟨by omega, ?_, by omega, ?_, ?_, ?_, ?_, ?_⟩
   ·simp (disch := first | assumption | omega | rfl | decide) only [go_sem, Nat.reduceBEq, ↓reduceIte, Nat.reduceEqDiff, Nat.reduceAdd, Nat.reduceMul, Int.reduceToNat, Int.reduceAdd, Int.reduceMul, Int.reduceSub, tys]; congr 2; omega
   ·exact ezD r2
   ·simp (disch := first | assumption | omega | rfl | decide) only [go_sem, Nat.reduceBEq, ↓reduceIte, Nat.reduceEqDiff, Nat.reduceAdd, Nat.reduceMul, Int.reduceToNat, Int.reduceAdd, Int.reduceMul, Int.reduceSub, tys, q0]
   ·simp (disch := first | assumption | omega | rfl | decide) only [go_sem, Nat.reduceBEq, ↓reduceIte, Nat.reduceEqDiff, Nat.reduceAdd, Nat.reduceMul, Int.reduceToNat, Int.reduceAdd, Int.reduceMul, Int.reduceSub, tys, q1]
   ·simp (disch := first | assumption | omega | rfl | decide) only [go_sem, Nat.reduceBEq, ↓reduceIte, Nat.reduceEqDiff, Nat.reduceAdd, Nat.reduceMul, Int.reduceToNat, Int.reduceAdd, Int.reduceMul, Int.reduceSub, tys, q2]
    have hj : ys.length - (m + 1) < ys.length := by omega
    have htl : (ys.take (ys.length - (m + 1))).length = ys.length - (m + 1) := by rw [List.length_take]; omega
    have e1 : ((xs.length : Int) + ((ys.length : Int) - ((m + 1 : Nat) : Int))).toNat = xs.length + (ys.length - (m + 1)) := by omega
    have e2 : ys.length - m = ys.length - (m + 1) + 1 := by omega
    have hpg := put_get (xs := grown xs ys.length) (ys := ys.take (ys.length - (m + 1))) (p := xs.length) (by omega) (ys[ys.length - (m + 1)])
    rw [htl] at hpg
    have hsn : ys.take (ys.length - (m + 1)) ++ [ys[ys.length - (m + 1)]] = ys.take (ys.length - m) := by rw [e2, List.take_succ_eq_append_getElem hj]
    rw [e1, hpg, hsn]
   ·simp (disch := first | assumption | omega | rfl | decide) only [go_sem, Nat.reduceBEq, ↓reduceIte, Nat.reduceEqDiff, Nat.reduceAdd, Nat.reduceMul, Int.reduceToNat, Int.reduceAdd, Int.reduceMul, Int.reduceSub, tys, q3]
end Go.Proofs.Ytcpkdjikembpnaa.Ce
