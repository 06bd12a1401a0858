/- Parts of the proof of ValueStores: Pe, Ph, Gc, Kw. No condition of its own. -/
import Derived.Test.YtcpkdjikembpnaaVtah
import Derived.Test.YtcpkdjikembpnaaVtai
import Derived.Test.YtcpkdjikembpnaaVtaj
import Derived.Test.YtcpkdjikembpnaaVtal
set_option linter.unusedVariables false
set_option linter.unusedSimpArgs false
set_option maxRecDepth 100000
set_option maxHeartbeats 4000000
namespace Go.Proofs.Ytcpkdjikembpnaa.Ce
open Go.RowKit
variable (k d cl : Nat) (h : Hp) (n : Nat)
theorem size_ev (i : Int) (h0 : 0 ≤ i) (h1 : i ≤ 4096) :
  SQ k (d + 1) cl 94 [.int .i64 i] h n fun v h' n' => v = .int .i64 (sizeI i) ∧ h' = h ∧ n' = n := by
 refine enter Try.func94 (by kernel_rfl) rfl (by kernel_rfl) rfl rfl rfl ?_
 (repeat' first | refine zcd ?_ | intro K' hK | (with_reducible refine zn hK ?_; clear hK) | fail | ((with_reducible first | apply zo1 | apply zo2 | apply o_guard rfl | apply x_cond | apply k_e1 rfl | apply k_e2 rfl | apply k_e0 rfl | apply k_e3 rfl | apply k_e4 rfl); (case he => exact ez0); (try case hok => exact ezO); all_goals try (intro hb; (try simp only [hbs, reduceCtorEq] at hb); try exact ezX)) | ((with_reducible apply o_undef rfl); (case hb => exact ez0)))
 exact sw_flat rfl rfl ⟨by congr 1; unfold sizeI; omega, rfl, rfl⟩
theorem bcheck_ev (b : Int) (A : Option Addr) (m c : Nat) (lim : Int) (hm : m ≤ 9223372036854775807) :
  SQ k (d + 1) cl 81 [.agg ⟨[.int .u64 b, .slice A m c]⟩, .int .i64 lim] h n fun v h' n' => v = .int .i64 (chkB b m lim) ∧ h' = h ∧ n' = n := by
 refine enter Try.func81 (by kernel_rfl) rfl (by kernel_rfl) rfl rfl rfl ?_
 (repeat' first | refine zcd ?_ | intro K' hK | (with_reducible refine zn hK ?_; clear hK) | fail | ((with_reducible first | apply zo1 | apply zo2 | apply o_guard rfl | apply x_cond | apply k_e1 rfl | apply k_e2 rfl | apply k_e0 rfl | apply k_e3 rfl | apply k_e4 rfl); (case he => exact ez0); (try case hok => exact ezO); all_goals try (intro hb; (try simp only [hbs, reduceCtorEq] at hb); try exact ezX)) | ((with_reducible apply o_undef rfl); (case hb => exact ez0)))
 all_goals exact sw_flat rfl rfl ⟨by congr 1; unfold chkB; grind, rfl, rfl⟩
theorem room_ev (b : Int) (A : Option Addr) (m c : Nat) (lim : Int) (hm : m ≤ 9223372036854775807) :
  SQ k (d + 2) cl 47 [.agg ⟨[.int .u64 b, .slice A m c]⟩, .int .i64 lim] h n fun v h' n' => v = .tuple ⟨[.int .i64 (roomS b m lim).1, .int .i64 (roomS b m lim).2]⟩ ∧ h' = h ∧ n' = n := by
 refine enter Try.func47 (by kernel_rfl) rfl (by kernel_rfl) rfl rfl rfl ?_
 by_cases hc : chkB b m lim = 0
 ·obtain ⟨e1, e2, e3, e4, e5⟩ := chkB_ok hc
  (repeat' first | refine zcd ?_ | intro K' hK | (with_reducible refine zn hK ?_; clear hK) | ((with_reducible apply o_callF (g := 81) w_none); (case ha => exact ez0); (case hs => exact bcheck_ev (hm := hm) ..); (case' hk => rintro _ h' n' ⟨rfl, rfl, rfl⟩)) | ((with_reducible first | apply zo1 | apply zo2 | apply o_guard rfl | apply x_cond | apply k_e1 rfl | apply k_e2 rfl | apply k_e0 rfl | apply k_e3 rfl | apply k_e4 rfl); (case he => exact ez0); (try case hok => exact ezO); all_goals try (intro hb; (try simp only [hbs, reduceCtorEq] at hb); try exact ezX)) | ((with_reducible apply o_undef rfl); (case hb => exact ez0)))
  have hq : (0 ≤ lim - m ∧ (lim - m).tdiv 8 = (lim - m) / 8) ∨ (lim - m < 0 ∧ (lim - m).tdiv 8 = -((m - lim) / 8)) := by
   rcases Int.lt_or_le (lim - m) 0 with h1 | h1
   ·refine .inr ⟨h1, ?_⟩
    rw [show lim - (m : Int) = -(m - lim) from by omega, Int.neg_tdiv, Int.tdiv_eq_ediv_of_nonneg (by omega)]
   ·exact .inl ⟨h1, Int.tdiv_eq_ediv_of_nonneg h1⟩
  generalize (lim - (m : Int)).tdiv 8 = q at hq ⊢
  have w1 : IntKind.i64.wrap q = q := wrap_i64 (by omega) (by omega)
  have w2 : IntKind.i64.wrap (q * 8) = q * 8 := wrap_i64 (by omega) (by omega)
  rw [w1, w2]
  exact sw_flat rfl rfl ⟨by unfold roomS; rw [if_pos hc]; congr 4; omega, rfl, rfl⟩
 ·(repeat' first | refine zcd ?_ | intro K' hK | (with_reducible refine zn hK ?_; clear hK) | ((with_reducible apply o_callF (g := 81) w_none); (case ha => exact ez0); (case hs => exact bcheck_ev (hm := hm) ..); (case' hk => rintro _ h' n' ⟨rfl, rfl, rfl⟩)) | ((with_reducible first | apply zo1 | apply zo2 | apply o_guard rfl | apply x_cond | apply k_e1 rfl | apply k_e2 rfl | apply k_e0 rfl | apply k_e3 rfl | apply k_e4 rfl); (case he => exact ez0); (try case hok => exact ezO); all_goals try (intro hb; (try simp only [hbs, reduceCtorEq] at hb); try exact ezX)) | ((with_reducible apply o_undef rfl); (case hb => exact ez0)))
  all_goals exact sw_flat rfl rfl ⟨by unfold roomS; rw [if_neg hc], rfl, rfl⟩
theorem great_ev (b : Int) (A : Option Addr) (m c : Nat) :
  SQ k (d + 1) cl 16 [.agg ⟨[.int .u64 b, .slice A m c]⟩] h n fun v h' n' => v = .bool (greatB m) ∧ h' = h ∧ n' = n := by
 refine enter Try.func16 (by kernel_rfl) rfl (by kernel_rfl) rfl rfl rfl ?_
 (repeat' first | refine zcd ?_ | intro K' hK | (with_reducible refine zn hK ?_; clear hK) | fail | ((with_reducible first | apply zo1 | apply zo2 | apply o_guard rfl | apply x_cond | apply k_e1 rfl | apply k_e2 rfl | apply k_e0 rfl | apply k_e3 rfl | apply k_e4 rfl); (case he => exact ez0); (try case hok => exact ezO); all_goals try (intro hb; (try simp only [hbs, reduceCtorEq] at hb); try exact ezX)) | ((with_reducible apply o_undef rfl); (case hb => exact ez0)))
 all_goals exact sw_flat rfl rfl ⟨by congr 1; unfold greatB; rw [Bool.eq_iff_iff]; simp; omega, rfl, rfl⟩
theorem twin_ev (b : Int) (A : Option Addr) (xs : List UInt8) (c : Nat) (hr : RdH h n A (bv xs)) (hA : A = none → c = 0) (hm : xs.length ≤ 1000000) :
  SQ k (d + 1) cl 18 [.agg ⟨[.int .u64 b, .slice A xs.length c]⟩] h n fun v h' n' => v = .agg ⟨[.int .u64 b, .slice (some ⟨n, 0, none⟩) xs.length xs.length]⟩ ∧ h' = h.set n (.row 5 false (bv xs)) ∧ n' = n + 1 := by
 refine enter Try.func18 (by kernel_rfl) rfl (by kernel_rfl) rfl rfl rfl ?_
 have hs1 : ∀ x y z, SrcIs 1 (((h.set n x).set (n + 1) y).set (n + 1 + 1) z) (.slice A xs.length c) xs.length (bv xs) := fun x y z => src_rd (((hr.set (Nat.le_refl n) x).set (Nat.le_succ n) y).set (by omega) z) hA (by rw [bv_length]; omega) (by decide)
 (repeat' first | refine zcd ?_ | intro K' hK | (with_reducible refine zn hK ?_; clear hK) | ((with_reducible apply d_apR (t := 27) apT27 w_none); (case hs => exact ez0); (case hy => exact ez0); (case hsrc => exact hs1 _ _ _); (case hr => exact ez0); (case hc => exact bv_cok xs); (case hm => omega); (case hli => omega); (case hln => omega); (case hcs => simp); (case' hx => intro rd)) | (with_reducible refine x_drawnD (id := 1) [(1, 4), (1, 5)] (by kernel_rfl) fun K' hK => ?_) | ((with_reducible apply d_nil); (case hp => exact ezP); (case' hx => (refine hK _ _ _ ?_; clear hK))) | ((with_reducible apply d_pure w_none); (case hp => exact rfl); (case hc => exact rfl); (case he => exact ez0)) | ((with_reducible apply d_eff w_none); (case hc => exact rfl); (case he => exact ez0); (case hok => exact ezO)) | ((with_reducible apply d_guard rfl); (case hb => exact ez0); (case' h1 => intro hb; (try simp only [hbs, reduceCtorEq] at hb); try exact ezX); (case' h2 => intro hb; (try simp only [hbs, reduceCtorEq] at hb); try exact ezX)) | ((with_reducible first | apply zo1 | apply zo2 | apply o_guard rfl | apply x_cond | apply k_e1 rfl | apply k_e2 rfl | apply k_e0 rfl | apply k_e3 rfl | apply k_e4 rfl); (case he => exact ez0); (try case hok => exact ezO); all_goals try (intro hb; (try simp only [hbs, reduceCtorEq] at hb); try exact ezX)) | ((with_reducible apply o_undef rfl); (case hb => exact ez0)))
 (refine sw_row ezI rfl (by omega) (by first | assumption | (simp (disch := first | assumption | omega | rfl | decide) only [go_sem, Nat.reduceBEq, ↓reduceIte, Nat.reduceEqDiff, Nat.reduceAdd, Nat.reduceMul, Int.reduceToNat, Int.reduceAdd, Int.reduceMul, Int.reduceSub, tys] <;> rfl)) (by exact bv_idA _ _) ezR ?_; exact ⟨by simp, rfl, rfl⟩)
end Go.Proofs.Ytcpkdjikembpnaa.Ce
namespace Go.Proofs.Ytcpkdjikembpnaa.Ce
open Go.RowKit
theorem Hp.set_self {h : Hp} {id : Nat} {x : AObj} (hg : h.get id = x) (hx : x ≠ none) : h.set id x = h := by
 unfold Hp.set
 unfold Hp.get at hg
 have key : ∀ (h : Hp) (id : Nat), (lget h id).getD none = x → pset none x id h = h := by
  intro h
  induction h with
  | nil => intro id hg; rw [lget_eq] at hg; simp at hg; exact absurd hg.symm hx
  | cons a h ih => intro id hg; cases id with
   | zero => exact congrArg (· :: h) hg.symm
   | succ id => exact congrArg (a :: ·) (ih id hg)
 exact key h id hg
variable (k d cl : Nat) (h : Hp) (n : Nat)
theorem ris_ev (b : Int) (A : Option Addr) (m c : Nat) (hm : m ≤ 9223372036854775807) :
  SQ k (d + 1) cl 29 [.agg ⟨[.int .u64 b, .slice A m c]⟩] h n fun v h' n' => v = .bool (isB b m) ∧ h' = h ∧ n' = n := by
 refine enter Try.func29 (by kernel_rfl) rfl (by kernel_rfl) rfl rfl rfl ?_
 (repeat' first | refine zcd ?_ | intro K' hK | (with_reducible refine zn hK ?_; clear hK) | fail | ((with_reducible first | apply zo1 | apply zo2 | apply o_guard rfl | apply x_cond | apply k_e1 rfl | apply k_e2 rfl | apply k_e0 rfl | apply k_e3 rfl | apply k_e4 rfl); (case he => exact ez0); (try case hok => exact ezO); all_goals try (intro hb; (try simp only [hbs, reduceCtorEq] at hb); try exact ezX)) | ((with_reducible apply o_undef rfl); (case hb => exact ez0)))
 all_goals exact sw_flat rfl rfl ⟨by congr 1; unfold isB; rw [Bool.eq_iff_iff]; simp; omega, rfl, rfl⟩
theorem rlimit_ev (b : Int) (A : Option Addr) (m c : Nat) (lim : Int) (hm : m ≤ 9223372036854775807) :
  SQ k (d + 2) cl 26 [.agg ⟨[.int .u64 b, .slice A m c]⟩, .int .i64 lim] h n fun v h' n' => v = .int .i64 (chkB b m lim) ∧ h' = h ∧ n' = n := by
 refine enter Try.func26 (by kernel_rfl) rfl (by kernel_rfl) rfl rfl rfl ?_
 (repeat' first | refine zcd ?_ | intro K' hK | (with_reducible refine zn hK ?_; clear hK) | ((with_reducible apply o_callF (g := 29) w_none); (case ha => exact ez0); (case hs => exact ris_ev (hm := hm) ..); (case' hk => rintro _ h' n' ⟨rfl, rfl, rfl⟩)) | ((with_reducible first | apply zo1 | apply zo2 | apply o_guard rfl | apply x_cond | apply k_e1 rfl | apply k_e2 rfl | apply k_e0 rfl | apply k_e3 rfl | apply k_e4 rfl); (case he => exact ez0); (try case hok => exact ezO); all_goals try (intro hb; (try simp only [hbs, reduceCtorEq] at hb); try exact ezX)) | ((with_reducible apply o_undef rfl); (case hb => exact ez0)))
 all_goals exact sw_flat rfl rfl ⟨by congr 1; unfold isB at *; unfold chkB; grind, rfl, rfl⟩
theorem rsize_ev (hk : 30000 ≤ k) (i : Int) (h0 : 0 ≤ i) (h1 : i ≤ 4096) :
  SQ k (d + 1) cl 132 [.int .i64 i] h n fun v h' n' => v = .int .i64 (sizeI i) ∧ h' = h ∧ n' = n := by
 refine enter Try.func132 (by kernel_rfl) rfl (by kernel_rfl) rfl rfl rfl ?_
 (repeat' first | refine zcd ?_ | intro K' hK | (with_reducible refine zn hK ?_; clear hK) | fail | ((with_reducible first | apply zo1 | apply zo2 | apply o_guard rfl | apply x_cond | apply k_e1 rfl | apply k_e2 rfl | apply k_e0 rfl | apply k_e3 rfl | apply k_e4 rfl); (case he => exact ez0); (try case hok => exact ezO); all_goals try (intro hb; (try simp only [hbs, reduceCtorEq] at hb); try exact ezX)) | ((with_reducible apply o_undef rfl); (case hb => exact ez0)))
 refine x_loopF [3, 4, 5, 6, 7, 8, 9] [3] (fun m vs => ∃ w : Nat, vs = [.int .i64 w] ∧ 1 ≤ w ∧ m + w = 600 ∧ (w = 1 ∨ 8 * ((w : Int) - 1) < i)) 599 rfl (by omega) ⟨1, by simp (disch := first | assumption | omega | rfl | decide) only [go_sem, Nat.reduceBEq, ↓reduceIte, Nat.reduceEqDiff, Nat.reduceAdd, Nat.reduceMul, Int.reduceToNat, Int.reduceAdd, Int.reduceMul, Int.reduceSub, tys]; rfl, by omega, by omega, .inl rfl⟩ ?_
 rintro m g _ ⟨w, rfl, i1, i2, i3⟩
 by_cases hlt : 8 * (w : Int) < i
 ·(repeat' first | refine zcd ?_ | intro K' hK | (with_reducible refine zn hK ?_; clear hK) | fail | ((with_reducible first | apply zo1 | apply zo2 | apply o_guard rfl | apply x_cond | apply k_e1 rfl | apply k_e2 rfl | apply k_e0 rfl | apply k_e3 rfl | apply k_e4 rfl); (case he => exact ez0); (try case hok => exact ezO); all_goals try (intro hb; (try simp only [hbs, reduceCtorEq] at hb); try exact ezX)) | ((with_reducible apply o_undef rfl); (case hb => exact ez0)))
  refine k_round (m - 1) (by omega) ⟨⟨rfl, rfl⟩, w + 1, ?_, by omega, by omega, .inr (by omega)⟩
  simp (disch := first | assumption | omega | rfl | decide) only [go_sem, Nat.reduceBEq, ↓reduceIte, Nat.reduceEqDiff, Nat.reduceAdd, Nat.reduceMul, Int.reduceToNat, Int.reduceAdd, Int.reduceMul, Int.reduceSub, tys]; rfl
 ·(repeat' first | refine zcd ?_ | intro K' hK | (with_reducible refine zn hK ?_; clear hK) | fail | ((with_reducible first | apply zo1 | apply zo2 | apply o_guard rfl | apply x_cond | apply k_e1 rfl | apply k_e2 rfl | apply k_e0 rfl | apply k_e3 rfl | apply k_e4 rfl); (case he => exact ez0); (try case hok => exact ezO); all_goals try (intro hb; (try simp only [hbs, reduceCtorEq] at hb); try exact ezX)) | ((with_reducible apply o_undef rfl); (case hb => exact ez0)))
  exact sw_flat rfl rfl ⟨by congr 1; unfold sizeI; omega, rfl, rfl⟩
theorem rfits_ev (hk : 30000 ≤ k) (b : Int) (A : Option Addr) (m c : Nat) (i lim : Int) (hm : m ≤ 16384) (h0 : 0 ≤ i) (h1 : i ≤ 4096) :
  SQ k (d + 2) cl 125 [.agg ⟨[.int .u64 b, .slice A m c]⟩, .int .i64 i, .int .i64 lim] h n fun v h' n' => v = .bool (fitsB m i lim) ∧ h' = h ∧ n' = n := by
 have hs := sizeI_ge i
 have hs2 := sizeI_le h1
 refine enter Try.func125 (by kernel_rfl) rfl (by kernel_rfl) rfl rfl rfl ?_
 (repeat' first | refine zcd ?_ | intro K' hK | (with_reducible refine zn hK ?_; clear hK) | ((with_reducible apply d_callN (g := 132) w_none); (case hs0 => exact rfl); (case ha => exact ez0); (case hs => exact rsize_ev (hk := hk) (h0 := h0) (h1 := h1) ..); (case' hk => rintro _ h' n' ⟨rfl, rfl, rfl⟩)) | (with_reducible refine x_drawnD (id := 1) [(1, 4)] (by kernel_rfl) fun K' hK => ?_) | ((with_reducible apply d_nil); (case hp => exact ezP); (case' hx => (refine hK _ _ _ ?_; clear hK))) | ((with_reducible apply d_pure w_none); (case hp => exact rfl); (case hc => exact rfl); (case he => exact ez0)) | ((with_reducible apply d_eff w_none); (case hc => exact rfl); (case he => exact ez0); (case hok => exact ezO)) | ((with_reducible apply d_guard rfl); (case hb => exact ez0); (case' h1 => intro hb; (try simp only [hbs, reduceCtorEq] at hb); try exact ezX); (case' h2 => intro hb; (try simp only [hbs, reduceCtorEq] at hb); try exact ezX)) | ((with_reducible first | apply zo1 | apply zo2 | apply o_guard rfl | apply x_cond | apply k_e1 rfl | apply k_e2 rfl | apply k_e0 rfl | apply k_e3 rfl | apply k_e4 rfl); (case he => exact ez0); (try case hok => exact ezO); all_goals try (intro hb; (try simp only [hbs, reduceCtorEq] at hb); try exact ezX)) | ((with_reducible apply o_undef rfl); (case hb => exact ez0)))
 all_goals exact sw_flat rfl rfl ⟨rfl, rfl, rfl⟩
end Go.Proofs.Ytcpkdjikembpnaa.Ce
namespace Go.Proofs.Ytcpkdjikembpnaa.Ce
open Go.RowKit
variable (k d cl : Nat) (h : Hp) (n : Nat)
theorem rsame_ev (b : Int) (A : Option Addr) (xs : List UInt8) (c : Nat) (b2 : Int) (A2 : Option Addr) (ys : List UInt8) (c2 : Nat) (hr : RdH h n A (bv xs)) (hr2 : RdH h n A2 (bv ys)) (hA : A = none → c = 0) (hA2 : A2 = none → c2 = 0) :
  SQ k (d + 1) cl 23 [.agg ⟨[.int .u64 b, .slice A xs.length c]⟩, .agg ⟨[.int .u64 b2, .slice A2 ys.length c2]⟩] h n fun v h' n' => v = .bool (sameB b xs b2 ys) ∧ h' = h ∧ n' = n := by
 have q1 : ∀ x y, RdH ((h.set n x).set (n + 1) y) n A (bv xs) := fun x y => (hr.set (Nat.le_refl n) x).set (Nat.le_succ n) y
 have q2 : ∀ x y, RdH ((h.set n x).set (n + 1) y) n A2 (bv ys) := fun x y => (hr2.set (Nat.le_refl n) x).set (Nat.le_succ n) y
 refine enter Try.func23 (by kernel_rfl) rfl (by kernel_rfl) rfl rfl rfl ?_
 (repeat' first | refine zcd ?_ | intro K' hK | (with_reducible refine zn hK ?_; clear hK) | ((with_reducible apply o_b2s b2T27_9 w_none); (case hy => exact ez0); (case hr => exact q1 _ _); (case h0 => first | assumption | (intro h; cases h))) | ((with_reducible apply o_b2s b2T27_9 w_none); (case hy => exact ez0); (case hr => exact q2 _ _); (case h0 => first | assumption | (intro h; cases h))) | ((with_reducible first | apply zo1 | apply zo2 | apply o_guard rfl | apply x_cond | apply k_e1 rfl | apply k_e2 rfl | apply k_e0 rfl | apply k_e3 rfl | apply k_e4 rfl); (case he => exact ez0); (try case hok => exact ezO); all_goals try (intro hb; (try simp only [hbs, reduceCtorEq] at hb); try exact ezX)) | ((with_reducible apply o_undef rfl); (case hb => exact ez0)))
 ·exact sw_flat rfl rfl ⟨by congr 1; unfold sameB; simp_all, rfl, rfl⟩
 ·exact sw_flat rfl rfl ⟨by congr 1; unfold sameB; simp_all [ByteArray.toList_eq], rfl, rfl⟩
theorem rset_ev (hk : 30000 ≤ k) (b : Int) (id : Nat) (xs : List UInt8) (c : Nat) (a x : Int) (hr : rowOf h id = some (5, false, bv xs)) (hid : id < n) (hcl : cl ≤ id) (hb0 : 0 ≤ b) (ha0 : b ≤ a) (ha1 : a + 8 ≤ b + xs.length) (hb1 : b < 1099511700000) (hm : xs.length ≤ 100000) (hv0 : 0 ≤ x) (hv1 : x < 18446744073709551616) :
  SQ k (d + 1) cl 57 [.agg ⟨[.int .u64 b, .slice (some ⟨id, 0, none⟩) xs.length c]⟩, .int .u64 a, .int .i64 8, .int .u64 x] h n fun v h' n' => v = .tuple ⟨[]⟩ ∧
   h' = (h.set n (.row 29 false [.int .u64 b, .slice (some ⟨id, 0, none⟩) xs.length c])).set id (.row 5 false (bv (Go.Proofs.Ytcpkdjikembpnaa.put xs (a - b).toNat (toLE 8 x)))) ∧ n' = n + 1 := by
 refine enterW Try.func57 (by kernel_rfl) rfl (by kernel_rfl) rfl rfl rfl ?_
 (repeat' first | refine zcd ?_ | intro K' hK | (with_reducible refine zn hK ?_; clear hK) | fail | ((with_reducible first | apply zo1 | apply zo2 | apply o_guard rfl | apply x_cond | apply k_e1 rfl | apply k_e2 rfl | apply k_e0 rfl | apply k_e3 rfl | apply k_e4 rfl); (case he => exact ez0); (try case hok => exact ezO); all_goals try (intro hb; (try simp only [hbs, reduceCtorEq] at hb); try exact ezX)) | ((with_reducible apply o_undef rfl); (case hb => exact ez0)))
 refine x_loopV [3, 8, 9, 10, 11, 12, 13, 14, 15, 16, 17, 18, 19, 20, 21, 22, 23, 24, 25, 26, 27, 28] [3, 8] (fun m vs h' n' => ∃ i : Nat, m + i = 8 ∧ vs = [.int .u64 (x / 256 ^ i), .int .i64 i] ∧ n' = n + 1 ∧
  h' = (h.set n (.row 29 false [.int .u64 b, .slice (some ⟨id, 0, none⟩) xs.length c])).set id (.row 5 false (bv (Go.Proofs.Ytcpkdjikembpnaa.put xs (a - b).toNat (toLE i x))))) 8 rfl (by omega) ⟨0, rfl, ?_, rfl, ?_⟩ ?_
 ·simp (disch := first | assumption | omega | rfl | decide) only [go_sem, Nat.reduceBEq, ↓reduceIte, Nat.reduceEqDiff, Nat.reduceAdd, Nat.reduceMul, Int.reduceToNat, Int.reduceAdd, Int.reduceMul, Int.reduceSub, tys]; simp
 ·rw [toLE_zero, put_nil]
  exact (Hp.set_self (by rw [Hp.get_ne _ _ (by omega)]; exact rowOf_some hr) (by simp)).symm
 ·rintro m g _ h' n' ⟨i, i1, rfl, rfl, rfl⟩
  have hpl : (toLE i x).length = i := toLE_length _ _
  have hbl : (bv (Go.Proofs.Ytcpkdjikembpnaa.put xs (a - b).toNat (toLE i x))).length = xs.length := by rw [bv_length, put_length (by rw [hpl]; omega)]
  have hq0 : 0 ≤ x / 256 ^ i := Int.ediv_nonneg hv0 (Int.pow_nonneg (by decide))
  have hq1 : x / 256 ^ i ≤ x := Int.ediv_le_self _ hv0
  by_cases hlt : i < 8
  ·have hq2 : x / 256 ^ i % 256 = ((byteAt x i).toNat : Int) := (byteAt_nat x i).symm
   (repeat' first | refine zcd ?_ | intro K' hK | (with_reducible refine zn hK ?_; clear hK) | fail | ((with_reducible first | apply zo1 | apply zo2 | apply o_guard rfl | apply x_cond | apply k_e1 rfl | apply k_e2 rfl | apply k_e0 rfl | apply k_e3 rfl | apply k_e4 rfl); (case he => exact ez1 @overAt_one); (try case hok => exact ezO); all_goals try (intro hb; (try simp only [hbs, reduceCtorEq] at hb); try exact ezX)) | ((with_reducible apply o_undef rfl); (case hb => exact ez0)))
   refine k_round (m - 1) (by omega) ⟨i + 1, by omega, ?_, rfl, ?_⟩
   ·simp (disch := first | assumption | omega | rfl | decide) only [go_sem, Nat.reduceBEq, ↓reduceIte, Nat.reduceEqDiff, Nat.reduceAdd, Nat.reduceMul, Int.reduceToNat, Int.reduceAdd, Int.reduceMul, Int.reduceSub, tys]
    congr 2
    ·rw [Int.pow_succ, Int.ediv_ediv_of_nonneg (Int.le_of_lt (Int.pow_pos (by decide)))]
   ·rw [hq2]
    have e1 : (a - b + (i : Int)).toNat = (a - b).toNat + i := by omega
    have hpg := put_get (xs := xs) (ys := toLE i x) (p := (a - b).toNat) (by rw [hpl]; omega) (byteAt x i)
    rw [hpl] at hpg
    rw [e1, hpg, toLE_succ]
  ·obtain rfl : i = 8 := by omega
   (repeat' first | refine zcd ?_ | intro K' hK | (with_reducible refine zn hK ?_; clear hK) | fail | ((with_reducible first | apply zo1 | apply zo2 | apply o_guard rfl | apply x_cond | apply k_e1 rfl | apply k_e2 rfl | apply k_e0 rfl | apply k_e3 rfl | apply k_e4 rfl); (case he => exact ez1 @overAt_one); (try case hok => exact ezO); all_goals try (intro hb; (try simp only [hbs, reduceCtorEq] at hb); try exact ezX)) | ((with_reducible apply o_undef rfl); (case hb => exact ez0)))
   exact ⟨rfl, rfl, rfl⟩
end Go.Proofs.Ytcpkdjikembpnaa.Ce
namespace Go.Proofs.Ytcpkdjikembpnaa.Ce
open Go.RowKit
theorem bv_append (xs ys : List UInt8) : bv (xs ++ ys) = bv xs ++ bv ys := by simp [bv]
variable (k d cl : Nat) (h : Hp) (n : Nat)
theorem rgrown_ev (hk : 30000 ≤ k) (b : Int) (A : Option Addr) (xs : List UInt8) (c : Nat) (i : Int) (hr : RdH h n A (bv xs)) (hA : A = none → c = 0) (hm : xs.length ≤ 17000) (h0 : 0 ≤ i) (h1 : i ≤ 4096) :
  SQ k (d + 2) cl 126 [.agg ⟨[.int .u64 b, .slice A xs.length c]⟩, .int .i64 i] h n fun v h' n' => v = .tuple ⟨[.agg ⟨[.int .u64 b, .slice (some ⟨n, 0, none⟩) (grown xs i).length (grown xs i).length]⟩, .int .u64 (65536 + xs.length)]⟩ ∧ h' = h.set n (.row 5 false (bv (grown xs i))) ∧ n' = n + 1 := by
 have q1 : ∀ x y, RdH ((h.set n x).set (n + 1) y) (n + 1 + 1) A (bv xs) := fun x y => ((hr.set (Nat.le_refl n) x).set (Nat.le_succ n) y).more (by omega)
 have hs := sizeI_ge i
 have hs2 := sizeI_le h1
 refine enter Try.func126 (by kernel_rfl) rfl (by kernel_rfl) rfl rfl rfl ?_
 (repeat' first | refine zcd ?_ | intro K' hK | (with_reducible refine zn hK ?_; clear hK) | ((with_reducible apply o_callF (g := 18) w_none); (case ha => exact ez0); (case hs => exact twin_ev (hr := q1 _ _) (hA := hA) (hm := by omega) ..); (case' hk => rintro _ h' n' ⟨rfl, rfl, rfl⟩)) | ((with_reducible first | apply zo1 | apply zo2 | apply o_guard rfl | apply x_cond | apply k_e1 rfl | apply k_e2 rfl | apply k_e0 rfl | apply k_e3 rfl | apply k_e4 rfl); (case he => exact ez0); (try case hok => exact ezO); all_goals try (intro hb; (try simp only [hbs, reduceCtorEq] at hb); try exact ezX)) | ((with_reducible apply o_undef rfl); (case hb => exact ez0)))
 refine x_loopV [7, 10, 11, 12, 13, 14, 15, 16, 17, 18, 19, 20] [7] (fun m vs h' n' => ∃ (j id : Nat), m + j = (sizeI i).toNat ∧ vs = [.int .i64 j] ∧ n + 1 < id ∧ id ≠ n + 3 ∧ id < n' ∧ n + 3 < n' ∧
  rowOf h' n = some (29, false, [.int .u64 b, .slice A xs.length c]) ∧ rowOf h' (n + 1) = some (29, false, [.int .u64 0, .slice none 0 0]) ∧
  rowOf h' (n + 3) = some (29, false, [.int .u64 b, .slice (some ⟨id, 0, none⟩) (xs.length + j) (xs.length + j)]) ∧ rowOf h' id = some (5, false, bv (xs ++ List.replicate j 0))) (sizeI i).toNat rfl (by omega) ⟨0, n + 2, by omega, ?_, by omega, by omega, by omega, by omega, ?_, ?_, ?_, ?_⟩ ?_
 ·simp (disch := first | assumption | omega | rfl | decide) only [go_sem, Nat.reduceBEq, ↓reduceIte, Nat.reduceEqDiff, Nat.reduceAdd, Nat.reduceMul, Int.reduceToNat, Int.reduceAdd, Int.reduceMul, Int.reduceSub, tys]; rfl
 ·simp (disch := first | assumption | omega | rfl | decide) only [go_sem, Nat.reduceBEq, ↓reduceIte, Nat.reduceEqDiff, Nat.reduceAdd, Nat.reduceMul, Int.reduceToNat, Int.reduceAdd, Int.reduceMul, Int.reduceSub, tys]
 ·simp (disch := first | assumption | omega | rfl | decide) only [go_sem, Nat.reduceBEq, ↓reduceIte, Nat.reduceEqDiff, Nat.reduceAdd, Nat.reduceMul, Int.reduceToNat, Int.reduceAdd, Int.reduceMul, Int.reduceSub, tys]
 ·simp (disch := first | assumption | omega | rfl | decide) only [go_sem, Nat.reduceBEq, ↓reduceIte, Nat.reduceEqDiff, Nat.reduceAdd, Nat.reduceMul, Int.reduceToNat, Int.reduceAdd, Int.reduceMul, Int.reduceSub, tys]
 ·simp (disch := first | assumption | omega | rfl | decide) only [go_sem, Nat.reduceBEq, ↓reduceIte, Nat.reduceEqDiff, Nat.reduceAdd, Nat.reduceMul, Int.reduceToNat, Int.reduceAdd, Int.reduceMul, Int.reduceSub, tys]; simp
 ·rintro m g _ h' n' ⟨j, id, i1, rfl, i2, i3, i4, i5, r0, r1, r2, r3⟩
  have c0 := fun o => cellAt_row (off := o) r0
  have c2 := fun o => cellAt_row (off := o) r2
  have d2 := fun o q => cellsAt_row (off := o) (k := q) r2
  have w1 := rwOf_row r1
  have w2 := rwOf_row r2
  have w3 := rwOf_row r3
  have hlen : (bv (xs ++ List.replicate j 0)).length = xs.length + j := by rw [bv_length]; simp
  by_cases hlt : (j : Int) < sizeI i
  ·(repeat' first | refine zcd ?_ | intro K' hK | (with_reducible refine zn hK ?_; clear hK) | ((with_reducible apply o_callF (g := 132) w_none); (case ha => exact ez0); (case hs => exact rsize_ev (hk := hk) (h0 := h0) (h1 := h1) ..); (case' hk => rintro _ h' n' ⟨rfl, rfl, rfl⟩)) | ((with_reducible apply o_apR (t := 27) apT27 w_none); (case hs => exact ez1 w3); (case hy => exact ez1 w3); (case hsrc => exact src_row (rowOf_same _ _ _ _ _) rfl); (case hr => exact ez1 w3); (case hc => exact rfl); (case hm => omega); (case hli => omega); (case hln => omega); (case hcs => rw [hlen]; omega)) | ((with_reducible first | apply zo1 | apply zo2 | apply o_guard rfl | apply x_cond | apply k_e1 rfl | apply k_e2 rfl | apply k_e0 rfl | apply k_e3 rfl | apply k_e4 rfl); (case he => exact ez6 c0 c2 d2 w1 w2 w3); (try case hok => exact ezO); all_goals try (intro hb; (try simp only [hbs, reduceCtorEq] at hb); try exact ezX)) | ((with_reducible apply o_undef rfl); (case hb => exact ez0)))
   refine k_round (m - 1) (by omega) ⟨j + 1, n' + 1, by omega, ?_, by omega, by omega, by omega, by omega, ?_, ?_, ?_, ?_⟩
   ·simp (disch := first | assumption | omega | rfl | decide) only [go_sem, Nat.reduceBEq, ↓reduceIte, Nat.reduceEqDiff, Nat.reduceAdd, Nat.reduceMul, Int.reduceToNat, Int.reduceAdd, Int.reduceMul, Int.reduceSub, tys]; rfl
   ·simp (disch := first | assumption | omega | rfl | decide) only [go_sem, Nat.reduceBEq, ↓reduceIte, Nat.reduceEqDiff, Nat.reduceAdd, Nat.reduceMul, Int.reduceToNat, Int.reduceAdd, Int.reduceMul, Int.reduceSub, tys, r0]
   ·simp (disch := first | assumption | omega | rfl | decide) only [go_sem, Nat.reduceBEq, ↓reduceIte, Nat.reduceEqDiff, Nat.reduceAdd, Nat.reduceMul, Int.reduceToNat, Int.reduceAdd, Int.reduceMul, Int.reduceSub, tys, r1]
   ·simp (disch := first | assumption | omega | rfl | decide) only [go_sem, Nat.reduceBEq, ↓reduceIte, Nat.reduceEqDiff, Nat.reduceAdd, Nat.reduceMul, Int.reduceToNat, Int.reduceAdd, Int.reduceMul, Int.reduceSub, tys, r2]; rfl
   ·simp (disch := first | assumption | omega | rfl | decide) only [go_sem, Nat.reduceBEq, ↓reduceIte, Nat.reduceEqDiff, Nat.reduceAdd, Nat.reduceMul, Int.reduceToNat, Int.reduceAdd, Int.reduceMul, Int.reduceSub, tys, Nat.mul_one]
    rw [List.take_of_length_le (by omega), List.replicate_succ', ← List.append_assoc, bv_append (xs ++ List.replicate j 0) [0]]
    rfl
  ·obtain rfl : (sizeI i).toNat = j := by omega
   (repeat' first | refine zcd ?_ | intro K' hK | (with_reducible refine zn hK ?_; clear hK) | ((with_reducible apply o_callF (g := 132) w_none); (case ha => exact ez0); (case hs => exact rsize_ev (hk := hk) (h0 := h0) (h1 := h1) ..); (case' hk => rintro _ h' n' ⟨rfl, rfl, rfl⟩)) | (with_reducible refine x_drawnD (id := 6) [(0, 2), (0, 4), (2, 6), (4, 6)] (by kernel_rfl) fun K' hK => ?_) | ((with_reducible apply d_nil); (case hp => exact ezP); (case' hx => (refine hK _ _ _ ?_; clear hK))) | ((with_reducible apply d_pure w_none); (case hp => exact rfl); (case hc => exact rfl); (case he => exact ez6 c0 c2 d2 w1 w2 w3)) | ((with_reducible apply d_eff w_none); (case hc => exact rfl); (case he => exact ez6 c0 c2 d2 w1 w2 w3); (case hok => exact ezO)) | ((with_reducible apply d_guard rfl); (case hb => exact ez6 c0 c2 d2 w1 w2 w3); (case' h1 => intro hb; (try simp only [hbs, reduceCtorEq] at hb); try exact ezX); (case' h2 => intro hb; (try simp only [hbs, reduceCtorEq] at hb); try exact ezX)) | ((with_reducible first | apply zo1 | apply zo2 | apply o_guard rfl | apply x_cond | apply k_e1 rfl | apply k_e2 rfl | apply k_e0 rfl | apply k_e3 rfl | apply k_e4 rfl); (case he => exact ez6 c0 c2 d2 w1 w2 w3); (try case hok => exact ezO); all_goals try (intro hb; (try simp only [hbs, reduceCtorEq] at hb); try exact ezX)) | ((with_reducible apply o_undef rfl); (case hb => exact ez0)))
   have hgl : (grown xs i).length = xs.length + (sizeI i).toNat := by unfold grown; simp
   (refine sw_row ezI rfl (by omega) (ez1 r3) (by exact bv_idA _ _) ezR ?_; exact ⟨by rw [hgl], rfl, rfl⟩)
end Go.Proofs.Ytcpkdjikembpnaa.Ce
namespace Go.Proofs.Ytcpkdjikembpnaa.Ce
open Go.RowKit
theorem res_bv (xs : List UInt8) (j : Nat) : (bv xs).take (xs.length.min j) ++ (List.replicate j [Value.int IntKind.u8 0]).flatten.drop (xs.length.min j) = bv (resized xs j) := by
 have e : (List.replicate j [Value.int IntKind.u8 0]).flatten = List.replicate j (.int .u8 0) := by
  induction j with
  | zero => rfl
  | succ j ih => rw [List.replicate_succ, List.flatten_cons, ih]; rfl
 have hm : xs.length.min j = min xs.length j := rfl
 rw [e, hm]
 unfold resized bv
 rw [List.map_append, List.map_replicate, List.drop_replicate, List.map_take]
 rcases Nat.le_total xs.length j with h1 | h1
 ·rw [Nat.min_eq_left h1, List.take_of_length_le (by simp), List.take_of_length_le (by simpa using h1)]; rfl
 ·rw [Nat.min_eq_right h1, Nat.sub_self, Nat.sub_eq_zero_of_le h1]; rfl
theorem resized_grown (xs : List UInt8) (i : Int) : resized xs ((xs.length : Int) + sizeI i).toNat = grown xs i := by
 have := sizeI_ge i
 unfold resized grown
 rw [List.take_of_length_le (by omega), show ((xs.length : Int) + sizeI i).toNat - xs.length = (sizeI i).toNat from by omega]
variable (k d cl : Nat) (h : Hp) (n : Nat)
theorem resize_ok (b : Int) (A : Option Addr) (xs : List UInt8) (c : Nat) (i : Int) (hr : RdH h n A (bv xs)) (hA : A = none → c = 0) (h0 : 0 ≤ b) (h1 : b < 18446744073709551616) (hc : chkR b xs.length = 0) (hi0 : 0 ≤ i) (hi1 : i ≤ 20000) :
  SQ k (d + 3) cl 95 [.agg ⟨[.int .u64 b, .slice A xs.length c]⟩, .int .i64 i] h n fun v h' n' => v = .tuple ⟨[.agg ⟨[.int .u64 b, .slice (some ⟨n, 0, none⟩) i.toNat i.toNat]⟩, .int .i64 0]⟩ ∧ h' = h.set n (.row 5 false (bv (resized xs i.toNat))) ∧ n' = n + 1 := by
 obtain ⟨g2, g3, g4, g5⟩ := chkR_ok hc
 have q1 : ∀ x y z, SrcIs 1 (((h.set n x).set (n + 1) y).set (n + 1 + 1) z) (.slice A xs.length c) xs.length (bv xs) := fun x y z => src_rd (((hr.set (Nat.le_refl n) x).set (Nat.le_succ n) y).set (by omega) z) hA (by rw [bv_length]; omega) (by decide)
 have hbl : (List.replicate i.toNat [Value.int IntKind.u8 0]).flatten.length = i.toNat := by simp
 refine enter Try.func95 (by kernel_rfl) rfl (by kernel_rfl) rfl rfl rfl ?_
 (repeat' first | refine zcd ?_ | intro K' hK | (with_reducible refine zn hK ?_; clear hK) | ((with_reducible apply o_callF (g := 62) w_none); (case ha => exact ez0); (case hs => exact check_ev (h0 := h0) (h1 := h1) (hm := by omega) ..); (case' hk => rintro _ h' n' ⟨rfl, rfl, rfl⟩)) | ((with_reducible apply o_cp cpT27 w_none); (case hd => exact ez0); (case hy => exact ez0); (case hsrc => exact q1 _ _ _); (case hr => exact ez0); (case hcl => rw [bv_length]); (case hc => exact bv_cok xs); (case hl => omega); (case ho => (first | (simp; done) | (simp; omega) | omega | (simp only [bv_length]; omega)))) | ((with_reducible first | apply zo1 | apply zo2 | apply o_guard rfl | apply x_cond | apply k_e1 rfl | apply k_e2 rfl | apply k_e0 rfl | apply k_e3 rfl | apply k_e4 rfl); (case he => exact ez0); (try case hok => exact ezO); all_goals try (intro hb; (try simp only [hbs, reduceCtorEq] at hb); try exact ezX)) | ((with_reducible apply o_undef rfl); (case hb => exact ez0)))
 (refine sw_row ezI rfl (by omega) (by first | assumption | (simp (disch := first | assumption | omega | rfl | decide) only [go_sem, Nat.reduceBEq, ↓reduceIte, Nat.reduceEqDiff, Nat.reduceAdd, Nat.reduceMul, Int.reduceToNat, Int.reduceAdd, Int.reduceMul, Int.reduceSub, tys] <;> rfl)) (by rw [res_bv]; exact bv_idA _ _) ezR ?_; exact ⟨rfl, by rw [res_bv], rfl⟩)
theorem alloc_ok (b : Int) (A : Option Addr) (xs : List UInt8) (c : Nat) (i lim : Int) (hr : RdH h n A (bv xs)) (hA : A = none → c = 0) (he : allocE b xs.length i lim = 0) :
  SQ k (d + 4) cl 55 [.agg ⟨[.int .u64 b, .slice A xs.length c]⟩, .int .i64 i, .int .i64 lim] h n fun v h' n' => v = .tuple ⟨[.agg ⟨[.int .u64 b, .slice (some ⟨n, 0, none⟩) (grown xs i).length (grown xs i).length]⟩, .int .u64 (b + xs.length), .int .i64 0]⟩ ∧ h' = h.set n (.row 5 false (bv (grown xs i))) ∧ n' = n + 1 := by
 have hs := sizeI_ge i
 have hc : chkB b xs.length lim = 0 ∧ 0 ≤ i ∧ i ≤ 4096 ∧ xs.length + sizeI i ≤ lim := by unfold allocE at he; grind
 obtain ⟨hc, i0, i1, i2⟩ := hc
 obtain ⟨rfl, g2, g3, g4, g5⟩ := chkB_ok hc
 have hR : chkR 65536 xs.length = 0 := chkB_R g3
 have hrm : (roomS 65536 xs.length lim).1 = max 0 ((lim - xs.length) / 8 * 8) ∧ (roomS 65536 xs.length lim).2 = 0 := by unfold roomS; rw [if_pos hc]; exact ⟨rfl, rfl⟩
 have hlt := room_lt (n := i) (lim := lim) g2
 have hgl : (grown xs i).length = ((xs.length : Int) + sizeI i).toNat := by unfold grown; simp; omega
 have q1 : ∀ x y, RdH ((h.set n x).set (n + 1) y) (n + 1 + 1) A (bv xs) := fun x y => ((hr.set (Nat.le_refl n) x).set (Nat.le_succ n) y).more (by omega)
 refine enter Try.func55 (by kernel_rfl) rfl (by kernel_rfl) rfl rfl rfl ?_
 (repeat' first | refine zcd ?_ | intro K' hK | (with_reducible refine zn hK ?_; clear hK) | ((with_reducible apply o_callF (g := 47) w_none); (case ha => exact ez0); (case hs => exact room_ev (hm := by omega) ..); (case' hk => rintro _ h' n' ⟨rfl, rfl, rfl⟩)) | ((with_reducible apply o_callF (g := 94) w_none); (case ha => exact ez0); (case hs => exact size_ev (h0 := i0) (h1 := i1) ..); (case' hk => rintro _ h' n' ⟨rfl, rfl, rfl⟩)) | ((with_reducible apply d_callN (g := 94) w_none); (case hs0 => exact rfl); (case ha => exact ez0); (case hs => exact size_ev (h0 := i0) (h1 := i1) ..); (case' hk => rintro _ h' n' ⟨rfl, rfl, rfl⟩)) | ((with_reducible apply d_callS (g := 95) w_none); (case hs0 => exact rfl); (case ha => exact ez0); (case hs => exact resize_ok (hr := q1 _ _) (hA := hA) (h0 := by omega) (h1 := by omega) (hc := hR) (hi0 := by omega) (hi1 := by omega) ..); (case' hk => rintro _ h' n' ⟨rfl, rfl, rfl⟩)) | (with_reducible refine x_drawnD (id := 8) [(0, 2), (0, 5), (2, 5)] (by kernel_rfl) fun K' hK => ?_) | (with_reducible refine x_drawnD (id := 9) [(0, 2), (0, 4), (2, 4), (0, 6), (2, 6), (2, 9), (4, 9), (6, 9)] (by kernel_rfl) fun K' hK => ?_) | ((with_reducible apply d_nil); (case hp => exact ezP); (case' hx => (refine hK _ _ _ ?_; clear hK))) | ((with_reducible apply d_pure w_none); (case hp => exact rfl); (case hc => exact rfl); (case he => exact ez0)) | ((with_reducible apply d_eff w_none); (case hc => exact rfl); (case he => exact ez0); (case hok => exact ezO)) | ((with_reducible apply d_guard rfl); (case hb => exact ez0); (case' h1 => intro hb; (try simp only [hbs, reduceCtorEq] at hb); try exact ezX); (case' h2 => intro hb; (try simp only [hbs, reduceCtorEq] at hb); try exact ezX)) | ((with_reducible first | apply zo1 | apply zo2 | apply o_guard rfl | apply x_cond | apply k_e1 rfl | apply k_e2 rfl | apply k_e0 rfl | apply k_e3 rfl | apply k_e4 rfl); (case he => exact ez0); (try case hok => exact ezO); all_goals try (intro hb; (try simp only [hbs, reduceCtorEq] at hb); try exact ezX)) | ((with_reducible apply o_undef rfl); (case hb => exact ez0)))
 refine sw_row (by simp (disch := first | assumption | omega) only [idV_tuple, idV_agg, idV_int, idV_bool, idV_str, idV_slice, idV_nil, idV1_agg, idV1_int, idV1_bool, idV1_str, idV1_slice, idV1_nil, idA_int, idA_bool, idA_str, idA_slice, idA_nil, idA_old, idV_old, idV1_old, ble_t, ble_f, cond_true, cond_false, List.flatMap_cons, List.flatMap_nil, List.append_nil, List.nil_append, List.cons_append]; exact rfl) rfl (by omega) (by simp (disch := first | assumption | omega | rfl | decide) only [go_sem, Nat.reduceBEq, ↓reduceIte, Nat.reduceEqDiff, Nat.reduceAdd, Nat.reduceMul, Int.reduceToNat, Int.reduceAdd, Int.reduceMul, Int.reduceSub, tys]; exact rfl) (by rw [resized_grown]; exact bv_idA _ _) (by simp only [reV_tuple, reV_agg, reV_slice, reV1_agg, reV1_int, reV1_bool, reV1_str, reV1_slice, reV1_snil, reA_int, reA_bool, reA_str, reA_slice, reA_snil, reN_hit, List.map_cons, List.map_nil]; exact rfl) ?_
 exact ⟨by rw [hgl], by rw [resized_grown], rfl⟩
theorem alloc_err (b : Int) (A : Option Addr) (m c : Nat) (i lim : Int) (hm : m ≤ 9223372036854775807) (he : allocE b m i lim ≠ 0) :
  SQ k (d + 4) cl 55 [.agg ⟨[.int .u64 b, .slice A m c]⟩, .int .i64 i, .int .i64 lim] h n fun v h' n' => v = .tuple ⟨[.agg ⟨[.int .u64 0, .slice none 0 0]⟩, .int .u64 0, .int .i64 (allocE b m i lim)]⟩ ∧ h' = h ∧ n' = n := by
 have hs := sizeI_ge i
 refine enter Try.func55 (by kernel_rfl) rfl (by kernel_rfl) rfl rfl rfl ?_
 by_cases hc : chkB b m lim = 0
 ·obtain ⟨e1, g2, g3, g4, g5⟩ := chkB_ok hc
  have hrm : (roomS b m lim).1 = max 0 ((lim - m) / 8 * 8) ∧ (roomS b m lim).2 = 0 := by unfold roomS; rw [if_pos hc]; exact ⟨rfl, rfl⟩
  have hlt := room_lt (n := i) (lim := lim) g2
  by_cases hi : 0 ≤ i ∧ i ≤ 4096
  ·have hf : lim < m + sizeI i ∧ allocE b m i lim = 18 := by unfold allocE at *; grind
   (repeat' first | refine zcd ?_ | intro K' hK | (with_reducible refine zn hK ?_; clear hK) | ((with_reducible apply o_callF (g := 47) w_none); (case ha => exact ez0); (case hs => exact room_ev (hm := by omega) ..); (case' hk => rintro _ h' n' ⟨rfl, rfl, rfl⟩)) | ((with_reducible apply o_callF (g := 94) w_none); (case ha => exact ez0); (case hs => exact size_ev (h0 := hi.1) (h1 := hi.2) ..); (case' hk => rintro _ h' n' ⟨rfl, rfl, rfl⟩)) | ((with_reducible first | apply zo1 | apply zo2 | apply o_guard rfl | apply x_cond | apply k_e1 rfl | apply k_e2 rfl | apply k_e0 rfl | apply k_e3 rfl | apply k_e4 rfl); (case he => exact ez0); (try case hok => exact ezO); all_goals try (intro hb; (try simp only [hbs, reduceCtorEq] at hb); try exact ezX)) | ((with_reducible apply o_undef rfl); (case hb => exact ez0)))
   all_goals exact sw_flat rfl rfl ⟨by rw [hf.2], rfl, rfl⟩
  ·have hf : allocE b m i lim = 2 := by unfold allocE; grind
   (repeat' first | refine zcd ?_ | intro K' hK | (with_reducible refine zn hK ?_; clear hK) | ((with_reducible apply o_callF (g := 47) w_none); (case ha => exact ez0); (case hs => exact room_ev (hm := by omega) ..); (case' hk => rintro _ h' n' ⟨rfl, rfl, rfl⟩)) | ((with_reducible first | apply zo1 | apply zo2 | apply o_guard rfl | apply x_cond | apply k_e1 rfl | apply k_e2 rfl | apply k_e0 rfl | apply k_e3 rfl | apply k_e4 rfl); (case he => exact ez0); (try case hok => exact ezO); all_goals try (intro hb; (try simp only [hbs, reduceCtorEq] at hb); try exact ezX)) | ((with_reducible apply o_undef rfl); (case hb => exact ez0)))
   all_goals exact sw_flat rfl rfl ⟨by rw [hf], rfl, rfl⟩
 ·have hrm : (roomS b m lim).2 = chkB b m lim := by unfold roomS; rw [if_neg hc]
  have hf : allocE b m i lim = chkB b m lim := by unfold allocE; rw [if_neg hc]
  (repeat' first | refine zcd ?_ | intro K' hK | (with_reducible refine zn hK ?_; clear hK) | ((with_reducible apply o_callF (g := 47) w_none); (case ha => exact ez0); (case hs => exact room_ev (hm := by omega) ..); (case' hk => rintro _ h' n' ⟨rfl, rfl, rfl⟩)) | ((with_reducible first | apply zo1 | apply zo2 | apply o_guard rfl | apply x_cond | apply k_e1 rfl | apply k_e2 rfl | apply k_e0 rfl | apply k_e3 rfl | apply k_e4 rfl); (case he => exact ez0); (try case hok => exact ezO); all_goals try (intro hb; (try simp only [hbs, reduceCtorEq] at hb); try exact ezX)) | ((with_reducible apply o_undef rfl); (case hb => exact ez0)))
  all_goals exact sw_flat rfl rfl ⟨by rw [hf, hrm], rfl, rfl⟩
end Go.Proofs.Ytcpkdjikembpnaa.Ce
namespace Go.Proofs.Ytcpkdjikembpnaa.Ce
open Go.RowKit
end Go.Proofs.Ytcpkdjikembpnaa.Ce
namespace Go.Proofs.Ytcpkdjikembpnaa.Ce
open Go.RowKit
structure Rg where
 b : Int
 xs : List UInt8
 A : Option Addr
 c : Nat
variable {h : Hp} {B : Nat} {A : Option Addr} {L : List Rg}
def ovl (x y : Rg) : Prop := 0 < x.xs.length ∧ 0 < y.xs.length ∧ x.b < y.b + y.xs.length ∧ y.b < x.b + x.xs.length
instance (x y : Rg) : Decidable (ovl x y) := by unfold ovl; infer_instance
variable (k d cl : Nat) (h : Hp) (n : Nat)
end Go.Proofs.Ytcpkdjikembpnaa.Ce
namespace Go.Proofs.Ytcpkdjikembpnaa.Ce
open Go.RowKit
variable (k d cl : Nat) (h : Hp) (n : Nat)
def wAt (T : List Tp) (r : Nat) : List Int := match r with | 0 => zeros T.length | r + 1 => wD T r
theorem wAt_succ (T : List Tp) (r : Nat) : wAt T (r + 1) = wRow (wAt T r) T := by cases r <;> rfl
theorem wAt_bnd {T : List Tp} (hf : Fine T) (r : Nat) : Bnd (wAt T r) := by cases r with | zero => exact zeros_bnd _ | succ r => exact wD_bnd hf r
theorem wAt_length (T : List Tp) (r : Nat) : (wAt T r).length = T.length := by cases r with | zero => simp [wAt, zeros] | succ r => exact wD_length T r
theorem mk_zeros (m : Nat) : (List.replicate m [Value.int IntKind.i64 0]).flatten = iv (zeros m) := by unfold iv zeros; rw [List.map_replicate]; induction m with | zero => rfl | succ m ih => rw [List.replicate_succ, List.flatten_cons, ih, List.replicate_succ]; rfl
theorem min_lt {a : Int} : (if 5001 < a then (5001 : Int) else a) = min a 5001 := by rw [Int.min_def]; split <;> split <;> omega
theorem pwidths_ev (hk : 30000 ≤ k) (A : Option Addr) (T : List Tp) (c : Nat) (hT : TabH h n A T) (hl : T.length ≤ 32) (hF : Fine T) :
  SQ k (d + 1) cl 116 [.slice A T.length c] h n fun v h' n' => v = .slice (some ⟨n, 0, none⟩) T.length T.length ∧ h' = h.set n (.row 3 false (iv (wD T 3))) ∧ n' = n + 1 := by
 refine enter Try.func116 (by kernel_rfl) rfl (by kernel_rfl) rfl rfl rfl ?_
 (repeat' first | refine zcd ?_ | intro K' hK | (with_reducible refine zn hK ?_; clear hK) | fail | ((with_reducible first | apply zo1 | apply zo2 | apply o_guard rfl | apply x_cond | apply k_e1 rfl | apply k_e2 rfl | apply k_e0 rfl | apply k_e3 rfl | apply k_e4 rfl); (case he => exact ez1 @mk_zeros); (try case hok => exact ezO); all_goals try (intro hb; (try simp only [hbs, reduceCtorEq] at hb); try exact ezX)) | ((with_reducible apply o_undef rfl); (case hb => exact ez0)))
 refine x_loopV [3, 4, 5, 6, 7, 9, 13, 14, 15, 16, 17, 18, 19, 20, 21, 22, 23, 24, 25, 26, 27, 28, 29, 30, 31, 32, 33, 34, 35, 36, 37, 38, 39, 40, 41, 42, 43, 44, 45, 46, 47, 48, 49, 50, 51, 52, 53, 54, 55, 56, 57, 58, 59, 60, 61, 62, 63, 64, 65, 66, 67, 68, 69, 70, 71, 72, 73, 74, 75, 76, 77, 78, 79, 80] [3, 13] (fun m vs h' n' => ∃ (r id : Nat), m = 4 - r ∧ r ≤ 4 ∧ vs = [.slice (some ⟨id, 0, none⟩) T.length T.length, .int .i64 r] ∧ n ≤ id ∧ id < n' ∧ rowOf h' id = some (3, false, iv (wAt T r)) ∧ TabH h' n A T) 4 rfl (by omega) ?_ ?_
 ·exact ⟨0, n, rfl, by omega, by simp (disch := first | assumption | omega | rfl | decide) only [go_sem, seval, tys] <;> rfl, by omega, by omega, by simp (disch := first | assumption | omega | rfl | decide) only [go_sem, seval, tys] <;> rfl, hT.set (Nat.le_refl _) _⟩
 ·rintro m g _ h' n' ⟨r, id, rfl, hr, rfl, hid0, hid1, q0, hT2⟩
  by_cases hr4 : r < 4
  ·have hBb := wAt_bnd hF r
   have hBl := wAt_length T r
   (repeat' first | refine zcd ?_ | intro K' hK | (with_reducible refine zn hK ?_; clear hK) | fail | ((with_reducible first | apply zo1 | apply zo2 | apply o_guard rfl | apply x_cond | apply k_e1 rfl | apply k_e2 rfl | apply k_e0 rfl | apply k_e3 rfl | apply k_e4 rfl); (case he => exact ez1 @mk_zeros); (try case hok => exact ezO); all_goals try (intro hb; (try simp only [hbs, reduceCtorEq] at hb); try exact ezX)) | ((with_reducible apply o_undef rfl); (case hb => exact ez0)))
   refine x_loopV [5, 6, 7, 9, 20, 21, 22, 23, 24, 25, 26, 27, 28, 29, 30, 31, 32, 33, 34, 35, 36, 37, 38, 39, 40, 41, 42, 43, 44, 45, 46, 47, 48, 49, 50, 51, 52, 53, 54, 55, 56, 57, 58, 59, 60, 61, 62, 63, 64, 65, 66, 67, 68, 69, 70, 71, 72, 73, 74, 75, 76, 77, 78] [20] (fun m vs h2 n2 => ∃ (i : Nat), m = T.length - i ∧ i ≤ T.length ∧ vs = [.int .i64 i] ∧ n' + 1 ≤ n2 ∧ rowOf h2 id = some (3, false, iv (wAt T r)) ∧ rowOf h2 n' = some (3, false, iv (pad (wAt T r) T i)) ∧ TabH h2 n A T) T.length rfl (by omega) ?_ ?_
   ·exact ⟨0, rfl, by omega, by simp (disch := first | assumption | omega | rfl | decide) only [go_sem, seval, tys] <;> rfl, by omega, by simp (disch := first | assumption | omega | rfl | decide) only [go_sem, seval, tys, q0], by rw [pad_zero]; simp (disch := first | assumption | omega | rfl | decide) only [go_sem, seval, tys], hT2.set (by omega) _⟩
   ·rintro m2 g2 _ h2 n2 ⟨i, rfl, hi, rfl, hn2, q1, q2, hT3⟩
    have e1 := fun o => cellAt_row (off := o) q1
    have e2 := fun o => cellAt_row (off := o) q2
    have w2 := rwOf_row q2
    by_cases hiT : i < T.length
    ·obtain ⟨tid, toff, hA, htid, ht4, -, -, -, -⟩ := hT3.at_ hiT
     have hfine := hF i hiT
     have hnb := wRow_bnd hBb hF i hi
     have hpl := pad_length (wAt T r) hi
     have hwh := wHead_bnd hBb hnb hfine
     have hsp := pad_succ (wAt T r) hiT
     obtain ⟨t, htt⟩ : ∃ t, T[i] = t := ⟨_, rfl⟩
     have hmem : t ∈ T := by rw [← htt]; exact List.getElem_mem hiT
     rw [htt] at ht4 hfine hwh hsp
     have hfl := fine_len hfine
     obtain ⟨now, hnow⟩ : ∃ now, wRow (wAt T r) (T.take i) = now := ⟨_, rfl⟩
     rw [hnow] at hnb hwh hsp
     have hel : (t.kd = 4 ∨ t.kd = 7) → 0 ≤ t.el ∧ t.el < T.length := fine_el hfine
     have har : t.kd = 6 → 0 ≤ t.el ∧ t.el < i ∧ 1 ≤ t.ln ∧ t.ln ≤ 16 := fine_arr hfine
     have hxb := hBb.getD t.el.toNat
     have hyb := hnb.getD t.el.toNat
     have hbe4 : t.kd = 4 → lget (iv (wAt T r)) t.el.toNat = some (.int .i64 ((wAt T r).getD t.el.toNat 0)) := fun h4 => iv_lget (by have := hel (.inl h4); omega)
     have hbe7 : t.kd = 7 → lget (iv (wAt T r)) t.el.toNat = some (.int .i64 ((wAt T r).getD t.el.toNat 0)) := fun h7 => iv_lget (by have := hel (.inr h7); omega)
     have hne6 : t.kd = 6 → lget (iv (pad (wAt T r) T i)) t.el.toNat = some (.int .i64 (now.getD t.el.toNat 0)) := fun h6 => by
      have := har h6
      rw [iv_lget (by omega), pad_getD _ hi (by omega), hnow]
     have hmul : t.kd = 6 → 0 ≤ t.ln * now.getD t.el.toNat 0 ∧ t.ln * now.getD t.el.toNat 0 ≤ 16 * 5001 := fun h6 => by
      have := har h6
      exact ⟨Int.mul_nonneg (by omega) hyb.1, Int.mul_le_mul this.2.2.2 hyb.2 hyb.1 (by omega)⟩
     have hW4 : t.kd = 4 → wHead (wAt T r) now t = 1 + (wAt T r).getD t.el.toNat 0 := fun h4 => by unfold wHead; rw [if_pos h4]
     have hW7 : t.kd = 7 → wHead (wAt T r) now t = 1 + 16 * (wAt T r).getD t.el.toNat 0 := fun h7 => by unfold wHead; rw [if_neg (by omega), if_pos h7]
     have hW6 : t.kd = 6 → wHead (wAt T r) now t = 1 + t.ln * now.getD t.el.toNat 0 := fun h6 => by unfold wHead; rw [if_neg (by omega), if_neg (by omega), if_pos h6]
     have hW0 : ¬ t.kd = 4 → ¬ t.kd = 7 → ¬ t.kd = 6 → wHead (wAt T r) now t = 1 := fun h4 h7 h6 => by unfold wHead; rw [if_neg h4, if_neg h7, if_neg h6]; rfl
     subst hA
     have hb2 := hT3.fd t hmem
     (repeat' first | ((with_reducible apply x_cutF (x := .seq (.region 9 _ _) _) [7, 25, 26, 27, 28, 29, 30, 31, 32, 33, 34, 35, 36, 37, 38, 39, 40, 41, 42, 43, 44, 45, 46, 47, 48, 49, 50, 51, 52, 53, 54, 55, 56, 57] [7] (fun vs => vs = [.int .i64 (wHead (wAt T r) now t)])); (case hw => kernel_rfl); (case' hy => rintro g3 _ rfl)) | ((with_reducible apply k_cut); (show List.map _ _ = _); first | (rw [hW4 (by assumption)]; simp (disch := first | assumption | omega | rfl | decide) only [go_sem, seval, tys] <;> rfl) | (rw [hW7 (by assumption)]; simp (disch := first | assumption | omega | rfl | decide) only [go_sem, seval, tys] <;> rfl) | (rw [hW6 (by assumption)]; simp (disch := first | assumption | omega | rfl | decide) only [go_sem, seval, tys] <;> rfl) | (rw [hW0 (by assumption) (by assumption) (by assumption)]; simp (disch := first | assumption | omega | rfl | decide) only [go_sem, seval, tys] <;> rfl)) | refine zcd ?_ | intro K' hK | (with_reducible refine zn hK ?_; clear hK) | (with_reducible refine x_drawnD (id := 15) [(2, 5), (2, 7)] (by kernel_rfl) fun K' hK => ?_) | ((with_reducible apply d_nil); (case hp => exact ezP); (case' hx => (refine hK _ _ _ ?_; clear hK))) | ((with_reducible apply d_pure w_none); (case hp => exact rfl); (case hc => exact rfl); (case he => exact ez6 ht4 e1 e2 hbe4 hbe7 hne6)) | ((with_reducible apply d_eff w_none); (case hc => exact rfl); (case he => exact ez6 ht4 e1 e2 hbe4 hbe7 hne6); (case hok => exact ezO)) | ((with_reducible apply d_guard rfl); (case hb => exact ez6 ht4 e1 e2 hbe4 hbe7 hne6); (case' h1 => intro hb; (try simp only [hbs, reduceCtorEq] at hb); try exact ezX); (case' h2 => intro hb; (try simp only [hbs, reduceCtorEq] at hb); try exact ezX)) | ((with_reducible first | apply zo1 | apply zo2 | apply o_guard rfl | apply x_cond | apply k_e1 rfl | apply k_e2 rfl | apply k_e0 rfl | apply k_e3 rfl | apply k_e4 rfl); (case he => exact ez6 ht4 e1 e2 hbe4 hbe7 hne6); (try case hok => exact ezO); all_goals try (intro hb; (try simp only [hbs, reduceCtorEq] at hb); try exact ezX)) | ((with_reducible apply o_undef rfl); (case hb => exact ez0)))
     refine x_loopV [7, 9, 61, 62, 63, 64, 65, 66, 67, 68, 69, 70, 71, 72] [7, 61] (fun m vs h3 n3 => ∃ (q : Nat), m = t.fs.length - q ∧ q ≤ t.fs.length ∧ vs = [.int .i64 (wHead (wAt T r) now t + sumF now (t.fs.take q)), .int .i64 q] ∧ n2 + 1 ≤ n3 ∧ rowOf h3 id = some (3, false, iv (wAt T r)) ∧ rowOf h3 n' = some (3, false, iv (pad (wAt T r) T i)) ∧ TabH h3 n (some ⟨tid, toff, none⟩) T) t.fs.length rfl (by omega) ?_ ?_
     ·exact ⟨0, rfl, by omega, by simp (disch := first | assumption | omega | rfl | decide) only [go_sem, seval, tys]; simp [sumF], by omega, by simp (disch := first | assumption | omega | rfl | decide) only [go_sem, seval, tys, q1], by simp (disch := first | assumption | omega | rfl | decide) only [go_sem, seval, tys, q2], hT3.set (by omega) _⟩
     ·rintro m3 g4 _ h3 n3 ⟨q, rfl, hq, rfl, hn3, p1, p2, hT4⟩
      have f2 := fun o => cellAt_row (off := o) p2
      have v2 := rwOf_row p2
      have hsq := sumF_bnd hnb (t.fs.take q)
      have hql : (t.fs.take q).length ≤ 8 := by rw [List.length_take]; omega
      by_cases hqf : q < t.fs.length
      ·obtain ⟨id2, off2, hFA, hid2, hf2, -, -⟩ := fld_at (hT4.fd t hmem) hqf
       have hfd := fine_fld hfine hqf
       have hst := sumF_take now hqf
       obtain ⟨ty, hty⟩ : ∃ ty, (t.fs[q]).2 = ty := ⟨_, rfl⟩
       rw [hty] at hf2 hfd hst
       have hzb := hnb.getD ty.toNat
       have hfe : lget (iv (pad (wAt T r) T i)) ty.toNat = some (.int .i64 (now.getD ty.toNat 0)) := by rw [iv_lget (by omega), pad_getD _ hi (by omega), hnow]
       (repeat' first | refine zcd ?_ | intro K' hK | (with_reducible refine zn hK ?_; clear hK) | fail | ((with_reducible first | apply zo1 | apply zo2 | apply o_guard rfl | apply x_cond | apply k_e1 rfl | apply k_e2 rfl | apply k_e0 rfl | apply k_e3 rfl | apply k_e4 rfl); (case he => exact ez4 hFA hf2 f2 hfe); (try case hok => exact ezO); all_goals try (intro hb; (try simp only [hbs, reduceCtorEq] at hb); try exact ezX)) | ((with_reducible apply o_undef rfl); (case hb => exact ez0)))
       refine k_round (t.fs.length - (q + 1)) (by omega) ⟨q + 1, rfl, by omega, by rw [hst]; simp (disch := first | assumption | omega | rfl | decide) only [go_sem, seval, tys]; rw [Int.add_assoc]; exact rfl, by omega, by simp (disch := first | assumption | omega | rfl | decide) only [go_sem, seval, tys, p1], by simp (disch := first | assumption | omega | rfl | decide) only [go_sem, seval, tys, p2], hT4.set (by omega) _⟩
      ·obtain rfl : q = t.fs.length := by omega
       rw [List.take_length]
       rw [List.take_length] at hsq
       have hov : ∀ v, overAt i [v] (iv (pad (wAt T r) T i)) = some ((iv (pad (wAt T r) T i)).set i v) := fun v => overAt_one (by rw [iv_length, hpl]; exact hiT)
       have hwo : min (wHead (wAt T r) now t + sumF now t.fs) 5001 = wOne (wAt T r) now t := rfl
       (repeat' first | refine zcd ?_ | intro K' hK | (with_reducible refine zn hK ?_; clear hK) | fail | ((with_reducible first | apply zo1 | apply zo2 | apply o_guard rfl | apply x_cond | apply k_e1 rfl | apply k_e2 rfl | apply k_e0 rfl | apply k_e3 rfl | apply k_e4 rfl); (case he => exact ez2 v2 hov); (try case hok => exact ezO); all_goals try (intro hb; (try simp only [hbs, reduceCtorEq] at hb); try exact ezX)) | ((with_reducible apply o_undef rfl); (case hb => exact ez0)))
       refine k_round (T.length - (i + 1)) (by omega) ⟨i + 1, rfl, by omega, by simp (disch := first | assumption | omega | rfl | decide) only [go_sem, seval, tys] <;> rfl, by omega, by simp (disch := first | assumption | omega | rfl | decide) only [go_sem, seval, tys, p1], by simp (disch := first | assumption | omega | rfl | decide) only [go_sem, seval, tys]; rw [min_lt, hwo, iv_set, hsp], hT4.set (by omega) _⟩
    ·obtain rfl : i = T.length := by omega
     rw [pad_all, ← wAt_succ] at q2
     (repeat' first | refine zcd ?_ | intro K' hK | (with_reducible refine zn hK ?_; clear hK) | fail | ((with_reducible first | apply zo1 | apply zo2 | apply o_guard rfl | apply x_cond | apply k_e1 rfl | apply k_e2 rfl | apply k_e0 rfl | apply k_e3 rfl | apply k_e4 rfl); (case he => exact ez0); (try case hok => exact ezO); all_goals try (intro hb; (try simp only [hbs, reduceCtorEq] at hb); try exact ezX)) | ((with_reducible apply o_undef rfl); (case hb => exact ez0)))
     refine k_round (4 - (r + 1)) (by omega) ⟨r + 1, n', rfl, by omega, by simp (disch := first | assumption | omega | rfl | decide) only [go_sem, seval, tys] <;> rfl, by omega, by omega, q2, hT3⟩
  ·obtain rfl : r = 4 := by omega
   (repeat' first | refine zcd ?_ | intro K' hK | (with_reducible refine zn hK ?_; clear hK) | fail | ((with_reducible first | apply zo1 | apply zo2 | apply o_guard rfl | apply x_cond | apply k_e1 rfl | apply k_e2 rfl | apply k_e0 rfl | apply k_e3 rfl | apply k_e4 rfl); (case he => exact ez0); (try case hok => exact ezO); all_goals try (intro hb; (try simp only [hbs, reduceCtorEq] at hb); try exact ezX)) | ((with_reducible apply o_undef rfl); (case hb => exact ez0)))
   refine sw_row ezI rfl (by omega) (by simp (disch := first | assumption | omega | rfl | decide) only [go_sem, seval, tys, q0]; exact rfl) (iv_idA _ _) ezR ?_
   exact ⟨rfl, rfl, rfl⟩
end Go.Proofs.Ytcpkdjikembpnaa.Ce
