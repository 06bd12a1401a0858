/- Parts of the proof of ValueElsewhere: Pe, Pn, Gc, Gd, Ge, Pr. No condition of its own. -/
import Derived.Laws.StructEq
import Derived.Test.YtcpkdjikembpnaaVeah
import Derived.Test.YtcpkdjikembpnaaVeai
import Derived.Test.YtcpkdjikembpnaaVeaj
set_option linter.unusedVariables false
set_option linter.unusedSimpArgs false
set_option maxRecDepth 100000
set_option maxHeartbeats 4000000
namespace Go.Proofs.Ytcpkdjikembpnaa.Ce
open Go.RowKit
variable (k d cl : Nat) (h : Hp) (n : Nat)
theorem size_ev (i : Int) (h0 : 0 ≤ i) (h1 : i ≤ 4096) :
    SQ k (d + 1) cl 94 [.int .i64 i] h n fun v h' n' => v = .int .i64 (sizeI i) ∧ h' = h ∧ n' = n := by
  refine enter Try.func94 (by kernel_rfl) rfl (by kernel_rfl) rfl rfl rfl ?_
  (repeat' first | refine zcd ?_ | intro K' hK | (with_reducible refine zn hK ?_; clear hK) | fail | ((with_reducible first | apply zo1 | apply zo2 | apply o_guard rfl | apply x_cond | apply k_e1 rfl | apply k_e2 rfl | apply k_e0 rfl | apply k_e3 rfl | apply k_e4 rfl); (case he => exact ez0); (try case hok => exact ezO); all_goals try (intro hb; (try simp only [hbs, reduceCtorEq] at hb); try exact ezX)) | ((with_reducible apply o_undef rfl); (case hb => exact ez0)))
  exact sw_flat rfl rfl ⟨by congr 1; unfold sizeI; omega, rfl, rfl⟩
theorem bcheck_ev (b : Int) (A : Option Addr) (m c : Nat) (lim : Int) (hm : m ≤ 9223372036854775807) :
    SQ k (d + 1) cl 81 [.agg ⟨[.int .u64 b, .slice A m c]⟩, .int .i64 lim] h n fun v h' n' => v = .int .i64 (chkB b m lim) ∧ h' = h ∧ n' = n := by
  refine enter Try.func81 (by kernel_rfl) rfl (by kernel_rfl) rfl rfl rfl ?_
  (repeat' first | refine zcd ?_ | intro K' hK | (with_reducible refine zn hK ?_; clear hK) | fail | ((with_reducible first | apply zo1 | apply zo2 | apply o_guard rfl | apply x_cond | apply k_e1 rfl | apply k_e2 rfl | apply k_e0 rfl | apply k_e3 rfl | apply k_e4 rfl); (case he => exact ez0); (try case hok => exact ezO); all_goals try (intro hb; (try simp only [hbs, reduceCtorEq] at hb); try exact ezX)) | ((with_reducible apply o_undef rfl); (case hb => exact ez0)))
  all_goals exact sw_flat rfl rfl ⟨by congr 1; unfold chkB; grind, rfl, rfl⟩
theorem great_ev (b : Int) (A : Option Addr) (m c : Nat) :
    SQ k (d + 1) cl 16 [.agg ⟨[.int .u64 b, .slice A m c]⟩] h n fun v h' n' => v = .bool (greatB m) ∧ h' = h ∧ n' = n := by
  refine enter Try.func16 (by kernel_rfl) rfl (by kernel_rfl) rfl rfl rfl ?_
  (repeat' first | refine zcd ?_ | intro K' hK | (with_reducible refine zn hK ?_; clear hK) | fail | ((with_reducible first | apply zo1 | apply zo2 | apply o_guard rfl | apply x_cond | apply k_e1 rfl | apply k_e2 rfl | apply k_e0 rfl | apply k_e3 rfl | apply k_e4 rfl); (case he => exact ez0); (try case hok => exact ezO); all_goals try (intro hb; (try simp only [hbs, reduceCtorEq] at hb); try exact ezX)) | ((with_reducible apply o_undef rfl); (case hb => exact ez0)))
  all_goals exact sw_flat rfl rfl ⟨by congr 1; unfold greatB; rw [Bool.eq_iff_iff]; simp; omega, rfl, rfl⟩
theorem twin_ev (b : Int) (A : Option Addr) (xs : List UInt8) (c : Nat) (hr : RdH h n A (bv xs)) (hA : A = none → c = 0) (hm : xs.length ≤ 1000000) :
    SQ k (d + 1) cl 18 [.agg ⟨[.int .u64 b, .slice A xs.length c]⟩] h n fun v h' n' => v = .agg ⟨[.int .u64 b, .slice (some ⟨n, 0, none⟩) xs.length xs.length]⟩ ∧ h' = h.set n (.row 5 false (bv xs)) ∧ n' = n + 1 := by
  refine enter Try.func18 (by kernel_rfl) rfl (by kernel_rfl) rfl rfl rfl ?_
  have hs1 : ∀ x y z, SrcIs 1 (((h.set n x).set (n + 1) y).set (n + 1 + 1) z) (.slice A xs.length c) xs.length (bv xs) := fun x y z => src_rd (((hr.set (Nat.le_refl n) x).set (Nat.le_succ n) y).set (by omega) z) hA (by rw [bv_length]; omega) (by decide)
  (repeat' first | refine zcd ?_ | intro K' hK | (with_reducible refine zn hK ?_; clear hK) | ((with_reducible apply d_apR (t := 27) apT27 w_none); (case hs => exact ez0); (case hy => exact ez0); (case hsrc => exact hs1 _ _ _); (case hr => exact ez0); (case hc => exact bv_cok xs); (case hm => omega); (case hli => omega); (case hln => omega); (case hcs => simp); (case' hx => intro rd)) | (with_reducible refine x_drawnD (id := 1) [(1, 4), (1, 5)] (by kernel_rfl) fun K' hK => ?_) | ((with_reducible apply d_nil); (case hp => exact ezP); (case' hx => (refine hK _ _ _ ?_; clear hK))) | ((with_reducible apply d_pure w_none); (case hp => exact rfl); (case hc => exact rfl); (case he => exact ez0)) | ((with_reducible apply d_eff w_none); (case hc => exact rfl); (case he => exact ez0); (case hok => exact ezO)) | ((with_reducible apply d_guard rfl); (case hb => exact ez0); (case' h1 => intro hb; (try simp only [hbs, reduceCtorEq] at hb); try exact ezX); (case' h2 => intro hb; (try simp only [hbs, reduceCtorEq] at hb); try exact ezX)) | ((with_reducible first | apply zo1 | apply zo2 | apply o_guard rfl | apply x_cond | apply k_e1 rfl | apply k_e2 rfl | apply k_e0 rfl | apply k_e3 rfl | apply k_e4 rfl); (case he => exact ez0); (try case hok => exact ezO); all_goals try (intro hb; (try simp only [hbs, reduceCtorEq] at hb); try exact ezX)) | ((with_reducible apply o_undef rfl); (case hb => exact ez0)))
  (refine sw_row ezI rfl (by omega) (by first | assumption | (simp (disch := first | assumption | omega | rfl | decide) only [go_sem, Nat.reduceBEq, ↓reduceIte, Nat.reduceEqDiff, Nat.reduceAdd, Nat.reduceMul, Int.reduceToNat, Int.reduceAdd, Int.reduceMul, Int.reduceSub, tys] <;> rfl)) (by exact bv_idA _ _) ezR ?_; exact ⟨by simp, rfl, rfl⟩)
end Go.Proofs.Ytcpkdjikembpnaa.Ce
namespace Go.Proofs.Ytcpkdjikembpnaa.Ce
open Go.RowKit
variable (k d cl : Nat) (h : Hp) (n : Nat)
theorem ris_ev (b : Int) (A : Option Addr) (m c : Nat) (hm : m ≤ 9223372036854775807) :
    SQ k (d + 1) cl 29 [.agg ⟨[.int .u64 b, .slice A m c]⟩] h n fun v h' n' => v = .bool (isB b m) ∧ h' = h ∧ n' = n := by
  refine enter Try.func29 (by kernel_rfl) rfl (by kernel_rfl) rfl rfl rfl ?_
  (repeat' first | refine zcd ?_ | intro K' hK | (with_reducible refine zn hK ?_; clear hK) | fail | ((with_reducible first | apply zo1 | apply zo2 | apply o_guard rfl | apply x_cond | apply k_e1 rfl | apply k_e2 rfl | apply k_e0 rfl | apply k_e3 rfl | apply k_e4 rfl); (case he => exact ez0); (try case hok => exact ezO); all_goals try (intro hb; (try simp only [hbs, reduceCtorEq] at hb); try exact ezX)) | ((with_reducible apply o_undef rfl); (case hb => exact ez0)))
  all_goals exact sw_flat rfl rfl ⟨by congr 1; unfold isB; rw [Bool.eq_iff_iff]; simp; omega, rfl, rfl⟩
end Go.Proofs.Ytcpkdjikembpnaa.Ce
namespace Go.Proofs.Ytcpkdjikembpnaa.Ce
open Go.RowKit
variable (k d cl : Nat) (h : Hp) (n : Nat)
end Go.Proofs.Ytcpkdjikembpnaa.Ce
namespace Go.Proofs.Ytcpkdjikembpnaa.Ce
open Go.RowKit
variable (k d cl : Nat) (h : Hp) (n : Nat)
theorem rbase_ev (a : Int) (h0 : 0 ≤ a) (h1 : a < 18446744073709551616) :
    SQ k (d + 1) cl 103 [.int .u64 a] h n fun v h' n' => v = .bool (basedB a) ∧ h' = h ∧ n' = n := by
  refine enter Try.func103 (by kernel_rfl) rfl (by kernel_rfl) rfl rfl rfl ?_
  (repeat' first | refine zcd ?_ | intro K' hK | (with_reducible refine zn hK ?_; clear hK) | fail | ((with_reducible first | apply zo1 | apply zo2 | apply o_guard rfl | apply x_cond | apply k_e1 rfl | apply k_e2 rfl | apply k_e0 rfl | apply k_e3 rfl | apply k_e4 rfl); (case he => exact ez0); (try case hok => exact ezO); all_goals try (intro hb; (try simp only [hbs, reduceCtorEq] at hb); try exact ezX)) | ((with_reducible apply o_undef rfl); (case hb => exact ez0)))
  all_goals exact sw_flat rfl rfl ⟨by unfold basedB; congr 1; grind, rfl, rfl⟩
theorem overlap_ev (b1 : Int) (A1 : Option Addr) (m1 c1 : Nat) (b2 : Int) (A2 : Option Addr) (m2 c2 : Nat) (h1 : chkR b1 m1 = 0) (h2 : chkR b2 m2 = 0) :
    SQ k (d + 1) cl 63 [.agg ⟨[.int .u64 b1, .slice A1 m1 c1]⟩, .agg ⟨[.int .u64 b2, .slice A2 m2 c2]⟩] h n fun v h' n' => v = .bool (decide (b1 < b2 + m2 ∧ b2 < b1 + m1)) ∧ h' = h ∧ n' = n := by
  obtain ⟨x2, x3, x4, x5⟩ := chkR_ok h1
  obtain ⟨y2, y3, y4, y5⟩ := chkR_ok h2
  refine enter Try.func63 (by kernel_rfl) rfl (by kernel_rfl) rfl rfl rfl ?_
  (repeat' first | refine zcd ?_ | intro K' hK | (with_reducible refine zn hK ?_; clear hK) | fail | ((with_reducible first | apply zo1 | apply zo2 | apply o_guard rfl | apply x_cond | apply k_e1 rfl | apply k_e2 rfl | apply k_e0 rfl | apply k_e3 rfl | apply k_e4 rfl); (case he => exact ez0); (try case hok => exact ezO); all_goals try (intro hb; (try simp only [hbs, reduceCtorEq] at hb); try exact ezX)) | ((with_reducible apply o_undef rfl); (case hb => exact ez0)))
  all_goals exact sw_flat rfl rfl ⟨by congr 1; grind, rfl, rfl⟩
end Go.Proofs.Ytcpkdjikembpnaa.Ce
namespace Go.Proofs.Ytcpkdjikembpnaa.Ce
open Go.RowKit
structure Rg where
  b : Int
  xs : List UInt8
  A : Option Addr
  c : Nat
abbrev gcell (g : Rg) : List Value := [.int .u64 g.b, .slice g.A g.xs.length g.c]
theorem gcell_length (g : Rg) : (gcell g).length = 2 := rfl
def gv (L : List Rg) : List Value := L.flatMap gcell
structure RgH (h : Hp) (B : Nat) (A : Option Addr) (L : List Rg) : Prop where
  rd : RdH h B A (gv L)
  fd : ∀ g ∈ L, RdH h B g.A (bv g.xs)
  nl : ∀ g ∈ L, g.A = none → g.c = 0
  bd : ∀ g ∈ L, 0 ≤ g.b ∧ g.b < 18446744073709551616
  ln : ∀ g ∈ L, g.xs.length ≤ 9223372036854775807
variable {h : Hp} {B : Nat} {A : Option Addr} {L : List Rg}
theorem RgH.set (hr : RgH h B A L) {id : Nat} (hB : B ≤ id) (x : AObj) : RgH (h.set id x) B A L := ⟨hr.rd.set hB x, fun g hg => (hr.fd g hg).set hB x, hr.nl, hr.bd, hr.ln⟩
theorem RgH.more (hr : RgH h B A L) {B' : Nat} (hB : B ≤ B') : RgH h B' A L := ⟨hr.rd.more hB, fun g hg => (hr.fd g hg).more hB, hr.nl, hr.bd, hr.ln⟩
theorem RgH.at_ (hr : RgH h B A L) {i : Nat} (hi : i < L.length) : ∃ id off, A = some ⟨id, off, none⟩ ∧ id < B ∧ cellsAt h id (off + i * 2) 2 = some (gcell L[i]) := by
  obtain ⟨id, off, e, hid, h1, h2⟩ := RdH.rows gcell_length (by omega) hr.rd (by omega)
  exact ⟨id, off, e, hid, h1 i hi⟩
def chkG (g : Rg) : Int := chkR g.b g.xs.length
def ovl (x y : Rg) : Prop := 0 < x.xs.length ∧ 0 < y.xs.length ∧ x.b < y.b + y.xs.length ∧ y.b < x.b + x.xs.length
instance (x y : Rg) : Decidable (ovl x y) := by unfold ovl; infer_instance
def fstI (L : List Rg) (a w : Int) (i : Nat) : Option Nat := match L with
  | [] => none
  | g :: L => if inb g.b g.xs.length a w = true then some i else fstI L a w (i + 1)
theorem fstI_some {a w : Int} {j : Nat} : ∀ {L : List Rg} {i : Nat}, fstI L a w i = some j → ∃ q, ∃ hq : q < L.length, j = i + q ∧ inb L[q].b L[q].xs.length a w = true ∧ ∀ p (hp : p < q), inb (L[p]'(by omega)).b (L[p]'(by omega)).xs.length a w = false
  | [], i, hh => by cases hh
  | g :: L, i, hh => by
    unfold fstI at hh
    split at hh
    · rename_i h1
      injection hh with hh
      exact ⟨0, by simp, by omega, h1, fun p hp => absurd hp (Nat.not_lt_zero _)⟩
    · rename_i h1
      obtain ⟨q, hq, e, h2, h3⟩ := fstI_some hh
      refine ⟨q + 1, by simp; omega, by omega, by simpa using h2, fun p hp => ?_⟩
      cases p with
      | zero => simpa using h1
      | succ p => simpa using h3 p (by omega)
theorem fstI_none {a w : Int} : ∀ {L : List Rg} {i : Nat}, (∀ q (hq : q < L.length), inb L[q].b L[q].xs.length a w = false) → fstI L a w i = none
  | [], _, _ => rfl
  | g :: L, i, hh => by
    unfold fstI
    rw [if_neg (by have := hh 0 (by simp); simpa using this)]
    exact fstI_none fun q hq => hh (q + 1) (by simp; omega)
theorem fstI_at {a w : Int} : ∀ {L : List Rg} {i q : Nat} (hq : q < L.length), inb L[q].b L[q].xs.length a w = true → (∀ p (hp : p < q), inb (L[p]'(by omega)).b (L[p]'(by omega)).xs.length a w = false) → fstI L a w i = some (i + q)
  | [], _, _, hq, _, _ => absurd hq (Nat.not_lt_zero _)
  | g :: L, i, 0, _, h1, _ => by unfold fstI; rw [if_pos (by simpa using h1)]; rfl
  | g :: L, i, q + 1, hq, h1, h2 => by
    unfold fstI
    rw [if_neg (by have := h2 0 (by omega); simpa using this), fstI_at (i := i + 1) (q := q) (by simpa using hq) (by simpa using h1) fun p hp => by simpa using h2 (p + 1) (by omega)]
    congr 1
    omega
open Classical in
noncomputable def lstE (L : List Rg) : Int := if 17 < L.length then 4 else if ¬ ∀ g ∈ L, chkG g = 0 then 8 else if ∃ i j, ∃ (hi : i < L.length) (hj : j < i), ovl L[i] (L[j]'(by omega)) then 14 else 0
noncomputable def findS (L : List Rg) (a w : Int) : Int × Int := if lstE L ≠ 0 then (0, lstE L) else if w < 1 then (0, 2) else match fstI L a w 0 with
  | some i => ((i : Int), 0)
  | none => (0, 6)
variable (k d cl : Nat) (h : Hp) (n : Nat)
theorem findc_ev (g : Rg) (h0 : 0 ≤ g.b) (h1 : g.b < 18446744073709551616) (hm : g.xs.length ≤ 9223372036854775807) :
    SQ k (d + 3) cl 61 [.agg ⟨gcell g⟩] h n fun v h' n' => v = .bool (decide (chkG g ≠ 0)) ∧ h = h' ∧ n = n' := by
  rcases chkR_cases g.b g.xs.length with hc | hc
  · have e : decide (chkG g ≠ 0) = false := by unfold chkG; rw [hc]; rfl
    rw [e]
    refine enter Try.func61 (by kernel_rfl) rfl (by kernel_rfl) rfl rfl rfl ?_
    (repeat' first | refine zcd ?_ | intro K' hK | (with_reducible refine zn hK ?_; clear hK) | ((with_reducible apply o_callF (g := 62) w_none); (case ha => exact ez0); (case hs => exact check_ev _ _ _ _ _ _ _ _ _ h0 h1 hm); (case' hk => rintro _ h' n' ⟨rfl, rfl, rfl⟩)) | ((with_reducible first | apply zo1 | apply zo2 | apply o_guard rfl | apply x_cond | apply k_e1 rfl | apply k_e2 rfl | apply k_e0 rfl | apply k_e3 rfl | apply k_e4 rfl); (case he => exact ez1 hc); (try case hok => exact ezO); all_goals try (intro hb; (try simp only [hbs, reduceCtorEq] at hb); try exact ezX)) | ((with_reducible apply o_undef rfl); (case hb => exact ez0)))
    all_goals exact sw_flat rfl rfl ⟨rfl, rfl, rfl⟩
  · have e : decide (chkG g ≠ 0) = true := by unfold chkG; rw [hc]; rfl
    rw [e]
    refine enter Try.func61 (by kernel_rfl) rfl (by kernel_rfl) rfl rfl rfl ?_
    (repeat' first | refine zcd ?_ | intro K' hK | (with_reducible refine zn hK ?_; clear hK) | ((with_reducible apply o_callF (g := 62) w_none); (case ha => exact ez0); (case hs => exact check_ev _ _ _ _ _ _ _ _ _ h0 h1 hm); (case' hk => rintro _ h' n' ⟨rfl, rfl, rfl⟩)) | ((with_reducible first | apply zo1 | apply zo2 | apply o_guard rfl | apply x_cond | apply k_e1 rfl | apply k_e2 rfl | apply k_e0 rfl | apply k_e3 rfl | apply k_e4 rfl); (case he => exact ez1 hc); (try case hok => exact ezO); all_goals try (intro hb; (try simp only [hbs, reduceCtorEq] at hb); try exact ezX)) | ((with_reducible apply o_undef rfl); (case hb => exact ez0)))
    all_goals exact sw_flat rfl rfl ⟨rfl, rfl, rfl⟩
theorem ifuncL_ev (hk : 30000 ≤ k) (A : Option Addr) (L : List Rg) (c : Nat) (hL : RgH h n A L) (hl : L.length ≤ 100) :
    SQ k (d + 4) cl 99 [.slice A L.length c, .func (.func 61) ⟨[]⟩ ⟨[]⟩] h n fun v h' n' => (∃ x : Int, v = .int .i64 x ∧ (x < 0 ↔ ∀ g ∈ L, chkG g = 0)) ∧ h = h' ∧ n = n' := by
  refine enter Try.func99 (by kernel_rfl) rfl (by kernel_rfl) rfl rfl rfl ?_
  (repeat' first | refine zcd ?_ | intro K' hK | (with_reducible refine zn hK ?_; clear hK) | fail | ((with_reducible first | apply zo1 | apply zo2 | apply o_guard rfl | apply x_cond | apply k_e1 rfl | apply k_e2 rfl | apply k_e0 rfl | apply k_e3 rfl | apply k_e4 rfl); (case he => exact ez0); (try case hok => exact ezO); all_goals try (intro hb; (try simp only [hbs, reduceCtorEq] at hb); try exact ezX)) | ((with_reducible apply o_undef rfl); (case hb => exact ez0)))
  refine x_loopV [4, 5, 8, 9, 10, 11, 12, 13, 14, 15, 16, 17, 18] [8] (fun m vs h5 n5 => ∃ q : Nat, m = L.length - q ∧ q ≤ L.length ∧ vs = [.int .i64 q] ∧ n ≤ n5 ∧ RgH h5 n A L ∧ ∀ x (hx : x < q) (hL : x < L.length), chkG L[x] = 0) L.length rfl (by omega) ⟨0, rfl, by omega, ez0, Nat.le_refl _, hL, fun x hx => absurd hx (Nat.not_lt_zero _)⟩ ?_
  rintro m g _ h5 n5 ⟨q, rfl, hq, rfl, hn5, hL5, hall⟩
  by_cases hql : q < L.length
  · obtain ⟨id, off, rfl, hid, c1⟩ := hL5.at_ hql
    have hb := hL5.bd _ (List.getElem_mem hql)
    have hm := hL5.ln _ (List.getElem_mem hql)
    obtain ⟨x, hx⟩ : ∃ x, L[q] = x := ⟨_, rfl⟩
    rw [hx] at c1 hb hm
    have hf := fun (h6 : Hp) (n6 : Nat) => findc_ev k d n h6 n6 x hb.1 hb.2 hm
    by_cases hc : chkG x = 0
    · have e : decide (chkG x ≠ 0) = false := by rw [hc]; rfl
      simp only [e] at hf
      (repeat' first | refine zcd ?_ | intro K' hK | (with_reducible refine zn hK ?_; clear hK) | ((with_reducible apply o_callV (g := 61) w_none); (case hx => exact ez0); (case ha => exact ez0); (case hs => (exact hf _ _)); (case' hk => rintro _ h' n' ⟨rfl, rfl, rfl⟩)) | ((with_reducible first | apply zo1 | apply zo2 | apply o_guard rfl | apply x_cond | apply k_e1 rfl | apply k_e2 rfl | apply k_e0 rfl | apply k_e3 rfl | apply k_e4 rfl); (case he => exact ez1 c1); (try case hok => exact ezO); all_goals try (intro hb; (try simp only [hbs, reduceCtorEq] at hb); try exact ezX)) | ((with_reducible apply o_undef rfl); (case hb => exact ez0)))
      refine k_round (L.length - (q + 1)) (by omega) ⟨q + 1, rfl, by omega, ez0, by omega, (ezG hL5), fun y hy hyl => ?_⟩
      by_cases e2 : y = q
      · subst e2; rw [hx]; exact hc
      · exact hall y (by omega) hyl
    · have e : decide (chkG x ≠ 0) = true := by simpa using hc
      simp only [e] at hf
      (repeat' first | refine zcd ?_ | intro K' hK | (with_reducible refine zn hK ?_; clear hK) | ((with_reducible apply o_callV (g := 61) w_none); (case hx => exact ez0); (case ha => exact ez0); (case hs => (exact hf _ _)); (case' hk => rintro _ h' n' ⟨rfl, rfl, rfl⟩)) | ((with_reducible first | apply zo1 | apply zo2 | apply o_guard rfl | apply x_cond | apply k_e1 rfl | apply k_e2 rfl | apply k_e0 rfl | apply k_e3 rfl | apply k_e4 rfl); (case he => exact ez1 c1); (try case hok => exact ezO); all_goals try (intro hb; (try simp only [hbs, reduceCtorEq] at hb); try exact ezX)) | ((with_reducible apply o_undef rfl); (case hb => exact ez0)))
      all_goals exact sw_flat rfl rfl ⟨⟨_, rfl, ⟨fun hh => absurd hh (by omega), fun hh => absurd (hh x (by rw [← hx]; exact List.getElem_mem hql)) hc⟩⟩, rfl, rfl⟩
  · obtain rfl : q = L.length := by omega
    (repeat' first | refine zcd ?_ | intro K' hK | (with_reducible refine zn hK ?_; clear hK) | fail | ((with_reducible first | apply zo1 | apply zo2 | apply o_guard rfl | apply x_cond | apply k_e1 rfl | apply k_e2 rfl | apply k_e0 rfl | apply k_e3 rfl | apply k_e4 rfl); (case he => exact ez0); (try case hok => exact ezO); all_goals try (intro hb; (try simp only [hbs, reduceCtorEq] at hb); try exact ezX)) | ((with_reducible apply o_undef rfl); (case hb => exact ez0)))
    all_goals exact sw_flat rfl rfl ⟨⟨_, rfl, ⟨fun _ g hg => by obtain ⟨i, hi, e⟩ := List.getElem_of_mem hg; rw [← e]; exact hall i hi hi, fun _ => by decide⟩⟩, rfl, rfl⟩
theorem cfuncL_ev (hk : 30000 ≤ k) (A : Option Addr) (L : List Rg) (c : Nat) (hL : RgH h n A L) (hl : L.length ≤ 100) :
    SQ k (d + 5) cl 60 [.slice A L.length c, .func (.func 61) ⟨[]⟩ ⟨[]⟩] h n fun v h' n' => (∃ b, v = .bool b ∧ (b = false ↔ ∀ g ∈ L, chkG g = 0)) ∧ h = h' ∧ n = n' := by
  have q := ifuncL_ev k d n h n hk A L c hL hl
  refine enter Try.func60 (by kernel_rfl) rfl (by kernel_rfl) rfl rfl rfl ?_
  (repeat' first | refine zcd ?_ | intro K' hK | (with_reducible refine zn hK ?_; clear hK) | ((with_reducible apply o_callF (g := 99) w_none); (case ha => exact ez0); (case hs => (exact q)); (case' hk => rintro _ h' n' ⟨⟨x, rfl, hx⟩, rfl, rfl⟩)) | ((with_reducible first | apply zo1 | apply zo2 | apply o_guard rfl | apply x_cond | apply k_e1 rfl | apply k_e2 rfl | apply k_e0 rfl | apply k_e3 rfl | apply k_e4 rfl); (case he => exact ez0); (try case hok => exact ezO); all_goals try (intro hb; (try simp only [hbs, reduceCtorEq] at hb); try exact ezX)) | ((with_reducible apply o_undef rfl); (case hb => exact ez0)))
  all_goals exact sw_flat rfl rfl ⟨⟨_, rfl, by rw [← hx]; simp⟩, rfl, rfl⟩
end Go.Proofs.Ytcpkdjikembpnaa.Ce
namespace Go.Proofs.Ytcpkdjikembpnaa.Ce
open Go.RowKit
variable (k d cl : Nat) (h : Hp) (n : Nat)
theorem find_many (hk : 30000 ≤ k) (A : Option Addr) (L : List Rg) (c : Nat) (hL : RgH h n A L) (hl : L.length ≤ 100) (a w : Int) (ha0 : 0 ≤ a) (ha1 : a < 18446744073709551616) (hw0 : -9223372036854775808 ≤ w) (hw1 : w ≤ 9223372036854775807) (h17 : 17 < L.length) :
    SQ k (d + 6) cl 38 [.slice A L.length c, .int .u64 a, .int .i64 w] h n fun v h' n' => v = .tuple ⟨[.int .i64 (findS L a w).1, .int .i64 (findS L a w).2]⟩ ∧ h' = h ∧ n' = n := by
  have e : findS L a w = (0, 4) := by unfold findS lstE; rw [if_pos h17]; rfl
  rw [e]
  refine enter Try.func38 (by kernel_rfl) rfl (by kernel_rfl) rfl rfl rfl ?_
  (repeat' first | refine zcd ?_ | intro K' hK | (with_reducible refine zn hK ?_; clear hK) | fail | ((with_reducible first | apply zo1 | apply zo2 | apply o_guard rfl | apply x_cond | apply k_e1 rfl | apply k_e2 rfl | apply k_e0 rfl | apply k_e3 rfl | apply k_e4 rfl); (case he => exact ez0); (try case hok => exact ezO); all_goals try (intro hb; (try simp only [hbs, reduceCtorEq] at hb); try exact ezX)) | ((with_reducible apply o_undef rfl); (case hb => exact ez0)))
  all_goals exact sw_flat rfl rfl ⟨rfl, rfl, rfl⟩
theorem find_bad (hk : 30000 ≤ k) (A : Option Addr) (L : List Rg) (c : Nat) (hL : RgH h n A L) (hl : L.length ≤ 100) (a w : Int) (ha0 : 0 ≤ a) (ha1 : a < 18446744073709551616) (hw0 : -9223372036854775808 ≤ w) (hw1 : w ≤ 9223372036854775807) (h17 : ¬ 17 < L.length) (hC : ¬ ∀ g ∈ L, chkG g = 0) :
    SQ k (d + 6) cl 38 [.slice A L.length c, .int .u64 a, .int .i64 w] h n fun v h' n' => v = .tuple ⟨[.int .i64 (findS L a w).1, .int .i64 (findS L a w).2]⟩ ∧ h' = h ∧ n' = n := by
  have e : findS L a w = (0, 8) := by unfold findS lstE; rw [if_neg h17, if_pos hC]; rfl
  rw [e]
  have qc := cfuncL_ev k (d) n h n hk A L c hL hl
  refine enter Try.func38 (by kernel_rfl) rfl (by kernel_rfl) rfl rfl rfl ?_
  (repeat' first | refine zcd ?_ | intro K' hK | (with_reducible refine zn hK ?_; clear hK) | ((with_reducible apply o_callF (g := 60) w_none); (case ha => exact ez0); (case hs => (exact qc)); (case' hk => rintro _ h' n' ⟨⟨b, rfl, hb2⟩, rfl, rfl⟩)) | ((with_reducible first | apply zo1 | apply zo2 | apply o_guard rfl | apply x_cond | apply k_e1 rfl | apply k_e2 rfl | apply k_e0 rfl | apply k_e3 rfl | apply k_e4 rfl); (case he => exact ez0); (try case hok => exact ezO); all_goals try (intro hb; (try simp only [hbs, reduceCtorEq] at hb); try exact ezX)) | ((with_reducible apply o_undef rfl); (case hb => exact ez0)))
  all_goals first | (exfalso; exact hC (hb2.1 (by assumption))) | exact sw_flat rfl rfl ⟨rfl, rfl, rfl⟩
theorem find_ok (hk : 30000 ≤ k) (A : Option Addr) (L : List Rg) (c : Nat) (hL : RgH h n A L) (hl : L.length ≤ 100) (a w : Int) (ha0 : 0 ≤ a) (ha1 : a < 18446744073709551616) (hw0 : -9223372036854775808 ≤ w) (hw1 : w ≤ 9223372036854775807) (h17 : ¬ 17 < L.length) (hC : ∀ g ∈ L, chkG g = 0) :
    SQ k (d + 6) cl 38 [.slice A L.length c, .int .u64 a, .int .i64 w] h n fun v h' n' => v = .tuple ⟨[.int .i64 (findS L a w).1, .int .i64 (findS L a w).2]⟩ ∧ h' = h ∧ n' = n := by
  have hCat : ∀ i (hi : i < L.length), chkR L[i].b L[i].xs.length = 0 := fun i hi => hC _ (List.getElem_mem hi)
  have qc := (cfuncL_ev k (d) n h n hk A L c hL hl).mono (Φ' := fun v h' n' => v = .bool false ∧ h = h' ∧ n = n') fun v h' n' ⟨⟨b, e, hb⟩, e2⟩ => ⟨by rw [e, hb.2 hC], e2⟩
  refine enter Try.func38 (by kernel_rfl) rfl (by kernel_rfl) rfl rfl rfl ?_
  (repeat' first | refine zcd ?_ | intro K' hK | (with_reducible refine zn hK ?_; clear hK) | ((with_reducible apply o_callF (g := 60) w_none); (case ha => exact ez0); (case hs => (exact qc)); (case' hk => rintro _ h' n' ⟨rfl, rfl, rfl⟩)) | ((with_reducible first | apply zo1 | apply zo2 | apply o_guard rfl | apply x_cond | apply k_e1 rfl | apply k_e2 rfl | apply k_e0 rfl | apply k_e3 rfl | apply k_e4 rfl); (case he => exact ez0); (try case hok => exact ezO); all_goals try (intro hb; (try simp only [hbs, reduceCtorEq] at hb); try exact ezX)) | ((with_reducible apply o_undef rfl); (case hb => exact ez0)))
  refine x_loopV [6, 7, 8, 9, 11, 23, 24, 25, 26, 27, 28, 29, 30, 31, 32, 33, 34, 35, 36, 37, 38, 39, 40, 41, 42, 43, 44, 45, 46, 47, 48, 49, 50, 51, 52] [23] (fun m vs h5 n5 => ∃ i : Nat, m = L.length - i ∧ i ≤ L.length ∧ vs = [.int .i64 i] ∧ n ≤ n5 ∧ RgH h5 n A L ∧ ∀ x y (hx : x < i) (hxl : x < L.length) (hy : y < x), ¬ ovl L[x] (L[y]'(by omega))) L.length rfl (by omega) ⟨0, rfl, by omega, ez0, Nat.le_refl _, hL, fun x y hx => absurd hx (Nat.not_lt_zero _)⟩ ?_
  rintro m g _ h5 n5 ⟨i, rfl, hi, rfl, hn5, hL5, hall⟩
  by_cases hil : i < L.length
  · obtain ⟨id, off, rfl, hid, c1⟩ := hL5.at_ hil
    obtain ⟨X, hX⟩ : ∃ X, L[i] = X := ⟨_, rfl⟩
    have hcX := hCat i hil
    rw [hX] at c1 hcX
    (repeat' first | refine zcd ?_ | intro K' hK | (with_reducible refine zn hK ?_; clear hK) | fail | ((with_reducible first | apply zo1 | apply zo2 | apply o_guard rfl | apply x_cond | apply k_e1 rfl | apply k_e2 rfl | apply k_e0 rfl | apply k_e3 rfl | apply k_e4 rfl); (case he => exact ez1 c1); (try case hok => exact ezO); all_goals try (intro hb; (try simp only [hbs, reduceCtorEq] at hb); try exact ezX)) | ((with_reducible apply o_undef rfl); (case hb => exact ez0)))
    refine x_loopV [6, 7, 11, 32, 33, 34, 35, 36, 37, 38, 39, 40, 41, 42, 43, 44, 45, 46, 47, 48, 49, 50, 51] [32] (fun m vs h6 n6 => ∃ j : Nat, m = i - j ∧ j ≤ i ∧ vs = [.int .i64 j] ∧ n5 + 1 ≤ n6 ∧ RgH h6 n (some ⟨id, off, none⟩) L ∧ rowOf h6 n5 = some (29, false, gcell X) ∧ ∀ y (hy : y < j) (hyi : y < i), ¬ ovl X (L[y]'(by omega))) i rfl (by omega) ⟨0, rfl, by omega, ez0, by omega, (ezG hL5), ez0, fun y hy => absurd hy (Nat.not_lt_zero _)⟩ ?_
    rintro m2 g2 _ h6 n6 ⟨j, rfl, hj, rfl, hn6, hL6, r1, hall2⟩
    have f0 := cellsAt_row (off := 0) (k := 2) r1
    have f1 := cellAt_row (off := 1) r1
    by_cases hji : j < i
    · have hjl : j < L.length := by omega
      obtain ⟨_, _, hA2, -, c2⟩ := hL6.at_ hjl
      injection hA2 with hA2
      injection hA2 with z1 z2
      subst z1
      subst z2
      obtain ⟨Y, hY⟩ : ∃ Y, L[j] = Y := ⟨_, rfl⟩
      have hcY := hCat j hjl
      rw [hY] at c2 hcY
      have qo := fun (h7 : Hp) (n7 : Nat) => (overlap_ev k (d + 4) n h7 n7 X.b X.A X.xs.length X.c Y.b Y.A Y.xs.length Y.c hcX hcY).mono (Φ' := fun v h' n' => v = .bool (decide (X.b < Y.b + Y.xs.length ∧ Y.b < X.b + X.xs.length)) ∧ h7 = h' ∧ n7 = n') fun _ _ _ hp => ⟨hp.1, hp.2.1.symm, hp.2.2.symm⟩
      by_cases hx0 : 0 < X.xs.length
      · by_cases hy0 : 0 < Y.xs.length
        · by_cases ho : X.b < Y.b + Y.xs.length ∧ Y.b < X.b + X.xs.length
          · have ed : decide (X.b < Y.b + Y.xs.length ∧ Y.b < X.b + X.xs.length) = true := decide_eq_true ho
            simp only [ed] at qo
            have hE : lstE L = 14 := by
              unfold lstE
              rw [if_neg h17, if_neg (Classical.not_not.2 hC), if_pos ⟨i, j, hil, hji, by rw [hX, hY]; exact ⟨hx0, hy0, ho⟩⟩]
            have e : findS L a w = (0, 14) := by unfold findS; rw [hE]; rfl
            rw [e]
            (repeat' first | refine zcd ?_ | intro K' hK | (with_reducible refine zn hK ?_; clear hK) | ((with_reducible apply o_callF (g := 63) w_none); (case ha => exact ez0); (case hs => (exact qo _ _)); (case' hk => rintro _ h' n' ⟨rfl, rfl, rfl⟩)) | ((with_reducible first | apply zo1 | apply zo2 | apply o_guard rfl | apply x_cond | apply k_e1 rfl | apply k_e2 rfl | apply k_e0 rfl | apply k_e3 rfl | apply k_e4 rfl); (case he => exact ez3 c2 f0 f1); (try case hok => exact ezO); all_goals try (intro hb; (try simp only [hbs, reduceCtorEq] at hb); try exact ezX)) | ((with_reducible apply o_undef rfl); (case hb => exact ez0)))
            all_goals exact sw_flat rfl rfl ⟨rfl, rfl, rfl⟩
          · have ed : decide (X.b < Y.b + Y.xs.length ∧ Y.b < X.b + X.xs.length) = false := decide_eq_false ho
            simp only [ed] at qo
            (repeat' first | refine zcd ?_ | intro K' hK | (with_reducible refine zn hK ?_; clear hK) | ((with_reducible apply o_callF (g := 63) w_none); (case ha => exact ez0); (case hs => (exact qo _ _)); (case' hk => rintro _ h' n' ⟨rfl, rfl, rfl⟩)) | ((with_reducible first | apply zo1 | apply zo2 | apply o_guard rfl | apply x_cond | apply k_e1 rfl | apply k_e2 rfl | apply k_e0 rfl | apply k_e3 rfl | apply k_e4 rfl); (case he => exact ez3 c2 f0 f1); (try case hok => exact ezO); all_goals try (intro hb; (try simp only [hbs, reduceCtorEq] at hb); try exact ezX)) | ((with_reducible apply o_undef rfl); (case hb => exact ez0)))
            refine k_round (i - (j + 1)) (by omega) ⟨j + 1, rfl, by omega, ez0, by omega, (ezG hL6), (ez1 r1), fun y hy hyi => ?_⟩
            by_cases e2 : y = j
            · subst e2; rw [hY]; exact fun hh => ho hh.2.2
            · exact hall2 y (by omega) hyi
        · (repeat' first | refine zcd ?_ | intro K' hK | (with_reducible refine zn hK ?_; clear hK) | fail | ((with_reducible first | apply zo1 | apply zo2 | apply o_guard rfl | apply x_cond | apply k_e1 rfl | apply k_e2 rfl | apply k_e0 rfl | apply k_e3 rfl | apply k_e4 rfl); (case he => exact ez3 c2 f0 f1); (try case hok => exact ezO); all_goals try (intro hb; (try simp only [hbs, reduceCtorEq] at hb); try exact ezX)) | ((with_reducible apply o_undef rfl); (case hb => exact ez0)))
          refine k_round (i - (j + 1)) (by omega) ⟨j + 1, rfl, by omega, ez0, by omega, (ezG hL6), (ez1 r1), fun y hy hyi => ?_⟩
          by_cases e2 : y = j
          · subst e2; rw [hY]; exact fun hh => hy0 hh.2.1
          · exact hall2 y (by omega) hyi
      · (repeat' first | refine zcd ?_ | intro K' hK | (with_reducible refine zn hK ?_; clear hK) | fail | ((with_reducible first | apply zo1 | apply zo2 | apply o_guard rfl | apply x_cond | apply k_e1 rfl | apply k_e2 rfl | apply k_e0 rfl | apply k_e3 rfl | apply k_e4 rfl); (case he => exact ez3 c2 f0 f1); (try case hok => exact ezO); all_goals try (intro hb; (try simp only [hbs, reduceCtorEq] at hb); try exact ezX)) | ((with_reducible apply o_undef rfl); (case hb => exact ez0)))
        refine k_round (i - (j + 1)) (by omega) ⟨j + 1, rfl, by omega, ez0, by omega, (ezG hL6), (ez1 r1), fun y hy hyi => ?_⟩
        by_cases e2 : y = j
        · subst e2; rw [hY]; exact fun hh => hx0 hh.1
        · exact hall2 y (by omega) hyi
    · obtain rfl : j = i := by omega
      (repeat' first | refine zcd ?_ | intro K' hK | (with_reducible refine zn hK ?_; clear hK) | fail | ((with_reducible first | apply zo1 | apply zo2 | apply o_guard rfl | apply x_cond | apply k_e1 rfl | apply k_e2 rfl | apply k_e0 rfl | apply k_e3 rfl | apply k_e4 rfl); (case he => exact ez2 f0 f1); (try case hok => exact ezO); all_goals try (intro hb; (try simp only [hbs, reduceCtorEq] at hb); try exact ezX)) | ((with_reducible apply o_undef rfl); (case hb => exact ez0)))
      refine k_round (L.length - (j + 1)) (by omega) ⟨j + 1, rfl, by omega, ez0, by omega, hL6, fun x y hx hxl hy => ?_⟩
      by_cases e2 : x = j
      · subst e2; rw [hX]; exact hall2 y hy hy
      · exact hall x y (by omega) hxl hy
  · obtain rfl : i = L.length := by omega
    have hE : lstE L = 0 := by
      unfold lstE
      rw [if_neg h17, if_neg (Classical.not_not.2 hC), if_neg]
      rintro ⟨x, y, hx, hy, ho⟩
      exact hall x y hx hx hy ho
    by_cases hw : w < 1
    · have e : findS L a w = (0, 2) := by unfold findS; rw [hE, if_neg (by decide), if_pos hw]
      rw [e]
      (repeat' first | refine zcd ?_ | intro K' hK | (with_reducible refine zn hK ?_; clear hK) | fail | ((with_reducible first | apply zo1 | apply zo2 | apply o_guard rfl | apply x_cond | apply k_e1 rfl | apply k_e2 rfl | apply k_e0 rfl | apply k_e3 rfl | apply k_e4 rfl); (case he => exact ez0); (try case hok => exact ezO); all_goals try (intro hb; (try simp only [hbs, reduceCtorEq] at hb); try exact ezX)) | ((with_reducible apply o_undef rfl); (case hb => exact ez0)))
      all_goals exact sw_flat rfl rfl ⟨rfl, rfl, rfl⟩
    · (repeat' first | refine zcd ?_ | intro K' hK | (with_reducible refine zn hK ?_; clear hK) | fail | ((with_reducible first | apply zo1 | apply zo2 | apply o_guard rfl | apply x_cond | apply k_e1 rfl | apply k_e2 rfl | apply k_e0 rfl | apply k_e3 rfl | apply k_e4 rfl); (case he => exact ez0); (try case hok => exact ezO); all_goals try (intro hb; (try simp only [hbs, reduceCtorEq] at hb); try exact ezX)) | ((with_reducible apply o_undef rfl); (case hb => exact ez0)))
      refine x_loopV [6, 7, 12, 13, 14, 15, 57, 58, 59, 60, 61, 62, 63, 64, 65, 66, 67, 68, 69, 70, 71] [57] (fun m vs h6 n6 => ∃ q : Nat, m = L.length - q ∧ q ≤ L.length ∧ vs = [.int .i64 q] ∧ n ≤ n6 ∧ RgH h6 n A L ∧ ∀ p (hp : p < q) (hpl : p < L.length), inb L[p].b L[p].xs.length a w = false) L.length rfl (by omega) ⟨0, rfl, by omega, ez0, by omega, hL5, fun p hp => absurd hp (Nat.not_lt_zero _)⟩ ?_
      rintro m2 g2 _ h6 n6 ⟨q, rfl, hq, rfl, hn6, hL6, hall2⟩
      by_cases hql : q < L.length
      · obtain ⟨id, off, rfl, hid, c1⟩ := hL6.at_ hql
        obtain ⟨X, hX⟩ : ∃ X, L[q] = X := ⟨_, rfl⟩
        have hcX := hCat q hql
        rw [hX] at c1 hcX
        have qi := fun (h7 : Hp) (n7 : Nat) => (index_ev k (d + 4) n h7 n7 X.b X.A X.xs.length X.c a w hcX ha0 ha1 hw0 hw1).mono (Φ' := fun v h' n' => v = .tuple ⟨[.int .i64 (indexS X.b X.xs.length a w).1, .bool (inb X.b X.xs.length a w)]⟩ ∧ h7 = h' ∧ n7 = n') fun _ _ _ hp => ⟨by rw [hp.1, indexS_snd (by omega)], hp.2.1.symm, hp.2.2.symm⟩
        obtain ⟨b, hib⟩ : ∃ b, inb X.b X.xs.length a w = b := ⟨_, rfl⟩
        simp only [hib] at qi
        cases b
        · (repeat' first | refine zcd ?_ | intro K' hK | (with_reducible refine zn hK ?_; clear hK) | ((with_reducible apply o_callF (g := 64) w_none); (case ha => exact ez0); (case hs => (exact qi _ _)); (case' hk => rintro _ h' n' ⟨rfl, rfl, rfl⟩)) | ((with_reducible first | apply zo1 | apply zo2 | apply o_guard rfl | apply x_cond | apply k_e1 rfl | apply k_e2 rfl | apply k_e0 rfl | apply k_e3 rfl | apply k_e4 rfl); (case he => exact ez1 c1); (try case hok => exact ezO); all_goals try (intro hb; (try simp only [hbs, reduceCtorEq] at hb); try exact ezX)) | ((with_reducible apply o_undef rfl); (case hb => exact ez0)))
          refine k_round (L.length - (q + 1)) (by omega) ⟨q + 1, rfl, by omega, ez0, by omega, (ezG hL6), fun p hp hpl => ?_⟩
          by_cases e2 : p = q
          · subst e2; rw [hX]; exact hib
          · exact hall2 p (by omega) hpl
        · have e : findS L a w = ((q : Int), 0) := by
            unfold findS
            rw [hE, if_neg (by decide), if_neg hw, fstI_at (q := q) hql (by rw [hX]; exact hib) fun p hp => hall2 p hp (by omega), Nat.zero_add]
          rw [e]
          (repeat' first | refine zcd ?_ | intro K' hK | (with_reducible refine zn hK ?_; clear hK) | ((with_reducible apply o_callF (g := 64) w_none); (case ha => exact ez0); (case hs => (exact qi _ _)); (case' hk => rintro _ h' n' ⟨rfl, rfl, rfl⟩)) | ((with_reducible first | apply zo1 | apply zo2 | apply o_guard rfl | apply x_cond | apply k_e1 rfl | apply k_e2 rfl | apply k_e0 rfl | apply k_e3 rfl | apply k_e4 rfl); (case he => exact ez1 c1); (try case hok => exact ezO); all_goals try (intro hb; (try simp only [hbs, reduceCtorEq] at hb); try exact ezX)) | ((with_reducible apply o_undef rfl); (case hb => exact ez0)))
          all_goals exact sw_flat rfl rfl ⟨rfl, rfl, rfl⟩
      · obtain rfl : q = L.length := by omega
        have e : findS L a w = (0, 6) := by
          unfold findS
          rw [hE, if_neg (by decide), if_neg hw, fstI_none fun p hp => hall2 p hp hp]
        rw [e]
        (repeat' first | refine zcd ?_ | intro K' hK | (with_reducible refine zn hK ?_; clear hK) | fail | ((with_reducible first | apply zo1 | apply zo2 | apply o_guard rfl | apply x_cond | apply k_e1 rfl | apply k_e2 rfl | apply k_e0 rfl | apply k_e3 rfl | apply k_e4 rfl); (case he => exact ez0); (try case hok => exact ezO); all_goals try (intro hb; (try simp only [hbs, reduceCtorEq] at hb); try exact ezX)) | ((with_reducible apply o_undef rfl); (case hb => exact ez0)))
        all_goals exact sw_flat rfl rfl ⟨rfl, rfl, rfl⟩
theorem findL_ev (hk : 30000 ≤ k) (A : Option Addr) (L : List Rg) (c : Nat) (hL : RgH h n A L) (hl : L.length ≤ 100) (a w : Int) (ha0 : 0 ≤ a) (ha1 : a < 18446744073709551616) (hw0 : -9223372036854775808 ≤ w) (hw1 : w ≤ 9223372036854775807) :
    SQ k (d + 6) cl 38 [.slice A L.length c, .int .u64 a, .int .i64 w] h n fun v h' n' => v = .tuple ⟨[.int .i64 (findS L a w).1, .int .i64 (findS L a w).2]⟩ ∧ h' = h ∧ n' = n := by
  by_cases h17 : 17 < L.length
  · exact find_many k d cl h n hk A L c hL hl a w ha0 ha1 hw0 hw1 h17
  · by_cases hC : ∀ g ∈ L, chkG g = 0
    · exact find_ok k d cl h n hk A L c hL hl a w ha0 ha1 hw0 hw1 h17 hC
    · exact find_bad k d cl h n hk A L c hL hl a w ha0 ha1 hw0 hw1 h17 hC
end Go.Proofs.Ytcpkdjikembpnaa.Ce
namespace Go.Proofs.Ytcpkdjikembpnaa.Ce
open Go.RowKit
theorem hasS_in {b : Int} {m : Nat} {a w : Int} (hc : chkR b m = 0) (hw : 0 ≤ w) (h1 : b ≤ a) (h2 : a + w ≤ b + m) : hasS b m a w = (true, 0) := by
  unfold hasS
  rw [if_pos hc, if_neg (by omega), inb_iff.2 ⟨h1, h2⟩]
theorem RdH.sub {h : Hp} {B id off p t : Nat} {vs : List Value} (hr : RdH h B (some ⟨id, off, none⟩) vs) : RdH h B (some ⟨id, off + p, none⟩) ((vs.drop p).take t) := by
  refine ⟨fun i j e => ?_, ?_⟩
  · injection e with e
    injection e with e1 e2
    subst e1
    exact hr.1 _ _ rfl
  · rcases hr.2 with hn | ⟨i, j, e, hc⟩
    · left; rw [hn]; simp
    · injection e with e
      injection e with e1 e2
      subst e1; subst e2
      refine .inr ⟨id, off + p, rfl, fun k v hk => ?_⟩
      rw [Nat.add_assoc]
      refine hc (p + k) v ?_
      rw [List.getElem?_take] at hk
      split at hk
      · rwa [List.getElem?_drop] at hk
      · cases hk
theorem bv_sub (xs : List UInt8) (p t : Nat) : ((bv xs).drop p).take t = bv ((xs.drop p).take t) := by
  unfold bv
  rw [← List.map_drop, ← List.map_take]
def findB (L : List Rg) (a : Int) (w : Nat) : Option (List UInt8) := if a % 8 = 0 then match fstI L a (max (w : Int) 1) 0 with
  | some i => (L[i]?).map fun g => (g.xs.drop (a - g.b).toNat).take w
  | none => none
  else none
variable (k d cl : Nat) (h : Hp) (n : Nat)
theorem bytesG_ok (g : Rg) (hr : RdH h n g.A (bv g.xs)) (hc : chkG g = 0) (a : Int) (t : Nat) (h1 : g.b ≤ a) (h2 : a + max (t : Int) 1 ≤ g.b + g.xs.length) (ys : List UInt8) (hy : (g.xs.drop (a - g.b).toNat).take t = ys) (hyl : ys.length = t) :
    SQ k (d + 4) cl 39 [.agg ⟨gcell g⟩, .int .u64 a, .int .i64 t] h n fun v h' n' => v = .tuple ⟨[.slice (some ⟨n, 0, none⟩) t t, .int .i64 0]⟩ ∧ h' = h.set n (.row 5 false (bv ys)) ∧ n' = n + 1 := by
  subst hyl
  obtain ⟨b, xs, A, c⟩ := g
  dsimp only at *
  have hc : chkR b xs.length = 0 := hc
  obtain ⟨g2, g3, g4, g5⟩ := chkR_ok hc
  obtain ⟨id, off, rfl, hid, -⟩ := hr.bytes (by omega)
  have hh := hasS_in (b := b) (m := xs.length) (a := a) (w := ys.length) hc (by omega) h1 (by omega)
  have hi : indexS b xs.length a ys.length = (a - b, true) := by unfold indexS; rw [if_pos ⟨h1, by omega⟩, decide_eq_true (by omega)]
  have hsub : ∀ x, RdH (h.set n x) (n + 1) (some ⟨id, off + (a - b).toNat, none⟩) (bv ys) := fun x => by
    have := ((hr.set (Nat.le_refl n) x).more (Nat.le_succ n)).sub (p := (a - b).toNat) (t := ys.length)
    rw [bv_sub, hy] at this
    exact this
  have e1 : (a - b + (ys.length : Int)).toNat - (a - b).toNat = ys.length := by omega
  refine enter Try.func39 (by kernel_rfl) rfl (by kernel_rfl) rfl rfl rfl ?_
  (repeat' first | refine zcd ?_ | intro K' hK | (with_reducible refine zn hK ?_; clear hK) | ((with_reducible apply o_callF (g := 65) w_none); (case ha => exact ez0); (case hs => exact has_ev (h0 := by omega) (h1 := by omega) (hm := by omega) (ha0 := by omega) (ha1 := by omega) (hw0 := by omega) (hw1 := by omega) ..); (case' hk => rintro _ h' n' ⟨rfl, rfl, rfl⟩)) | ((with_reducible apply o_callF (g := 64) w_none); (case ha => exact ez0); (case hs => exact index_ev (hv := hc) (ha0 := by omega) (ha1 := by omega) (hw0 := by omega) (hw1 := by omega) ..); (case' hk => rintro _ h' n' ⟨rfl, rfl, rfl⟩)) | ((with_reducible apply o_callF (g := 48) w_none); (case ha => exact ez0); (case hs => ((apply clone_ev (xs := ys); (case hr => exact hsub _); (case hm => omega)))); (case' hk => rintro _ h' n' ⟨rfl, rfl, rfl⟩)) | ((with_reducible first | apply zo1 | apply zo2 | apply o_guard rfl | apply x_cond | apply k_e1 rfl | apply k_e2 rfl | apply k_e0 rfl | apply k_e3 rfl | apply k_e4 rfl); (case he => exact ez3 hh hi e1); (try case hok => exact ezO); all_goals try (intro hb; (try simp only [hbs, reduceCtorEq] at hb); try exact ezX)) | ((with_reducible apply o_undef rfl); (case hb => exact ez0)))
  refine sw_row (by simp (disch := first | assumption | omega) only [idV_tuple, idV_agg, idV_int, idV_bool, idV_str, idV_slice, idV_nil, idV1_agg, idV1_int, idV1_bool, idV1_str, idV1_slice, idV1_nil, idA_int, idA_bool, idA_str, idA_slice, idA_nil, idA_old, idV_old, idV1_old, ble_t, ble_f, cond_true, cond_false, List.flatMap_cons, List.flatMap_nil, List.append_nil, List.nil_append, List.cons_append]; exact rfl) rfl (by omega) (by simp (disch := first | assumption | omega | rfl | decide) only [go_sem, seval, tys]; exact rfl) (bv_idA _ _) (by simp only [reV_tuple, reV_agg, reV_slice, reV1_agg, reV1_int, reV1_bool, reV1_str, reV1_slice, reV1_snil, reA_int, reA_bool, reA_str, reA_slice, reA_snil, reN_hit, List.map_cons, List.map_nil]; exact rfl) ?_
  exact ⟨rfl, rfl, rfl⟩
theorem findB_len {L : List Rg} {a : Int} {w : Nat} {ys : List UInt8} (hf : findB L a w = some ys) : ys.length = w := by
  unfold findB at hf
  split at hf
  · cases hfi : fstI L a (max (w : Int) 1) 0 with
    | none => rw [hfi] at hf; cases hf
    | some i =>
      rw [hfi] at hf
      obtain ⟨q, hq, e, hin, -⟩ := fstI_some hfi
      obtain rfl : i = q := by omega
      dsimp only at hf
      rw [List.getElem?_eq_getElem hq] at hf
      injection hf with hf
      obtain ⟨hi1, hi2⟩ := inb_iff.1 hin
      rw [← hf, List.length_take, List.length_drop]
      omega
  · cases hf
theorem mfind_ok (hk : 30000 ≤ k) (TA : Option Addr) (tn tc : Nat) (A : Option Addr) (L : List Rg) (c : Nat) (hL : RgH h n A L) (hl : L.length ≤ 100) (hE : lstE L = 0) (hC : ∀ g ∈ L, chkG g = 0) (a : Int) (w : Nat) (ha0 : 0 ≤ a) (ha1 : a < 18446744073709551616) (hw : w ≤ 20000) (ys : List UInt8) (hf : findB L a w = some ys) :
    SQ k (d + 7) cl 101 [.agg ⟨[.slice TA tn tc, .slice A L.length c]⟩, .int .u64 a, .int .i64 w] h n fun v h' n' => v = .tuple ⟨[.slice (some ⟨n, 0, none⟩) w w, .int .i64 0]⟩ ∧ h' = h.set n (.row 5 false (bv ys)) ∧ n' = n + 1 := by
  unfold findB at hf
  split at hf
  · rename_i h8
    cases hfi : fstI L a (max (w : Int) 1) 0 with
    | none => rw [hfi] at hf; cases hf
    | some i =>
      rw [hfi] at hf
      obtain ⟨q, hq, e, hin, -⟩ := fstI_some hfi
      obtain rfl : i = q := by omega
      dsimp only at hf
      rw [List.getElem?_eq_getElem hq] at hf
      injection hf with hf
      obtain ⟨hi1, hi2⟩ := inb_iff.1 hin
      have hS : findS L a (max (w : Int) 1) = ((i : Int), 0) := by
        unfold findS
        rw [hE, if_neg (by decide), if_neg (by omega), hfi]
      have hS2 : findS L a (if (w : Int) < 1 then 1 else (w : Int)) = ((i : Int), 0) := by
        rw [← hS]; congr 1; split <;> omega
      have hS3 : findS L a (if (1 : Int) > (w : Int) then 1 else (w : Int)) = ((i : Int), 0) := by
        rw [← hS]; congr 1; split <;> omega
      have hg := hL.fd _ (List.getElem_mem hq)
      have hcg := hC _ (List.getElem_mem hq)
      have hcb := chkR_ok hcg
      obtain ⟨id, off, rfl, hid, c1⟩ := hL.at_ hq
      obtain ⟨G, hG⟩ : ∃ G, L[i] = G := ⟨_, rfl⟩
      rw [hG] at hf hi1 hi2 hg hcg hcb c1
      have hyl : ys.length = w := by rw [← hf, List.length_take, List.length_drop]; omega
      have qf := fun (h6 : Hp) (n6 : Nat) (w' : Int) (hw' : w' = max (w : Int) 1) (hL6 : RgH h6 n6 (some ⟨id, off, none⟩) L) => (findL_ev k d n h6 n6 hk (some ⟨id, off, none⟩) L c hL6 hl a w' ha0 ha1 (by omega) (by omega)).mono (Φ' := fun v h' n' => v = .tuple ⟨[.int .i64 i, .int .i64 0]⟩ ∧ h6 = h' ∧ n6 = n') fun _ _ _ hp => ⟨by rw [hp.1, hw', hS], hp.2.1.symm, hp.2.2.symm⟩
      refine enter Try.func101 (by kernel_rfl) rfl (by kernel_rfl) rfl rfl rfl ?_
      (repeat' first | refine zcd ?_ | intro K' hK | (with_reducible refine zn hK ?_; clear hK) | ((with_reducible apply o_callF (g := 38) w_none); (case ha => exact ez0); (case hs => ((with_reducible apply qf); (case hw' => first | omega | (split <;> omega)); (case hL6 => exact (hL.set (Nat.le_refl _) _).more (by omega)))); (case' hk => rintro _ h' n' ⟨rfl, rfl, rfl⟩)) | ((with_reducible apply o_callF (g := 39) w_none); (case ha => exact ez0); (case hs => ((apply bytesG_ok (g := G) (ys := ys); (case hr => exact (hg.set (Nat.le_refl _) _).more (by omega)); (case hc => exact hcg); (case h1 => exact hi1); (case h2 => exact hi2); (case hy => exact hf); (case hyl => exact hyl)))); (case' hk => rintro _ h' n' ⟨rfl, rfl, rfl⟩)) | ((with_reducible first | apply zo1 | apply zo2 | apply o_guard rfl | apply x_cond | apply k_e1 rfl | apply k_e2 rfl | apply k_e0 rfl | apply k_e3 rfl | apply k_e4 rfl); (case he => exact ez1 c1); (try case hok => exact ezO); all_goals try (intro hb; (try simp only [hbs, reduceCtorEq] at hb); try exact ezX)) | ((with_reducible apply o_undef rfl); (case hb => exact ez0)))
      all_goals (refine sw_row (by simp (disch := first | assumption | omega) only [idV_tuple, idV_agg, idV_int, idV_bool, idV_str, idV_slice, idV_nil, idV1_agg, idV1_int, idV1_bool, idV1_str, idV1_slice, idV1_nil, idA_int, idA_bool, idA_str, idA_slice, idA_nil, idA_old, idV_old, idV1_old, ble_t, ble_f, cond_true, cond_false, List.flatMap_cons, List.flatMap_nil, List.append_nil, List.nil_append, List.cons_append]; exact rfl) rfl (by omega) (by simp (disch := first | assumption | omega | rfl | decide) only [go_sem, seval, tys]; exact rfl) (bv_idA _ _) (by simp only [reV_tuple, reV_agg, reV_slice, reV1_agg, reV1_int, reV1_bool, reV1_str, reV1_slice, reV1_snil, reA_int, reA_bool, reA_str, reA_slice, reA_snil, reN_hit, List.map_cons, List.map_nil]; exact rfl) ?_; exact ⟨rfl, rfl, rfl⟩)
  · cases hf
theorem mfind_no (hk : 30000 ≤ k) (TA : Option Addr) (tn tc : Nat) (A : Option Addr) (L : List Rg) (c : Nat) (hL : RgH h n A L) (hl : L.length ≤ 100) (hE : lstE L = 0) (a : Int) (w : Nat) (ha0 : 0 ≤ a) (ha1 : a < 18446744073709551616) (hw : w ≤ 20000) (hf : findB L a w = none) :
    SQ k (d + 7) cl 101 [.agg ⟨[.slice TA tn tc, .slice A L.length c]⟩, .int .u64 a, .int .i64 w] h n fun v h' n' => v = .tuple ⟨[.slice none 0 0, .int .i64 16]⟩ ∧ h' = h ∧ n' = n := by
  have hcase : (∃ i : Nat, a % 8 ≠ 0 ∧ findS L a (max (w : Int) 1) = ((i : Int), 0)) ∨ findS L a (max (w : Int) 1) = (0, 6) := by
    unfold findS
    rw [hE, if_neg (by decide), if_neg (by omega)]
    cases hfi : fstI L a (max (w : Int) 1) 0 with
    | none => exact .inr rfl
    | some i =>
      refine .inl ⟨i, fun h8 => ?_, rfl⟩
      unfold findB at hf
      rw [if_pos h8, hfi] at hf
      obtain ⟨q, hq, e, -, -⟩ := fstI_some hfi
      obtain rfl : i = q := by omega
      dsimp only at hf
      rw [List.getElem?_eq_getElem hq] at hf
      cases hf
  have qf := fun (h6 : Hp) (n6 : Nat) (w' : Int) (hw' : w' = max (w : Int) 1) (hL6 : RgH h6 n6 A L) => (findL_ev k d n h6 n6 hk A L c hL6 hl a w' ha0 ha1 (by omega) (by omega)).mono (Φ' := fun v h' n' => v = .tuple ⟨[.int .i64 (findS L a (max (w : Int) 1)).1, .int .i64 (findS L a (max (w : Int) 1)).2]⟩ ∧ h6 = h' ∧ n6 = n') fun _ _ _ hp => ⟨by rw [hp.1, hw'], hp.2.1.symm, hp.2.2.symm⟩
  rcases hcase with ⟨i, h8, hS⟩ | hS
  all_goals
    simp only [hS] at qf
    refine enter Try.func101 (by kernel_rfl) rfl (by kernel_rfl) rfl rfl rfl ?_
    (repeat' first | refine zcd ?_ | intro K' hK | (with_reducible refine zn hK ?_; clear hK) | ((with_reducible apply o_callF (g := 38) w_none); (case ha => exact ez0); (case hs => ((with_reducible apply qf); (case hw' => first | omega | (split <;> omega)); (case hL6 => exact (hL.set (Nat.le_refl _) _).more (by omega)))); (case' hk => rintro _ h' n' ⟨rfl, rfl, rfl⟩)) | ((with_reducible first | apply zo1 | apply zo2 | apply o_guard rfl | apply x_cond | apply k_e1 rfl | apply k_e2 rfl | apply k_e0 rfl | apply k_e3 rfl | apply k_e4 rfl); (case he => exact ez0); (try case hok => exact ezO); all_goals try (intro hb; (try simp only [hbs, reduceCtorEq] at hb); try exact ezX)) | ((with_reducible apply o_undef rfl); (case hb => exact ez0)))
    all_goals exact sw_flat rfl rfl ⟨rfl, rfl, rfl⟩
theorem vword_ev (hk : 30000 ≤ k) (A : Option Addr) (xs : List UInt8) (c : Nat) (hr : RdH h n A (bv xs)) (i : Nat) (hi : 8 * i + 8 ≤ xs.length) (hm : xs.length ≤ 1000000) :
    SQ k (d + 1) cl 66 [.slice A xs.length c, .int .i64 i] h n fun v h' n' => v = .int .u64 (wordV xs (8 * i) 8) ∧ h' = h ∧ n' = n := by
  obtain ⟨id, off, rfl, hid, hcell⟩ := hr.bytes (by omega)
  obtain ⟨K, hK8⟩ : ∃ K : Nat, K = 8 := ⟨8, rfl⟩
  rw [show wordV xs (8 * i) 8 = wordV xs (8 * i) K from by rw [hK8]]
  refine enter Try.func66 (by kernel_rfl) rfl (by kernel_rfl) rfl rfl rfl ?_
  (repeat' first | refine zcd ?_ | intro K' hK | (with_reducible refine zn hK ?_; clear hK) | fail | ((with_reducible first | apply zo1 | apply zo2 | apply o_guard rfl | apply x_cond | apply k_e1 rfl | apply k_e2 rfl | apply k_e0 rfl | apply k_e3 rfl | apply k_e4 rfl); (case he => exact ez0); (try case hok => exact ezO); all_goals try (intro hb; (try simp only [hbs, reduceCtorEq] at hb); try exact ezX)) | ((with_reducible apply o_undef rfl); (case hb => exact ez0)))
  refine x_loopF [5, 6, 7, 8, 9, 10, 11, 12, 13, 14, 15, 16, 17, 18, 19, 20, 21] [5, 6] (fun m vs => (m : Int) ≤ 8 ∧ vs = [.int .u64 (le ((xs.drop (8 * i + m)).take (K - m))), .int .i64 ((m : Int) - 1)]) 8 rfl (by omega) ?_ ?_
  · refine ⟨by omega, ?_⟩
    subst hK8
    simp (disch := first | assumption | omega | rfl | decide) only [go_sem, seval, tys]
    rfl
  · rintro m g _ ⟨i1, rfl⟩
    have hlt := le_lt7 (l := (xs.drop (8 * i + m)).take (K - m))
    have hnn := le_nonneg ((xs.drop (8 * i + m)).take (K - m))
    rcases m with _ | m
    · (repeat' first | refine zcd ?_ | intro K' hK | (with_reducible refine zn hK ?_; clear hK) | fail | ((with_reducible first | apply zo1 | apply zo2 | apply o_guard rfl | apply x_cond | apply k_e1 rfl | apply k_e2 rfl | apply k_e0 rfl | apply k_e3 rfl | apply k_e4 rfl); (case he => exact ez0); (try case hok => exact ezO); all_goals try (intro hb; (try simp only [hbs, reduceCtorEq] at hb); try exact ezX)) | ((with_reducible apply o_undef rfl); (case hb => exact ez0)))
      exact sw_flat rfl rfl ⟨by unfold wordV; rw [Nat.sub_zero], rfl, rfl⟩
    · have hst := wordV_step (xs := xs) (at_ := 8 * i) (m := m) (k := K) (by omega) (by omega)
      have hx : cellAt h id (off + (8 * (i : Int) + (((m + 1 : Nat) : Int) - 1)).toNat) = some (.int .u8 (xs[8 * i + m]'(by omega)).toNat) := by
        rw [← hcell]; congr 2; omega
      have h8 := UInt8.toNat_lt (xs[8 * i + m]'(by omega))
      have hlt' := hlt (by simp; omega)
      (repeat' first | refine zcd ?_ | intro K' hK | (with_reducible refine zn hK ?_; clear hK) | fail | ((with_reducible first | apply zo1 | apply zo2 | apply o_guard rfl | apply x_cond | apply k_e1 rfl | apply k_e2 rfl | apply k_e0 rfl | apply k_e3 rfl | apply k_e4 rfl); (case he => exact ez1 hx); (try case hok => exact ezO); all_goals try (intro hb; (try simp only [hbs, reduceCtorEq] at hb); try exact ezX)) | ((with_reducible apply o_undef rfl); (case hb => exact ez0)))
      refine k_round m (by omega) ⟨⟨rfl, rfl⟩, by omega, ?_⟩
      simp (disch := first | assumption | omega | rfl | decide) only [go_sem, seval, tys]
      congr 2
      · rw [hst]; omega
      · congr 1; omega
def textB (L : List Rg) (a w : Int) : List UInt8 × Int := if 64 < w then ([], 12) else if w = 0 then ([], 0) else match findB L a w.toNat with
  | some ys => (ys, 0)
  | none => ([], 16)
theorem mtext_ev (hk : 30000 ≤ k) (TA : Option Addr) (tn tc : Nat) (A : Option Addr) (L : List Rg) (c : Nat) (hL : RgH h n A L) (hl : L.length ≤ 100) (hE : lstE L = 0) (hC : ∀ g ∈ L, chkG g = 0) (a w : Int) (ha0 : 0 ≤ a) (ha1 : a < 18446744073709551616) (hw0 : 0 ≤ w) (hw1 : w < 18446744073709551616) :
    SQ k (d + 8) cl 67 [.agg ⟨[.slice TA tn tc, .slice A L.length c]⟩, .int .u64 a, .int .u64 w] h n fun v h' n' => v = .tuple ⟨[.string ⟨⟨(textB L a w).1⟩⟩, .int .i64 (textB L a w).2]⟩ ∧ h' = h ∧ n' = n := by
  by_cases h64 : 64 < w
  · have e : textB L a w = ([], 12) := by unfold textB; rw [if_pos h64]
    rw [e]
    refine enter Try.func67 (by kernel_rfl) rfl (by kernel_rfl) rfl rfl rfl ?_
    (repeat' first | refine zcd ?_ | intro K' hK | (with_reducible refine zn hK ?_; clear hK) | fail | ((with_reducible first | apply zo1 | apply zo2 | apply o_guard rfl | apply x_cond | apply k_e1 rfl | apply k_e2 rfl | apply k_e0 rfl | apply k_e3 rfl | apply k_e4 rfl); (case he => exact ez0); (try case hok => exact ezO); all_goals try (intro hb; (try simp only [hbs, reduceCtorEq] at hb); try exact ezX)) | ((with_reducible apply o_undef rfl); (case hb => exact ez0)))
    all_goals exact sw_flat rfl rfl ⟨rfl, rfl, rfl⟩
  · by_cases h0 : w = 0
    · have e : textB L a w = ([], 0) := by unfold textB; rw [if_neg h64, if_pos h0]
      rw [e]
      subst h0
      refine enter Try.func67 (by kernel_rfl) rfl (by kernel_rfl) rfl rfl rfl ?_
      (repeat' first | refine zcd ?_ | intro K' hK | (with_reducible refine zn hK ?_; clear hK) | fail | ((with_reducible first | apply zo1 | apply zo2 | apply o_guard rfl | apply x_cond | apply k_e1 rfl | apply k_e2 rfl | apply k_e0 rfl | apply k_e3 rfl | apply k_e4 rfl); (case he => exact ez0); (try case hok => exact ezO); all_goals try (intro hb; (try simp only [hbs, reduceCtorEq] at hb); try exact ezX)) | ((with_reducible apply o_undef rfl); (case hb => exact ez0)))
      all_goals exact sw_flat rfl rfl ⟨rfl, rfl, rfl⟩
    · obtain ⟨w, rfl⟩ := Int.eq_ofNat_of_zero_le hw0
      cases hf : findB L a w with
      | none =>
        have e : textB L a w = ([], 16) := by unfold textB; rw [if_neg h64, if_neg h0, Int.toNat_natCast, hf]
        rw [e]
        have q := fun (h6 : Hp) (n6 : Nat) (hL6 : RgH h6 n6 A L) => (mfind_no k d n h6 n6 hk TA tn tc A L c hL6 hl hE a w ha0 ha1 (by omega) hf).mono (Φ' := fun v h' n' => v = .tuple ⟨[.slice none 0 0, .int .i64 16]⟩ ∧ h6 = h' ∧ n6 = n') fun _ _ _ hp => ⟨hp.1, hp.2.1.symm, hp.2.2.symm⟩
        refine enter Try.func67 (by kernel_rfl) rfl (by kernel_rfl) rfl rfl rfl ?_
        (repeat' first | refine zcd ?_ | intro K' hK | (with_reducible refine zn hK ?_; clear hK) | ((with_reducible apply o_callF (g := 101) w_none); (case ha => exact ez0); (case hs => ((with_reducible apply q); (exact (hL.set (Nat.le_refl _) _).more (by omega)))); (case' hk => rintro _ h' n' ⟨rfl, rfl, rfl⟩)) | ((with_reducible first | apply zo1 | apply zo2 | apply o_guard rfl | apply x_cond | apply k_e1 rfl | apply k_e2 rfl | apply k_e0 rfl | apply k_e3 rfl | apply k_e4 rfl); (case he => exact ez0); (try case hok => exact ezO); all_goals try (intro hb; (try simp only [hbs, reduceCtorEq] at hb); try exact ezX)) | ((with_reducible apply o_undef rfl); (case hb => exact ez0)))
        all_goals exact sw_flat rfl rfl ⟨rfl, rfl, rfl⟩
      | some ys =>
        have e : textB L a w = (ys, 0) := by unfold textB; rw [if_neg h64, if_neg h0, Int.toNat_natCast, hf]
        rw [e]
        have hyl : ys.length = w := findB_len hf
        subst hyl
        have q := fun (h6 : Hp) (n6 : Nat) (hL6 : RgH h6 n6 A L) => mfind_ok k d n h6 n6 hk TA tn tc A L c hL6 hl hE hC a ys.length ha0 ha1 (by omega) ys hf
        refine enter Try.func67 (by kernel_rfl) rfl (by kernel_rfl) rfl rfl rfl ?_
        (repeat' first | refine zcd ?_ | intro K' hK | (with_reducible refine zn hK ?_; clear hK) | ((with_reducible apply o_callF (g := 101) w_none); (case ha => exact ez0); (case hs => ((with_reducible apply q); (exact (hL.set (Nat.le_refl _) _).more (by omega)))); (case' hk => rintro _ h' n' ⟨rfl, rfl, rfl⟩)) | ((with_reducible apply o_b2s (B := n + 50) b2T27_9 w_none); (case hy => exact ez0); (case hr => exact RdH.row (by omega)); (case h0 => first | assumption | (intro h; cases h))) | ((with_reducible first | apply zo1 | apply zo2 | apply o_guard rfl | apply x_cond | apply k_e1 rfl | apply k_e2 rfl | apply k_e0 rfl | apply k_e3 rfl | apply k_e4 rfl); (case he => exact ez0); (try case hok => exact ezO); all_goals try (intro hb; (try simp only [hbs, reduceCtorEq] at hb); try exact ezX)) | ((with_reducible apply o_undef rfl); (case hb => exact ez0)))
        all_goals exact sw_flat rfl rfl ⟨rfl, rfl, rfl⟩
end Go.Proofs.Ytcpkdjikembpnaa.Ce
namespace Go.Proofs.Ytcpkdjikembpnaa.Ce
open Go.RowKit
theorem prun_bd {P : Program} {α β : Type} (x : Sem α) (f : α → Sem β) : prun P (x >>= f) = (prun P x).bind fun a => prun P (f a) := by
  show prun P (Sem.bind x f) = _
  induction x with
  | pure a => rfl
  | program k ih => exact ih P
  | mark m k ih => exact ih
  | _ => rfl
theorem prun_under {P : Program} {t : TypeId} {d : TypeDesc} (h : P.underlying t = some d) : prun P (underlying t) = some d := by
  unfold underlying
  rw [prun_bd]
  show prun P (match P.underlying t with | some d => pure d | none => _) = _
  rw [h]
  rfl
end Go.Proofs.Ytcpkdjikembpnaa.Ce
namespace Go.Proofs.Ytcpkdjikembpnaa.Ce
open Go.RowKit
end Go.Proofs.Ytcpkdjikembpnaa.Ce
