/- Parts of the proof of ValueStores: Ia, Pm, Pw, Ie. No condition of its own. -/
import Derived.Test.YtcpkdjikembpnaaVtaj
import Derived.Test.YtcpkdjikembpnaaVtak
import Derived.Test.YtcpkdjikembpnaaVtal
import Derived.Test.YtcpkdjikembpnaaVtam
import Derived.Test.YtcpkdjikembpnaaVtat
import Derived.Test.YtcpkdjikembpnaaVtau
set_option linter.unusedVariables false
set_option linter.unusedSimpArgs false
set_option maxRecDepth 100000
set_option maxHeartbeats 4000000
namespace Go.Proofs.Ytcpkdjikembpnaa.Ce
open Go.RowKit
section
variable {P : Program} {F : CallE} {lim : Nat} {ops l : List Oper} {dst : Option Tmp} {ty : TypeId} {pos : String} {af : Array Edge} {f : Fm} {h : Hp} {n : Nat} {Φ : Value → Hp → Nat → Prop} {KO : Fm → Hp → Nat → Prop}
theorem o_callC {gd : Option (Nat × Bool)} {x : Operand} {args : List Operand} {ts : Array TypeId} {g : FuncId} {cap vs : List Value} (hw : wantsF ops gd f = some true) (hx : lv f x = .func (.func g) ⟨[]⟩ ⟨cap⟩) (ha : args.map (lv f) ++ cap = vs)
  (hs : Sp P F lim g vs h n Φ) (hk : ∀ v h' n', Φ v h' n' → XO P F lim ops l (fput f dst v) h' n' KO) : XO P F lim ops (⟨dst, .call ⟨.value x, args.toArray, ts⟩, ty, pos, af, gd⟩ :: l) f h n KO :=
 o_call (g := g) (cap := ⟨cap⟩) hw hx (by simp [ha]) hs hk
end
variable (k d cl : Nat) (h : Hp) (n : Nat)
theorem ifuncV_ev (hk : 30000 ≤ k) (g : FuncId) (cap : List Value) (A : Option Addr) (l : List V) (c : Nat) (hL : LH h n A l) (hl : l.length ≤ 20000) (p : Nat → Bool)
  (hp : ∀ j (hj : j < l.length) (cl : Nat) (cs : List Value), VH h n l[j] cs → SQ k d cl g (.agg ⟨cs⟩ :: cap) h n fun v h' n' => v = .bool (p j) ∧ h = h' ∧ n = n') :
  SQ k (d + 1) cl 114 [.slice A l.length c, .func (.func g) ⟨[]⟩ ⟨cap⟩] h n fun v h' n' => (∃ x : Int, v = .int .i64 x ∧ (x < 0 ↔ ∀ j, j < l.length → p j = false)) ∧ h = h' ∧ n = n' := by
 refine enter Try.func114 (by kernel_rfl) rfl (by kernel_rfl) rfl rfl rfl ?_
 (repeat' first | refine zcd ?_ | intro K' hK | (with_reducible refine zn hK ?_; clear hK) | fail | ((with_reducible first | apply zo1 | apply zo2 | apply o_guard rfl | apply x_cond | apply k_e1 rfl | apply k_e2 rfl | apply k_e0 rfl | apply k_e3 rfl | apply k_e4 rfl); (case he => exact ez0); (try case hok => exact ezO); all_goals try (intro hb; (try simp only [hbs, reduceCtorEq] at hb); try exact ezX)) | ((with_reducible apply o_undef rfl); (case hb => exact ez0)))
 refine x_loopF [4, 5, 8, 9, 10, 11, 12, 13, 14, 15, 16, 17, 18] [8] (fun m vs => ∃ q : Nat, m = l.length - q ∧ q ≤ l.length ∧ vs = [.int .i64 q] ∧ ∀ x, x < q → p x = false) l.length rfl (by omega) ⟨0, rfl, by omega, ez0, fun x hx => absurd hx (Nat.not_lt_zero _)⟩ ?_
 rintro m g1 _ ⟨q, rfl, hq, rfl, hall⟩
 by_cases hql : q < l.length
 ·obtain ⟨id, off, A1, cc1, rfl, hid, c1, v1⟩ := hL.at_ hql
  have hf := hp q hql n _ v1
  obtain ⟨x, hx⟩ : ∃ x, l[q] = x := ⟨_, rfl⟩
  rw [hx] at c1 hf
  cases hc : p q with
  | false =>
   rw [hc] at hf
   (repeat' first | refine zcd ?_ | intro K' hK | (with_reducible refine zn hK ?_; clear hK) | ((with_reducible apply o_callC w_none); (case hx => exact ez0); (case ha => exact ez0); (case hs => (exact hf)); (case' hk => rintro _ h' n' ⟨rfl, rfl, rfl⟩)) | ((with_reducible first | apply zo1 | apply zo2 | apply o_guard rfl | apply x_cond | apply k_e1 rfl | apply k_e2 rfl | apply k_e0 rfl | apply k_e3 rfl | apply k_e4 rfl); (case he => exact ez1 c1); (try case hok => exact ezO); all_goals try (intro hb; (try simp only [hbs, reduceCtorEq] at hb); try exact ezX)) | ((with_reducible apply o_undef rfl); (case hb => exact ez0)))
   refine k_round (l.length - (q + 1)) (by omega) ⟨⟨rfl, rfl⟩, q + 1, rfl, by omega, ez0, fun y hy => ?_⟩
   by_cases e2 : y = q
   ·rw [e2]; exact hc
   ·exact hall y (by omega)
  | true =>
   rw [hc] at hf
   (repeat' first | refine zcd ?_ | intro K' hK | (with_reducible refine zn hK ?_; clear hK) | ((with_reducible apply o_callC w_none); (case hx => exact ez0); (case ha => exact ez0); (case hs => (exact hf)); (case' hk => rintro _ h' n' ⟨rfl, rfl, rfl⟩)) | ((with_reducible first | apply zo1 | apply zo2 | apply o_guard rfl | apply x_cond | apply k_e1 rfl | apply k_e2 rfl | apply k_e0 rfl | apply k_e3 rfl | apply k_e4 rfl); (case he => exact ez1 c1); (try case hok => exact ezO); all_goals try (intro hb; (try simp only [hbs, reduceCtorEq] at hb); try exact ezX)) | ((with_reducible apply o_undef rfl); (case hb => exact ez0)))
   all_goals exact sw_flat rfl rfl ⟨⟨_, rfl, ⟨fun hh => absurd hh (by omega), fun hh => by have := hh q hql; rw [hc] at this; cases this⟩⟩, rfl, rfl⟩
 ·obtain rfl : q = l.length := by omega
  (repeat' first | refine zcd ?_ | intro K' hK | (with_reducible refine zn hK ?_; clear hK) | fail | ((with_reducible first | apply zo1 | apply zo2 | apply o_guard rfl | apply x_cond | apply k_e1 rfl | apply k_e2 rfl | apply k_e0 rfl | apply k_e3 rfl | apply k_e4 rfl); (case he => exact ez0); (try case hok => exact ezO); all_goals try (intro hb; (try simp only [hbs, reduceCtorEq] at hb); try exact ezX)) | ((with_reducible apply o_undef rfl); (case hb => exact ez0)))
  all_goals exact sw_flat rfl rfl ⟨⟨_, rfl, ⟨fun _ => hall, fun _ => by decide⟩⟩, rfl, rfl⟩
theorem cfuncV_ev (hk : 30000 ≤ k) (g : FuncId) (cap : List Value) (A : Option Addr) (l : List V) (c : Nat) (hL : LH h n A l) (hl : l.length ≤ 20000) (p : Nat → Bool) (B : Bool) (hB : B = false ↔ ∀ j, j < l.length → p j = false)
  (hp : ∀ j (hj : j < l.length) (cl : Nat) (cs : List Value), VH h n l[j] cs → SQ k d cl g (.agg ⟨cs⟩ :: cap) h n fun v h' n' => v = .bool (p j) ∧ h = h' ∧ n = n') :
  SQ k (d + 2) cl 89 [.slice A l.length c, .func (.func g) ⟨[]⟩ ⟨cap⟩] h n fun v h' n' => v = .bool B ∧ h = h' ∧ n = n' := by
 have q := ifuncV_ev k d n h n hk g cap A l c hL hl p hp
 refine enter Try.func89 (by kernel_rfl) rfl (by kernel_rfl) rfl rfl rfl ?_
 (repeat' first | refine zcd ?_ | intro K' hK | (with_reducible refine zn hK ?_; clear hK) | ((with_reducible apply o_callF (g := 114) w_none); (case ha => exact ez0); (case hs => (exact q)); (case' hk => rintro _ h' n' ⟨⟨x, rfl, hx⟩, rfl, rfl⟩)) | ((with_reducible first | apply zo1 | apply zo2 | apply o_guard rfl | apply x_cond | apply k_e1 rfl | apply k_e2 rfl | apply k_e0 rfl | apply k_e3 rfl | apply k_e4 rfl); (case he => exact ez0); (try case hok => exact ezO); all_goals try (intro hb; (try simp only [hbs, reduceCtorEq] at hb); try exact ezX)) | ((with_reducible apply o_undef rfl); (case hb => exact ez0)))
 have e : decide (x ≥ 0) = B := by
  cases B with
  | false => exact decide_eq_false (by have := hx.2 (hB.1 rfl); omega)
  | true => exact decide_eq_true (Classical.byContradiction fun hh => by have := hB.2 (hx.1 (by omega)); cases this)
 all_goals exact sw_flat rfl rfl ⟨by rw [e], rfl, rfl⟩
def fitP (T : List Tp) : Nat → Nat → V → Nat → Bool
 | 0, _, _, _ => false
 | N + 1, t, .mk kd i s l c, dp => match T[t]? with
  | none => false
  | some x =>
   if kd ≠ x.kd ∨ c = true then false
   else if kd = 1 then decide (s = []) && (decide (l.length = 0) && decide (i = 0 ∨ i = 1))
   else if kd = 2 then decide (s = []) && decide (l.length = 0)
   else if kd = 3 then decide (i = 0) && (decide (l.length = 0) && decide (s.length ≤ 64))
   else if kd = 4 then decide (i = 0) && (decide (s = []) && (decide (l.length ≤ 1) && l.all fun e => decide (0 < dp) && fitP T N x.el.toNat e (dp - 1)))
   else if kd = 7 then decide (i = 0) && (decide (s = []) && (decide (l.length ≤ 16) && l.all fun e => decide (0 < dp) && fitP T N x.el.toNat e (dp - 1)))
   else decide (i = 0) && (decide (s = []) && (decide (l.length = (prtT x).length) && ((prtT x).zip l).all fun e => fitP T N e.1.toNat e.2 dp))
theorem fit1_ev (TA : Option Addr) (T : List Tp) (tc : Nat) (hT : TabH h n TA T) (i7 i4 i9 dp : Nat) (t : Tp) (y : Nat) (hy : t.el = (y : Int)) (r7 : rowOf h i7 = some (3, false, [.int .i64 dp])) (r4 : rowOf h i4 = some (22, false, [.slice TA T.length tc])) (r9 : rowOf h i9 = some (64, false, t.v))
  (h7 : i7 < n) (h4 : i4 < n) (h9 : i9 < n) (hdp : dp ≤ 3) (v : V) (cs : List Value) (hv : VH h n v cs) (B : Bool)
  (ih : 0 < dp → ∀ (cl : Nat) (h6 : Hp) (n6 : Nat) (cs : List Value), TabH h6 n6 TA T → VH h6 n6 v cs → SQ k d cl 51 [.slice TA T.length tc, .int .i64 (y : Int), .agg ⟨cs⟩, .int .i64 ((dp - 1 : Nat) : Int)] h6 n6 fun v h' n' => v = .bool B ∧ h6 = h' ∧ n6 = n') :
  SQ k (d + 1) cl 88 [.agg ⟨cs⟩, .pointer (some ⟨i7, 0, none⟩), .pointer (some ⟨i4, 0, none⟩), .pointer (some ⟨i9, 0, none⟩)] h n fun v h' n' => v = .bool (decide (0 < dp) && B) ∧ h = h' ∧ n = n' := by
 obtain ⟨A1, cc1, rfl, -, -⟩ := hv.cut
 have f7 := cellAt_row (off := 0) r7
 have f4 := cellAt_row (off := 0) r4
 have f9 := cellAt_row (off := 1) r9
 obtain ⟨kd, el, ln, fs, FA, fc⟩ := t
 dsimp only at hy f9
 subst hy
 by_cases h0 : 0 < dp
 ·have ihh := ih h0
  have hdp1 : (dp : Int) - 1 = ((dp - 1 : Nat) : Int) := by omega
  rw [decide_eq_true h0, Bool.true_and]
  refine enter Try.func88 (by kernel_rfl) rfl (by kernel_rfl) rfl rfl rfl ?_
  (repeat' first | refine zcd ?_ | intro K' hK | (with_reducible refine zn hK ?_; clear hK) | ((with_reducible apply o_callF (g := 51) w_none); (case ha => exact ez0); (case hs => ((with_reducible apply ihh); (all_goals first | exact ezT hT | exact (hv.set (Nat.le_refl _) _).more (by omega)))); (case' hk => rintro _ h' n' ⟨rfl, rfl, rfl⟩)) | ((with_reducible first | apply zo1 | apply zo2 | apply o_guard rfl | apply x_cond | apply k_e1 rfl | apply k_e2 rfl | apply k_e0 rfl | apply k_e3 rfl | apply k_e4 rfl); (case he => exact ez4 f7 f4 f9 hdp1); (try case hok => exact ezO); all_goals try (intro hb; (try simp only [hbs, reduceCtorEq] at hb); try exact ezX)) | ((with_reducible apply o_undef rfl); (case hb => exact ez0)))
  all_goals exact sw_flat rfl rfl ⟨rfl, rfl, rfl⟩
 ·rw [decide_eq_false h0, Bool.false_and]
  refine enter Try.func88 (by kernel_rfl) rfl (by kernel_rfl) rfl rfl rfl ?_
  (repeat' first | refine zcd ?_ | intro K' hK | (with_reducible refine zn hK ?_; clear hK) | fail | ((with_reducible first | apply zo1 | apply zo2 | apply o_guard rfl | apply x_cond | apply k_e1 rfl | apply k_e2 rfl | apply k_e0 rfl | apply k_e3 rfl | apply k_e4 rfl); (case he => exact ez3 f7 f4 f9); (try case hok => exact ezO); all_goals try (intro hb; (try simp only [hbs, reduceCtorEq] at hb); try exact ezX)) | ((with_reducible apply o_undef rfl); (case hb => exact ez0)))
  all_goals exact sw_flat rfl rfl ⟨rfl, rfl, rfl⟩
theorem fit2_ev (i11 i7 i4 i9 : Nat) (r11 : rowOf h i11 = some (130, false, [.func (.func 88) ⟨[]⟩ ⟨[.pointer (some ⟨i7, 0, none⟩), .pointer (some ⟨i4, 0, none⟩), .pointer (some ⟨i9, 0, none⟩)]⟩])) (h11 : i11 < n) (v : V) (cs : List Value) (hv : VH h n v cs) (B : Bool)
  (ih : ∀ (cl : Nat) (h6 : Hp) (n6 : Nat) (cs : List Value), (∀ b, b < n → h6.get b = h.get b) → n ≤ n6 → VH h6 n6 v cs → SQ k d cl 88 [.agg ⟨cs⟩, .pointer (some ⟨i7, 0, none⟩), .pointer (some ⟨i4, 0, none⟩), .pointer (some ⟨i9, 0, none⟩)] h6 n6 fun v h' n' => v = .bool B ∧ h6 = h' ∧ n6 = n') :
  SQ k (d + 1) cl 90 [.agg ⟨cs⟩, .pointer (some ⟨i11, 0, none⟩)] h n fun v h' n' => v = .bool (!B) ∧ h = h' ∧ n = n' := by
 obtain ⟨A1, cc1, rfl, -, -⟩ := hv.cut
 have f11 := cellAt_row (off := 0) r11
 refine enter Try.func90 (by kernel_rfl) rfl (by kernel_rfl) rfl rfl rfl ?_
 (repeat' first | refine zcd ?_ | intro K' hK | (with_reducible refine zn hK ?_; clear hK) | ((with_reducible apply o_callC w_none); (case hx => exact ez0); (case ha => exact ez0); (case hs => ((with_reducible apply ih); (all_goals first | omega | exact (hv.set (Nat.le_refl _) _).more (by omega) | exact ezN))); (case' hk => rintro _ h' n' ⟨rfl, rfl, rfl⟩)) | ((with_reducible first | apply zo1 | apply zo2 | apply o_guard rfl | apply x_cond | apply k_e1 rfl | apply k_e2 rfl | apply k_e0 rfl | apply k_e3 rfl | apply k_e4 rfl); (case he => exact ez1 f11); (try case hok => exact ezO); all_goals try (intro hb; (try simp only [hbs, reduceCtorEq] at hb); try exact ezX)) | ((with_reducible apply o_undef rfl); (case hb => exact ez0)))
 all_goals exact sw_flat rfl rfl ⟨rfl, rfl, rfl⟩
theorem fit3_ev (i11 i7 i4 i9 : Nat) (r11 : rowOf h i11 = some (130, false, [.func (.func 88) ⟨[]⟩ ⟨[.pointer (some ⟨i7, 0, none⟩), .pointer (some ⟨i4, 0, none⟩), .pointer (some ⟨i9, 0, none⟩)]⟩])) (h11 : i11 < n) (v : V) (cs : List Value) (hv : VH h n v cs) (B : Bool)
  (ih : ∀ (cl : Nat) (h6 : Hp) (n6 : Nat) (cs : List Value), (∀ b, b < n → h6.get b = h.get b) → n ≤ n6 → VH h6 n6 v cs → SQ k d cl 88 [.agg ⟨cs⟩, .pointer (some ⟨i7, 0, none⟩), .pointer (some ⟨i4, 0, none⟩), .pointer (some ⟨i9, 0, none⟩)] h6 n6 fun v h' n' => v = .bool B ∧ h6 = h' ∧ n6 = n') :
  SQ k (d + 1) cl 91 [.agg ⟨cs⟩, .pointer (some ⟨i11, 0, none⟩)] h n fun v h' n' => v = .bool (!B) ∧ h = h' ∧ n = n' := by
 obtain ⟨A1, cc1, rfl, -, -⟩ := hv.cut
 have f11 := cellAt_row (off := 0) r11
 refine enter Try.func91 (by kernel_rfl) rfl (by kernel_rfl) rfl rfl rfl ?_
 (repeat' first | refine zcd ?_ | intro K' hK | (with_reducible refine zn hK ?_; clear hK) | ((with_reducible apply o_callC w_none); (case hx => exact ez0); (case ha => exact ez0); (case hs => ((with_reducible apply ih); (all_goals first | omega | exact (hv.set (Nat.le_refl _) _).more (by omega) | exact ezN))); (case' hk => rintro _ h' n' ⟨rfl, rfl, rfl⟩)) | ((with_reducible first | apply zo1 | apply zo2 | apply o_guard rfl | apply x_cond | apply k_e1 rfl | apply k_e2 rfl | apply k_e0 rfl | apply k_e3 rfl | apply k_e4 rfl); (case he => exact ez1 f11); (try case hok => exact ezO); all_goals try (intro hb; (try simp only [hbs, reduceCtorEq] at hb); try exact ezX)) | ((with_reducible apply o_undef rfl); (case hb => exact ez0)))
 all_goals exact sw_flat rfl rfl ⟨rfl, rfl, rfl⟩
end Go.Proofs.Ytcpkdjikembpnaa.Ce
namespace Go.Proofs.Ytcpkdjikembpnaa
open Go.RowKit
structure Dn where
 nx : Int
 fr : Int
 fn : Int
 has : Bool
 ag : Int
end Go.Proofs.Ytcpkdjikembpnaa
namespace Go.Proofs.Ytcpkdjikembpnaa.Ce
open Go.RowKit
theorem hasS_inW {b : Int} {m : Nat} {a w : Int} (hc : chkR b m = 0) (hw : 0 ≤ w) (h1 : b ≤ a) (h2 : a + w ≤ b + m) : hasS b m a w = (true, 0) := by
 unfold hasS inb
 rw [if_pos hc, if_neg (by omega)]
 simp
 omega
theorem bv_put {xs ys : List UInt8} {p m : Nat} (hm : m = xs.length) (h : p + ys.length ≤ xs.length) : (bv xs).take p ++ ((bv ys).take (Nat.min ys.length (m - p)) ++ (bv xs).drop (p + Nat.min ys.length (m - p))) = bv (Go.Proofs.Ytcpkdjikembpnaa.put xs p ys) := by
 have e : Nat.min ys.length (m - p) = ys.length := Nat.min_eq_left (by omega)
 rw [e]
 unfold bv Go.Proofs.Ytcpkdjikembpnaa.put
 rw [← List.map_take, ← List.map_take, ← List.map_drop, ← List.map_append, ← List.map_append, List.take_length]
def putL (xs ys : List UInt8) : List UInt8 := Go.Proofs.Ytcpkdjikembpnaa.put (grown xs ys.length) xs.length ys
theorem grown_length (xs : List UInt8) (i : Int) : (grown xs i).length = xs.length + (sizeI i).toNat := by unfold grown; simp
theorem putL_length (xs ys : List UInt8) : (putL xs ys).length = xs.length + (sizeI ys.length).toNat := by
 have hs := sizeI_ge (ys.length : Int)
 unfold putL
 rw [put_length (by rw [grown_length]; omega), grown_length]
variable (k d cl : Nat) (h : Hp) (n : Nat)
theorem write_ok (id : Nat) (zs : List UInt8) (m c : Nat) (a : Int) (B : Option Addr) (ys : List UInt8) (c2 : Nat) (hm : m = zs.length) (hr : RdH h n (some ⟨id, 0, none⟩) (bv zs)) (hr2 : RdH h n B (bv ys)) (hB : B = none → c2 = 0) (hc : chkR 65536 m = 0) (ha0 : 65536 ≤ a) (ha1 : a + ys.length ≤ 65536 + m) :
  SQ k (d + 4) cl 56 [.agg ⟨[.int .u64 65536, .slice (some ⟨id, 0, none⟩) m c]⟩, .int .u64 a, .slice B ys.length c2] h n fun v h' n' => v = .tuple ⟨[.agg ⟨[.int .u64 65536, .slice (some ⟨n, 0, none⟩) m m]⟩, .int .i64 0]⟩ ∧ h' = h.set n (.row 5 false (bv (Go.Proofs.Ytcpkdjikembpnaa.put zs (a - 65536).toNat ys))) ∧ n' = n + 1 := by
 subst hm
 obtain ⟨g2, g3, g4, g5⟩ := chkR_ok hc
 have hp := bv_put (p := (a - 65536).toNat) (xs := zs) (ys := ys) rfl (by omega)
 have hh := hasS_inW (b := 65536) (m := zs.length) (a := a) (w := ys.length) hc (by omega) ha0 ha1
 have hi : indexS 65536 zs.length a ys.length = (a - 65536, true) := by unfold indexS; grind
 refine enter Try.func56 (by kernel_rfl) rfl (by kernel_rfl) rfl rfl rfl ?_
 (repeat' first | refine zcd ?_ | intro K' hK | (with_reducible refine zn hK ?_; clear hK) | ((with_reducible apply o_callF (g := 65) w_none); (case ha => exact ez0); (case hs => exact has_ev (h0 := by omega) (h1 := by omega) (hm := by omega) (ha0 := by omega) (ha1 := by omega) (hw0 := by omega) (hw1 := by omega) ..); (case' hk => rintro _ h' n' ⟨rfl, rfl, rfl⟩)) | ((with_reducible apply o_callF (g := 64) w_none); (case ha => exact ez0); (case hs => exact index_ev (hv := hc) (ha0 := by omega) (ha1 := by omega) (hw0 := by omega) (hw1 := by omega) ..); (case' hk => rintro _ h' n' ⟨rfl, rfl, rfl⟩)) | ((with_reducible apply o_callF (g := 48) w_none); (case ha => exact ez0); (case hs => ((apply clone_ev; (case hr => exact ezD hr); (case hm => omega)))); (case' hk => rintro _ h' n' ⟨rfl, rfl, rfl⟩)) | ((with_reducible apply o_cp cpT27 w_none); (case hd => exact ez0); (case hy => exact ez0); (case hsrc => exact src_rd (B := n) (vs := bv ys) (by exact ezD hr2) hB (by rw [bv_length]; omega) (by decide)); (case hr => exact ez0); (case hcl => rw [bv_length]); (case hc => exact bv_cok ys); (case hl => omega); (case ho => (first | (simp; done) | (simp; omega) | omega | (simp only [bv_length]; omega)))) | ((with_reducible first | apply zo1 | apply zo2 | apply o_guard rfl | apply x_cond | apply k_e1 rfl | apply k_e2 rfl | apply k_e0 rfl | apply k_e3 rfl | apply k_e4 rfl); (case he => exact ez2 hh hi); (try case hok => exact ezO); all_goals try (intro hb; (try simp only [hbs, reduceCtorEq] at hb); try exact ezX)) | ((with_reducible apply o_undef rfl); (case hb => exact ez0)))
 refine sw_row (by simp (disch := first | assumption | omega) only [idV_tuple, idV_agg, idV_int, idV_bool, idV_str, idV_slice, idV_nil, idV1_agg, idV1_int, idV1_bool, idV1_str, idV1_slice, idV1_nil, idA_int, idA_bool, idA_str, idA_slice, idA_nil, idA_old, idV_old, idV1_old, ble_t, ble_f, cond_true, cond_false, List.flatMap_cons, List.flatMap_nil, List.append_nil, List.nil_append, List.cons_append]; exact rfl) rfl (by omega) (by simp (disch := first | assumption | omega | rfl | decide) only [go_sem, Nat.reduceBEq, ↓reduceIte, Nat.reduceEqDiff, Nat.reduceAdd, Nat.reduceMul, Int.reduceToNat, Int.reduceAdd, Int.reduceMul, Int.reduceSub, tys]; exact rfl) (by rw [hp]; exact bv_idA _ _) (by simp only [reV_tuple, reV_agg, reV_slice, reV1_agg, reV1_int, reV1_bool, reV1_str, reV1_slice, reV1_snil, reA_int, reA_bool, reA_str, reA_slice, reA_snil, reN_hit, List.map_cons, List.map_nil]; exact rfl) ?_
 exact ⟨rfl, by rw [hp], rfl⟩
theorem bput_ok (b : Int) (A : Option Addr) (xs : List UInt8) (c : Nat) (B : Option Addr) (ys : List UInt8) (c2 : Nat) (lim : Int) (hr : RdH h n A (bv xs)) (hA : A = none → c = 0) (hr2 : RdH h n B (bv ys)) (hB : B = none → c2 = 0) (he : allocE b xs.length ys.length lim = 0) :
  SQ k (d + 5) cl 28 [.agg ⟨[.int .u64 b, .slice A xs.length c]⟩, .slice B ys.length c2, .int .i64 lim] h n fun v h' n' => v = .tuple ⟨[.agg ⟨[.int .u64 b, .slice (some ⟨n, 0, none⟩) (putL xs ys).length (putL xs ys).length]⟩, .int .u64 (b + xs.length), .int .i64 0]⟩ ∧ h' = h.set n (.row 5 false (bv (putL xs ys))) ∧ n' = n + 1 := by
 have hs := sizeI_ge (ys.length : Int)
 have hc : chkB b xs.length lim = 0 ∧ (ys.length : Int) ≤ 4096 ∧ xs.length + sizeI ys.length ≤ lim := by unfold allocE at he; grind
 obtain ⟨hc, i1, i2⟩ := hc
 obtain ⟨rfl, g2, g3, g4, g5⟩ := chkB_ok hc
 have hgl := grown_length xs ys.length
 have hpl := putL_length xs ys
 have hR : chkR 65536 (grown xs ys.length).length = 0 := chkB_R (by omega)
 have ea : ((65536 : Int) + xs.length - 65536).toNat = xs.length := by omega
 refine enter Try.func28 (by kernel_rfl) rfl (by kernel_rfl) rfl rfl rfl ?_
 (repeat' first | refine zcd ?_ | intro K' hK | (with_reducible refine zn hK ?_; clear hK) | ((with_reducible apply o_callF (g := 55) w_none); (case ha => exact ez0); (case hs => exact alloc_ok (hr := by exact ezD hr) (hA := hA) (he := he) ..); (case' hk => rintro _ h' n' ⟨rfl, rfl, rfl⟩)) | ((with_reducible apply o_callF (g := 56) w_none); (case ha => exact ez0); (case hs => ((apply write_ok (zs := grown xs ys.length) (ys := ys); (case hm => exact rfl); (case hr => (repeat' (first | with_reducible exact RdH.row (by omega) | with_reducible refine RdH.ne ?_ (by omega) _))); (case hr2 => refine RdH.more (B := n) (by repeat' first | exact hr2 | refine RdH.set ?_ (by omega) _) (by omega)); (case hB => exact hB); (case hc => exact hR); (case ha0 => omega); (case ha1 => omega)))); (case' hk => rintro _ h' n' ⟨rfl, rfl, rfl⟩)) | ((with_reducible first | apply zo1 | apply zo2 | apply o_guard rfl | apply x_cond | apply k_e1 rfl | apply k_e2 rfl | apply k_e0 rfl | apply k_e3 rfl | apply k_e4 rfl); (case he => exact ez1 he); (try case hok => exact ezO); all_goals try (intro hb; (try simp only [hbs, reduceCtorEq] at hb); try exact ezX)) | ((with_reducible apply o_undef rfl); (case hb => exact ez0)))
 refine sw_row (by simp (disch := first | assumption | omega) only [idV_tuple, idV_agg, idV_int, idV_bool, idV_str, idV_slice, idV_nil, idV1_agg, idV1_int, idV1_bool, idV1_str, idV1_slice, idV1_nil, idA_int, idA_bool, idA_str, idA_slice, idA_nil, idA_old, idV_old, idV1_old, ble_t, ble_f, cond_true, cond_false, List.flatMap_cons, List.flatMap_nil, List.append_nil, List.nil_append, List.cons_append]; exact rfl) rfl (by omega) (by simp (disch := first | assumption | omega | rfl | decide) only [go_sem, Nat.reduceBEq, ↓reduceIte, Nat.reduceEqDiff, Nat.reduceAdd, Nat.reduceMul, Int.reduceToNat, Int.reduceAdd, Int.reduceMul, Int.reduceSub, tys]; exact rfl) (bv_idA _ _) (by simp only [reV_tuple, reV_agg, reV_slice, reV1_agg, reV1_int, reV1_bool, reV1_str, reV1_slice, reV1_snil, reA_int, reA_bool, reA_str, reA_slice, reA_snil, reN_hit, List.map_cons, List.map_nil]; exact rfl) ?_
 exact ⟨by rw [hpl, hgl], by rw [ea]; rfl, rfl⟩
theorem bput_err (b : Int) (A : Option Addr) (m c : Nat) (B : Option Addr) (m2 c2 : Nat) (lim : Int) (hm : m ≤ 9223372036854775807) (hm2 : m2 ≤ 9223372036854775807) (he : allocE b m m2 lim ≠ 0) :
  SQ k (d + 5) cl 28 [.agg ⟨[.int .u64 b, .slice A m c]⟩, .slice B m2 c2, .int .i64 lim] h n fun v h' n' => v = .tuple ⟨[.agg ⟨[.int .u64 0, .slice none 0 0]⟩, .int .u64 0, .int .i64 (allocE b m m2 lim)]⟩ ∧ h' = h ∧ n' = n := by
 refine enter Try.func28 (by kernel_rfl) rfl (by kernel_rfl) rfl rfl rfl ?_
 (repeat' first | refine zcd ?_ | intro K' hK | (with_reducible refine zn hK ?_; clear hK) | ((with_reducible apply o_callF (g := 55) w_none); (case ha => exact ez0); (case hs => exact alloc_err (hm := hm) (he := he) ..); (case' hk => rintro _ h' n' ⟨rfl, rfl, rfl⟩)) | ((with_reducible first | apply zo1 | apply zo2 | apply o_guard rfl | apply x_cond | apply k_e1 rfl | apply k_e2 rfl | apply k_e0 rfl | apply k_e3 rfl | apply k_e4 rfl); (case he => exact ez1 he); (try case hok => exact ezO); all_goals try (intro hb; (try simp only [hbs, reduceCtorEq] at hb); try exact ezX)) | ((with_reducible apply o_undef rfl); (case hb => exact ez0)))
 all_goals first | (exfalso; exact he (by assumption)) | exact sw_flat rfl rfl ⟨rfl, rfl, rfl⟩
end Go.Proofs.Ytcpkdjikembpnaa.Ce
namespace Go.Proofs.Ytcpkdjikembpnaa.Ce
open Go.RowKit
def catP (g : List UInt8 → Nat → V → Except Int (List UInt8 × List UInt8)) : List UInt8 → List (Int × V) → Except Int (List UInt8 × List (List UInt8))
 | hs, [] => .ok (hs, [])
 | hs, p :: r => match g hs p.1.toNat p.2 with
  | .error e => .error e
  | .ok a => match catP g a.1 r with
   | .error e => .error e
   | .ok b => .ok (b.1, a.2 :: b.2)
theorem catP_snoc (g : List UInt8 → Nat → V → Except Int (List UInt8 × List UInt8)) (p : Int × V) : ∀ (l : List (Int × V)) (hs : List UInt8) (a : List UInt8 × List (List UInt8)), catP g hs l = .ok a →
  catP g hs (l ++ [p]) = match g a.1 p.1.toNat p.2 with
   | .error e => .error e
   | .ok b => .ok (b.1, a.2 ++ [b.2])
 | [], hs, a, h => by
  unfold catP at h
  injection h with h
  subst h
  show catP g hs (p :: []) = _
  unfold catP catP
  cases g hs p.1.toNat p.2 <;> rfl
 | q :: l, hs, a, h => by
  unfold catP at h
  rw [List.cons_append]
  unfold catP
  cases hg : g hs q.1.toNat q.2 with
  | error e => rw [hg] at h; cases h
  | ok v =>
   rw [hg] at h
   dsimp only at h ⊢
   cases hl : catP g v.1 l with
   | error e => rw [hl] at h; cases h
   | ok l2 =>
    rw [hl] at h
    injection h with h
    subst h
    rw [catP_snoc g p l v.1 l2 hl]
    dsimp only
    cases g l2.1 p.1.toNat p.2 <;> rfl
theorem catP_err (g : List UInt8 → Nat → V → Except Int (List UInt8 × List UInt8)) {e : Int} : ∀ (l r : List (Int × V)) (hs : List UInt8), catP g hs l = .error e → catP g hs (l ++ r) = .error e
 | [], r, hs, h => by unfold catP at h; cases h
 | q :: l, r, hs, h => by
  unfold catP at h
  rw [List.cons_append]
  unfold catP
  cases hg : g hs q.1.toNat q.2 with
  | error e2 => rw [hg] at h; exact h
  | ok v =>
   rw [hg] at h
   dsimp only at h ⊢
   cases hl : catP g v.1 l with
   | error e2 => rw [hl] at h; injection h with h; subst h; rw [catP_err g l r v.1 hl]
   | ok l2 => rw [hl] at h; cases h
theorem catP_len (g : List UInt8 → Nat → V → Except Int (List UInt8 × List UInt8)) : ∀ (l : List (Int × V)) (hs : List UInt8) (a : List UInt8 × List (List UInt8)), catP g hs l = .ok a → a.2.length = l.length
 | [], hs, a, h => by unfold catP at h; injection h with h; subst h; rfl
 | q :: l, hs, a, h => by
  unfold catP at h
  cases hg : g hs q.1.toNat q.2 with
  | error e => rw [hg] at h; cases h
  | ok v =>
   rw [hg] at h
   dsimp only at h
   cases hl : catP g v.1 l with
   | error e => rw [hl] at h; cases h
   | ok l2 =>
    rw [hl] at h
    injection h with h
    subst h
    rw [List.length_cons, List.length_cons, catP_len g l v.1 l2 hl]
def ptrP (kd a n : Int) : List Int := if kd = 4 then [a] else [a, n, n]
def tgtP (g : List UInt8 → Nat → V → Except Int (List UInt8 × List UInt8)) (lim : Int) (x : Tp) (hs : List UInt8) (l : List V) : Except Int (List UInt8 × List UInt8) :=
 if l = [] then .ok (hs, litP (ptrP x.kd 0 0)) else match catP g hs (l.map fun v => (x.el, v)) with
  | .error e => .error e
  | .ok a => if allocE 65536 a.1.length a.2.flatten.length lim = 0 then .ok (putL a.1 a.2.flatten, litP (ptrP x.kd (65536 + a.1.length) l.length)) else .error (allocE 65536 a.1.length a.2.flatten.length lim)
def placeP (b : List UInt8) (l : List (Int × List UInt8)) : List UInt8 := l.foldl (fun b p => Go.Proofs.Ytcpkdjikembpnaa.put b p.1.toNat p.2) b
theorem placeP_snoc (b : List UInt8) (l : List (Int × List UInt8)) (p : Int × List UInt8) : placeP b (l ++ [p]) = Go.Proofs.Ytcpkdjikembpnaa.put (placeP b l) p.1.toNat p.2 := by unfold placeP; rw [List.foldl_append]; rfl
noncomputable def storeP (T : List Tp) (lim : Int) : Nat → List UInt8 → Nat → V → Except Int (List UInt8 × List UInt8)
 | 0, _, _, _ => .error 0
 | N + 1, hs, t, .mk kd i s l c => match T[t]? with
  | none => .error 0
  | some x =>
   if x.kd = 1 then .ok (hs, [UInt8.ofNat i.toNat])
   else if x.kd = 2 then .ok (hs, litP [IntKind.wrap .u64 i])
   else if x.kd = 3 then (if s = [] then .ok (hs, litP [0, 0]) else if allocE 65536 hs.length s.length lim = 0 then .ok (putL hs s, litP [65536 + hs.length, s.length]) else .error (allocE 65536 hs.length s.length lim))
   else if x.kd = 4 ∨ x.kd = 7 then tgtP (storeP T lim N) lim x hs l
   else match catP (storeP T lim N) hs ((prtT x).zip l) with
    | .error e => .error e
    | .ok a => .ok (a.1, placeP (List.replicate (sizT T t).toNat 0) ((offsT T x).zip a.2))
def HR (h : Hp) (n : Nat) (A : Option Addr) (c : Nat) (hs : List UInt8) : Prop := (A = none ∧ c = 0 ∧ hs = []) ∨ ∃ id, A = some ⟨id, 0, none⟩ ∧ id < n ∧ rowOf h id = some (5, false, bv hs)
theorem HR.rd {h : Hp} {n : Nat} {A : Option Addr} {c : Nat} {hs : List UInt8} (hh : HR h n A c hs) : RdH h n A (bv hs) ∧ (A = none → c = 0) := by
 rcases hh with ⟨rfl, rfl, rfl⟩ | ⟨id, rfl, h1, h2⟩
 ·exact ⟨⟨fun _ _ h => (by cases h), .inl rfl⟩, fun _ => rfl⟩
 ·exact ⟨RdH.ofRow h2 h1, fun h => by cases h⟩
theorem HR.keep {h h' : Hp} {n n' : Nat} {A : Option Addr} {c : Nat} {hs : List UInt8} (hh : HR h n A c hs) (hn : n ≤ n') (hk : ∀ b, b < n → h'.get b = h.get b) : HR h' n' A c hs := by
 rcases hh with e | ⟨id, rfl, h1, h2⟩
 ·exact .inl e
 ·exact .inr ⟨id, rfl, by omega, by rw [show rowOf h' id = rowOf h id from by unfold rowOf; rw [hk id h1]]; exact h2⟩
def StV (r : Except Int (List UInt8 × List UInt8)) (A : Option Addr) (h : Hp) (n : Nat) (v : Value) (h' : Hp) (n' : Nat) : Prop := match r with
 | .error e => ∃ O m c, v = .tuple ⟨[.agg ⟨[.int .u64 0, .slice none 0 0]⟩, .slice O m c, .int .i64 e]⟩ ∧ e ≠ 0 ∧ n ≤ n' ∧ (∀ b, b < n → h'.get b = h.get b) ∧ ∃ ys, OwnY ys (.slice O m c) h' n n'
 | .ok r => ∃ A' c' bid, v = .tuple ⟨[.agg ⟨[.int .u64 65536, .slice A' r.1.length c']⟩, .slice (some ⟨bid, 0, none⟩) r.2.length r.2.length, .int .i64 0]⟩ ∧ HR h' n' A' c' r.1 ∧ (A' = A ∨ ∃ id, A' = some ⟨id, 0, none⟩ ∧ n ≤ id) ∧ A' ≠ some ⟨bid, 0, none⟩ ∧ n ≤ bid ∧ bid < n' ∧ rowOf h' bid = some (5, false, bv r.2) ∧ n ≤ n' ∧ ∀ b, b < n → h'.get b = h.get b
section
variable {h h' : Hp} {n n' : Nat} {Φ : Value → Hp → Nat → Prop}
theorem idA_old1 {n id off : Nat} {m c : Nat} (h : id < n) : idA n (.slice (some ⟨id, off, none⟩) m c) = [] := by
 show (bif Nat.ble n id then [id] else []) = []
 rw [show Nat.ble n id = false from by cases e : Nat.ble n id with | false => rfl | true => exact absurd (Nat.le_of_ble_eq_true e) (by omega)]
 rfl
theorem idA_new1 {n id off : Nat} {m c : Nat} (h : n ≤ id) : idA n (.slice (some ⟨id, off, none⟩) m c) = [id] := by
 show (bif Nat.ble n id then [id] else []) = [id]
 rw [ble_t h]
 rfl
theorem sw_store {A A' : Option Addr} {c c' bid : Nat} {hs hs' own : List UInt8} (h0 : HR h n A c hs) (hr : HR h' n' A' c' hs') (ho : A' = A ∨ ∃ id, A' = some ⟨id, 0, none⟩ ∧ n ≤ id) (hne : A' ≠ some ⟨bid, 0, none⟩) (hb1 : n ≤ bid) (hb2 : bid < n') (hkp : ∀ b, b < n → h'.get b = h.get b) (hb : rowOf h' bid = some (5, false, bv own)) :
  kSweep h n (StV (.ok (hs', own)) A h n) (.tuple ⟨[.agg ⟨[.int .u64 65536, .slice A' hs'.length c']⟩, .slice (some ⟨bid, 0, none⟩) own.length own.length, .int .i64 0]⟩) h' n' := by
 rcases ho with rfl | ⟨id, rfl, hid⟩
 ·have e : idA n (.slice A' hs'.length c') = [] := by
   rcases h0 with ⟨rfl, -, -⟩ | ⟨id, rfl, h1, -⟩
   ·rfl
   ·exact idA_old1 h1
  have e2 := idA_new1 (n := n) (off := 0) (m := own.length) (c := own.length) hb1
  have e3 : ∀ ids, (∀ id, id < n → id ∉ ids) → reA n ids (.slice A' hs'.length c') = .slice A' hs'.length c' := by
   intro ids he
   rcases h0 with ⟨rfl, -, -⟩ | ⟨id, rfl, h1, -⟩
   ·rfl
   ·show Value.slice (some ⟨reN n ids id, 0, none⟩) hs'.length c' = _
    rw [reN_out (n := 0) (he id h1) n]
  refine sw_row (m := bid) (v' := .tuple ⟨[.agg ⟨[.int .u64 65536, .slice A' hs'.length c']⟩, .slice (some ⟨n, 0, none⟩) own.length own.length, .int .i64 0]⟩) ?_ rfl hb2 hb (bv_idA _ _) ?_ ?_
  ·show (([] ++ (idA n (.slice A' hs'.length c') ++ [])) ++ (idA n (.slice (some ⟨bid, 0, none⟩) own.length own.length) ++ ([] ++ []))) = [bid]
   rw [e, e2]
   rfl
  ·show Value.tuple ⟨[.agg ⟨[.int .u64 65536, reA n [bid] (.slice A' hs'.length c')]⟩, .slice (some ⟨reN n [bid] bid, 0, none⟩) own.length own.length, .int .i64 0]⟩ = _
   rw [e3 [bid] (fun id hi hm => by simp at hm; omega), reN_one]
  ·refine ⟨A', c', n, rfl, ?_, .inl rfl, ?_, Nat.le_refl _, by omega, rowOf_same _ _ _ _ _, by omega, fun b hb => Hp.get_ne _ _ (by omega)⟩
   ·rcases hr with e | ⟨id, rfl, h1, h2⟩
    ·exact .inl e
    ·rcases h0 with ⟨e, -, -⟩ | ⟨id0, e, h3, -⟩
     ·cases e
     ·injection e with e
      injection e with e
      subst e
      exact .inr ⟨id, rfl, by omega, by rw [rowOf_ne _ _ (by omega), show rowOf h id = rowOf h' id from by unfold rowOf; rw [hkp id h3]]; exact h2⟩
   ·rcases h0 with ⟨rfl, -, -⟩ | ⟨id, rfl, h1, -⟩
    ·intro e; cases e
    ·intro e
     injection e with e
     injection e with e
     omega
 ·rcases hr with ⟨e, -, -⟩ | ⟨id2, e, h1, h2⟩
  ·cases e
  ·injection e with e
   injection e with e
   subst e
   have hne2 : id ≠ bid := fun e => hne (by rw [e])
   refine sw_row2 (m1 := id) (m2 := bid) (v' := .tuple ⟨[.agg ⟨[.int .u64 65536, .slice (some ⟨n, 0, none⟩) hs'.length c']⟩, .slice (some ⟨n + 1, 0, none⟩) own.length own.length, .int .i64 0]⟩) ?_ hne2 rfl h1 hb2 h2 hb (bv_idA _ _) (bv_idA _ _) ?_ ?_
   ·show (([] ++ (idA n (.slice (some ⟨id, 0, none⟩) hs'.length c') ++ [])) ++ (idA n (.slice (some ⟨bid, 0, none⟩) own.length own.length) ++ ([] ++ []))) = [id, bid]
    rw [idA_new1 hid, idA_new1 hb1]
    rfl
   ·show Value.tuple ⟨[.agg ⟨[.int .u64 65536, .slice (some ⟨reN n [id, bid] id, 0, none⟩) hs'.length c']⟩, .slice (some ⟨reN n [id, bid] bid, 0, none⟩) own.length own.length, .int .i64 0]⟩ = _
    rw [reN_one, reN_two hne2]
   ·exact ⟨_, c', n + 1, rfl, .inr ⟨n, rfl, by omega, by rw [rowOf_ne _ _ (by omega)]; exact rowOf_same _ _ _ _ _⟩, .inr ⟨n, rfl, Nat.le_refl _⟩, (fun e => by injection e with e; injection e with e; omega), by omega, by omega, rowOf_same _ _ _ _ _, by omega, fun b hb => by rw [Hp.get_ne _ _ (by omega), Hp.get_ne _ _ (by omega)]⟩
theorem sw_serr {A : Option Addr} {e : Int} {bid : Nat} {own : List UInt8} (he : e ≠ 0) (ho : own ≠ []) (hb1 : n ≤ bid) (hb2 : bid < n') (hb : rowOf h' bid = some (5, false, bv own)) :
  kSweep h n (StV (.error e) A h n) (.tuple ⟨[.agg ⟨[.int .u64 0, .slice none 0 0]⟩, .slice (some ⟨bid, 0, none⟩) own.length own.length, .int .i64 e]⟩) h' n' := by
 refine sw_row (m := bid) (v' := .tuple ⟨[.agg ⟨[.int .u64 0, .slice none 0 0]⟩, .slice (some ⟨n, 0, none⟩) own.length own.length, .int .i64 e]⟩) ?_ rfl hb2 hb (bv_idA _ _) ?_ ?_
 ·show (([] ++ ([] ++ [])) ++ (idA n (.slice (some ⟨bid, 0, none⟩) own.length own.length) ++ ([] ++ []))) = [bid]
  rw [idA_new1 hb1]
  rfl
 ·show Value.tuple ⟨[.agg ⟨[.int .u64 0, .slice none 0 0]⟩, .slice (some ⟨reN n [bid] bid, 0, none⟩) own.length own.length, .int .i64 e]⟩ = _
  rw [reN_one]
 ·exact ⟨_, _, _, rfl, he, by omega, (fun b hb => Hp.get_ne _ _ (by omega)), own, .inr ⟨ho, n, Nat.le_refl _, by omega, rfl, rowOf_same _ _ _ _ _⟩⟩
theorem sw_sno {A : Option Addr} {e : Int} (he : e ≠ 0) : kSweep h n (StV (.error e) A h n) (.tuple ⟨[.agg ⟨[.int .u64 0, .slice none 0 0]⟩, .slice none 0 0, .int .i64 e]⟩) h' n' :=
 sw_flat rfl rfl ⟨_, _, _, rfl, he, Nat.le_refl _, (fun _ _ => rfl), [], .inl ⟨rfl, rfl⟩⟩
end
end Go.Proofs.Ytcpkdjikembpnaa.Ce
