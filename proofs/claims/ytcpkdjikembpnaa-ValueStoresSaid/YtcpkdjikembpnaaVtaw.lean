/- Parts of the proof of ValueStores: If, Ig. No condition of its own. -/
import Derived.Test.YtcpkdjikembpnaaVtav
set_option linter.unusedVariables false
set_option linter.unusedSimpArgs false
set_option maxRecDepth 100000
set_option maxHeartbeats 4000000
namespace Go.Proofs.Ytcpkdjikembpnaa.Ce
open Go.RowKit
theorem HR.le {h : Hp} {n m : Nat} {A : Option Addr} {c : Nat} {hs : List UInt8} (hh : HR h n A c hs) (hn : n ≤ m) : HR h m A c hs := hh.keep hn fun _ _ => rfl
theorem HR.ne1 {h : Hp} {n : Nat} {A : Option Addr} {c id : Nat} {hs : List UInt8} (hh : HR h n A c hs) (hid : n ≤ id) : A ≠ some ⟨id, 0, none⟩ := by
 rcases hh with ⟨rfl, -, -⟩ | ⟨b, rfl, h1, h2⟩
 ·intro e; cases e
 ·intro e
  injection e with e
  injection e with e
  omega
theorem HR.old {h : Hp} {n : Nat} {A : Option Addr} {c : Nat} {hs : List UInt8} (hh : HR h n A c hs) (b : Nat) (hb : A = some ⟨b, 0, none⟩) : b < n := by
 rcases hh with ⟨rfl, -, -⟩ | ⟨id, rfl, h1, h2⟩
 ·cases hb
 ·injection hb with e
  injection e with e
  omega
theorem HR.at_ {h h' : Hp} {n n' : Nat} {A : Option Addr} {c : Nat} {hs : List UInt8} (hh : HR h n A c hs) (hn : n ≤ n') (hk : ∀ b, A = some ⟨b, 0, none⟩ → h'.get b = h.get b) : HR h' n' A c hs := by
 rcases hh with e | ⟨id, rfl, h1, h2⟩
 ·exact .inl e
 ·exact .inr ⟨id, rfl, by omega, by rw [show rowOf h' id = rowOf h id from by unfold rowOf; rw [hk id rfl]]; exact h2⟩
theorem bv_app (l m : List UInt8) : bv (l ++ m) = bv l ++ bv m := by simp [bv]
theorem wrap_len {m : Nat} (h : m ≤ 20000) : IntKind.wrap .u64 (m : Int) = (m : Int) := by rw [IntKind.wrap_u64]; omega
def tgtR (lim kd : Int) (m : Nat) (r : Except Int (List UInt8 × List (List UInt8))) : Except Int (List UInt8 × List UInt8) := match r with
 | .error e => .error e
 | .ok a => if allocE 65536 a.1.length a.2.flatten.length lim = 0 then .ok (putL a.1 a.2.flatten, litP (ptrP kd (65536 + a.1.length) m)) else .error (allocE 65536 a.1.length a.2.flatten.length lim)
variable (k d : Nat)
theorem lit1 (hk : 30000 ≤ k) (a : Int) (cl : Nat) (h6 : Hp) (n6 id : Nat) (r : RdH h6 n6 (some ⟨id, 0, none⟩) [.int .u64 a]) (ha : 0 ≤ a ∧ a < 18446744073709551616) :
  SQ k (d + 1) cl 82 [.slice (some ⟨id, 0, none⟩) 1 1] h6 n6 fun v h' n' => v = .slice (some ⟨n6, 0, none⟩) 8 8 ∧ h6.set n6 (.row 5 false (bv (litP [a]))) = h' ∧ n6 + 1 = n' :=
 little_ev k d cl h6 n6 hk (some ⟨id, 0, none⟩) [a] 1 r (by simp) (fun w hw => by simp at hw; omega) (by simp)
theorem lit2 (hk : 30000 ≤ k) (a b : Int) (cl : Nat) (h6 : Hp) (n6 id : Nat) (r : RdH h6 n6 (some ⟨id, 0, none⟩) [.int .u64 a, .int .u64 b]) (ha : 0 ≤ a ∧ a < 18446744073709551616) (hb : 0 ≤ b ∧ b < 18446744073709551616) :
  SQ k (d + 1) cl 82 [.slice (some ⟨id, 0, none⟩) 2 2] h6 n6 fun v h' n' => v = .slice (some ⟨n6, 0, none⟩) 16 16 ∧ h6.set n6 (.row 5 false (bv (litP [a, b]))) = h' ∧ n6 + 1 = n' :=
 little_ev k d cl h6 n6 hk (some ⟨id, 0, none⟩) [a, b] 2 r (by simp) (fun w hw => by simp at hw; omega) (by simp)
theorem lit3 (hk : 30000 ≤ k) (a b : Int) (cl : Nat) (h6 : Hp) (n6 id : Nat) (r : RdH h6 n6 (some ⟨id, 0, none⟩) [.int .u64 a, .int .u64 b, .int .u64 b]) (ha : 0 ≤ a ∧ a < 18446744073709551616) (hb : 0 ≤ b ∧ b < 18446744073709551616) :
  SQ k (d + 1) cl 82 [.slice (some ⟨id, 0, none⟩) 3 3] h6 n6 fun v h' n' => v = .slice (some ⟨n6, 0, none⟩) 24 24 ∧ h6.set n6 (.row 5 false (bv (litP [a, b, b]))) = h' ∧ n6 + 1 = n' :=
 little_ev k d cl h6 n6 hk (some ⟨id, 0, none⟩) [a, b, b] 3 r (by simp) (fun w hw => by simp at hw; omega) (by simp)
theorem target_ev (hk : 30000 ≤ k) (TA : Option Addr) (T : List Tp) (tc : Nat) (lim : Int) (x : Tp) (h47 : x.kd = 4 ∨ x.kd = 7) (y : Nat) (hy : x.el = (y : Int)) (z : Nat) (hz : 1 ≤ z ∧ z ≤ 256) (v : V) (hll : v.l.length ≤ 16) (g : List UInt8 → Nat → V → Except Int (List UInt8 × List UInt8))
  (hg : ∀ (hs : List UInt8) (v2 : V), hs.length ≤ 20000 → v2 ∈ v.l → ∀ r, g hs y v2 = .ok r → r.2.length = z ∧ r.1.length ≤ 20000)
  (ih : ∀ v2 ∈ v.l, ∀ (cl : Nat) (h6 : Hp) (n6 : Nat) (A : Option Addr) (c : Nat) (hs : List UInt8) (cs : List Value), TabH h6 n6 TA T → VH h6 n6 v2 cs → HR h6 n6 A c hs → hs.length ≤ 20000 →
   SQ k (d + 6) cl 49 [.slice TA T.length tc, .agg ⟨[.int .u64 65536, .slice A hs.length c]⟩, .int .i64 lim, .int .i64 y, .agg ⟨cs⟩] h6 n6 (StV (g hs y v2) A h6 n6))
  (cl : Nat) (h : Hp) (n : Nat) (hT : TabH h n TA T) (cs : List Value) (hv : VH h n v cs) (A : Option Addr) (c : Nat) (hs : List UInt8) (hh : HR h n A c hs) (hhl : hs.length ≤ 20000) :
  SQ k (d + 7) cl 83 [.slice TA T.length tc, .agg ⟨[.int .u64 65536, .slice A hs.length c]⟩, .int .i64 lim, .agg ⟨[.int .u8 x.kd, .int .i64 x.el, .int .i64 x.ln, .slice x.A x.fs.length x.c]⟩, .agg ⟨cs⟩] h n (StV (tgtP g lim x hs v.l) A h n) := by
 obtain ⟨A1, cc1, rfl, hA1, hl1⟩ := hv.cut
 obtain ⟨vk, vi, vt, l, vc⟩ := v
 obtain ⟨kd, el, ln, fs, FA, fc⟩ := x
 simp only [V.kd, V.i, V.s, V.l, V.c] at hl1 hv hll hg ih h47 hy ⊢
 subst hy
 have hwl := wrap_len (show l.length ≤ 20000 by omega)
 have q1 := lit1 k (d + 5) hk
 have q3 := lit3 k (d + 5) hk
 unfold tgtP
 dsimp only
 by_cases hl0 : l = []
 ·subst hl0
  rw [if_pos rfl]
  rcases h47 with rfl | rfl
  ·refine enter Try.func83 (by kernel_rfl) rfl (by kernel_rfl) rfl rfl rfl ?_
   (repeat' first | refine zcd ?_ | intro K' hK | (with_reducible refine zn hK ?_; clear hK) | (with_reducible refine x_drawnD (id := 18) [(0, 3)] (by kernel_rfl) fun K' hK => ?_) | ((with_reducible apply d_nil); (case hp => exact ezP); (case' hx => (refine hK _ _ _ ?_; clear hK))) | ((with_reducible apply d_pure w_none); (case hp => exact rfl); (case hc => exact rfl); (case he => exact ez0)) | ((with_reducible apply d_eff w_none); (case hc => exact rfl); (case he => exact ez0); (case hok => exact ezO)) | ((with_reducible apply d_guard rfl); (case hb => exact ez0); (case' h1 => intro hb; (try simp only [hbs, reduceCtorEq] at hb); try exact ezX); (case' h2 => intro hb; (try simp only [hbs, reduceCtorEq] at hb); try exact ezX)) | ((with_reducible apply d_callS (g := 82) w_none); (case hs0 => exact rfl); (case ha => exact ez0); (case hs => ((with_reducible apply q1); (all_goals first | exact RdH.row (by omega) | omega))); (case' hk => rintro _ h' n' ⟨rfl, rfl, rfl⟩)) | ((with_reducible apply d_callN (g := 82) w_none); (case hs0 => exact rfl); (case ha => exact ez0); (case hs => ((with_reducible apply q1); (all_goals first | exact RdH.row (by omega) | omega))); (case' hk => rintro _ h' n' ⟨rfl, rfl, rfl⟩)) | ((with_reducible first | apply zo1 | apply zo2 | apply o_guard rfl | apply x_cond | apply k_e1 rfl | apply k_e2 rfl | apply k_e0 rfl | apply k_e3 rfl | apply k_e4 rfl); (case he => exact ez1 hwl); (try case hok => exact ezO); all_goals try (intro hb; (try simp only [hbs, reduceCtorEq] at hb); try exact ezX)) | ((with_reducible apply o_undef rfl); (case hb => exact ez0)))
   all_goals exact sw_store (own := litP [0]) hh ((hh.keep (Nat.le_refl _) ezN).le (by omega)) (.inl rfl) (hh.ne1 (by omega)) (by omega) (by omega) ezN ez0
  ·refine enter Try.func83 (by kernel_rfl) rfl (by kernel_rfl) rfl rfl rfl ?_
   (repeat' first | refine zcd ?_ | intro K' hK | (with_reducible refine zn hK ?_; clear hK) | (with_reducible refine x_drawnD (id := 19) [(0, 5)] (by kernel_rfl) fun K' hK => ?_) | ((with_reducible apply d_nil); (case hp => exact ezP); (case' hx => (refine hK _ _ _ ?_; clear hK))) | ((with_reducible apply d_pure w_none); (case hp => exact rfl); (case hc => exact rfl); (case he => exact ez0)) | ((with_reducible apply d_eff w_none); (case hc => exact rfl); (case he => exact ez0); (case hok => exact ezO)) | ((with_reducible apply d_guard rfl); (case hb => exact ez0); (case' h1 => intro hb; (try simp only [hbs, reduceCtorEq] at hb); try exact ezX); (case' h2 => intro hb; (try simp only [hbs, reduceCtorEq] at hb); try exact ezX)) | ((with_reducible apply d_callS (g := 82) w_none); (case hs0 => exact rfl); (case ha => exact ez0); (case hs => ((with_reducible apply q3); (all_goals first | exact RdH.row (by omega) | omega))); (case' hk => rintro _ h' n' ⟨rfl, rfl, rfl⟩)) | ((with_reducible apply d_callN (g := 82) w_none); (case hs0 => exact rfl); (case ha => exact ez0); (case hs => ((with_reducible apply q3); (all_goals first | exact RdH.row (by omega) | omega))); (case' hk => rintro _ h' n' ⟨rfl, rfl, rfl⟩)) | ((with_reducible first | apply zo1 | apply zo2 | apply o_guard rfl | apply x_cond | apply k_e1 rfl | apply k_e2 rfl | apply k_e0 rfl | apply k_e3 rfl | apply k_e4 rfl); (case he => exact ez1 hwl); (try case hok => exact ezO); all_goals try (intro hb; (try simp only [hbs, reduceCtorEq] at hb); try exact ezX)) | ((with_reducible apply o_undef rfl); (case hb => exact ez0)))
   all_goals exact sw_store (own := litP [0, 0, 0]) hh ((hh.keep (Nat.le_refl _) ezN).le (by omega)) (.inl rfl) (hh.ne1 (by omega)) (by omega) (by omega) ezN ez0
 ·rw [if_neg hl0]
  have hlp : 0 < l.length := List.length_pos_iff.2 hl0
  obtain ⟨res, hres⟩ : ∃ res, catP g hs (l.map fun v => ((y : Int), v)) = res := ⟨_, rfl⟩
  rw [hres]
  obtain ⟨R, hR⟩ : ∃ R : Except Int (List UInt8 × List UInt8), R = tgtR lim kd l.length res := ⟨_, rfl⟩
  refine Sp.mono (Φ := StV R A h n) ?_ fun v h' n' hp => by rw [hR] at hp; exact hp
  refine enter Try.func83 (by kernel_rfl) rfl (by kernel_rfl) rfl rfl rfl ?_
  (repeat' first | refine zcd ?_ | intro K' hK | (with_reducible refine zn hK ?_; clear hK) | fail | ((with_reducible first | apply zo1 | apply zo2 | apply o_guard rfl | apply x_cond | apply k_e1 rfl | apply k_e2 rfl | apply k_e0 rfl | apply k_e3 rfl | apply k_e4 rfl); (case he => exact ez1 hwl); (try case hok => exact ezO); all_goals try (intro hb; (try simp only [hbs, reduceCtorEq] at hb); try exact ezX)) | ((with_reducible apply o_undef rfl); (case hb => exact ez0)))
  refine x_loopV [11, 12, 15, 17, 18, 19, 20, 33, 34, 35, 36, 37, 38, 39, 40, 41, 42, 43, 44, 45, 46, 47, 48, 49, 50, 51, 52, 53, 54, 55, 56] [15, 33] (fun m vs h5 n5 => ∃ (q : Nat) (OA : Value) (A' : Option Addr) (c' : Nat) (hs' : List UInt8) (owns : List (List UInt8)), m = l.length - q ∧ q ≤ l.length ∧ vs = [OA, .int .i64 q] ∧ n + 4 ≤ n5 ∧ (∀ b, b < n → h5.get b = h.get b) ∧
   rowOf h5 n = some (29, false, [.int .u64 65536, .slice A' hs'.length c']) ∧ rowOf h5 (n + 1) = some (64, false, [.int .u8 kd, .int .i64 (y : Int), .int .i64 ln, .slice FA fs.length fc]) ∧ rowOf h5 (n + 2) = some (32, false, vcell vk vi vt A1 l.length cc1 vc) ∧ rowOf h5 (n + 3) = some (29, false, [.int .u64 0, .slice none 0 0]) ∧
   HR h5 n5 A' c' hs' ∧ (A' = A ∨ ∃ id, A' = some ⟨id, 0, none⟩ ∧ n + 4 ≤ id) ∧ hs'.length ≤ 20000 ∧ catP g hs ((l.take q).map fun v => ((y : Int), v)) = .ok (hs', owns) ∧ owns.flatten.length = q * z ∧ OwnY owns.flatten OA h5 (n + 4) n5 ∧ ∀ b m c, OA = .slice (some ⟨b, 0, none⟩) m c → A' ≠ some ⟨b, 0, none⟩) l.length rfl (by omega) ?_ ?_
  ·exact ⟨0, .slice none 0 0, A, c, hs, [], rfl, by omega, ez0, by omega, ezN, ez0, ez0, ez0, ez0, (hh.keep (Nat.le_refl _) ezN).le (by omega), .inl rfl, hhl, rfl, by simp, .inl ⟨rfl, rfl⟩, fun b m c e => by cases e⟩
  ·rintro m g1 _ h5 n5 ⟨q, OA, A', c', hs', owns, rfl, hq, rfl, hn5, hkp, r6, r8, r9, r10, hh5, hA', hsl, hcat, hfl, hO, hOA⟩
   have hT5 : TabH h5 n5 TA T := (hT.keep (Nat.le_refl _) hkp).more (by omega)
   have hL5 : LH h5 n5 A1 l := hl1.keep (by omega) hkp
   have f6 := cellsAt_row (off := 0) (k := 2) r6
   have f8 := cellAt_row (off := 1) r8
   have f80 := cellAt_row (off := 0) r8
   by_cases hql : q < l.length
   ·obtain ⟨vid, voff, A2, cc2, rfl, hvid, c1, v1⟩ := hL5.at_ hql
    have qs := fun (cl : Nat) (h6 : Hp) (n6 : Nat) (cs : List Value) (hT6 : TabH h6 n6 TA T) (hv6 : VH h6 n6 l[q] cs) (hh6 : HR h6 n6 A' c' hs') => ih l[q] (List.getElem_mem hql) cl h6 n6 A' c' hs' cs hT6 hv6 hh6 hsl
    have hgq := hg hs' l[q] hsl (List.getElem_mem hql)
    have hsn := catP_snoc g ((y : Int), l[q]) _ _ _ hcat
    have htk : (l.take (q + 1)).map (fun v => ((y : Int), v)) = (l.take q).map (fun v => ((y : Int), v)) ++ [((y : Int), l[q])] := by rw [List.take_succ_eq_append_getElem hql, List.map_append]; rfl
    rw [← htk] at hsn
    dsimp only at hsn
    rw [Int.toNat_natCast] at hsn
    obtain ⟨e, he⟩ : ∃ e, l[q] = e := ⟨_, rfl⟩
    simp only [he] at c1 v1 qs hgq hsn
    clear htk
    cases hge : g hs' y e with
    | error e0 =>
     simp only [hge] at qs hsn
     have hRe : R = .error e0 := by
      have h1 := catP_err g _ ((l.drop (q + 1)).map fun v => ((y : Int), v)) _ hsn
      rw [← List.map_append, List.take_append_drop, hres] at h1
      rw [hR, h1]
      rfl
     rw [hRe]
     (repeat' first | refine zcd ?_ | intro K' hK | (with_reducible refine zn hK ?_; clear hK) | ((with_reducible apply o_callF (g := 49) w_none); (case ha => exact ez0); (case hs => ((with_reducible apply qs); (all_goals first | ((refine TabH.more (B := n5) ?_ (by omega)); (repeat' first | exact hT5 | refine TabH.set ?_ (by omega) _)) | ((refine VH.more (B := n5) ?_ (by omega)); (repeat' first | exact v1 | refine VH.set ?_ (by omega) _)) | (refine hh5.keep (by omega) fun b hb => ?_; (repeat rw [Hp.get_ne _ _ (by omega)]))))); (case' hk => rintro _ h' n' ⟨O, m, c2, rfl, he0, hn6, hk6, -⟩)) | ((with_reducible first | apply zo1 | apply zo2 | apply o_guard rfl | apply x_cond | apply k_e1 rfl | apply k_e2 rfl | apply k_e0 rfl | apply k_e3 rfl | apply k_e4 rfl); (case he => exact ez3 c1 f6 f8); (try case hok => exact ezO); all_goals try (intro hb; (try simp only [hbs, reduceCtorEq] at hb); try exact ezX)) | ((with_reducible apply o_undef rfl); (case hb => exact ez0)))
     have r10' : rowOf h' (n + 3) = some (29, false, [.int .u64 0, .slice none 0 0]) := (by (repeat rw [rowOf_ne _ _ (by omega)]); rw [rowOf_keep (hk6 _ (by omega))]; (repeat rw [rowOf_ne _ _ (by omega)]); exact r10)
     have w10 := rwOf_row r10'
     (repeat' first | refine zcd ?_ | intro K' hK | (with_reducible refine zn hK ?_; clear hK) | fail | ((with_reducible first | apply zo1 | apply zo2 | apply o_guard rfl | apply x_cond | apply k_e1 rfl | apply k_e2 rfl | apply k_e0 rfl | apply k_e3 rfl | apply k_e4 rfl); (case he => exact ez1 w10); (try case hok => exact ezO); all_goals try (intro hb; (try simp only [hbs, reduceCtorEq] at hb); try exact ezX)) | ((with_reducible apply o_undef rfl); (case hb => exact ez0)))
     all_goals exact sw_sno he0
    | ok r =>
     obtain ⟨hs2, own⟩ := r
     obtain ⟨ho1, ho2⟩ := hgq _ hge
     simp only [hge] at qs hsn
     dsimp only at ho1 ho2 hsn
     have ho0 : own ≠ [] := fun e => by rw [e] at ho1; simp at ho1; omega
     (repeat' first | refine zcd ?_ | intro K' hK | (with_reducible refine zn hK ?_; clear hK) | ((with_reducible apply o_callF (g := 49) w_none); (case ha => exact ez0); (case hs => ((with_reducible apply qs); (all_goals first | ((refine TabH.more (B := n5) ?_ (by omega)); (repeat' first | exact hT5 | refine TabH.set ?_ (by omega) _)) | ((refine VH.more (B := n5) ?_ (by omega)); (repeat' first | exact v1 | refine VH.set ?_ (by omega) _)) | (refine hh5.keep (by omega) fun b hb => ?_; (repeat rw [Hp.get_ne _ _ (by omega)]))))); (case' hk => rintro _ h' n' ⟨A3, c3, bid, rfl, hr3, ho3, hne3, hb1, hb2, hb3, hn6, hk6⟩)) | ((with_reducible first | apply zo1 | apply zo2 | apply o_guard rfl | apply x_cond | apply k_e1 rfl | apply k_e2 rfl | apply k_e0 rfl | apply k_e3 rfl | apply k_e4 rfl); (case he => exact ez3 c1 f6 f8); (try case hok => exact ezO); all_goals try (intro hb; (try simp only [hbs, reduceCtorEq] at hb); try exact ezX)) | ((with_reducible apply o_undef rfl); (case hb => exact ez0)))
     have hA3 : A3 = A ∨ ∃ id, A3 = some ⟨id, 0, none⟩ ∧ n + 4 ≤ id := by
      rcases ho3 with rfl | ⟨id, e, hid⟩
      ·exact hA'
      ·exact .inr ⟨id, e, by omega⟩
     have hold : ∀ b, A3 = some ⟨b, 0, none⟩ → b < n' ∧ (b < n ∨ n + 4 ≤ b) := fun b hb => ⟨hr3.old b hb, by
      rcases hA3 with rfl | ⟨id, e, hid⟩
      ·exact .inl (hh.old b hb)
      ·rw [hb] at e
       injection e with e
       injection e with e
       omega⟩
     have hOA3 : ∀ b m c, OA = .slice (some ⟨b, 0, none⟩) m c → A3 ≠ some ⟨b, 0, none⟩ := fun b m c e => by
      rcases ho3 with rfl | ⟨id, e2, hid⟩
      ·exact hOA b m c e
      ·intro e3
       rw [e2] at e3
       injection e3 with e3
       injection e3 with e3
       rcases hO with ⟨-, e4⟩ | ⟨-, id4, -, b2, e4, -⟩
       ·rw [e] at e4; cases e4
       ·rw [e] at e4
        injection e4 with e4
        injection e4 with e4
        injection e4 with e4
        omega
     have r6' : rowOf h' n = some (29, false, [.int .u64 65536, .slice A' hs'.length c']) := (by (repeat rw [rowOf_ne _ _ (by omega)]); rw [rowOf_keep (hk6 _ (by omega))]; (repeat rw [rowOf_ne _ _ (by omega)]); exact r6)
     have r8' : rowOf h' (n + 1) = some (64, false, [.int .u8 kd, .int .i64 (y : Int), .int .i64 ln, .slice FA fs.length fc]) := (by (repeat rw [rowOf_ne _ _ (by omega)]); rw [rowOf_keep (hk6 _ (by omega))]; (repeat rw [rowOf_ne _ _ (by omega)]); exact r8)
     have r9' : rowOf h' (n + 2) = some (32, false, vcell vk vi vt (some ⟨vid, voff, none⟩) l.length cc1 vc) := (by (repeat rw [rowOf_ne _ _ (by omega)]); rw [rowOf_keep (hk6 _ (by omega))]; (repeat rw [rowOf_ne _ _ (by omega)]); exact r9)
     have r10' : rowOf h' (n + 3) = some (29, false, [.int .u64 0, .slice none 0 0]) := (by (repeat rw [rowOf_ne _ _ (by omega)]); rw [rowOf_keep (hk6 _ (by omega))]; (repeat rw [rowOf_ne _ _ (by omega)]); exact r10)
     have w6 := rwOf_row r6'
     have hkp' : ∀ b, b < n → h'.get b = h.get b := fun b hb => by
      rw [hk6 _ (by omega)]
      (repeat rw [Hp.get_ne _ _ (by omega)])
      exact hkp b hb
     have hO' : OwnY owns.flatten OA h' (n + 4) n' := by
      rcases hO with e | ⟨a, id, b1, b2, b3, b4⟩
      ·exact .inl e
      ·exact .inr ⟨a, id, b1, by omega, b3, (by rw [rowOf_keep (hk6 _ (by omega))]; (repeat rw [rowOf_ne _ _ (by omega)]); exact b4)⟩
     have hfl2 : (owns ++ [own]).flatten = owns.flatten ++ own := by simp
     have hfl3 : (owns ++ [own]).flatten.length = (q + 1) * z := by rw [hfl2, List.length_append, hfl, ho1, Nat.add_mul, Nat.one_mul]
     clear hO hk6 r6 r8 r9 r10 f6 f8 f80 c1 v1 qs
     rcases hO' with ⟨hp0, rfl⟩ | ⟨hp0, id, j1, j2, rfl, q4⟩
     ·rw [hp0, List.nil_append] at hfl2
      (repeat' first | refine zcd ?_ | intro K' hK | (with_reducible refine zn hK ?_; clear hK) | (with_reducible refine x_drawnD (id := 11) [(0, 3)] (by kernel_rfl) fun K' hK => ?_) | ((with_reducible apply d_nil); (case hp => exact ezP); (case' hx => (refine hK _ _ _ ?_; clear hK))) | ((with_reducible apply d_pure w_none); (case hp => exact rfl); (case hc => exact rfl); (case he => exact ez1 w6)) | ((with_reducible apply d_eff w_none); (case hc => exact rfl); (case he => exact ez1 w6); (case hok => exact ezO)) | ((with_reducible apply d_guard rfl); (case hb => exact ez1 w6); (case' h1 => intro hb; (try simp only [hbs, reduceCtorEq] at hb); try exact ezX); (case' h2 => intro hb; (try simp only [hbs, reduceCtorEq] at hb); try exact ezX)) | ((with_reducible apply d_ap0 (t := 27) apT27 w_none); (case hs => exact ez0); (case hy => exact ez0); (case hsrc => exact src_row (ezW hb3) (by rw [bv_length]; exact (Nat.mul_one _).symm)); (case hc => exact bv_cok own); (case hm => omega); (case h0 => omega); (case' hx => intro rd)) | ((with_reducible first | apply zo1 | apply zo2 | apply o_guard rfl | apply x_cond | apply k_e1 rfl | apply k_e2 rfl | apply k_e0 rfl | apply k_e3 rfl | apply k_e4 rfl); (case he => exact ez1 w6); (try case hok => exact ezO); all_goals try (intro hb; (try simp only [hbs, reduceCtorEq] at hb); try exact ezX)) | ((with_reducible apply o_undef rfl); (case hb => exact ez0)))
      refine k_round (l.length - (q + 1)) (by omega) ⟨q + 1, .slice (some ⟨n' + 1, 0, none⟩) own.length own.length, A3, c3, hs2, owns ++ [own], rfl, by omega, ez0, by omega, (fun b hb => by (repeat rw [Hp.get_ne _ _ (by omega)]); exact hkp' b hb), ez0, (ezW r8'), (ezW r9'), (ezW r10'), hr3.at_ (by omega) (fun b hb => by have := hold b hb; (repeat rw [Hp.get_ne _ _ (by omega)])), hA3, ho2, hsn, hfl3, ?_, fun b m c e => by injection e with e; injection e with e; injection e with e; intro e2; have := (hold b e2).1; omega⟩
      rw [hfl2]
      exact .inr ⟨ho0, n' + 1, by omega, by omega, rfl, ez0⟩
     ·have w4 := rwOf_row q4
      obtain ⟨acc, hacc⟩ : ∃ acc, owns.flatten = acc := ⟨_, rfl⟩
      rw [hacc] at hfl2 w4 hp0 q4 hfl ⊢
      have hacl : acc.length ≤ 16 * 256 := by rw [hfl]; exact Nat.mul_le_mul (by omega) hz.2
      have htw : (bv acc).take acc.length = bv acc := List.take_of_length_le (by rw [bv_length]; omega)
      (repeat' first | refine zcd ?_ | intro K' hK | (with_reducible refine zn hK ?_; clear hK) | (with_reducible refine x_drawnD (id := 11) [(0, 3)] (by kernel_rfl) fun K' hK => ?_) | ((with_reducible apply d_nil); (case hp => exact ezP); (case' hx => (refine hK _ _ _ ?_; clear hK))) | ((with_reducible apply d_pure w_none); (case hp => exact rfl); (case hc => exact rfl); (case he => exact ez1 w6)) | ((with_reducible apply d_eff w_none); (case hc => exact rfl); (case he => exact ez1 w6); (case hok => exact ezO)) | ((with_reducible apply d_guard rfl); (case hb => exact ez1 w6); (case' h1 => intro hb; (try simp only [hbs, reduceCtorEq] at hb); try exact ezX); (case' h2 => intro hb; (try simp only [hbs, reduceCtorEq] at hb); try exact ezX)) | ((with_reducible apply d_apR (t := 27) apT27 w_none); (case hs => exact ez1 w4); (case hy => exact ez1 w4); (case hsrc => exact src_row (ezW hb3) (by rw [bv_length]; exact (Nat.mul_one _).symm)); (case hr => exact ez1 w4); (case hc => exact bv_cok own); (case hm => omega); (case hli => omega); (case hln => omega); (case hcs => rw [bv_length]; omega); (case' hx => intro rd)) | ((with_reducible first | apply zo1 | apply zo2 | apply o_guard rfl | apply x_cond | apply k_e1 rfl | apply k_e2 rfl | apply k_e0 rfl | apply k_e3 rfl | apply k_e4 rfl); (case he => exact ez1 w6); (try case hok => exact ezO); all_goals try (intro hb; (try simp only [hbs, reduceCtorEq] at hb); try exact ezX)) | ((with_reducible apply o_undef rfl); (case hb => exact ez0)))
      refine k_round (l.length - (q + 1)) (by omega) ⟨q + 1, .slice (some ⟨n' + 1, 0, none⟩) (acc.length + own.length) (acc.length + own.length), A3, c3, hs2, owns ++ [own], rfl, by omega, ez0, by omega, (fun b hb => by (repeat rw [Hp.get_ne _ _ (by omega)]); exact hkp' b hb), ez0, (ezW r8'), (ezW r9'), (ezW r10'), hr3.at_ (by omega) (fun b hb => by have := hold b hb; have : b ≠ id := (fun e => hOA3 id _ _ rfl (by rw [hb, e])); (repeat rw [Hp.get_ne _ _ (by omega)])), hA3, ho2, hsn, hfl3, ?_, fun b m c e => by injection e with e; injection e with e; injection e with e; intro e2; have := (hold b e2).1; omega⟩
      rw [hfl2]
      exact .inr ⟨by simp [ho0], n' + 1, by omega, by omega, by rw [List.length_append], by rw [bv_app]; exact ez1 htw⟩
   ·obtain rfl : q = l.length := by omega
    rw [List.take_length, hres] at hcat
    subst hcat
    have hpos : 1 ≤ l.length * z := Nat.mul_pos hlp hz.1
    have hup : l.length * z ≤ 16 * 256 := Nat.mul_le_mul hll hz.2
    have w6 := rwOf_row r6
    have w10 := rwOf_row r10
    unfold tgtR at hR
    dsimp only at hR
    rcases hO with ⟨hp0, -⟩ | ⟨hp0, id, j1, j2, rfl, q4⟩
    ·rw [hp0] at hfl
     simp at hfl
     omega
    ·obtain ⟨acc, hacc⟩ : ∃ acc, owns.flatten = acc := ⟨_, rfl⟩
     rw [hacc] at hp0 q4 hfl hR ⊢
     have hh7 : RdH h5 n5 A' (bv hs') ∧ (A' = none → c' = 0) := hh5.rd
     have hh8 : RdH h5 n5 (some ⟨id, 0, none⟩) (bv acc) := RdH.ofRow q4 (by omega)
     by_cases hal : allocE 65536 hs'.length acc.length lim = 0
     ·rw [if_pos hal] at hR
      have qp : ∀ (cl : Nat), SQ k (d + 6) cl 28 [.agg ⟨[.int .u64 65536, .slice A' hs'.length c']⟩, .slice (some ⟨id, 0, none⟩) acc.length acc.length, .int .i64 lim] h5 n5 fun v h' n' => v = .tuple ⟨[.agg ⟨[.int .u64 65536, .slice (some ⟨n5, 0, none⟩) (putL hs' acc).length (putL hs' acc).length]⟩, .int .u64 (65536 + hs'.length), .int .i64 0]⟩ ∧ h5.set n5 (.row 5 false (bv (putL hs' acc))) = h' ∧ n5 + 1 = n' := fun cl =>
       (bput_ok k (d + 1) cl h5 n5 65536 A' hs' c' (some ⟨id, 0, none⟩) acc acc.length lim hh7.1 hh7.2 hh8 (fun e => by cases e) hal).mono fun _ _ _ hp => ⟨hp.1, hp.2.1.symm, hp.2.2.symm⟩
      obtain ⟨pl, hpl⟩ : ∃ pl, putL hs' acc = pl := ⟨_, rfl⟩
      simp only [hpl] at qp hR
      rw [hR]
      rcases h47 with rfl | rfl
      ·(repeat' first | refine zcd ?_ | intro K' hK | (with_reducible refine zn hK ?_; clear hK) | (with_reducible refine x_drawnD (id := 18) [(0, 3)] (by kernel_rfl) fun K' hK => ?_) | ((with_reducible apply d_nil); (case hp => exact ezP); (case' hx => (refine hK _ _ _ ?_; clear hK))) | ((with_reducible apply d_pure w_none); (case hp => exact rfl); (case hc => exact rfl); (case he => exact ez3 f80 w6 w10)) | ((with_reducible apply d_eff w_none); (case hc => exact rfl); (case he => exact ez3 f80 w6 w10); (case hok => exact ezO)) | ((with_reducible apply d_guard rfl); (case hb => exact ez3 f80 w6 w10); (case' h1 => intro hb; (try simp only [hbs, reduceCtorEq] at hb); try exact ezX); (case' h2 => intro hb; (try simp only [hbs, reduceCtorEq] at hb); try exact ezX)) | ((with_reducible apply o_callF (g := 28) w_none); (case ha => exact ez0); (case hs => (exact qp _)); (case' hk => rintro _ h' n' ⟨rfl, rfl, rfl⟩)) | ((with_reducible apply d_callS (g := 82) w_none); (case hs0 => exact rfl); (case ha => exact ez0); (case hs => ((with_reducible apply q1); (all_goals first | exact RdH.row (by omega) | omega))); (case' hk => rintro _ h' n' ⟨rfl, rfl, rfl⟩)) | ((with_reducible apply d_callN (g := 82) w_none); (case hs0 => exact rfl); (case ha => exact ez0); (case hs => ((with_reducible apply q1); (all_goals first | exact RdH.row (by omega) | omega))); (case' hk => rintro _ h' n' ⟨rfl, rfl, rfl⟩)) | ((with_reducible first | apply zo1 | apply zo2 | apply o_guard rfl | apply x_cond | apply k_e1 rfl | apply k_e2 rfl | apply k_e0 rfl | apply k_e3 rfl | apply k_e4 rfl); (case he => exact ez5 f6 w6 w10 f80 hwl); (try case hok => exact ezO); all_goals try (intro hb; (try simp only [hbs, reduceCtorEq] at hb); try exact ezX)) | ((with_reducible apply o_undef rfl); (case hb => exact ez0)))
       all_goals exact sw_store (own := litP [65536 + (hs'.length : Int)]) hh (.inr ⟨n5, rfl, by omega, ez0⟩) (.inr ⟨n5, rfl, by omega⟩) (fun e => by injection e with e; injection e with e; omega) (by omega) (by omega) (ezB hkp) ez0
      ·(repeat' first | refine zcd ?_ | intro K' hK | (with_reducible refine zn hK ?_; clear hK) | (with_reducible refine x_drawnD (id := 19) [(0, 5)] (by kernel_rfl) fun K' hK => ?_) | ((with_reducible apply d_nil); (case hp => exact ezP); (case' hx => (refine hK _ _ _ ?_; clear hK))) | ((with_reducible apply d_pure w_none); (case hp => exact rfl); (case hc => exact rfl); (case he => exact ez3 f80 w6 w10)) | ((with_reducible apply d_eff w_none); (case hc => exact rfl); (case he => exact ez3 f80 w6 w10); (case hok => exact ezO)) | ((with_reducible apply d_guard rfl); (case hb => exact ez3 f80 w6 w10); (case' h1 => intro hb; (try simp only [hbs, reduceCtorEq] at hb); try exact ezX); (case' h2 => intro hb; (try simp only [hbs, reduceCtorEq] at hb); try exact ezX)) | ((with_reducible apply o_callF (g := 28) w_none); (case ha => exact ez0); (case hs => (exact qp _)); (case' hk => rintro _ h' n' ⟨rfl, rfl, rfl⟩)) | ((with_reducible apply d_callS (g := 82) w_none); (case hs0 => exact rfl); (case ha => exact ez0); (case hs => ((with_reducible apply q3); (all_goals first | exact RdH.row (by omega) | omega))); (case' hk => rintro _ h' n' ⟨rfl, rfl, rfl⟩)) | ((with_reducible apply d_callN (g := 82) w_none); (case hs0 => exact rfl); (case ha => exact ez0); (case hs => ((with_reducible apply q3); (all_goals first | exact RdH.row (by omega) | omega))); (case' hk => rintro _ h' n' ⟨rfl, rfl, rfl⟩)) | ((with_reducible first | apply zo1 | apply zo2 | apply o_guard rfl | apply x_cond | apply k_e1 rfl | apply k_e2 rfl | apply k_e0 rfl | apply k_e3 rfl | apply k_e4 rfl); (case he => exact ez5 f6 w6 w10 f80 hwl); (try case hok => exact ezO); all_goals try (intro hb; (try simp only [hbs, reduceCtorEq] at hb); try exact ezX)) | ((with_reducible apply o_undef rfl); (case hb => exact ez0)))
       all_goals exact sw_store (own := litP [65536 + (hs'.length : Int), (l.length : Int), (l.length : Int)]) hh (.inr ⟨n5, rfl, by omega, ez0⟩) (.inr ⟨n5, rfl, by omega⟩) (fun e => by injection e with e; injection e with e; omega) (by omega) (by omega) (ezB hkp) ez0
     ·rw [if_neg hal] at hR
      obtain ⟨E, hE⟩ : ∃ E, allocE 65536 hs'.length acc.length lim = E := ⟨_, rfl⟩
      have qp : ∀ (cl : Nat), SQ k (d + 6) cl 28 [.agg ⟨[.int .u64 65536, .slice A' hs'.length c']⟩, .slice (some ⟨id, 0, none⟩) acc.length acc.length, .int .i64 lim] h5 n5 fun v h' n' => v = .tuple ⟨[.agg ⟨[.int .u64 0, .slice none 0 0]⟩, .int .u64 0, .int .i64 E]⟩ ∧ h5 = h' ∧ n5 = n' := fun cl =>
       (bput_err k (d + 1) cl h5 n5 65536 A' hs'.length c' (some ⟨id, 0, none⟩) acc.length acc.length lim (by omega) (by omega) hal).mono fun _ _ _ hp => ⟨by rw [hp.1, hE], hp.2.1.symm, hp.2.2.symm⟩
      rw [hE] at hal hR
      rw [hR]
      have w10 := rwOf_row r10
      (repeat' first | refine zcd ?_ | intro K' hK | (with_reducible refine zn hK ?_; clear hK) | ((with_reducible apply o_callF (g := 28) w_none); (case ha => exact ez0); (case hs => (exact qp _)); (case' hk => rintro _ h' n' ⟨rfl, rfl, rfl⟩)) | ((with_reducible first | apply zo1 | apply zo2 | apply o_guard rfl | apply x_cond | apply k_e1 rfl | apply k_e2 rfl | apply k_e0 rfl | apply k_e3 rfl | apply k_e4 rfl); (case he => exact ez2 f6 w10); (try case hok => exact ezO); all_goals try (intro hb; (try simp only [hbs, reduceCtorEq] at hb); try exact ezX)) | ((with_reducible apply o_undef rfl); (case hb => exact ez0)))
      all_goals exact sw_sno hal
end Go.Proofs.Ytcpkdjikembpnaa.Ce
namespace Go.Proofs.Ytcpkdjikembpnaa.Ce
open Go.RowKit
theorem fitP_inv {T : List Tp} {N t dp : Nat} {kd i : Int} {s : List UInt8} {l : List V} {c : Bool} {x : Tp} (hx : T[t]? = some x) (hf : fitP T (N + 1) t (.mk kd i s l c) dp = true) :
  kd = x.kd ∧ c = false ∧ (kd = 1 → (i = 0 ∨ i = 1) ∧ s = [] ∧ l = []) ∧ (kd = 2 → s = [] ∧ l = []) ∧ (kd = 3 → i = 0 ∧ l = [] ∧ s.length ≤ 64) ∧
  ((kd = 4 ∨ kd = 7) → i = 0 ∧ s = [] ∧ l.length ≤ 16 ∧ (kd = 4 → l.length ≤ 1) ∧ ∀ e ∈ l, 0 < dp ∧ fitP T N x.el.toNat e (dp - 1) = true) ∧
  ((kd ≠ 1 ∧ kd ≠ 2 ∧ kd ≠ 3 ∧ kd ≠ 4 ∧ kd ≠ 7) → i = 0 ∧ s = [] ∧ l.length = (prtT x).length ∧ ∀ (j : Nat) (hj : j < (prtT x).length) (hj2 : j < l.length), fitP T N ((prtT x)[j]).toNat l[j] dp = true) := by
 rw [fitP, hx] at hf
 dsimp only at hf
 by_cases e0 : kd ≠ x.kd ∨ c = true
 ·rw [if_pos e0] at hf; cases hf
 rw [if_neg e0] at hf
 have e1 : kd = x.kd := Classical.byContradiction fun h => e0 (.inl h)
 have e2 : c = false := by cases c with | false => rfl | true => exact absurd (.inr rfl) e0
 refine ⟨e1, e2, ?_⟩
 clear e0
 by_cases k1 : kd = 1
 ·subst k1
  rw [if_pos rfl] at hf
  simp only [Bool.and_eq_true, decide_eq_true_eq] at hf
  exact ⟨fun _ => ⟨hf.2.2, hf.1, List.length_eq_zero_iff.1 hf.2.1⟩, (fun h => by omega), (fun h => by omega), (fun h => by omega), fun h => absurd rfl h.1⟩
 rw [if_neg k1] at hf
 by_cases k2 : kd = 2
 ·subst k2
  rw [if_pos rfl] at hf
  simp only [Bool.and_eq_true, decide_eq_true_eq] at hf
  exact ⟨(fun h => by omega), (fun _ => ⟨hf.1, List.length_eq_zero_iff.1 hf.2⟩), (fun h => by omega), (fun h => by omega), fun h => absurd rfl h.2.1⟩
 rw [if_neg k2] at hf
 by_cases k3 : kd = 3
 ·subst k3
  rw [if_pos rfl] at hf
  simp only [Bool.and_eq_true, decide_eq_true_eq] at hf
  exact ⟨(fun h => by omega), (fun h => by omega), (fun _ => ⟨hf.1, List.length_eq_zero_iff.1 hf.2.1, hf.2.2⟩), (fun h => by omega), fun h => absurd rfl h.2.2.1⟩
 rw [if_neg k3] at hf
 by_cases k4 : kd = 4
 ·subst k4
  rw [if_pos rfl] at hf
  simp only [Bool.and_eq_true, decide_eq_true_eq, List.all_eq_true] at hf
  exact ⟨(fun h => by omega), (fun h => by omega), (fun h => by omega), (fun _ => ⟨hf.1, hf.2.1, by omega, fun _ => hf.2.2.1, fun e he => hf.2.2.2 e he⟩), fun h => absurd rfl h.2.2.2.1⟩
 rw [if_neg k4] at hf
 by_cases k7 : kd = 7
 ·subst k7
  rw [if_pos rfl] at hf
  simp only [Bool.and_eq_true, decide_eq_true_eq, List.all_eq_true] at hf
  exact ⟨(fun h => by omega), (fun h => by omega), (fun h => by omega), (fun _ => ⟨hf.1, hf.2.1, hf.2.2.1, (fun h => by omega), fun e he => hf.2.2.2 e he⟩), fun h => absurd rfl h.2.2.2.2⟩
 rw [if_neg k7] at hf
 simp only [Bool.and_eq_true, decide_eq_true_eq, List.all_eq_true] at hf
 refine ⟨(fun h => by omega), (fun h => by omega), (fun h => by omega), (fun h => by omega), fun _ => ⟨hf.1, hf.2.1, hf.2.2.1, fun j hj hj2 => ?_⟩⟩
 exact hf.2.2.2 ((prtT x)[j], l[j]) (List.mem_iff_getElem.2 ⟨j, by rw [List.length_zip]; omega, by rw [List.getElem_zip]⟩)
theorem catP_inv (g : List UInt8 → Nat → V → Except Int (List UInt8 × List UInt8)) (I : List UInt8 → Prop) (Q : Int × V → List UInt8 → Prop) : ∀ (l : List (Int × V)) (hs : List UInt8) (a : List UInt8 × List (List UInt8)), I hs →
  (∀ p ∈ l, ∀ hs r, I hs → g hs p.1.toNat p.2 = .ok r → I r.1 ∧ Q p r.2) → catP g hs l = .ok a → I a.1 ∧ a.2.length = l.length ∧ ∀ (j : Nat) (hj : j < l.length) (hj2 : j < a.2.length), Q l[j] a.2[j]
 | [], hs, a, hI, _, h => by
  unfold catP at h
  injection h with h
  subst h
  exact ⟨hI, rfl, fun j hj => absurd hj (Nat.not_lt_zero _)⟩
 | q :: l, hs, a, hI, hst, h => by
  unfold catP at h
  cases hg : g hs q.1.toNat q.2 with
  | error e => rw [hg] at h; cases h
  | ok v =>
   rw [hg] at h
   dsimp only at h
   have h1 := hst q (List.mem_cons_self ..) hs v hI hg
   cases hl : catP g v.1 l with
   | error e => rw [hl] at h; cases h
   | ok l2 =>
    rw [hl] at h
    injection h with h
    subst h
    obtain ⟨h2, h3, h4⟩ := catP_inv g I Q l v.1 l2 h1.1 (fun p hp => hst p (List.mem_cons_of_mem _ hp)) hl
    refine ⟨h2, by simp only [List.length_cons, h3], fun j hj hj2 => ?_⟩
    cases j with
    | zero => exact h1.2
    | succ j => exact h4 j (by simpa using hj) (by simpa using hj2)
theorem placeP_len {m : Nat} : ∀ (l : List (Int × List UInt8)) (b : List UInt8), b.length = m → (∀ p ∈ l, p.1.toNat + p.2.length ≤ m) → (placeP b l).length = m
 | [], b, hb, _ => hb
 | p :: l, b, hb, h => by
  have h1 := h p (List.mem_cons_self ..)
  exact placeP_len l _ (by rw [put_length (by omega)]; exact hb) fun q hq => h q (List.mem_cons_of_mem _ hq)
theorem alloc0 {hs : Nat} {n lim : Int} (he : allocE 65536 hs n lim = 0) : 0 ≤ n ∧ n ≤ 4096 ∧ hs % 8 = 0 ∧ hs ≤ 16384 ∧ lim ≤ 16384 ∧ hs + sizeI n ≤ lim := by
 unfold allocE at he
 by_cases h : chkB 65536 hs lim = 0
 ·rw [if_pos h] at he
  have := chkB_ok h
  by_cases h2 : n < 0 ∨ 4096 < n
  ·rw [if_pos h2] at he; omega
  ·rw [if_neg h2] at he
   by_cases h3 : lim < hs + sizeI n
   ·rw [if_pos h3] at he; omega
   ·omega
 ·rw [if_neg h] at he; exact absurd he h
theorem put_cap {hs ys : List UInt8} {lim : Int} (he : allocE 65536 hs.length ys.length lim = 0) : (putL hs ys).length ≤ 16384 := by
 have h1 := alloc0 he
 have h2 := sizeI_ge (ys.length : Int)
 rw [putL_length]
 omega
theorem litP_ptr (kd a m : Int) (h : kd = 4 ∨ kd = 7) : (litP (ptrP kd a m)).length = if kd = 4 then 8 else 24 := by
 rw [litP_length]
 unfold ptrP
 rcases h with rfl | rfl <;> rfl
theorem tgtP_ok {g : List UInt8 → Nat → V → Except Int (List UInt8 × List UInt8)} {lim : Int} {x : Tp} {hs : List UInt8} {l : List V} {r : List UInt8 × List UInt8} (h47 : x.kd = 4 ∨ x.kd = 7) (hhs : hs.length ≤ 20000) (h : tgtP g lim x hs l = .ok r) : r.2.length = (if x.kd = 4 then 8 else 24) ∧ r.1.length ≤ 20000 := by
 unfold tgtP at h
 by_cases hl : l = []
 ·rw [if_pos hl] at h
  injection h with h
  subst h
  exact ⟨litP_ptr _ _ _ h47, hhs⟩
 ·rw [if_neg hl] at h
  cases hc : catP g hs (l.map fun v => (x.el, v)) with
  | error e => rw [hc] at h; cases h
  | ok a =>
   rw [hc] at h
   dsimp only at h
   by_cases ha : allocE 65536 a.1.length a.2.flatten.length lim = 0
   ·rw [if_pos ha] at h
    injection h with h
    subst h
    have := put_cap ha
    exact ⟨litP_ptr _ _ _ h47, Nat.le_trans this (by omega)⟩
   ·rw [if_neg ha] at h; cases h
theorem storeP_at {T : List Tp} {lim : Int} {N : Nat} {hs : List UInt8} {t : Nat} {kd i : Int} {s : List UInt8} {l : List V} {c : Bool} {x : Tp} (hx : T[t]? = some x) : storeP T lim (N + 1) hs t (.mk kd i s l c) =
   if x.kd = 1 then .ok (hs, [UInt8.ofNat i.toNat])
   else if x.kd = 2 then .ok (hs, litP [IntKind.wrap .u64 i])
   else if x.kd = 3 then (if s = [] then .ok (hs, litP [0, 0]) else if allocE 65536 hs.length s.length lim = 0 then .ok (putL hs s, litP [65536 + hs.length, s.length]) else .error (allocE 65536 hs.length s.length lim))
   else if x.kd = 4 ∨ x.kd = 7 then tgtP (storeP T lim N) lim x hs l
   else match catP (storeP T lim N) hs ((prtT x).zip l) with
    | .error e => .error e
    | .ok a => .ok (a.1, placeP (List.replicate (sizT T t).toNat 0) ((offsT T x).zip a.2)) := by
 rw [storeP, hx]
 rfl
theorem storeP_ok {T : List Tp} {lim : Int} : ∀ (N t : Nat) (v : V) (dp : Nat) (hs : List UInt8), OkV T t → fitP T N t v dp = true → hs.length ≤ 20000 → ∀ r, storeP T lim N hs t v = .ok r → r.2.length = (sizT T t).toNat ∧ r.1.length ≤ 20000 := by
 intro N
 induction N with
 | zero => intro t v dp hs _ hf; rw [fitP] at hf; cases hf
 | succ N ih =>
 intro t v dp hs ho hf hhs r hr
 obtain ⟨kd, i, s, l, c⟩ := v
 have hx := List.getElem?_eq_getElem ho.lt
 rw [storeP_at hx] at hr
 obtain ⟨e1, e2, f1, f2, f3, f47, f56⟩ := fitP_inv hx hf
 by_cases k1 : (T[t]'ho.lt).kd = 1
 ·rw [if_pos k1] at hr
  injection hr with hr
  subst hr
  exact ⟨by rw [ho.siz1 k1]; rfl, hhs⟩
 rw [if_neg k1] at hr
 by_cases k2 : (T[t]'ho.lt).kd = 2
 ·rw [if_pos k2] at hr
  injection hr with hr
  subst hr
  exact ⟨by rw [ho.siz24 (.inl k2), litP_length]; rfl, hhs⟩
 rw [if_neg k2] at hr
 by_cases k3 : (T[t]'ho.lt).kd = 3
 ·rw [if_pos k3] at hr
  have hz := ho.siz3 k3
  by_cases hs0 : s = []
  ·rw [if_pos hs0] at hr
   injection hr with hr
   subst hr
   exact ⟨by rw [hz, litP_length]; rfl, hhs⟩
  ·rw [if_neg hs0] at hr
   by_cases ha : allocE 65536 hs.length s.length lim = 0
   ·rw [if_pos ha] at hr
    injection hr with hr
    subst hr
    have := put_cap ha
    exact ⟨by rw [hz, litP_length]; rfl, Nat.le_trans this (by omega)⟩
   ·rw [if_neg ha] at hr; cases hr
 rw [if_neg k3] at hr
 by_cases k47 : (T[t]'ho.lt).kd = 4 ∨ (T[t]'ho.lt).kd = 7
 ·rw [if_pos k47] at hr
  have h1 := tgtP_ok k47 hhs hr
  refine ⟨?_, h1.2⟩
  rw [h1.1]
  rcases k47 with k4 | k7
  ·rw [if_pos k4, ho.siz24 (.inr k4)]; rfl
  ·rw [if_neg (by omega), ho.siz7 k7]; rfl
 rw [if_neg k47] at hr
 have h5 := f56 ⟨by omega, by omega, by omega, by omega, by omega⟩
 have hpl := prt_len ho
 cases hc : catP (storeP T lim N) hs ((prtT (T[t]'ho.lt)).zip l) with
 | error e => rw [hc] at hr; cases hr
 | ok a =>
  rw [hc] at hr
  injection hr with hr
  subst hr
  have hin := catP_inv (storeP T lim N) (fun hs => hs.length ≤ 20000) (fun p ys => ys.length = (sizT T p.1.toNat).toNat) _ hs a hhs (fun p hp hs2 r hI hg => by
   obtain ⟨j, hj, rfl⟩ := List.getElem_of_mem hp
   rw [List.length_zip] at hj
   rw [List.getElem_zip] at hg ⊢
   obtain ⟨y, hy, -, hoy, -⟩ := prt_in ho (q := j) (by omega) (by omega)
   dsimp only at hg ⊢
   rw [hy, Int.toNat_natCast] at hg ⊢
   have hfj := h5.2.2.2 j (by omega) (by omega)
   rw [hy, Int.toNat_natCast] at hfj
   exact (ih y l[j] dp hs2 hoy hfj hI r hg).symm) hc
  refine ⟨?_, hin.1⟩
  refine placeP_len _ _ (by simp) fun p hp => ?_
  obtain ⟨j, hj, rfl⟩ := List.getElem_of_mem hp
  rw [List.length_zip] at hj
  rw [List.getElem_zip]
  have hl2 := hin.2.1
  rw [List.length_zip] at hl2
  obtain ⟨y, hy, -, hoy, h0, h1⟩ := prt_in ho (q := j) (by omega) (by omega)
  have h3 := hin.2.2 j (by rw [List.length_zip]; omega) (by omega)
  rw [List.getElem_zip] at h3
  dsimp only at h3 ⊢
  rw [hy, Int.toNat_natCast] at h3
  have := hoy.bnd
  omega
end Go.Proofs.Ytcpkdjikembpnaa.Ce
