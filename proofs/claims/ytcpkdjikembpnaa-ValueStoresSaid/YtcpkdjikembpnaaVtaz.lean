/- Parts of the proof of ValueStores: Ik, Me, Hd. No condition of its own. -/
import Derived.Test.YtcpkdjikembpnaaVtam
import Derived.Test.YtcpkdjikembpnaaVtar
import Derived.Test.YtcpkdjikembpnaaVtat
import Derived.Test.YtcpkdjikembpnaaVtau
import Derived.Test.YtcpkdjikembpnaaVtax
import Derived.Test.YtcpkdjikembpnaaVtay
set_option linter.unusedVariables false
set_option linter.unusedSimpArgs false
set_option maxRecDepth 100000
set_option maxHeartbeats 4000000
namespace Go.Proofs.Ytcpkdjikembpnaa.Ce
open Go.RowKit
noncomputable def storeR (T : List Tp) (lim : Int) (N : Nat) (b : Int) (hs : List UInt8) (t : Int) (v : V) : Except Int (List UInt8 × List UInt8) :=
 if okE T t ≠ 0 then .error (okE T t) else if chkB b hs.length lim ≠ 0 then .error (chkB b hs.length lim) else if fitP T N t.toNat v 3 = true then storeP T lim N hs t.toNat v else .error 30
def StN (r : Except Int (List UInt8 × List UInt8)) (h : Hp) (n : Nat) (v : Value) (h' : Hp) (n' : Nat) : Prop := match r with
 | .error e => v = .tuple ⟨[.agg ⟨[.int .u64 0, .slice none 0 0]⟩, .slice none 0 0, .int .i64 e]⟩ ∧ e ≠ 0 ∧ h = h' ∧ n = n'
 | .ok r => StV (.ok r) none h n v h' n'
theorem sw_sno2 {h h' : Hp} {n n' : Nat} {e : Int} (he : e ≠ 0) : kSweep h n (StN (.error e) h n) (.tuple ⟨[.agg ⟨[.int .u64 0, .slice none 0 0]⟩, .slice none 0 0, .int .i64 e]⟩) h' n' :=
 sw_flat rfl rfl ⟨rfl, he, rfl, rfl⟩
theorem roomS_2 {b : Int} {m : Nat} {lim : Int} : (roomS b m lim).2 = chkB b m lim := by
 unfold roomS
 split
 ·rename_i e; rw [e]
 ·rfl
variable (k d cl : Nat) (h : Hp) (n : Nat)
theorem clone_nil : SQ k (d + 1) cl 48 [.slice none 0 0] h n fun v h' n' => v = .slice none 0 0 ∧ h = h' ∧ n = n' := by
 refine enter Try.func48 (by kernel_rfl) rfl (by kernel_rfl) rfl rfl rfl ?_
 (repeat' first | refine zcd ?_ | intro K' hK | (with_reducible refine zn hK ?_; clear hK) | ((with_reducible apply o_apR (t := 27) apT27 w_none); (case hs => exact ez0); (case hy => exact ez0); (case hsrc => exact src_nil); (case hr => exact ez0); (case hc => rfl); (case hm => omega); (case hli => omega); (case hln => omega); (case hcs => simp)) | ((with_reducible first | apply zo1 | apply zo2 | apply o_guard rfl | apply x_cond | apply k_e1 rfl | apply k_e2 rfl | apply k_e0 rfl | apply k_e3 rfl | apply k_e4 rfl); (case he => exact ez0); (try case hok => exact ezO); all_goals try (intro hb; (try simp only [hbs, reduceCtorEq] at hb); try exact ezX)) | ((with_reducible apply o_undef rfl); (case hb => exact ez0)))
 all_goals exact sw_flat rfl rfl ⟨rfl, rfl, rfl⟩
theorem vstore_ev (hk : 30000 ≤ k) (TA : Option Addr) (T : List Tp) (tc : Nat) (hT : TabH h n TA T) (hS : ∀ t ∈ T, t.fs.length ≤ 20000) (hm : T.length ≤ 9223372036854775807) (lim : Int) (N : Nat) (t : Int) (v : V) (hb : Bd N v) (cs : List Value) (hv : VH h n v cs) (b : Int) (A : Option Addr) (c : Nat) (hs : List UInt8) (hr : RdH h n A (bv hs)) (hA : A = none → c = 0) (hA2 : A = none ∨ ∃ id off, A = some ⟨id, off, none⟩) (hhl : hs.length ≤ 20000) :
  SQ k (d + 5 * N + 12) cl 19 [.slice TA T.length tc, .agg ⟨[.int .u64 b, .slice A hs.length c]⟩, .int .i64 lim, .int .i64 t, .agg ⟨cs⟩] h n (StN (storeR T lim N b hs t v) h n) := by
 have qc := fun (h6 : Hp) (n6 : Nat) (hT6 : TabH h6 n6 TA T) => (vcheck_ev k (d + 5 * N + 1) n h6 n6 hk TA T tc hT6 hS hm t).mono (Φ' := fun v h' n' => (∃ z : Int, v = .tuple ⟨[.int .i64 z, .int .i64 (okE T t)]⟩) ∧ h6 = h' ∧ n6 = n') fun _ _ _ hp => ⟨hp.1, hp.2.1.symm, hp.2.2.symm⟩
 rw [show d + 5 * N + 1 + 10 = d + 5 * N + 11 from rfl] at qc
 have qr := fun (h6 : Hp) (n6 : Nat) => (room_ev k (d + 5 * N + 9) n h6 n6 b A hs.length c lim (by omega)).mono (Φ' := fun v h' n' => (∃ z : Int, v = .tuple ⟨[.int .i64 z, .int .i64 (chkB b hs.length lim)]⟩) ∧ h6 = h' ∧ n6 = n') fun _ _ _ hp => ⟨⟨(roomS b hs.length lim).1, hp.1.trans (by rw [roomS_2])⟩, hp.2.1.symm, hp.2.2.symm⟩
 rw [show d + 5 * N + 9 + 2 = d + 5 * N + 11 from rfl] at qr
 have qv := fun (h6 : Hp) (n6 : Nat) (hT6 : TabH h6 n6 TA T) (hv6 : VH h6 n6 v cs) => vchk_ev k d n h6 n6 hk TA T tc hT6 hS hm N t v hb cs hv6
 obtain ⟨A1, cc1, rfl, -, -⟩ := hv.cut
 unfold chkV at qv
 unfold storeR
 by_cases hE : okE T t = 0
 ·obtain ⟨x, rfl, ho⟩ := okE_0 hE
  rw [if_neg (not_not_intro hE)]
  simp only [hE, if_neg (not_not_intro (rfl : (0 : Int) = 0)), Int.toNat_natCast] at qc qv ⊢
  by_cases hB : chkB b hs.length lim = 0
  ·rw [if_neg (not_not_intro hB)]
   simp only [hB] at qr
   obtain ⟨rfl, -⟩ := chkB_ok hB
   by_cases hF : fitP T N x v 3 = true
   ·rw [if_pos hF]
    simp only [if_pos hF] at qv
    have qs := fun (cl : Nat) (h6 : Hp) (n6 : Nat) (A c) (cs : List Value) (hT6 : TabH h6 n6 TA T) (hv6 : VH h6 n6 v cs) (hh6 : HR h6 n6 A c hs) => store_ev k hk TA T tc hS hm lim N x v 3 ho hF (d + 3 * N) cl h6 n6 A c hs cs hT6 hv6 hh6 hhl
    rw [show d + 3 * N + 2 * N + 11 = d + 5 * N + 11 from by omega] at qs
    rcases hA2 with rfl | ⟨id, off, rfl⟩
    ·obtain rfl : c = 0 := hA rfl
     have hs0 : hs = [] := by
      rcases hr.2 with e | ⟨id, j, e, -⟩
      ·have := congrArg List.length e
       rw [bv_length] at this
       exact List.length_eq_zero_iff.1 this
      ·cases e
     subst hs0
     have qs : ∀ (cl : Nat) (h6 : Hp) (n6 : Nat) (cs : List Value), TabH h6 n6 TA T → VH h6 n6 v cs → SQ k (d + 5 * N + 11) cl 49 [.slice TA T.length tc, .agg ⟨[.int .u64 65536, .slice none 0 0]⟩, .int .i64 lim, .int .i64 x, .agg ⟨cs⟩] h6 n6 (StV (storeP T lim N [] x v) none h6 n6) := fun cl h6 n6 cs hT6 hv6 => qs cl h6 n6 none 0 cs hT6 hv6 (.inl ⟨rfl, rfl, rfl⟩)
     have qk := fun (h6 : Hp) (n6 : Nat) => clone_nil k (d + 5 * N + 10) n h6 n6
     obtain ⟨res, hres⟩ : ∃ res, storeP T lim N [] x v = res := ⟨_, rfl⟩
     rw [hres] at qs ⊢
     cases res with
     | error e =>
      refine enter Try.func19 (by kernel_rfl) rfl (by kernel_rfl) rfl rfl rfl ?_
      (repeat' first | refine zcd ?_ | intro K' hK | (with_reducible refine zn hK ?_; clear hK) | ((with_reducible apply o_callF (g := 37) w_none); (case ha => exact ez0); (case hs => ((with_reducible apply qc); exact ezT hT)); (case' hk => rintro _ h' n' ⟨⟨z, rfl⟩, rfl, rfl⟩)) | ((with_reducible apply o_callF (g := 47) w_none); (case ha => exact ez0); (case hs => (exact qr _ _)); (case' hk => rintro _ h' n' ⟨⟨z2, rfl⟩, rfl, rfl⟩)) | ((with_reducible apply o_callF (g := 21) w_none); (case ha => exact ez0); (case hs => ((with_reducible apply qv); (all_goals first | exact ezT hT | ((refine VH.more (B := n) ?_ (by omega)); (repeat' first | exact hv | refine VH.set ?_ (by omega) _))))); (case' hk => rintro _ h' n' ⟨rfl, rfl, rfl⟩)) | ((with_reducible apply o_callF (g := 48) w_none); (case ha => exact ez0); (case hs => (exact qk _ _)); (case' hk => rintro _ h' n' ⟨rfl, rfl, rfl⟩)) | ((with_reducible apply o_callF (g := 49) w_none); (case ha => exact ez0); (case hs => ((with_reducible apply qs); (all_goals first | ((refine TabH.more (B := n) ?_ (by omega)); (repeat' first | exact hT | refine TabH.set ?_ (by omega) _)) | ((refine VH.more (B := n) ?_ (by omega)); (repeat' first | exact hv | refine VH.set ?_ (by omega) _)) | exact .inl ⟨rfl, rfl, rfl⟩))); (case' hk => rintro _ h' n' ⟨O, m, c2, rfl, he0, hn6, hk6, -⟩)) | ((with_reducible first | apply zo1 | apply zo2 | apply o_guard rfl | apply x_cond | apply k_e1 rfl | apply k_e2 rfl | apply k_e0 rfl | apply k_e3 rfl | apply k_e4 rfl); (case he => exact ez0); (try case hok => exact ezO); all_goals try (intro hb; (try simp only [hbs, reduceCtorEq] at hb); try exact ezX)) | ((with_reducible apply o_undef rfl); (case hb => exact ez0)))
      have r10 : rowOf h' (n + 1 + 1) = some (29, false, [.int .u64 0, .slice none 0 0]) := (by rw [rowOf_keep (hk6 _ (by omega))]; exact ez0)
      have w10 := rwOf_row r10
      (repeat' first | refine zcd ?_ | intro K' hK | (with_reducible refine zn hK ?_; clear hK) | fail | ((with_reducible first | apply zo1 | apply zo2 | apply o_guard rfl | apply x_cond | apply k_e1 rfl | apply k_e2 rfl | apply k_e0 rfl | apply k_e3 rfl | apply k_e4 rfl); (case he => exact ez1 w10); (try case hok => exact ezO); all_goals try (intro hb; (try simp only [hbs, reduceCtorEq] at hb); try exact ezX)) | ((with_reducible apply o_undef rfl); (case hb => exact ez0)))
      all_goals exact sw_sno2 he0
     | ok r =>
      obtain ⟨hs2, own⟩ := r
      refine enter Try.func19 (by kernel_rfl) rfl (by kernel_rfl) rfl rfl rfl ?_
      (repeat' first | refine zcd ?_ | intro K' hK | (with_reducible refine zn hK ?_; clear hK) | ((with_reducible apply o_callF (g := 37) w_none); (case ha => exact ez0); (case hs => ((with_reducible apply qc); exact ezT hT)); (case' hk => rintro _ h' n' ⟨⟨z, rfl⟩, rfl, rfl⟩)) | ((with_reducible apply o_callF (g := 47) w_none); (case ha => exact ez0); (case hs => (exact qr _ _)); (case' hk => rintro _ h' n' ⟨⟨z2, rfl⟩, rfl, rfl⟩)) | ((with_reducible apply o_callF (g := 21) w_none); (case ha => exact ez0); (case hs => ((with_reducible apply qv); (all_goals first | exact ezT hT | ((refine VH.more (B := n) ?_ (by omega)); (repeat' first | exact hv | refine VH.set ?_ (by omega) _))))); (case' hk => rintro _ h' n' ⟨rfl, rfl, rfl⟩)) | ((with_reducible apply o_callF (g := 48) w_none); (case ha => exact ez0); (case hs => (exact qk _ _)); (case' hk => rintro _ h' n' ⟨rfl, rfl, rfl⟩)) | ((with_reducible apply o_callF (g := 49) w_none); (case ha => exact ez0); (case hs => ((with_reducible apply qs); (all_goals first | ((refine TabH.more (B := n) ?_ (by omega)); (repeat' first | exact hT | refine TabH.set ?_ (by omega) _)) | ((refine VH.more (B := n) ?_ (by omega)); (repeat' first | exact hv | refine VH.set ?_ (by omega) _)) | exact .inl ⟨rfl, rfl, rfl⟩))); (case' hk => rintro _ h' n' ⟨A3, c3, bid, rfl, hr3, ho3, hne3, hb1, hb2, hb3, hn6, hk6⟩)) | ((with_reducible first | apply zo1 | apply zo2 | apply o_guard rfl | apply x_cond | apply k_e1 rfl | apply k_e2 rfl | apply k_e0 rfl | apply k_e3 rfl | apply k_e4 rfl); (case he => exact ez0); (try case hok => exact ezO); all_goals try (intro hb; (try simp only [hbs, reduceCtorEq] at hb); try exact ezX)) | ((with_reducible apply o_undef rfl); (case hb => exact ez0)))
      have r10 : rowOf h' (n + 1 + 1) = some (29, false, [.int .u64 0, .slice none 0 0]) := (by rw [rowOf_keep (hk6 _ (by omega))]; exact ez0)
      have w10 := rwOf_row r10
      have hA3 : A3 = none ∨ ∃ id, A3 = some ⟨id, 0, none⟩ ∧ n + 1 + 1 < id := by
       rcases ho3 with e | ⟨id, e, hid⟩
       ·exact .inl e
       ·exact .inr ⟨id, e, by omega⟩
      have hold : ∀ b, A3 = some ⟨b, 0, none⟩ → b < n' ∧ n + 1 + 1 < b := fun b hb => ⟨hr3.old b hb, by
       rcases hA3 with e | ⟨id, e, hid⟩
       ·rw [e] at hb; cases hb
       ·rw [hb] at e
        injection e with e
        injection e with e
        omega⟩
      (repeat' first | refine zcd ?_ | intro K' hK | (with_reducible refine zn hK ?_; clear hK) | fail | ((with_reducible first | apply zo1 | apply zo2 | apply o_guard rfl | apply x_cond | apply k_e1 rfl | apply k_e2 rfl | apply k_e0 rfl | apply k_e3 rfl | apply k_e4 rfl); (case he => exact ez1 w10); (try case hok => exact ezO); all_goals try (intro hb; (try simp only [hbs, reduceCtorEq] at hb); try exact ezX)) | ((with_reducible apply o_undef rfl); (case hb => exact ez0)))
      exact sw_store (A := none) (c := 0) (hs := []) (.inl ⟨rfl, rfl, rfl⟩) (hr3.at_ (by omega) (fun b hb => by have := hold b hb; (repeat rw [Hp.get_ne _ _ (by omega)]))) (hA3.imp (fun e => e) fun ⟨id, e, hid⟩ => ⟨id, e, by omega⟩) hne3 (by omega) (by omega) (fun b hb => by (repeat rw [Hp.get_ne _ _ (by omega)]); rw [hk6 _ (by omega)]; (repeat rw [Hp.get_ne _ _ (by omega)])) (ezW hb3)
    ·have qk := fun (h6 : Hp) (n6 : Nat) (hr6 : RdH h6 n6 (some ⟨id, off, none⟩) (bv hs)) => (clone_ev k (d + 5 * N + 10) n h6 n6 id off hs c hr6 (by omega)).mono (Φ' := fun v h' n' => v = .slice (some ⟨n6, 0, none⟩) hs.length hs.length ∧ h6.set n6 (.row 5 false (bv hs)) = h' ∧ n6 + 1 = n') fun _ _ _ hp => ⟨hp.1, hp.2.1.symm, hp.2.2.symm⟩
     rw [show d + 5 * N + 10 + 1 = d + 5 * N + 11 from rfl] at qk
     obtain ⟨res, hres⟩ : ∃ res, storeP T lim N hs x v = res := ⟨_, rfl⟩
     rw [hres] at qs ⊢
     cases res with
     | error e =>
      refine enter Try.func19 (by kernel_rfl) rfl (by kernel_rfl) rfl rfl rfl ?_
      (repeat' first | refine zcd ?_ | intro K' hK | (with_reducible refine zn hK ?_; clear hK) | ((with_reducible apply o_callF (g := 37) w_none); (case ha => exact ez0); (case hs => ((with_reducible apply qc); exact ezT hT)); (case' hk => rintro _ h' n' ⟨⟨z, rfl⟩, rfl, rfl⟩)) | ((with_reducible apply o_callF (g := 47) w_none); (case ha => exact ez0); (case hs => (exact qr _ _)); (case' hk => rintro _ h' n' ⟨⟨z2, rfl⟩, rfl, rfl⟩)) | ((with_reducible apply o_callF (g := 21) w_none); (case ha => exact ez0); (case hs => ((with_reducible apply qv); (all_goals first | exact ezT hT | ((refine VH.more (B := n) ?_ (by omega)); (repeat' first | exact hv | refine VH.set ?_ (by omega) _))))); (case' hk => rintro _ h' n' ⟨rfl, rfl, rfl⟩)) | ((with_reducible apply o_callF (g := 48) w_none); (case ha => exact ez0); (case hs => ((with_reducible apply qk); exact ezD hr)); (case' hk => rintro _ h' n' ⟨rfl, rfl, rfl⟩)) | ((with_reducible apply o_callF (g := 49) w_none); (case ha => exact ez0); (case hs => ((with_reducible apply qs); (all_goals first | ((refine TabH.more (B := n) ?_ (by omega)); (repeat' first | exact hT | refine TabH.set ?_ (by omega) _)) | ((refine VH.more (B := n) ?_ (by omega)); (repeat' first | exact hv | refine VH.set ?_ (by omega) _)) | exact .inr ⟨_, rfl, by omega, ez0⟩))); (case' hk => rintro _ h' n' ⟨O, m, c2, rfl, he0, hn6, hk6, -⟩)) | ((with_reducible first | apply zo1 | apply zo2 | apply o_guard rfl | apply x_cond | apply k_e1 rfl | apply k_e2 rfl | apply k_e0 rfl | apply k_e3 rfl | apply k_e4 rfl); (case he => exact ez0); (try case hok => exact ezO); all_goals try (intro hb; (try simp only [hbs, reduceCtorEq] at hb); try exact ezX)) | ((with_reducible apply o_undef rfl); (case hb => exact ez0)))
      have r10 : rowOf h' (n + 1 + 1) = some (29, false, [.int .u64 0, .slice none 0 0]) := (by rw [rowOf_keep (hk6 _ (by omega))]; exact ez0)
      have w10 := rwOf_row r10
      (repeat' first | refine zcd ?_ | intro K' hK | (with_reducible refine zn hK ?_; clear hK) | fail | ((with_reducible first | apply zo1 | apply zo2 | apply o_guard rfl | apply x_cond | apply k_e1 rfl | apply k_e2 rfl | apply k_e0 rfl | apply k_e3 rfl | apply k_e4 rfl); (case he => exact ez1 w10); (try case hok => exact ezO); all_goals try (intro hb; (try simp only [hbs, reduceCtorEq] at hb); try exact ezX)) | ((with_reducible apply o_undef rfl); (case hb => exact ez0)))
      all_goals exact sw_sno2 he0
     | ok r =>
      obtain ⟨hs2, own⟩ := r
      refine enter Try.func19 (by kernel_rfl) rfl (by kernel_rfl) rfl rfl rfl ?_
      (repeat' first | refine zcd ?_ | intro K' hK | (with_reducible refine zn hK ?_; clear hK) | ((with_reducible apply o_callF (g := 37) w_none); (case ha => exact ez0); (case hs => ((with_reducible apply qc); exact ezT hT)); (case' hk => rintro _ h' n' ⟨⟨z, rfl⟩, rfl, rfl⟩)) | ((with_reducible apply o_callF (g := 47) w_none); (case ha => exact ez0); (case hs => (exact qr _ _)); (case' hk => rintro _ h' n' ⟨⟨z2, rfl⟩, rfl, rfl⟩)) | ((with_reducible apply o_callF (g := 21) w_none); (case ha => exact ez0); (case hs => ((with_reducible apply qv); (all_goals first | exact ezT hT | ((refine VH.more (B := n) ?_ (by omega)); (repeat' first | exact hv | refine VH.set ?_ (by omega) _))))); (case' hk => rintro _ h' n' ⟨rfl, rfl, rfl⟩)) | ((with_reducible apply o_callF (g := 48) w_none); (case ha => exact ez0); (case hs => ((with_reducible apply qk); exact ezD hr)); (case' hk => rintro _ h' n' ⟨rfl, rfl, rfl⟩)) | ((with_reducible apply o_callF (g := 49) w_none); (case ha => exact ez0); (case hs => ((with_reducible apply qs); (all_goals first | ((refine TabH.more (B := n) ?_ (by omega)); (repeat' first | exact hT | refine TabH.set ?_ (by omega) _)) | ((refine VH.more (B := n) ?_ (by omega)); (repeat' first | exact hv | refine VH.set ?_ (by omega) _)) | exact .inr ⟨_, rfl, by omega, ez0⟩))); (case' hk => rintro _ h' n' ⟨A3, c3, bid, rfl, hr3, ho3, hne3, hb1, hb2, hb3, hn6, hk6⟩)) | ((with_reducible first | apply zo1 | apply zo2 | apply o_guard rfl | apply x_cond | apply k_e1 rfl | apply k_e2 rfl | apply k_e0 rfl | apply k_e3 rfl | apply k_e4 rfl); (case he => exact ez0); (try case hok => exact ezO); all_goals try (intro hb; (try simp only [hbs, reduceCtorEq] at hb); try exact ezX)) | ((with_reducible apply o_undef rfl); (case hb => exact ez0)))
      have r10 : rowOf h' (n + 1 + 1) = some (29, false, [.int .u64 0, .slice none 0 0]) := (by rw [rowOf_keep (hk6 _ (by omega))]; exact ez0)
      have w10 := rwOf_row r10
      have hA3 : A3 = none ∨ ∃ id, A3 = some ⟨id, 0, none⟩ ∧ n + 1 + 1 < id := by
       rcases ho3 with e | ⟨id, e, hid⟩
       ·exact .inr ⟨_, e, by omega⟩
       ·exact .inr ⟨id, e, by omega⟩
      have hold : ∀ b, A3 = some ⟨b, 0, none⟩ → b < n' ∧ n + 1 + 1 < b := fun b hb => ⟨hr3.old b hb, by
       rcases hA3 with e | ⟨id, e, hid⟩
       ·rw [e] at hb; cases hb
       ·rw [hb] at e
        injection e with e
        injection e with e
        omega⟩
      (repeat' first | refine zcd ?_ | intro K' hK | (with_reducible refine zn hK ?_; clear hK) | fail | ((with_reducible first | apply zo1 | apply zo2 | apply o_guard rfl | apply x_cond | apply k_e1 rfl | apply k_e2 rfl | apply k_e0 rfl | apply k_e3 rfl | apply k_e4 rfl); (case he => exact ez1 w10); (try case hok => exact ezO); all_goals try (intro hb; (try simp only [hbs, reduceCtorEq] at hb); try exact ezX)) | ((with_reducible apply o_undef rfl); (case hb => exact ez0)))
      exact sw_store (A := none) (c := 0) (hs := []) (.inl ⟨rfl, rfl, rfl⟩) (hr3.at_ (by omega) (fun b hb => by have := hold b hb; (repeat rw [Hp.get_ne _ _ (by omega)]))) (hA3.imp (fun e => e) fun ⟨id, e, hid⟩ => ⟨id, e, by omega⟩) hne3 (by omega) (by omega) (fun b hb => by (repeat rw [Hp.get_ne _ _ (by omega)]); rw [hk6 _ (by omega)]; (repeat rw [Hp.get_ne _ _ (by omega)])) (ezW hb3)
   ·rw [if_neg hF]
    simp only [if_neg hF] at qv
    refine enter Try.func19 (by kernel_rfl) rfl (by kernel_rfl) rfl rfl rfl ?_
    (repeat' first | refine zcd ?_ | intro K' hK | (with_reducible refine zn hK ?_; clear hK) | ((with_reducible apply o_callF (g := 37) w_none); (case ha => exact ez0); (case hs => ((with_reducible apply qc); exact ezT hT)); (case' hk => rintro _ h' n' ⟨⟨z, rfl⟩, rfl, rfl⟩)) | ((with_reducible apply o_callF (g := 47) w_none); (case ha => exact ez0); (case hs => (exact qr _ _)); (case' hk => rintro _ h' n' ⟨⟨z2, rfl⟩, rfl, rfl⟩)) | ((with_reducible apply o_callF (g := 21) w_none); (case ha => exact ez0); (case hs => ((with_reducible apply qv); (all_goals first | exact ezT hT | ((refine VH.more (B := n) ?_ (by omega)); (repeat' first | exact hv | refine VH.set ?_ (by omega) _))))); (case' hk => rintro _ h' n' ⟨rfl, rfl, rfl⟩)) | ((with_reducible first | apply zo1 | apply zo2 | apply o_guard rfl | apply x_cond | apply k_e1 rfl | apply k_e2 rfl | apply k_e0 rfl | apply k_e3 rfl | apply k_e4 rfl); (case he => exact ez0); (try case hok => exact ezO); all_goals try (intro hb; (try simp only [hbs, reduceCtorEq] at hb); try exact ezX)) | ((with_reducible apply o_undef rfl); (case hb => exact ez0)))
    all_goals exact sw_sno2 (by decide)
  ·rw [if_pos hB]
   obtain ⟨E, hEe⟩ : ∃ E, chkB b hs.length lim = E := ⟨_, rfl⟩
   simp only [hEe] at qr hB ⊢
   refine enter Try.func19 (by kernel_rfl) rfl (by kernel_rfl) rfl rfl rfl ?_
   (repeat' first | refine zcd ?_ | intro K' hK | (with_reducible refine zn hK ?_; clear hK) | ((with_reducible apply o_callF (g := 37) w_none); (case ha => exact ez0); (case hs => ((with_reducible apply qc); exact ezT hT)); (case' hk => rintro _ h' n' ⟨⟨z, rfl⟩, rfl, rfl⟩)) | ((with_reducible apply o_callF (g := 47) w_none); (case ha => exact ez0); (case hs => (exact qr _ _)); (case' hk => rintro _ h' n' ⟨⟨z2, rfl⟩, rfl, rfl⟩)) | ((with_reducible apply o_callF (g := 21) w_none); (case ha => exact ez0); (case hs => ((with_reducible apply qv); (all_goals first | exact ezT hT | ((refine VH.more (B := n) ?_ (by omega)); (repeat' first | exact hv | refine VH.set ?_ (by omega) _))))); (case' hk => rintro _ h' n' ⟨rfl, rfl, rfl⟩)) | ((with_reducible first | apply zo1 | apply zo2 | apply o_guard rfl | apply x_cond | apply k_e1 rfl | apply k_e2 rfl | apply k_e0 rfl | apply k_e3 rfl | apply k_e4 rfl); (case he => exact ez0); (try case hok => exact ezO); all_goals try (intro hb; (try simp only [hbs, reduceCtorEq] at hb); try exact ezX)) | ((with_reducible apply o_undef rfl); (case hb => exact ez0)))
   all_goals exact sw_sno2 hB
 ·rw [if_pos hE]
  obtain ⟨E, hEe⟩ : ∃ E, okE T t = E := ⟨_, rfl⟩
  simp only [hEe] at qc hE ⊢
  refine enter Try.func19 (by kernel_rfl) rfl (by kernel_rfl) rfl rfl rfl ?_
  (repeat' first | refine zcd ?_ | intro K' hK | (with_reducible refine zn hK ?_; clear hK) | ((with_reducible apply o_callF (g := 37) w_none); (case ha => exact ez0); (case hs => ((with_reducible apply qc); exact ezT hT)); (case' hk => rintro _ h' n' ⟨⟨z, rfl⟩, rfl, rfl⟩)) | ((with_reducible apply o_callF (g := 47) w_none); (case ha => exact ez0); (case hs => (exact qr _ _)); (case' hk => rintro _ h' n' ⟨⟨z2, rfl⟩, rfl, rfl⟩)) | ((with_reducible apply o_callF (g := 21) w_none); (case ha => exact ez0); (case hs => ((with_reducible apply qv); (all_goals first | exact ezT hT | ((refine VH.more (B := n) ?_ (by omega)); (repeat' first | exact hv | refine VH.set ?_ (by omega) _))))); (case' hk => rintro _ h' n' ⟨rfl, rfl, rfl⟩)) | ((with_reducible first | apply zo1 | apply zo2 | apply o_guard rfl | apply x_cond | apply k_e1 rfl | apply k_e2 rfl | apply k_e0 rfl | apply k_e3 rfl | apply k_e4 rfl); (case he => exact ez0); (try case hok => exact ezO); all_goals try (intro hb; (try simp only [hbs, reduceCtorEq] at hb); try exact ezX)) | ((with_reducible apply o_undef rfl); (case hb => exact ez0)))
  all_goals exact sw_sno2 hE
end Go.Proofs.Ytcpkdjikembpnaa.Ce
namespace Go.Proofs.Ytcpkdjikembpnaa.Ce
open Go.RowKit
variable (k d cl : Nat) (h : Hp) (n : Nat)
theorem rtogr_ev (hk : 30000 ≤ k) (A : Option Addr) (T : List Tp) (c : Nat) (hT : TabH h n A T) (FA : Option Addr) (fs : List (List UInt8 × Int)) (fc : Nat) (hr : RdH h n FA (fv fs)) (hl2 : fs.length ≤ 20) (hC : ChkT T) (h0 : fs ≠ []) (hall : ∀ f ∈ fs, 0 ≤ f.2 ∧ f.2 < T.length) :
  SQ k (d + 4) cl 111 [.slice A T.length c, .slice FA fs.length fc] h n fun v h' n' => v = .tuple ⟨[.slice (some ⟨n, 0, none⟩) fs.length fs.length, .int .i64 (upI (layR 1000000 (eRow 1000000 T) fs).2.1 (layR 1000000 (eRow 1000000 T) fs).2.2), .int .i64 (layR 1000000 (eRow 1000000 T) fs).2.2]⟩ ∧ h' = h.set n (.row 3 false (iv (layR 1000000 (eRow 1000000 T) fs).1)) ∧ n' = n + 1 := by
 have hl := hC.1
 have hEl := eRow_length 1000000 T
 have hfp : 0 < fs.length := List.length_pos_iff.2 h0
 have h0T : 0 < T.length := by have := hall fs[0] (List.getElem_mem hfp); omega
 have hEok : ∀ p ∈ eRow 1000000 T, EOk 1000000 p := by have := eRow_ok (C := 1000000) (by omega) (by decide) hC.2.1 T.length (Nat.le_refl _); rwa [List.take_length] at this
 have hxo : ∀ f ∈ fs, 0 ≤ f.2 ∧ f.2 < (eRow 1000000 T).length := fun f hf => by rw [eRow_length]; exact hall f hf
 have hfo : FOk 1000000 (eRow 1000000 T) fs := fun f hf => Ext.at_mem hEok (hxo f hf).1 (hxo f hf).2
 refine enter Try.func111 (by kernel_rfl) rfl (by kernel_rfl) rfl rfl rfl ?_
 (repeat' first | refine zcd ?_ | intro K' hK | (with_reducible refine zn hK ?_; clear hK) | ((with_reducible apply o_callF (g := 75) w_none); (case ha => exact ez0); (case hs => ((with_reducible apply rsizes_ev (T := T)); (case hT => first | exact hT | exact hT.set (by omega) _); (case hF => exact hC.2.1); (all_goals first | exact hk | omega))); (case' hk => rintro _ h' n' ⟨rfl, rfl, rfl⟩)) | ((with_reducible apply o_callF (g := 105) w_none); (case ha => exact ez0); (case hs => (((with_reducible apply rtog_ev (E := eRow 1000000 T) (fs := fs)); (case hk => exact hk); (case hm => exact hEl.symm); (case h0 => exact h0); (case hs => exact RdH.ofRow (e := 3) (ro := false) (by simp (disch := first | assumption | omega | rfl | decide) only [go_sem, seval, tys]) (by omega)); (case ha => exact RdH.ofRow (e := 3) (ro := false) (by simp (disch := first | assumption | omega | rfl | decide) only [go_sem, seval, tys]) (by omega)); (case hr => exact ezD hr); (case hl2 => omega); (case hf => exact hfo); (case hx => exact hxo)))); (case' hk => rintro _ h' n' ⟨rfl, rfl, rfl⟩)) | ((with_reducible first | apply zo1 | apply zo2 | apply o_guard rfl | apply x_cond | apply k_e1 rfl | apply k_e2 rfl | apply k_e0 rfl | apply k_e3 rfl | apply k_e4 rfl); (case he => exact ez0); (try case hok => exact ezO); all_goals try (intro hb; (try simp only [hbs, reduceCtorEq] at hb); try exact ezX)) | ((with_reducible apply o_undef rfl); (case hb => exact ez0)))
 refine sw_row ezI rfl (by omega) ez0 (iv_idA _ _) ezR ?_
 exact ⟨rfl, rfl, rfl⟩
end Go.Proofs.Ytcpkdjikembpnaa.Ce
namespace Go.Proofs.Ytcpkdjikembpnaa.Ce
open Go.RowKit
theorem OkV.at_eq {T : List Tp} {t : Nat} (ho : OkV T t) : (eRow 1048576 T).at_ (t : Int) = (eRow 1000000 T).at_ (t : Int) := by
 have hl := ho.lt
 exact ((ext_rel ho.chk.2.1).2 (t : Int) (by omega) (by rw [eRow_length]; omega)).big.2 ho.bnd.2
theorem OkV.lay_eq {T : List Tp} {t : Nat} (ho : OkV T t) (h5 : (T[t]'ho.lt).kd = 5) : layR 1048576 (eRow 1048576 T) (T[t]'ho.lt).fs = layR 1000000 (eRow 1000000 T) (T[t]'ho.lt).fs := by
 have hfl := ho.fld h5
 have hfi := ho.chk.2.1 t ho.lt
 have hlen := fine_len hfi
 have := (lay_same (E := eRow 1048576 T) (G := eRow 1000000 T) (fs := (T[t]'ho.lt).fs) (fun f hf => by
  obtain ⟨y, e, -, hy⟩ := hfl f hf
  rw [e]
  exact hy.at_eq) (fun f hf => by
  obtain ⟨y, e, -, hy⟩ := hfl f hf
  rw [e]
  exact ⟨hy.bnd.1, hy.bnd.2, (sizT_ok hy.chk hy.lt).2.2⟩) (by omega) (T[t]'ho.lt).fs.length (Nat.le_refl _)).1
 rwa [List.take_length] at this
variable (k d cl : Nat) (h : Hp) (n : Nat)
theorem rsize15_ev (hk : 30000 ≤ k) (A : Option Addr) (T : List Tp) (c : Nat) (hT : TabH h n A T) (t : Nat) (ho : OkV T t) :
  SQ k (d + 5) cl 85 [.slice A T.length c, .int .i64 t] h n fun v h' n' => v = .int .i64 (sizT T t) ∧ h = h' ∧ n = n' := by
 have hl := ho.lt
 have q := (sized_ev k d n h n hk A T c hT ho.chk.1 ho.chk.2.1 t (by omega) (by omega)).mono (Φ' := fun v h' n' => v = .int .i64 (sizT T t) ∧ h = h' ∧ n = n') fun _ _ _ hp => ⟨by rw [hp.1, ← ho.at_eq]; rfl, hp.2.1.symm, hp.2.2.symm⟩
 refine enter Try.func85 (by kernel_rfl) rfl (by kernel_rfl) rfl rfl rfl ?_
 (repeat' first | refine zcd ?_ | intro K' hK | (with_reducible refine zn hK ?_; clear hK) | ((with_reducible apply o_callF (g := 112) w_none); (case ha => exact ez0); (case hs => (exact q)); (case' hk => rintro _ h' n' ⟨rfl, rfl, rfl⟩)) | ((with_reducible first | apply zo1 | apply zo2 | apply o_guard rfl | apply x_cond | apply k_e1 rfl | apply k_e2 rfl | apply k_e0 rfl | apply k_e3 rfl | apply k_e4 rfl); (case he => exact ez0); (try case hok => exact ezO); all_goals try (intro hb; (try simp only [hbs, reduceCtorEq] at hb); try exact ezX)) | ((with_reducible apply o_undef rfl); (case hb => exact ez0)))
 all_goals exact sw_flat rfl rfl ⟨rfl, rfl, rfl⟩
def PartsV (ps os : List Int) (h : Hp) (n : Nat) (v : Value) (h' : Hp) (n' : Nat) : Prop :=
 v = .tuple ⟨[.slice (some ⟨n, 0, none⟩) ps.length ps.length, .slice (some ⟨n + 1, 0, none⟩) os.length os.length]⟩ ∧ h' = (h.set n (.row 3 false (iv ps))).set (n + 1) (.row 3 false (iv os)) ∧ n' = n + 2
theorem rpt_fld (hk : 30000 ≤ k) (A : Option Addr) (T : List Tp) (c : Nat) (hT : TabH h n A T) (t : Nat) (ho : OkV T t) (h5 : (T[t]'ho.lt).kd = 5) :
  SQ k (d + 5) cl 79 [.slice A T.length c, .int .i64 t] h n (PartsV (prtT (T[t]'ho.lt)) (offsT T (T[t]'ho.lt)) h n) := by
 have hl := ho.lt
 have hfi := ho.chk.2.1 t ho.lt
 have hlen := fine_len hfi
 have hfd := hT.fd _ (List.getElem_mem ho.lt)
 have hfl := ho.fld h5
 have hs0 := fine_some0 hfi h5
 have eo : offsT T (T[t]'ho.lt) = (layR 1000000 (eRow 1000000 T) (T[t]'ho.lt).fs).1 := by unfold offsT; rw [if_pos h5, ho.lay_eq h5]
 have hol := offsT_len (T := T) h5
 have ep : prtT (T[t]'ho.lt) = (T[t]'ho.lt).fs.map (·.2) := by unfold prtT; rw [fine_ln hfi (by omega)]; simp
 obtain ⟨tid, toff, hTA, htid, -, t0, -, -, t3⟩ := hT.at_ ho.lt
 subst hTA
 have qt := fun (h6 : Hp) (n6 : Nat) (hT6 : TabH h6 n6 (some ⟨tid, toff, none⟩) T) (hr6 : RdH h6 n6 (T[t]'ho.lt).A (fv (T[t]'ho.lt).fs)) => rtogr_ev k d n h6 n6 hk (some ⟨tid, toff, none⟩) T c hT6 (T[t]'ho.lt).A (T[t]'ho.lt).fs (T[t]'ho.lt).c hr6 (by omega) ho.chk (fun e => by rw [e] at hs0; exact absurd hs0 (by simp)) (fun f hf => by obtain ⟨y, e, -, hy⟩ := hfl f hf; have := hy.lt; omega)
 unfold PartsV
 rw [← eo] at qt
 obtain ⟨X, hX⟩ : ∃ X, T[t]'ho.lt = X := ⟨_, rfl⟩
 simp only [hX] at h5 hfi hlen hfd t0 t3 qt ep eo hol hs0 ⊢
 obtain ⟨offs, hoffs⟩ : ∃ offs, offsT T X = offs := ⟨_, rfl⟩
 obtain ⟨prs, hprs⟩ : ∃ prs, prtT X = prs := ⟨_, rfl⟩
 simp only [hoffs] at qt hol ⊢
 rw [hprs] at ep ⊢
 obtain ⟨up, hup⟩ : ∃ up, upI (layR 1000000 (eRow 1000000 T) X.fs).2.1 (layR 1000000 (eRow 1000000 T) X.fs).2.2 = up := ⟨_, rfl⟩
 obtain ⟨al, hal⟩ : ∃ al, (layR 1000000 (eRow 1000000 T) X.fs).2.2 = al := ⟨_, rfl⟩
 simp only [hup, hal] at qt
 obtain ⟨kd, el, ln, fs, FA, fc⟩ := X
 dsimp only at h5 hlen hfd t0 t3 qt ep hol hs0
 subst h5
 clear hfi
 refine enter Try.func79 (by kernel_rfl) rfl (by kernel_rfl) rfl rfl rfl ?_
 (repeat' first | refine zcd ?_ | intro K' hK | (with_reducible refine zn hK ?_; clear hK) | fail | ((with_reducible first | apply zo1 | apply zo2 | apply o_guard rfl | apply x_cond | apply k_e1 rfl | apply k_e2 rfl | apply k_e0 rfl | apply k_e3 rfl | apply k_e4 rfl); (case he => exact ez1 t0); (try case hok => exact ezO); all_goals try (intro hb; (try simp only [hbs, reduceCtorEq] at hb); try exact ezX)) | ((with_reducible apply o_undef rfl); (case hb => exact ez0)))
 refine x_loopV [6, 7, 20, 21, 22, 23, 24, 25, 26, 27, 28, 29, 30, 31, 32, 33, 34, 35, 36, 37, 38, 39, 40, 41] [6, 7] (fun m vs h5 n5 => ∃ (q : Nat) (O : Value), m = fs.length - q ∧ q ≤ fs.length ∧ vs = [O, .int .i64 q] ∧ n ≤ n5 ∧ TabH h5 n (some ⟨tid, toff, none⟩) T ∧ RdH h5 n FA (fv fs) ∧ OwnI ((fs.take q).map (·.2)) O h5 n n5) fs.length rfl (by omega) ?_ ?_
 ·exact ⟨0, .slice none 0 0, rfl, by omega, ez0, by omega, hT, hfd, .inl ⟨rfl, rfl⟩⟩
 ·rintro m g _ h5 n5 ⟨q, O, rfl, hq, rfl, hn5, r1, r2, hO⟩
  obtain ⟨_, _, hA2, -, -, -, -, -, t3⟩ := r1.at_ ho.lt
  injection hA2 with hA2
  injection hA2 with z1 z2
  subst z1
  subst z2
  rw [hX] at t3
  dsimp only at t3
  by_cases hqf : q < fs.length
  ·obtain ⟨id2, off2, rfl, hid2, -, -, hfa⟩ := fld_at r2 hqf
   obtain ⟨ty, hty⟩ : ∃ ty, (fs[q]).2 = ty := ⟨_, rfl⟩
   rw [hty] at hfa
   have htk : (fs.take (q + 1)).map (·.2) = (fs.take q).map (·.2) ++ [ty] := by rw [List.take_succ_eq_append_getElem hqf, List.map_append, ← hty]; rfl
   have htl : ((fs.take q).map (·.2)).length = q := by rw [List.length_map, List.length_take]; omega
   obtain ⟨acc, hacc⟩ : ∃ acc, (fs.take q).map (·.2) = acc := ⟨_, rfl⟩
   rw [hacc] at hO htk htl
   rcases hO with ⟨hp0, rfl⟩ | ⟨hp0, id, k1, k2, rfl, q4⟩
   ·(repeat' first | refine zcd ?_ | intro K' hK | (with_reducible refine zn hK ?_; clear hK) | ((with_reducible apply o_ap0 (t := 99) apT99 w_none); (case hs => exact ez0); (case hy => exact ez0); (case hsrc => exact src_row (rowOf_same _ _ _ _ _) rfl); (case hc => exact rfl); (case hm => omega); (case h0 => omega)) | ((with_reducible first | apply zo1 | apply zo2 | apply o_guard rfl | apply x_cond | apply k_e1 rfl | apply k_e2 rfl | apply k_e0 rfl | apply k_e3 rfl | apply k_e4 rfl); (case he => exact ez2 hfa t3); (try case hok => exact ezO); all_goals try (intro hb; (try simp only [hbs, reduceCtorEq] at hb); try exact ezX)) | ((with_reducible apply o_undef rfl); (case hb => exact ez0)))
    refine k_round (fs.length - (q + 1)) (by omega) ⟨q + 1, .slice (some ⟨n5 + 1, 0, none⟩) 1 1, rfl, by omega, ez0, by omega, (ezT r1), (ezD r2), .inr ⟨by rw [htk]; simp, n5 + 1, by omega, by omega, by rw [htk, hp0]; rfl, by rw [htk, hp0]; exact rowOf_same _ _ _ _ _⟩⟩
   ·have w4 := rwOf_row q4
    have htw : (iv acc).take acc.length = iv acc := List.take_of_length_le (by rw [iv_length]; omega)
    (repeat' first | refine zcd ?_ | intro K' hK | (with_reducible refine zn hK ?_; clear hK) | ((with_reducible apply o_apR (t := 99) apT99 w_none); (case hs => exact ez1 w4); (case hy => exact ez1 w4); (case hsrc => exact src_row (rowOf_same _ _ _ _ _) rfl); (case hr => exact ez1 w4); (case hc => exact rfl); (case hm => omega); (case hli => omega); (case hln => omega); (case hcs => rw [iv_length]; omega)) | ((with_reducible first | apply zo1 | apply zo2 | apply o_guard rfl | apply x_cond | apply k_e1 rfl | apply k_e2 rfl | apply k_e0 rfl | apply k_e3 rfl | apply k_e4 rfl); (case he => exact ez3 hfa t3 w4); (try case hok => exact ezO); all_goals try (intro hb; (try simp only [hbs, reduceCtorEq] at hb); try exact ezX)) | ((with_reducible apply o_undef rfl); (case hb => exact ez0)))
    refine k_round (fs.length - (q + 1)) (by omega) ⟨q + 1, .slice (some ⟨n5 + 1, 0, none⟩) (acc.length + 1) (acc.length + 1), rfl, by omega, ez0, by omega, (ezT r1), (ezD r2), .inr ⟨by rw [htk]; simp, n5 + 1, by omega, by omega, by rw [htk, List.length_append]; rfl, by rw [htk, iv_app1]; exact ez1 htw⟩⟩
  ·obtain rfl : q = fs.length := by omega
   rw [List.take_length, ← ep] at hO
   rcases hO with ⟨hp0, -⟩ | ⟨hp0, id, k1, k2, rfl, q4⟩
   ·rw [ep] at hp0
    have := congrArg List.length hp0
    simp at this
    rw [this] at hs0
    exact absurd hs0 (by simp)
   ·(repeat' first | refine zcd ?_ | intro K' hK | (with_reducible refine zn hK ?_; clear hK) | ((with_reducible apply o_callF (g := 111) w_none); (case ha => exact ez0); (case hs => ((with_reducible apply qt); (all_goals first | exact r1.more (by omega) | exact r2.more (by omega)))); (case' hk => rintro _ h' n' ⟨rfl, rfl, rfl⟩)) | ((with_reducible first | apply zo1 | apply zo2 | apply o_guard rfl | apply x_cond | apply k_e1 rfl | apply k_e2 rfl | apply k_e0 rfl | apply k_e3 rfl | apply k_e4 rfl); (case he => exact ez1 t3); (try case hok => exact ezO); all_goals try (intro hb; (try simp only [hbs, reduceCtorEq] at hb); try exact ezX)) | ((with_reducible apply o_undef rfl); (case hb => exact ez0)))
    have hne : id ≠ n5 := by omega
    rw [← hol]
    refine sw_row2 (m1 := id) (m2 := n5) ezI hne rfl (by omega) (by omega) (by rw [rowOf_ne _ _ (by omega)]; exact q4) (rowOf_same _ _ _ _ _) (iv_idA _ _) (iv_idA _ _) (by simp only [reV_tuple, reV1_slice, List.map_cons, List.map_nil, reN_one, reN_two hne]; exact rfl) ?_
    exact ⟨rfl, rfl, rfl⟩
theorem rpt_arr (hk : 30000 ≤ k) (A : Option Addr) (T : List Tp) (c : Nat) (hT : TabH h n A T) (t : Nat) (ho : OkV T t) (h6 : (T[t]'ho.lt).kd = 6) :
  SQ k (d + 6) cl 79 [.slice A T.length c, .int .i64 t] h n (PartsV (prtT (T[t]'ho.lt)) (offsT T (T[t]'ho.lt)) h n) := by
 have hl := ho.lt
 have hfi := ho.chk.2.1 t ho.lt
 obtain ⟨hel0, hel1, hl0, hl1⟩ := fine_arr hfi h6
 have hnf := fine_nofs hfi (by omega)
 obtain ⟨y, hy, hyt, hoy⟩ := ho.elm h6
 obtain ⟨z, hz⟩ : ∃ z, sizT T y = z := ⟨_, rfl⟩
 have hzb := hoy.bnd
 have qs := fun (h6 : Hp) (n6 : Nat) (hT6 : TabH h6 n6 A T) => rsize15_ev k d n h6 n6 hk A T c hT6 y hoy
 rw [hz] at hzb qs
 obtain ⟨tid, toff, hTA, htid, -, t0, -, -, -⟩ := hT.at_ ho.lt
 subst hTA
 unfold PartsV
 obtain ⟨X, hX⟩ : ∃ X, T[t]'ho.lt = X := ⟨_, rfl⟩
 simp only [hX] at h6 hl0 hl1 hnf hy t0 ⊢
 obtain ⟨kd, el, ln, fs, FA, fc⟩ := X
 dsimp only at h6 hl0 hl1 hnf hy t0
 subst h6
 subst hnf
 subst hy
 obtain ⟨m, rfl⟩ := Int.eq_ofNat_of_zero_le (show 0 ≤ ln by omega)
 have ep : prtT ⟨6, y, (m : Int), [], FA, fc⟩ = List.replicate m (y : Int) := by unfold prtT; simp
 have eo : offsT T ⟨6, y, (m : Int), [], FA, fc⟩ = (List.range m).map fun (i : Nat) => (i : Int) * z := by unfold offsT; dsimp only; rw [if_neg (by decide), Int.toNat_natCast, Int.toNat_natCast, hz]
 rw [ep, eo]
 rw [List.length_map, List.length_range, List.length_replicate]
 clear ep eo
 refine enter Try.func79 (by kernel_rfl) rfl (by kernel_rfl) rfl rfl rfl ?_
 (repeat' first | refine zcd ?_ | intro K' hK | (with_reducible refine zn hK ?_; clear hK) | fail | ((with_reducible first | apply zo1 | apply zo2 | apply o_guard rfl | apply x_cond | apply k_e1 rfl | apply k_e2 rfl | apply k_e0 rfl | apply k_e3 rfl | apply k_e4 rfl); (case he => exact ez1 t0); (try case hok => exact ezO); all_goals try (intro hb; (try simp only [hbs, reduceCtorEq] at hb); try exact ezX)) | ((with_reducible apply o_undef rfl); (case hb => exact ez0)))
 refine x_loopV [11, 12, 13, 55, 56, 57, 58, 59, 60, 61, 62, 63, 64, 65, 66, 67, 68, 69, 70, 71, 72, 73, 74, 75, 76, 77, 78, 79, 80, 81, 82, 83] [11, 12, 13] (fun r vs h5 n5 => ∃ (q : Nat) (OP OQ : Value), r = m - q ∧ q ≤ m ∧ vs = [OP, OQ, .int .i64 q] ∧ n ≤ n5 ∧ TabH h5 n (some ⟨tid, toff, none⟩) T ∧
   ((q = 0 ∧ OP = .slice none 0 0 ∧ OQ = .slice none 0 0) ∨ (0 < q ∧ ∃ i1 i2, n ≤ i1 ∧ i1 < n5 ∧ n ≤ i2 ∧ i2 < n5 ∧ i1 ≠ i2 ∧ OP = .slice (some ⟨i1, 0, none⟩) q q ∧ OQ = .slice (some ⟨i2, 0, none⟩) q q ∧
         rowOf h5 i1 = some (3, false, iv (List.replicate q (y : Int))) ∧ rowOf h5 i2 = some (3, false, iv ((List.range q).map fun (i : Nat) => (i : Int) * z))))) m rfl (by omega) ?_ ?_
 ·exact ⟨0, _, _, rfl, by omega, ez0, by omega, hT, .inl ⟨rfl, rfl, rfl⟩⟩
 ·rintro r g1 _ h5 n5 ⟨q, OP, OQ, rfl, hq, rfl, hn5, r1, hO⟩
  obtain ⟨_, _, hA2, -, -, -, t1, t2, -⟩ := r1.at_ ho.lt
  injection hA2 with hA2
  injection hA2 with z1 z2
  subst z1
  subst z2
  rw [hX] at t1 t2
  dsimp only at t1 t2
  by_cases hqn : q < m
  ·have hmu : 0 ≤ (q : Int) * z ∧ (q : Int) * z ≤ 16 * 256 := ⟨Int.mul_nonneg (by omega) hzb.1, Int.mul_le_mul (by omega) hzb.2 hzb.1 (by omega)⟩
   have hrep : List.replicate (q + 1) (y : Int) = List.replicate q (y : Int) ++ [(y : Int)] := by rw [List.replicate_succ']
   obtain ⟨qz, hqze⟩ : ∃ qz, (q : Int) * z = qz := ⟨_, rfl⟩
   rw [hqze] at hmu
   have hran : (List.range (q + 1)).map (fun (i : Nat) => (i : Int) * z) = (List.range q).map (fun (i : Nat) => (i : Int) * z) ++ [qz] := by rw [List.range_succ, List.map_append, ← hqze]; rfl
   rcases hO with ⟨rfl, rfl, rfl⟩ | ⟨hq0, i1, i2, j1, j2, j3, j4, j5, rfl, rfl, q1, q2⟩
   ·(repeat' first | refine zcd ?_ | intro K' hK | (with_reducible refine zn hK ?_; clear hK) | (with_reducible refine x_drawnD (id := 13) [(5, 15), (7, 15)] (by kernel_rfl) fun K' hK => ?_) | ((with_reducible apply d_nil); (case hp => exact ezP); (case' hx => (refine hK _ _ _ ?_; clear hK))) | ((with_reducible apply d_pure w_none); (case hp => exact rfl); (case hc => exact rfl); (case he => exact ez3 t1 t2 hqze)) | ((with_reducible apply d_eff w_none); (case hc => exact rfl); (case he => exact ez3 t1 t2 hqze); (case hok => exact ezO)) | ((with_reducible apply d_guard rfl); (case hb => exact ez3 t1 t2 hqze); (case' h1 => intro hb; (try simp only [hbs, reduceCtorEq] at hb); try exact ezX); (case' h2 => intro hb; (try simp only [hbs, reduceCtorEq] at hb); try exact ezX)) | ((with_reducible apply d_ap0 (t := 99) apT99 w_none); (case hs => exact ez1 t1); (case hy => exact ez0); (case hsrc => exact src_row (rowOf_same _ _ _ _ _) rfl); (case hc => exact rfl); (case hm => omega); (case h0 => omega); (case' hx => intro rd)) | ((with_reducible apply d_callS (g := 85) w_none); (case hs0 => exact rfl); (case ha => exact ez0); (case hs => ((with_reducible apply qs); exact ezT r1)); (case' hk => rintro _ h' n' ⟨rfl, rfl, rfl⟩)) | ((with_reducible first | apply zo1 | apply zo2 | apply o_guard rfl | apply x_cond | apply k_e1 rfl | apply k_e2 rfl | apply k_e0 rfl | apply k_e3 rfl | apply k_e4 rfl); (case he => exact ez2 t1 t2); (try case hok => exact ezO); all_goals try (intro hb; (try simp only [hbs, reduceCtorEq] at hb); try exact ezX)) | ((with_reducible apply o_undef rfl); (case hb => exact ez0)))
    refine k_round (m - 1) (by omega) ⟨1, .slice (some ⟨n5 + 1, 0, none⟩) 1 1, .slice (some ⟨n5 + 1 + 1 + 1, 0, none⟩) 1 1, rfl, by omega, ez0, by omega, (ezT r1), .inr ⟨by omega, n5 + 1, n5 + 1 + 1 + 1, by omega, by omega, by omega, by omega, by omega, rfl, rfl, by rw [rowOf_ne _ _ (by omega), rowOf_ne _ _ (by omega), rowOf_same]; rfl, ?_⟩⟩
    rw [hran, rowOf_same, ← hqze]
    exact rfl
   ·have w1 := rwOf_row q1
    have w2 := rwOf_row q2
    have ht1 : (iv (List.replicate q (y : Int))).take q = iv (List.replicate q (y : Int)) := List.take_of_length_le (by rw [iv_length, List.length_replicate]; omega)
    have ht2 : (iv ((List.range q).map fun (i : Nat) => (i : Int) * z)).take q = iv ((List.range q).map fun (i : Nat) => (i : Int) * z) := List.take_of_length_le (by rw [iv_length, List.length_map, List.length_range]; omega)
    (repeat' first | refine zcd ?_ | intro K' hK | (with_reducible refine zn hK ?_; clear hK) | (with_reducible refine x_drawnD (id := 13) [(5, 15), (7, 15)] (by kernel_rfl) fun K' hK => ?_) | ((with_reducible apply d_nil); (case hp => exact ezP); (case' hx => (refine hK _ _ _ ?_; clear hK))) | ((with_reducible apply d_pure w_none); (case hp => exact rfl); (case hc => exact rfl); (case he => exact ez5 t1 t2 hqze w1 w2)) | ((with_reducible apply d_eff w_none); (case hc => exact rfl); (case he => exact ez5 t1 t2 hqze w1 w2); (case hok => exact ezO)) | ((with_reducible apply d_guard rfl); (case hb => exact ez5 t1 t2 hqze w1 w2); (case' h1 => intro hb; (try simp only [hbs, reduceCtorEq] at hb); try exact ezX); (case' h2 => intro hb; (try simp only [hbs, reduceCtorEq] at hb); try exact ezX)) | ((with_reducible apply d_apR (t := 99) apT99 w_none); (case hs => exact ez2 w1 w2); (case hy => exact ez2 w1 w2); (case hsrc => exact src_row (rowOf_same _ _ _ _ _) rfl); (case hr => exact ez2 w1 w2); (case hc => exact rfl); (case hm => omega); (case hli => omega); (case hln => omega); (case hcs => first | (rw [iv_length, List.length_replicate]; omega) | (rw [iv_length, List.length_map, List.length_range]; omega)); (case' hx => intro rd)) | ((with_reducible apply d_callS (g := 85) w_none); (case hs0 => exact rfl); (case ha => exact ez0); (case hs => ((with_reducible apply qs); exact ezT r1)); (case' hk => rintro _ h' n' ⟨rfl, rfl, rfl⟩)) | ((with_reducible first | apply zo1 | apply zo2 | apply o_guard rfl | apply x_cond | apply k_e1 rfl | apply k_e2 rfl | apply k_e0 rfl | apply k_e3 rfl | apply k_e4 rfl); (case he => exact ez4 t1 t2 w1 w2); (try case hok => exact ezO); all_goals try (intro hb; (try simp only [hbs, reduceCtorEq] at hb); try exact ezX)) | ((with_reducible apply o_undef rfl); (case hb => exact ez0)))
    refine k_round (m - (q + 1)) (by omega) ⟨q + 1, .slice (some ⟨n5 + 1, 0, none⟩) (q + 1) (q + 1), .slice (some ⟨n5 + 1 + 1 + 1, 0, none⟩) (q + 1) (q + 1), rfl, by omega, ez0, by omega, (ezT r1), .inr ⟨by omega, n5 + 1, n5 + 1 + 1 + 1, by omega, by omega, by omega, by omega, by omega, rfl, rfl, ?_, ?_⟩⟩
    ·rw [hrep, iv_app1]
     (repeat rw [rowOf_ne _ _ (by omega)])
     rw [rowOf_same]
     exact ez1 ht1
    ·rw [hran, iv_app1, rowOf_same]
     exact ez1 ht2
  ·obtain rfl : q = m := by omega
   rcases hO with ⟨rfl, rfl, rfl⟩ | ⟨hq0, i1, i2, j1, j2, j3, j4, j5, rfl, rfl, q1, q2⟩
   ·omega
   ·(repeat' first | refine zcd ?_ | intro K' hK | (with_reducible refine zn hK ?_; clear hK) | fail | ((with_reducible first | apply zo1 | apply zo2 | apply o_guard rfl | apply x_cond | apply k_e1 rfl | apply k_e2 rfl | apply k_e0 rfl | apply k_e3 rfl | apply k_e4 rfl); (case he => exact ez1 t2); (try case hok => exact ezO); all_goals try (intro hb; (try simp only [hbs, reduceCtorEq] at hb); try exact ezX)) | ((with_reducible apply o_undef rfl); (case hb => exact ez0)))
    refine sw_row2 (m1 := i1) (m2 := i2) ezI j5 rfl (by omega) (by omega) q1 q2 (iv_idA _ _) (iv_idA _ _) (by simp only [reV_tuple, reV1_slice, List.map_cons, List.map_nil, reN_one, reN_two j5]; exact rfl) ?_
    exact ⟨rfl, rfl, rfl⟩
end Go.Proofs.Ytcpkdjikembpnaa.Ce
