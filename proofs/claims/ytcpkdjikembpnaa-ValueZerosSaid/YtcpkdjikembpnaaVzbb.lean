/- Parts of the proof of ValueZeros: Ik, Gn, Go. No condition of its own. -/
import Derived.Test.YtcpkdjikembpnaaVzam
import Derived.Test.YtcpkdjikembpnaaVzaz
import Derived.Test.YtcpkdjikembpnaaVzba
set_option linter.unusedVariables false
set_option linter.unusedSimpArgs false
set_option maxRecDepth 100000
set_option maxHeartbeats 4000000
namespace Go.Proofs.Ytcpkdjikembpnaa.Ce
open Go.RowKit
noncomputable def storeR (T : List Tp) (lim : Int) (N : Nat) (b : Int) (hs : List UInt8) (t : Int) (v : V) : Except Int (List UInt8 × List UInt8) :=
 if okE T t ≠ 0 then .error (okE T t) else if chkB b hs.length lim ≠ 0 then .error (chkB b hs.length lim) else if fitP T N t.toNat v 3 = true then storeP T lim N hs t.toNat v else .error 30
theorem roomS_2 {b : Int} {m : Nat} {lim : Int} : (roomS b m lim).2 = chkB b m lim := by
 unfold roomS
 split
 ·rename_i e; rw [e]
 ·rfl
variable (k d cl : Nat) (h : Hp) (n : Nat)
theorem clone_nil : SQ k (d + 1) cl 48 [.slice none 0 0] h n fun v h' n' => v = .slice none 0 0 ∧ h = h' ∧ n = n' := by
 refine enter Try.func48 (by kernel_rfl) rfl (by kernel_rfl) rfl rfl rfl ?_
 (repeat' first | refine zcd ?_ | intro K' hK | (with_reducible refine zn hK ?_; clear hK) | ((with_reducible apply o_apR (t := 27) apT27 w_none); (case hs => exact ez0); (case hy => exact ez0); (case hsrc => exact src_nil); (case hr => exact ez0); (case hc => rfl); (case hm => omega); (case hli => omega); (case hln => omega); (case hcs => simp)) | ((with_reducible first | apply zo1 | apply zo2 | apply o_guard rfl | apply x_cond | apply k_e1 rfl | apply k_e2 rfl | apply k_e0 rfl | apply k_e3 rfl | apply k_e4 rfl); (case he => exact ez0); (try case hok => exact ezO); all_goals try (intro hb; (try simp only [hbs, reduceCtorEq] at hb); try exact ezX)) | ((with_reducible apply o_undef rfl); (case hb => exact ez0)))
 all_goals exact sw_flat rfl rfl ⟨rfl, rfl, rfl⟩
theorem vstore_ev (hk : 30000 ≤ k) (TA : Option Addr) (T : List Tp) (tc : Nat) (hT : TabH h n TA T) (hS : ∀ t ∈ T, t.fs.length ≤ 20000) (hm : T.length ≤ 9223372036854775807) (lim : Int) (N : Nat) (t : Int) (v : V) (hb : Bd N v) (cs : List Value) (hv : VH h n v cs) (b : Int) (A : Option Addr) (c : Nat) (hs : List UInt8) (hr : RdH h n A (bv hs)) (hA : A = none → c = 0) (hA2 : A = none ∨ ∃ id off, A = some ⟨id, off, none⟩) (hhl : hs.length ≤ 20000) :
  SQ k (d + 5 * N + 12) cl 19 [.slice TA T.length tc, .agg ⟨[.int .u64 b, .slice A hs.length c]⟩, .int .i64 lim, .int .i64 t, .agg ⟨cs⟩] h n (StV (storeR T lim N b hs t v) none h n) := by
 have qc := fun (h6 : Hp) (n6 : Nat) (hT6 : TabH h6 n6 TA T) => (vcheck_ev k (d + 5 * N + 1) n h6 n6 hk TA T tc hT6 hS hm t).mono (Φ' := fun v h' n' => (∃ z : Int, v = .tuple ⟨[.int .i64 z, .int .i64 (okE T t)]⟩) ∧ h6 = h' ∧ n6 = n') fun _ _ _ hp => ⟨hp.1, hp.2.1.symm, hp.2.2.symm⟩
 rw [show d + 5 * N + 1 + 10 = d + 5 * N + 11 from rfl] at qc
 have qr := fun (h6 : Hp) (n6 : Nat) => (room_ev k (d + 5 * N + 9) n h6 n6 b A hs.length c lim (by omega)).mono (Φ' := fun v h' n' => (∃ z : Int, v = .tuple ⟨[.int .i64 z, .int .i64 (chkB b hs.length lim)]⟩) ∧ h6 = h' ∧ n6 = n') fun _ _ _ hp => ⟨⟨(roomS b hs.length lim).1, hp.1.trans (by rw [roomS_2])⟩, hp.2.1.symm, hp.2.2.symm⟩
 rw [show d + 5 * N + 9 + 2 = d + 5 * N + 11 from rfl] at qr
 have qv := fun (h6 : Hp) (n6 : Nat) (hT6 : TabH h6 n6 TA T) (hv6 : VH h6 n6 v cs) => vchk_ev k d n h6 n6 hk TA T tc hT6 hS hm N t v hb cs hv6
 obtain ⟨A1, cc1, rfl, -, -⟩ := hv.cut
 unfold chkV at qv
 unfold storeR
 by_cases hE : okE T t = 0
 ·obtain ⟨x, rfl, ho⟩ := okE_0 hE
  rw [if_neg (not_not_intro hE)]
  simp only [hE, if_neg (not_not_intro (rfl : (0 : Int) = 0)), Int.toNat_natCast] at qc qv ⊢
  by_cases hB : chkB b hs.length lim = 0
  ·rw [if_neg (not_not_intro hB)]
   simp only [hB] at qr
   obtain ⟨rfl, -⟩ := chkB_ok hB
   by_cases hF : fitP T N x v 3 = true
   ·rw [if_pos hF]
    simp only [if_pos hF] at qv
    have qs := fun (cl : Nat) (h6 : Hp) (n6 : Nat) (A c) (cs : List Value) (hT6 : TabH h6 n6 TA T) (hv6 : VH h6 n6 v cs) (hh6 : HR h6 n6 A c hs) => store_ev k hk TA T tc hS hm lim N x v 3 ho hF (d + 3 * N) cl h6 n6 A c hs cs hT6 hv6 hh6 hhl
    rw [show d + 3 * N + 2 * N + 11 = d + 5 * N + 11 from by omega] at qs
    rcases hA2 with rfl | ⟨id, off, rfl⟩
    ·obtain rfl : c = 0 := hA rfl
     have hs0 : hs = [] := by
      rcases hr.2 with e | ⟨id, j, e, -⟩
      ·have := congrArg List.length e
       rw [bv_length] at this
       exact List.length_eq_zero_iff.1 this
      ·cases e
     subst hs0
     have qs : ∀ (cl : Nat) (h6 : Hp) (n6 : Nat) (cs : List Value), TabH h6 n6 TA T → VH h6 n6 v cs → SQ k (d + 5 * N + 11) cl 49 [.slice TA T.length tc, .agg ⟨[.int .u64 65536, .slice none 0 0]⟩, .int .i64 lim, .int .i64 x, .agg ⟨cs⟩] h6 n6 (StV (storeP T lim N [] x v) none h6 n6) := fun cl h6 n6 cs hT6 hv6 => qs cl h6 n6 none 0 cs hT6 hv6 (.inl ⟨rfl, rfl, rfl⟩)
     have qk := fun (h6 : Hp) (n6 : Nat) => clone_nil k (d + 5 * N + 10) n h6 n6
     obtain ⟨res, hres⟩ : ∃ res, storeP T lim N [] x v = res := ⟨_, rfl⟩
     rw [hres] at qs ⊢
     cases res with
     | error e =>
      refine enter Try.func19 (by kernel_rfl) rfl (by kernel_rfl) rfl rfl rfl ?_
      (repeat' first | refine zcd ?_ | intro K' hK | (with_reducible refine zn hK ?_; clear hK) | ((with_reducible apply o_callF (g := 37) w_none); (case ha => exact ez0); (case hs => ((with_reducible apply qc); exact ezT hT)); (case' hk => rintro _ h' n' ⟨⟨z, rfl⟩, rfl, rfl⟩)) | ((with_reducible apply o_callF (g := 47) w_none); (case ha => exact ez0); (case hs => (exact qr _ _)); (case' hk => rintro _ h' n' ⟨⟨z2, rfl⟩, rfl, rfl⟩)) | ((with_reducible apply o_callF (g := 21) w_none); (case ha => exact ez0); (case hs => ((with_reducible apply qv); (all_goals first | exact ezT hT | ((refine VH.more (B := n) ?_ (by omega)); (repeat' first | exact hv | refine VH.set ?_ (by omega) _))))); (case' hk => rintro _ h' n' ⟨rfl, rfl, rfl⟩)) | ((with_reducible apply o_callF (g := 48) w_none); (case ha => exact ez0); (case hs => (exact qk _ _)); (case' hk => rintro _ h' n' ⟨rfl, rfl, rfl⟩)) | ((with_reducible apply o_callF (g := 49) w_none); (case ha => exact ez0); (case hs => ((with_reducible apply qs); (all_goals first | ((refine TabH.more (B := n) ?_ (by omega)); (repeat' first | exact hT | refine TabH.set ?_ (by omega) _)) | ((refine VH.more (B := n) ?_ (by omega)); (repeat' first | exact hv | refine VH.set ?_ (by omega) _)) | exact .inl ⟨rfl, rfl, rfl⟩))); (case' hk => rintro _ h' n' ⟨O, m, c2, rfl, he0, hn6, hk6, -⟩)) | ((with_reducible first | apply zo1 | apply zo2 | apply o_guard rfl | apply x_cond | apply k_e1 rfl | apply k_e2 rfl | apply k_e0 rfl | apply k_e3 rfl | apply k_e4 rfl); (case he => exact ez0); (try case hok => exact ezO); all_goals try (intro hb; (try simp only [hbs, reduceCtorEq] at hb); try exact ezX)) | ((with_reducible apply o_undef rfl); (case hb => exact ez0)))
      have r10 : rowOf h' (n + 1 + 1) = some (29, false, [.int .u64 0, .slice none 0 0]) := (by rw [rowOf_keep (hk6 _ (by omega))]; exact ez0)
      have w10 := rwOf_row r10
      (repeat' first | refine zcd ?_ | intro K' hK | (with_reducible refine zn hK ?_; clear hK) | fail | ((with_reducible first | apply zo1 | apply zo2 | apply o_guard rfl | apply x_cond | apply k_e1 rfl | apply k_e2 rfl | apply k_e0 rfl | apply k_e3 rfl | apply k_e4 rfl); (case he => exact ez1 w10); (try case hok => exact ezO); all_goals try (intro hb; (try simp only [hbs, reduceCtorEq] at hb); try exact ezX)) | ((with_reducible apply o_undef rfl); (case hb => exact ez0)))
      all_goals exact sw_sno he0
     | ok r =>
      obtain ⟨hs2, own⟩ := r
      refine enter Try.func19 (by kernel_rfl) rfl (by kernel_rfl) rfl rfl rfl ?_
      (repeat' first | refine zcd ?_ | intro K' hK | (with_reducible refine zn hK ?_; clear hK) | ((with_reducible apply o_callF (g := 37) w_none); (case ha => exact ez0); (case hs => ((with_reducible apply qc); exact ezT hT)); (case' hk => rintro _ h' n' ⟨⟨z, rfl⟩, rfl, rfl⟩)) | ((with_reducible apply o_callF (g := 47) w_none); (case ha => exact ez0); (case hs => (exact qr _ _)); (case' hk => rintro _ h' n' ⟨⟨z2, rfl⟩, rfl, rfl⟩)) | ((with_reducible apply o_callF (g := 21) w_none); (case ha => exact ez0); (case hs => ((with_reducible apply qv); (all_goals first | exact ezT hT | ((refine VH.more (B := n) ?_ (by omega)); (repeat' first | exact hv | refine VH.set ?_ (by omega) _))))); (case' hk => rintro _ h' n' ⟨rfl, rfl, rfl⟩)) | ((with_reducible apply o_callF (g := 48) w_none); (case ha => exact ez0); (case hs => (exact qk _ _)); (case' hk => rintro _ h' n' ⟨rfl, rfl, rfl⟩)) | ((with_reducible apply o_callF (g := 49) w_none); (case ha => exact ez0); (case hs => ((with_reducible apply qs); (all_goals first | ((refine TabH.more (B := n) ?_ (by omega)); (repeat' first | exact hT | refine TabH.set ?_ (by omega) _)) | ((refine VH.more (B := n) ?_ (by omega)); (repeat' first | exact hv | refine VH.set ?_ (by omega) _)) | exact .inl ⟨rfl, rfl, rfl⟩))); (case' hk => rintro _ h' n' ⟨A3, c3, bid, rfl, hr3, ho3, hne3, hb1, hb2, hb3, hn6, hk6⟩)) | ((with_reducible first | apply zo1 | apply zo2 | apply o_guard rfl | apply x_cond | apply k_e1 rfl | apply k_e2 rfl | apply k_e0 rfl | apply k_e3 rfl | apply k_e4 rfl); (case he => exact ez0); (try case hok => exact ezO); all_goals try (intro hb; (try simp only [hbs, reduceCtorEq] at hb); try exact ezX)) | ((with_reducible apply o_undef rfl); (case hb => exact ez0)))
      have r10 : rowOf h' (n + 1 + 1) = some (29, false, [.int .u64 0, .slice none 0 0]) := (by rw [rowOf_keep (hk6 _ (by omega))]; exact ez0)
      have w10 := rwOf_row r10
      have hA3 : A3 = none ∨ ∃ id, A3 = some ⟨id, 0, none⟩ ∧ n + 1 + 1 < id := by
       rcases ho3 with e | ⟨id, e, hid⟩
       ·exact .inl e
       ·exact .inr ⟨id, e, by omega⟩
      have hold : ∀ b, A3 = some ⟨b, 0, none⟩ → b < n' ∧ n + 1 + 1 < b := fun b hb => ⟨hr3.old b hb, by
       rcases hA3 with e | ⟨id, e, hid⟩
       ·rw [e] at hb; cases hb
       ·rw [hb] at e
        injection e with e
        injection e with e
        omega⟩
      (repeat' first | refine zcd ?_ | intro K' hK | (with_reducible refine zn hK ?_; clear hK) | fail | ((with_reducible first | apply zo1 | apply zo2 | apply o_guard rfl | apply x_cond | apply k_e1 rfl | apply k_e2 rfl | apply k_e0 rfl | apply k_e3 rfl | apply k_e4 rfl); (case he => exact ez1 w10); (try case hok => exact ezO); all_goals try (intro hb; (try simp only [hbs, reduceCtorEq] at hb); try exact ezX)) | ((with_reducible apply o_undef rfl); (case hb => exact ez0)))
      exact sw_store (A := none) (c := 0) (hs := []) (.inl ⟨rfl, rfl, rfl⟩) (hr3.at_ (by omega) (fun b hb => by have := hold b hb; (repeat rw [Hp.get_ne _ _ (by omega)]))) (hA3.imp (fun e => e) fun ⟨id, e, hid⟩ => ⟨id, e, by omega⟩) hne3 (by omega) (by omega) (fun b hb => by (repeat rw [Hp.get_ne _ _ (by omega)]); rw [hk6 _ (by omega)]; (repeat rw [Hp.get_ne _ _ (by omega)])) (ezW hb3)
    ·have qk := fun (h6 : Hp) (n6 : Nat) (hr6 : RdH h6 n6 (some ⟨id, off, none⟩) (bv hs)) => (clone_ev k (d + 5 * N + 10) n h6 n6 id off hs c hr6 (by omega)).mono (Φ' := fun v h' n' => v = .slice (some ⟨n6, 0, none⟩) hs.length hs.length ∧ h6.set n6 (.row 5 false (bv hs)) = h' ∧ n6 + 1 = n') fun _ _ _ hp => ⟨hp.1, hp.2.1.symm, hp.2.2.symm⟩
     rw [show d + 5 * N + 10 + 1 = d + 5 * N + 11 from rfl] at qk
     obtain ⟨res, hres⟩ : ∃ res, storeP T lim N hs x v = res := ⟨_, rfl⟩
     rw [hres] at qs ⊢
     cases res with
     | error e =>
      refine enter Try.func19 (by kernel_rfl) rfl (by kernel_rfl) rfl rfl rfl ?_
      (repeat' first | refine zcd ?_ | intro K' hK | (with_reducible refine zn hK ?_; clear hK) | ((with_reducible apply o_callF (g := 37) w_none); (case ha => exact ez0); (case hs => ((with_reducible apply qc); exact ezT hT)); (case' hk => rintro _ h' n' ⟨⟨z, rfl⟩, rfl, rfl⟩)) | ((with_reducible apply o_callF (g := 47) w_none); (case ha => exact ez0); (case hs => (exact qr _ _)); (case' hk => rintro _ h' n' ⟨⟨z2, rfl⟩, rfl, rfl⟩)) | ((with_reducible apply o_callF (g := 21) w_none); (case ha => exact ez0); (case hs => ((with_reducible apply qv); (all_goals first | exact ezT hT | ((refine VH.more (B := n) ?_ (by omega)); (repeat' first | exact hv | refine VH.set ?_ (by omega) _))))); (case' hk => rintro _ h' n' ⟨rfl, rfl, rfl⟩)) | ((with_reducible apply o_callF (g := 48) w_none); (case ha => exact ez0); (case hs => ((with_reducible apply qk); exact ezD hr)); (case' hk => rintro _ h' n' ⟨rfl, rfl, rfl⟩)) | ((with_reducible apply o_callF (g := 49) w_none); (case ha => exact ez0); (case hs => ((with_reducible apply qs); (all_goals first | ((refine TabH.more (B := n) ?_ (by omega)); (repeat' first | exact hT | refine TabH.set ?_ (by omega) _)) | ((refine VH.more (B := n) ?_ (by omega)); (repeat' first | exact hv | refine VH.set ?_ (by omega) _)) | exact .inr ⟨_, rfl, by omega, ez0⟩))); (case' hk => rintro _ h' n' ⟨O, m, c2, rfl, he0, hn6, hk6, -⟩)) | ((with_reducible first | apply zo1 | apply zo2 | apply o_guard rfl | apply x_cond | apply k_e1 rfl | apply k_e2 rfl | apply k_e0 rfl | apply k_e3 rfl | apply k_e4 rfl); (case he => exact ez0); (try case hok => exact ezO); all_goals try (intro hb; (try simp only [hbs, reduceCtorEq] at hb); try exact ezX)) | ((with_reducible apply o_undef rfl); (case hb => exact ez0)))
      have r10 : rowOf h' (n + 1 + 1) = some (29, false, [.int .u64 0, .slice none 0 0]) := (by rw [rowOf_keep (hk6 _ (by omega))]; exact ez0)
      have w10 := rwOf_row r10
      (repeat' first | refine zcd ?_ | intro K' hK | (with_reducible refine zn hK ?_; clear hK) | fail | ((with_reducible first | apply zo1 | apply zo2 | apply o_guard rfl | apply x_cond | apply k_e1 rfl | apply k_e2 rfl | apply k_e0 rfl | apply k_e3 rfl | apply k_e4 rfl); (case he => exact ez1 w10); (try case hok => exact ezO); all_goals try (intro hb; (try simp only [hbs, reduceCtorEq] at hb); try exact ezX)) | ((with_reducible apply o_undef rfl); (case hb => exact ez0)))
      all_goals exact sw_sno he0
     | ok r =>
      obtain ⟨hs2, own⟩ := r
      refine enter Try.func19 (by kernel_rfl) rfl (by kernel_rfl) rfl rfl rfl ?_
      (repeat' first | refine zcd ?_ | intro K' hK | (with_reducible refine zn hK ?_; clear hK) | ((with_reducible apply o_callF (g := 37) w_none); (case ha => exact ez0); (case hs => ((with_reducible apply qc); exact ezT hT)); (case' hk => rintro _ h' n' ⟨⟨z, rfl⟩, rfl, rfl⟩)) | ((with_reducible apply o_callF (g := 47) w_none); (case ha => exact ez0); (case hs => (exact qr _ _)); (case' hk => rintro _ h' n' ⟨⟨z2, rfl⟩, rfl, rfl⟩)) | ((with_reducible apply o_callF (g := 21) w_none); (case ha => exact ez0); (case hs => ((with_reducible apply qv); (all_goals first | exact ezT hT | ((refine VH.more (B := n) ?_ (by omega)); (repeat' first | exact hv | refine VH.set ?_ (by omega) _))))); (case' hk => rintro _ h' n' ⟨rfl, rfl, rfl⟩)) | ((with_reducible apply o_callF (g := 48) w_none); (case ha => exact ez0); (case hs => ((with_reducible apply qk); exact ezD hr)); (case' hk => rintro _ h' n' ⟨rfl, rfl, rfl⟩)) | ((with_reducible apply o_callF (g := 49) w_none); (case ha => exact ez0); (case hs => ((with_reducible apply qs); (all_goals first | ((refine TabH.more (B := n) ?_ (by omega)); (repeat' first | exact hT | refine TabH.set ?_ (by omega) _)) | ((refine VH.more (B := n) ?_ (by omega)); (repeat' first | exact hv | refine VH.set ?_ (by omega) _)) | exact .inr ⟨_, rfl, by omega, ez0⟩))); (case' hk => rintro _ h' n' ⟨A3, c3, bid, rfl, hr3, ho3, hne3, hb1, hb2, hb3, hn6, hk6⟩)) | ((with_reducible first | apply zo1 | apply zo2 | apply o_guard rfl | apply x_cond | apply k_e1 rfl | apply k_e2 rfl | apply k_e0 rfl | apply k_e3 rfl | apply k_e4 rfl); (case he => exact ez0); (try case hok => exact ezO); all_goals try (intro hb; (try simp only [hbs, reduceCtorEq] at hb); try exact ezX)) | ((with_reducible apply o_undef rfl); (case hb => exact ez0)))
      have r10 : rowOf h' (n + 1 + 1) = some (29, false, [.int .u64 0, .slice none 0 0]) := (by rw [rowOf_keep (hk6 _ (by omega))]; exact ez0)
      have w10 := rwOf_row r10
      have hA3 : A3 = none ∨ ∃ id, A3 = some ⟨id, 0, none⟩ ∧ n + 1 + 1 < id := by
       rcases ho3 with e | ⟨id, e, hid⟩
       ·exact .inr ⟨_, e, by omega⟩
       ·exact .inr ⟨id, e, by omega⟩
      have hold : ∀ b, A3 = some ⟨b, 0, none⟩ → b < n' ∧ n + 1 + 1 < b := fun b hb => ⟨hr3.old b hb, by
       rcases hA3 with e | ⟨id, e, hid⟩
       ·rw [e] at hb; cases hb
       ·rw [hb] at e
        injection e with e
        injection e with e
        omega⟩
      (repeat' first | refine zcd ?_ | intro K' hK | (with_reducible refine zn hK ?_; clear hK) | fail | ((with_reducible first | apply zo1 | apply zo2 | apply o_guard rfl | apply x_cond | apply k_e1 rfl | apply k_e2 rfl | apply k_e0 rfl | apply k_e3 rfl | apply k_e4 rfl); (case he => exact ez1 w10); (try case hok => exact ezO); all_goals try (intro hb; (try simp only [hbs, reduceCtorEq] at hb); try exact ezX)) | ((with_reducible apply o_undef rfl); (case hb => exact ez0)))
      exact sw_store (A := none) (c := 0) (hs := []) (.inl ⟨rfl, rfl, rfl⟩) (hr3.at_ (by omega) (fun b hb => by have := hold b hb; (repeat rw [Hp.get_ne _ _ (by omega)]))) (hA3.imp (fun e => e) fun ⟨id, e, hid⟩ => ⟨id, e, by omega⟩) hne3 (by omega) (by omega) (fun b hb => by (repeat rw [Hp.get_ne _ _ (by omega)]); rw [hk6 _ (by omega)]; (repeat rw [Hp.get_ne _ _ (by omega)])) (ezW hb3)
   ·rw [if_neg hF]
    simp only [if_neg hF] at qv
    refine enter Try.func19 (by kernel_rfl) rfl (by kernel_rfl) rfl rfl rfl ?_
    (repeat' first | refine zcd ?_ | intro K' hK | (with_reducible refine zn hK ?_; clear hK) | ((with_reducible apply o_callF (g := 37) w_none); (case ha => exact ez0); (case hs => ((with_reducible apply qc); exact ezT hT)); (case' hk => rintro _ h' n' ⟨⟨z, rfl⟩, rfl, rfl⟩)) | ((with_reducible apply o_callF (g := 47) w_none); (case ha => exact ez0); (case hs => (exact qr _ _)); (case' hk => rintro _ h' n' ⟨⟨z2, rfl⟩, rfl, rfl⟩)) | ((with_reducible apply o_callF (g := 21) w_none); (case ha => exact ez0); (case hs => ((with_reducible apply qv); (all_goals first | exact ezT hT | ((refine VH.more (B := n) ?_ (by omega)); (repeat' first | exact hv | refine VH.set ?_ (by omega) _))))); (case' hk => rintro _ h' n' ⟨rfl, rfl, rfl⟩)) | ((with_reducible first | apply zo1 | apply zo2 | apply o_guard rfl | apply x_cond | apply k_e1 rfl | apply k_e2 rfl | apply k_e0 rfl | apply k_e3 rfl | apply k_e4 rfl); (case he => exact ez0); (try case hok => exact ezO); all_goals try (intro hb; (try simp only [hbs, reduceCtorEq] at hb); try exact ezX)) | ((with_reducible apply o_undef rfl); (case hb => exact ez0)))
    all_goals exact sw_sno (by decide)
  ·rw [if_pos hB]
   obtain ⟨E, hEe⟩ : ∃ E, chkB b hs.length lim = E := ⟨_, rfl⟩
   simp only [hEe] at qr hB ⊢
   refine enter Try.func19 (by kernel_rfl) rfl (by kernel_rfl) rfl rfl rfl ?_
   (repeat' first | refine zcd ?_ | intro K' hK | (with_reducible refine zn hK ?_; clear hK) | ((with_reducible apply o_callF (g := 37) w_none); (case ha => exact ez0); (case hs => ((with_reducible apply qc); exact ezT hT)); (case' hk => rintro _ h' n' ⟨⟨z, rfl⟩, rfl, rfl⟩)) | ((with_reducible apply o_callF (g := 47) w_none); (case ha => exact ez0); (case hs => (exact qr _ _)); (case' hk => rintro _ h' n' ⟨⟨z2, rfl⟩, rfl, rfl⟩)) | ((with_reducible apply o_callF (g := 21) w_none); (case ha => exact ez0); (case hs => ((with_reducible apply qv); (all_goals first | exact ezT hT | ((refine VH.more (B := n) ?_ (by omega)); (repeat' first | exact hv | refine VH.set ?_ (by omega) _))))); (case' hk => rintro _ h' n' ⟨rfl, rfl, rfl⟩)) | ((with_reducible first | apply zo1 | apply zo2 | apply o_guard rfl | apply x_cond | apply k_e1 rfl | apply k_e2 rfl | apply k_e0 rfl | apply k_e3 rfl | apply k_e4 rfl); (case he => exact ez0); (try case hok => exact ezO); all_goals try (intro hb; (try simp only [hbs, reduceCtorEq] at hb); try exact ezX)) | ((with_reducible apply o_undef rfl); (case hb => exact ez0)))
   all_goals exact sw_sno hB
 ·rw [if_pos hE]
  obtain ⟨E, hEe⟩ : ∃ E, okE T t = E := ⟨_, rfl⟩
  simp only [hEe] at qc hE ⊢
  refine enter Try.func19 (by kernel_rfl) rfl (by kernel_rfl) rfl rfl rfl ?_
  (repeat' first | refine zcd ?_ | intro K' hK | (with_reducible refine zn hK ?_; clear hK) | ((with_reducible apply o_callF (g := 37) w_none); (case ha => exact ez0); (case hs => ((with_reducible apply qc); exact ezT hT)); (case' hk => rintro _ h' n' ⟨⟨z, rfl⟩, rfl, rfl⟩)) | ((with_reducible apply o_callF (g := 47) w_none); (case ha => exact ez0); (case hs => (exact qr _ _)); (case' hk => rintro _ h' n' ⟨⟨z2, rfl⟩, rfl, rfl⟩)) | ((with_reducible apply o_callF (g := 21) w_none); (case ha => exact ez0); (case hs => ((with_reducible apply qv); (all_goals first | exact ezT hT | ((refine VH.more (B := n) ?_ (by omega)); (repeat' first | exact hv | refine VH.set ?_ (by omega) _))))); (case' hk => rintro _ h' n' ⟨rfl, rfl, rfl⟩)) | ((with_reducible first | apply zo1 | apply zo2 | apply o_guard rfl | apply x_cond | apply k_e1 rfl | apply k_e2 rfl | apply k_e0 rfl | apply k_e3 rfl | apply k_e4 rfl); (case he => exact ez0); (try case hok => exact ezO); all_goals try (intro hb; (try simp only [hbs, reduceCtorEq] at hb); try exact ezX)) | ((with_reducible apply o_undef rfl); (case hb => exact ez0)))
  all_goals exact sw_sno hE
end Go.Proofs.Ytcpkdjikembpnaa.Ce
namespace Go.Proofs.Ytcpkdjikembpnaa.Ce
open Go.RowKit
def alnT (T : List Tp) (x : Nat) : Int := ((eRow 1048576 T).at_ (x : Int)).2
noncomputable def LoadR (T : List Tp) (L : List Rg) (a t dp : Int) : Except Int V :=
 if okE T t ≠ 0 then .error (okE T t) else if dp < 0 ∨ 3 < dp then .error 2 else if lstE L ≠ 0 then .error (lstE L)
 else match fstI L a (sizT T t.toNat) 0 with
  | none => .error 16
  | some i => if a % alnT T t.toNat ≠ 0 then .error 16 else match L[i]? with
   | none => .error 0
   | some g => loadP T L 1000 dp.toNat ((g.xs.drop (a - g.b).toNat).take (sizT T t.toNat).toNat) t.toNat
theorem lstE_chk {L : List Rg} (h : lstE L = 0) : ∀ g ∈ L, chkG g = 0 := by
 unfold lstE at h
 split at h
 ·cases h
 ·split at h
  ·cases h
  ·exact Classical.not_not.1 ‹_›
variable (k d cl : Nat) (h : Hp) (n : Nat)
theorem vload_ev (hk : 30000 ≤ k) (TA A : Option Addr) (T : List Tp) (L : List Rg) (tc gc : Nat) (hT : TabH h n TA T) (hS : ∀ t ∈ T, t.fs.length ≤ 20000) (hm : T.length ≤ 9223372036854775807) (hR : RgH h n A L) (hl : L.length ≤ 100) (a t dp : Int) (ha0 : 0 ≤ a) (ha1 : a < 18446744073709551616) :
  SQ k (d + 3100) cl 11 [.slice TA T.length tc, .slice A L.length gc, .int .u64 a, .int .i64 t, .int .i64 dp] h n (LdV (LoadR T L a t dp) h n) := by
 have qc0 := fun (h6 : Hp) (n6 : Nat) (hT6 : TabH h6 n6 TA T) => (vcheck_ev k (d + 3089) n h6 n6 hk TA T tc hT6 hS hm t).mono (Φ' := fun v h' n' => (∃ z : Int, v = .tuple ⟨[.int .i64 z, .int .i64 (okE T t)]⟩) ∧ h6 = h' ∧ n6 = n') fun _ _ _ hp => ⟨hp.1, hp.2.1.symm, hp.2.2.symm⟩
 by_cases hE : okE T t = 0
 ·obtain ⟨x, rfl, ho⟩ := okE_0 hE
  simp only [hE] at qc0
  by_cases hdp : dp < 0 ∨ 3 < dp
  ·have e : LoadR T L a x dp = .error 2 := by unfold LoadR; rw [if_neg (not_not_intro hE), if_pos hdp]
   rw [e]
   refine enter Try.func11 (by kernel_rfl) rfl (by kernel_rfl) rfl rfl rfl ?_
   (repeat' first | refine zcd ?_ | intro K' hK | (with_reducible refine zn hK ?_; clear hK) | ((with_reducible apply o_callF (g := 37) w_none); (case ha => exact ez0); (case hs => ((with_reducible apply qc0); exact ezT hT)); (case' hk => rintro _ h' n' ⟨⟨z, rfl⟩, rfl, rfl⟩)) | ((with_reducible first | apply zo1 | apply zo2 | apply o_guard rfl | apply x_cond | apply k_e1 rfl | apply k_e2 rfl | apply k_e0 rfl | apply k_e3 rfl | apply k_e4 rfl); (case he => exact ez0); (try case hok => exact ezO); all_goals try (intro hb; (try simp only [hbs, reduceCtorEq] at hb); try exact ezX)) | ((with_reducible apply o_undef rfl); (case hb => exact ez0)))
   all_goals exact sw_flat rfl rfl ⟨rfl, by decide, rfl, rfl⟩
  ·have qf0 := fun (h6 : Hp) (n6 : Nat) (hR6 : RgH h6 n6 A L) => (findL_ev k (d + 3093) n h6 n6 hk A L gc hR6 hl 0 1 (by omega) (by omega) (by omega) (by omega)).mono (Φ' := fun v h' n' => v = .tuple ⟨[.int .i64 (findS L 0 1).1, .int .i64 (findS L 0 1).2]⟩ ∧ h6 = h' ∧ n6 = n') fun _ _ _ hp => ⟨hp.1, hp.2.1.symm, hp.2.2.symm⟩
   by_cases hLE : lstE L = 0
   ·have hC := lstE_chk hLE
    have hz1 := siz_pos (x + 1) ho (by omega)
    have hz2 := ho.bnd
    have hal : alnT T x = 1 ∨ alnT T x = 8 := (sizT_ok ho.chk ho.lt).2.2
    have e : LoadR T L a x dp = match fstI L a (sizT T x) 0 with
      | none => .error 16
      | some i => if a % alnT T x ≠ 0 then .error 16 else match L[i]? with
       | none => .error 0
       | some g => loadP T L 1000 dp.toNat ((g.xs.drop (a - g.b).toNat).take (sizT T x).toNat) x := by
     unfold LoadR
     rw [if_neg (not_not_intro hE), if_neg hdp, if_neg (not_not_intro hLE), Int.toNat_natCast]
    rw [e]
    have qz := fun (h6 : Hp) (n6 : Nat) (hT6 : TabH h6 n6 TA T) => (lsize_ev k (d + 3091) n h6 n6 hk TA T tc hT6 hS hm x).mono (Φ' := fun v h' n' => v = .tuple ⟨[.int .i64 (sizT T x), .int .i64 (alnT T x), .int .i64 0]⟩ ∧ h6 = h' ∧ n6 = n') fun _ _ _ hp => ⟨by rw [hp.1, ho.size]; rfl, hp.2.1.symm, hp.2.2.symm⟩
    have qf1 := fun (h6 : Hp) (n6 : Nat) (w' : Int) (hw' : w' = sizT T x) (hR6 : RgH h6 n6 A L) => (findL_ev k (d + 3093) n h6 n6 hk A L gc hR6 hl a w' ha0 ha1 (by omega) (by omega)).mono (Φ' := fun v h' n' => v = .tuple ⟨[.int .i64 (findS L a (sizT T x)).1, .int .i64 (findS L a (sizT T x)).2]⟩ ∧ h6 = h' ∧ n6 = n') fun _ _ _ hp => ⟨by rw [hp.1, hw'], hp.2.1.symm, hp.2.2.symm⟩
    have hf01 : (findS L 0 1).2 = 0 ∨ (findS L 0 1).2 = 6 := by
     unfold findS
     rw [if_neg (not_not_intro hLE), if_neg (by omega)]
     split
     ·exact .inl rfl
     ·exact .inr rfl
    obtain ⟨F0, hF0⟩ : ∃ F0, findS L 0 1 = F0 := ⟨_, rfl⟩
    obtain ⟨F1, hF1⟩ : ∃ F1, findS L a (sizT T x) = F1 := ⟨_, rfl⟩
    have hS1 : F1 = match fstI L a (sizT T x) 0 with
      | some i => ((i : Int), 0)
      | none => (0, 6) := by
     rw [← hF1]
     unfold findS
     rw [if_neg (not_not_intro hLE), if_neg (by omega)]
     rfl
    simp only [hF0] at qf0 hf01
    simp only [hF1] at qf1
    obtain ⟨f0, f0e⟩ := F0
    obtain ⟨f1, f1e⟩ := F1
    dsimp only at qf0 qf1 hf01
    have hszx : ∃ z, sizT T x = z := ⟨_, rfl⟩
    obtain ⟨z0, hz0⟩ := hszx
    obtain ⟨al, hale⟩ : ∃ al, alnT T x = al := ⟨_, rfl⟩
    simp only [hz0] at qz qf1 hz1 hz2 hS1 ⊢
    simp only [hale] at qz hal ⊢
    cases hfi : fstI L a z0 0 with
    | none =>
     rw [hfi] at hS1
     injection hS1 with hS1 hS2
     subst hS1
     subst hS2
     dsimp only
     refine enter Try.func11 (by kernel_rfl) rfl (by kernel_rfl) rfl rfl rfl ?_
     (repeat' first | refine zcd ?_ | intro K' hK | (with_reducible refine zn hK ?_; clear hK) | ((with_reducible apply o_callF (g := 37) w_none); (case ha => exact ez0); (case hs => ((with_reducible apply qc0); exact ezT hT)); (case' hk => rintro _ h' n' ⟨⟨z, rfl⟩, rfl, rfl⟩)) | ((with_reducible apply o_callF (g := 38) w_none); (case ha => exact ez0); (case hs => ((first | with_reducible apply qf0 | ((with_reducible apply qf1); (case hw' => first | omega | (split <;> omega)))); exact ezG hR)); (case' hk => rintro _ h' n' ⟨rfl, rfl, rfl⟩)) | ((with_reducible apply o_callF (g := 27) w_none); (case ha => exact ez0); (case hs => ((with_reducible apply qz); exact ezT hT)); (case' hk => rintro _ h' n' ⟨rfl, rfl, rfl⟩)) | ((with_reducible first | apply zo1 | apply zo2 | apply o_guard rfl | apply x_cond | apply k_e1 rfl | apply k_e2 rfl | apply k_e0 rfl | apply k_e3 rfl | apply k_e4 rfl); (case he => exact ez0); (try case hok => exact ezO); all_goals try (intro hb; (try simp only [hbs, reduceCtorEq] at hb); try exact ezX)) | ((with_reducible apply o_undef rfl); (case hb => exact ez0)))
     all_goals exact sw_flat rfl rfl ⟨rfl, by decide, rfl, rfl⟩
    | some i =>
     rw [hfi] at hS1
     injection hS1 with hS1 hS2
     subst hS1
     subst hS2
     dsimp only
     obtain ⟨q, hq, eq, hin, -⟩ := fstI_some hfi
     obtain rfl : i = q := by omega
     rw [List.getElem?_eq_getElem hq]
     obtain ⟨hi1, hi2⟩ := inb_iff.1 hin
     have hg := hR.fd _ (List.getElem_mem hq)
     have hcg := hC _ (List.getElem_mem hq)
     have hcb := chkR_ok hcg
     obtain ⟨gid, goff, hgA, hgid, c1⟩ := hR.at_ hq
     subst hgA
     obtain ⟨G, hG⟩ : ∃ G, L[i] = G := ⟨_, rfl⟩
     rw [hG] at hi1 hi2 hg hcg hcb c1 ⊢
     dsimp only
     have hal2 : a % al ≠ 0 ∨ a % al = 0 := by omega
     rcases hal2 with hr | hr
     ·rw [if_pos hr]
      rcases hal with rfl | rfl
      ·omega
      ·refine enter Try.func11 (by kernel_rfl) rfl (by kernel_rfl) rfl rfl rfl ?_
       (repeat' first | refine zcd ?_ | intro K' hK | (with_reducible refine zn hK ?_; clear hK) | ((with_reducible apply o_callF (g := 37) w_none); (case ha => exact ez0); (case hs => ((with_reducible apply qc0); exact ezT hT)); (case' hk => rintro _ h' n' ⟨⟨z, rfl⟩, rfl, rfl⟩)) | ((with_reducible apply o_callF (g := 38) w_none); (case ha => exact ez0); (case hs => ((first | with_reducible apply qf0 | ((with_reducible apply qf1); (case hw' => first | omega | (split <;> omega)))); exact ezG hR)); (case' hk => rintro _ h' n' ⟨rfl, rfl, rfl⟩)) | ((with_reducible apply o_callF (g := 27) w_none); (case ha => exact ez0); (case hs => ((with_reducible apply qz); exact ezT hT)); (case' hk => rintro _ h' n' ⟨rfl, rfl, rfl⟩)) | ((with_reducible apply o_callF (g := 39) w_none); (case ha => exact ez0); (case hs => ((with_reducible apply qb); exact ezD hg)); (case' hk => rintro _ h' n' ⟨rfl, rfl, rfl⟩)) | ((with_reducible first | apply zo1 | apply zo2 | apply o_guard rfl | apply x_cond | apply k_e1 rfl | apply k_e2 rfl | apply k_e0 rfl | apply k_e3 rfl | apply k_e4 rfl); (case he => exact ez0); (try case hok => exact ezO); all_goals try (intro hb; (try simp only [hbs, reduceCtorEq] at hb); try exact ezX)) | ((with_reducible apply o_undef rfl); (case hb => exact ez0)))
       all_goals exact sw_flat rfl rfl ⟨rfl, by decide, rfl, rfl⟩
     ·rw [if_neg (not_not_intro hr)]
      obtain ⟨w, rfl⟩ := Int.eq_ofNat_of_zero_le (show 0 ≤ z0 by omega)
      obtain ⟨dn, rfl⟩ := Int.eq_ofNat_of_zero_le (show 0 ≤ dp by omega)
      rw [Int.toNat_natCast, Int.toNat_natCast]
      obtain ⟨ys, hys⟩ : ∃ ys, (G.xs.drop (a - G.b).toNat).take w = ys := ⟨_, rfl⟩
      have hyl : ys.length = w := by rw [← hys, List.length_take, List.length_drop]; omega
      rw [hys]
      have qb := fun (h6 : Hp) (n6 : Nat) (hg6 : RdH h6 n6 G.A (bv G.xs)) => bytesG_ok k (d + 3095) n h6 n6 G hg6 hcg a w hi1 (by omega) ys hys hyl
      have ql0 := fun (h6 : Hp) (n6 b : Nat) (hT6 : TabH h6 n6 TA T) (hR6 : RgH h6 n6 (some ⟨gid, goff, none⟩) L) (hB6 : RdH h6 n6 (some ⟨b, 0, none⟩) (bv ys)) => mload_ev k hk TA (some ⟨gid, goff, none⟩) T L tc gc hS ho.chk.1 hl hLE hC 1000 x dn ho (by omega) (by have := ho.lt; have := ho.chk.1; omega) (d + 79) n h6 n6 b 0 w w ys hT6 hR6 hyl.symm hB6 (by omega) (by omega)
      obtain ⟨res, hres⟩ : ∃ res, loadP T L 1000 dn ys x = res := ⟨_, rfl⟩
      simp only [hres] at ql0 ⊢
      cases res with
      | error e =>
       have ql := fun (h6 : Hp) (n6 b : Nat) (hT6 : TabH h6 n6 TA T) (hR6 : RgH h6 n6 (some ⟨gid, goff, none⟩) L) (hB6 : RdH h6 n6 (some ⟨b, 0, none⟩) (bv ys)) => (ql0 h6 n6 b hT6 hR6 hB6).mono (Φ' := fun v h' n' => v = .tuple ⟨[.agg ⟨vcell 0 0 [] none 0 0 false⟩, .int .i64 e]⟩ ∧ e ≠ 0 ∧ h6 = h' ∧ n6 = n') fun _ _ _ hp => ⟨hp.1, hp.2.1, hp.2.2.1.symm, hp.2.2.2.symm⟩
       rcases hal with rfl | rfl
       all_goals
        refine enter Try.func11 (by kernel_rfl) rfl (by kernel_rfl) rfl rfl rfl ?_
        (repeat' first | refine zcd ?_ | intro K' hK | (with_reducible refine zn hK ?_; clear hK) | ((with_reducible apply o_callF (g := 37) w_none); (case ha => exact ez0); (case hs => ((with_reducible apply qc0); exact ezT hT)); (case' hk => rintro _ h' n' ⟨⟨z, rfl⟩, rfl, rfl⟩)) | ((with_reducible apply o_callF (g := 38) w_none); (case ha => exact ez0); (case hs => ((first | with_reducible apply qf0 | ((with_reducible apply qf1); (case hw' => first | omega | (split <;> omega)))); exact ezG hR)); (case' hk => rintro _ h' n' ⟨rfl, rfl, rfl⟩)) | ((with_reducible apply o_callF (g := 27) w_none); (case ha => exact ez0); (case hs => ((with_reducible apply qz); exact ezT hT)); (case' hk => rintro _ h' n' ⟨rfl, rfl, rfl⟩)) | ((with_reducible apply o_callF (g := 39) w_none); (case ha => exact ez0); (case hs => ((with_reducible apply qb); exact ezD hg)); (case' hk => rintro _ h' n' ⟨rfl, rfl, rfl⟩)) | ((with_reducible apply o_callF (g := 40) w_none); (case ha => exact ez0); (case hs => ((with_reducible apply ql); (all_goals first | exact ezT hT | exact ezG hR | exact RdH.row (by omega)))); (case' hk => rintro _ h' n' ⟨rfl, he0, rfl, rfl⟩)) | ((with_reducible first | apply zo1 | apply zo2 | apply o_guard rfl | apply x_cond | apply k_e1 rfl | apply k_e2 rfl | apply k_e0 rfl | apply k_e3 rfl | apply k_e4 rfl); (case he => exact ez1 c1); (try case hok => exact ezO); all_goals try (intro hb; (try simp only [hbs, reduceCtorEq] at hb); try exact ezX)) | ((with_reducible apply o_undef rfl); (case hb => exact ez0)))
        all_goals exact sw_flat rfl rfl ⟨rfl, he0, rfl, rfl⟩
      | ok xv =>
       have ql := fun (h6 : Hp) (n6 b : Nat) (hT6 : TabH h6 n6 TA T) (hR6 : RgH h6 n6 (some ⟨gid, goff, none⟩) L) (hB6 : RdH h6 n6 (some ⟨b, 0, none⟩) (bv ys)) => (ql0 h6 n6 b hT6 hR6 hB6).mono (Φ' := fun v h' n' => ∃ A1 cc1, v = .tuple ⟨[.agg ⟨vcell xv.kd xv.i xv.s A1 xv.l.length cc1 xv.c⟩, .int .i64 0]⟩ ∧ FH h' n6 n' xv (vcell xv.kd xv.i xv.s A1 xv.l.length cc1 xv.c) ∧ n6 ≤ n' ∧ ∀ b, b < n6 → h'.get b = h6.get b) fun v h' n' ⟨cs, e1, hf, a, b⟩ => by
        obtain ⟨A1, cc1, rfl⟩ := hf.cells
        exact ⟨A1, cc1, e1, hf, a, b⟩
       rcases hf01 with rfl | rfl <;> rcases hal with rfl | rfl
       all_goals
        refine enter Try.func11 (by kernel_rfl) rfl (by kernel_rfl) rfl rfl rfl ?_
        (repeat' first | refine zcd ?_ | intro K' hK | (with_reducible refine zn hK ?_; clear hK) | ((with_reducible apply o_callF (g := 37) w_none); (case ha => exact ez0); (case hs => ((with_reducible apply qc0); exact ezT hT)); (case' hk => rintro _ h' n' ⟨⟨z, rfl⟩, rfl, rfl⟩)) | ((with_reducible apply o_callF (g := 38) w_none); (case ha => exact ez0); (case hs => ((first | with_reducible apply qf0 | ((with_reducible apply qf1); (case hw' => first | omega | (split <;> omega)))); exact ezG hR)); (case' hk => rintro _ h' n' ⟨rfl, rfl, rfl⟩)) | ((with_reducible apply o_callF (g := 27) w_none); (case ha => exact ez0); (case hs => ((with_reducible apply qz); exact ezT hT)); (case' hk => rintro _ h' n' ⟨rfl, rfl, rfl⟩)) | ((with_reducible apply o_callF (g := 39) w_none); (case ha => exact ez0); (case hs => ((with_reducible apply qb); exact ezD hg)); (case' hk => rintro _ h' n' ⟨rfl, rfl, rfl⟩)) | ((with_reducible apply o_callF (g := 40) w_none); (case ha => exact ez0); (case hs => ((with_reducible apply ql); (all_goals first | exact ezT hT | exact ezG hR | exact RdH.row (by omega)))); (case' hk => rintro _ h' n' ⟨A1, cc1, rfl, hfx, hn6, hk6⟩)) | ((with_reducible first | apply zo1 | apply zo2 | apply o_guard rfl | apply x_cond | apply k_e1 rfl | apply k_e2 rfl | apply k_e0 rfl | apply k_e3 rfl | apply k_e4 rfl); (case he => exact ez1 c1); (try case hok => exact ezO); all_goals try (intro hb; (try simp only [hbs, reduceCtorEq] at hb); try exact ezX)) | ((with_reducible apply o_undef rfl); (case hb => exact ez0)))
        have r8 : rowOf h' n = some (32, false, vcell 0 0 [] none 0 0 false) := by
         rw [rowOf_keep (hk6 _ (by omega))]
         simp (disch := first | assumption | omega | rfl | decide) only [go_sem, seval, tys]
         try rfl
        have w8 := rwOf_row r8
        (repeat' first | refine zcd ?_ | intro K' hK | (with_reducible refine zn hK ?_; clear hK) | fail | ((with_reducible first | apply zo1 | apply zo2 | apply o_guard rfl | apply x_cond | apply k_e1 rfl | apply k_e2 rfl | apply k_e0 rfl | apply k_e3 rfl | apply k_e4 rfl); (case he => exact ez1 w8); (try case hok => exact ezO); all_goals try (intro hb; (try simp only [hbs, reduceCtorEq] at hb); try exact ezX)) | ((with_reducible apply o_undef rfl); (case hb => exact ez0)))
        refine sw_fh (hfx.keep (by omega) (Nat.le_refl _) fun b hb1 hb2 => by (repeat rw [Hp.get_ne _ _ (by omega)])) (by omega) (fun b hb => by (repeat rw [Hp.get_ne _ _ (by omega)]); rw [hk6 _ (by omega)]; (repeat rw [Hp.get_ne _ _ (by omega)])) fun cs2 h2 n2 a b c => ⟨cs2, rfl, a, b, c⟩
   ·have e : LoadR T L a x dp = .error (lstE L) := by unfold LoadR; rw [if_neg (not_not_intro hE), if_neg hdp, if_pos hLE]
    have eS : findS L 0 1 = (0, lstE L) := by unfold findS; rw [if_pos hLE]
    have h6 : lstE L ≠ 6 := by
     unfold lstE
     repeat' split
     all_goals decide
    rw [e]
    simp only [eS] at qf0
    obtain ⟨E, hEe⟩ : ∃ E, lstE L = E := ⟨_, rfl⟩
    simp only [hEe] at qf0 hLE h6 ⊢
    refine enter Try.func11 (by kernel_rfl) rfl (by kernel_rfl) rfl rfl rfl ?_
    (repeat' first | refine zcd ?_ | intro K' hK | (with_reducible refine zn hK ?_; clear hK) | ((with_reducible apply o_callF (g := 37) w_none); (case ha => exact ez0); (case hs => ((with_reducible apply qc0); exact ezT hT)); (case' hk => rintro _ h' n' ⟨⟨z, rfl⟩, rfl, rfl⟩)) | ((with_reducible apply o_callF (g := 38) w_none); (case ha => exact ez0); (case hs => ((with_reducible apply qf0); exact ezG hR)); (case' hk => rintro _ h' n' ⟨rfl, rfl, rfl⟩)) | ((with_reducible first | apply zo1 | apply zo2 | apply o_guard rfl | apply x_cond | apply k_e1 rfl | apply k_e2 rfl | apply k_e0 rfl | apply k_e3 rfl | apply k_e4 rfl); (case he => exact ez0); (try case hok => exact ezO); all_goals try (intro hb; (try simp only [hbs, reduceCtorEq] at hb); try exact ezX)) | ((with_reducible apply o_undef rfl); (case hb => exact ez0)))
    all_goals exact sw_flat rfl rfl ⟨rfl, hLE, rfl, rfl⟩
 ·have e : LoadR T L a t dp = .error (okE T t) := by unfold LoadR; rw [if_pos hE]
  rw [e]
  obtain ⟨E, hEe⟩ : ∃ E, okE T t = E := ⟨_, rfl⟩
  simp only [hEe] at qc0 hE ⊢
  refine enter Try.func11 (by kernel_rfl) rfl (by kernel_rfl) rfl rfl rfl ?_
  (repeat' first | refine zcd ?_ | intro K' hK | (with_reducible refine zn hK ?_; clear hK) | ((with_reducible apply o_callF (g := 37) w_none); (case ha => exact ez0); (case hs => ((with_reducible apply qc0); exact ezT hT)); (case' hk => rintro _ h' n' ⟨⟨z, rfl⟩, rfl, rfl⟩)) | ((with_reducible first | apply zo1 | apply zo2 | apply o_guard rfl | apply x_cond | apply k_e1 rfl | apply k_e2 rfl | apply k_e0 rfl | apply k_e3 rfl | apply k_e4 rfl); (case he => exact ez0); (try case hok => exact ezO); all_goals try (intro hb; (try simp only [hbs, reduceCtorEq] at hb); try exact ezX)) | ((with_reducible apply o_undef rfl); (case hb => exact ez0)))
  all_goals exact sw_flat rfl rfl ⟨rfl, hE, rfl, rfl⟩
end Go.Proofs.Ytcpkdjikembpnaa.Ce
namespace Go.Proofs.Ytcpkdjikembpnaa.Ce
open Go.RowKit
def zeroV (T : List Tp) : Nat → Nat → V
 | 0, _ => .mk 0 0 [] [] false
 | f + 1, t => match T[t]? with
  | none => .mk 0 0 [] [] false
  | some x => .mk x.kd 0 [] ((prtT x).map fun p => zeroV T f p.toNat) false
def FhV (x : V) (h : Hp) (n : Nat) (v : Value) (h' : Hp) (n' : Nat) : Prop := ∃ cs, v = .agg ⟨cs⟩ ∧ FH h' n n' x cs ∧ n ≤ n' ∧ ∀ b, b < n → h'.get b = h.get b
section
variable {h h' : Hp} {n n' : Nat} {Φ : Value → Hp → Nat → Prop}
theorem sw_fh1 {x : V} {cs : List Value} (hf : FH h' n n' x cs) (hn : n ≤ n') (hkeep : ∀ b, b < n → h'.get b = h.get b)
  (hk : ∀ cs2 h2 n2, FH h2 n n2 x cs2 → n ≤ n2 → (∀ b, b < n → h2.get b = h.get b) → Φ (.agg ⟨cs2⟩) h2 n2) : kSweep h n Φ (.agg ⟨cs⟩) h' n' := by
 cases hf with
 | leaf kd i s c => exact sw_flat rfl rfl (hk _ h n (.leaf kd i s c) (Nat.le_refl _) fun _ _ => rfl)
 | node kd i s c l id rows hl a b hr hlen hkk =>
  have hid : idV n (.agg ⟨vcell kd i s (some ⟨id, 0, none⟩) l.length l.length c⟩) = [id] := by
   show ((bif Nat.ble n id then [id] else []) ++ []) = [id]
   rw [ble_t a]
   rfl
  by_cases hp : ∀ u ∈ rows, idA n u = []
  ·refine sw_row (v' := .agg ⟨vcell kd i s (some ⟨n, 0, none⟩) l.length l.length c⟩) hid rfl b hr hp ?_ ?_
   ·show Value.agg ⟨vcell kd i s (some ⟨reN n [id] id, 0, none⟩) l.length l.length c⟩ = _
    rw [reN_hit]
   ·refine hk _ _ _ (.node kd i s c l n rows hl (Nat.le_refl _) (by omega) (rowOf_same _ _ _ _ _) hlen fun j hj => ?_) (by omega) fun b hb => Hp.get_ne _ _ (by omega)
    exact (hkk j hj).plain (fun u hu => hp u (List.mem_of_mem_drop (List.mem_of_mem_take hu))) _ _
  ·have hp2 : ∃ u ∈ rows, idA n u ≠ [] := Classical.byContradiction fun hh => hp fun u hu => Classical.byContradiction fun h2 => hh ⟨u, hu, h2⟩
   obtain ⟨u, hu, hi⟩ := hp2
   exact sw_keep hid hr hu hi (hk _ h' n' (.node kd i s c l id rows hl a b hr hlen hkk) hn hkeep)
end
variable (k d cl : Nat) (h : Hp) (n : Nat)
theorem vzero_ev (hk : 30000 ≤ k) (A : Option Addr) (T : List Tp) (c : Nat) (hS : ∀ t ∈ T, t.fs.length ≤ 20000) (hm : T.length ≤ 32) :
  ∀ (f t : Nat), OkV T t → t < f → ∀ (d cl : Nat) (h : Hp) (n : Nat), TabH h n A T →
  SQ k (d + f + 2) cl 45 [.slice A T.length c, .int .i64 t] h n (FhV (zeroV T f t) h n) := by
 intro f
 induction f with
 | zero => intro t _ hlt; omega
 | succ f ihf =>
 intro t ho hlt d cl h n hT
 rw [show d + (f + 1) + 2 = d + f + 2 + 1 from by omega]
 have htl := ho.lt
 have hfi := ho.chk.2.1 t htl
 have hfd := hT.fd _ (List.getElem_mem htl)
 obtain ⟨tid, toff, hTA, htid, hti, ht0, -⟩ := hT.at_ htl
 subst hTA
 have hpl := prt_len ho
 have hpi := fun q (a : q < (prtT T[t]).length) (b : q < (offsT T T[t]).length) => prt_in ho a b
 have hz : zeroV T (f + 1) t = .mk T[t].kd 0 [] ((prtT T[t]).map fun p => zeroV T f p.toNat) false := by
  rw [zeroV, List.getElem?_eq_getElem htl]
 have hnone : ∀ q (hq : q < (prtT T[t]).length), ∃ y : Nat, (prtT T[t])[q] = (y : Int) ∧ y < t ∧ OkV T y := fun q hq => by
  obtain ⟨y, e, a, b, -⟩ := hpi q hq (by omega)
  exact ⟨y, e, a, b⟩
 rw [hz]
 obtain ⟨x, hx⟩ : ∃ x, T[t] = x := ⟨_, rfl⟩
 simp only [hx] at hfi hfd hti ht0 hpl hnone ⊢
 obtain ⟨kd, el, ln, fs, FA, fc⟩ := x
 dsimp only at hfi hfd hti ht0 ⊢
 have qp := fun (cl : Nat) (h6 : Hp) (n6 : Nat) (hr6 : RdH h6 n6 FA (fv fs)) => ((vparts_ev k (d + f + 1) cl h6 n6 hk ⟨kd, el, ln, fs, FA, fc⟩ hfi hr6)).mono fun _ _ _ hh => IntsV.rd hh
 obtain ⟨ps, hps⟩ : ∃ ps, prtT ⟨kd, el, ln, fs, FA, fc⟩ = ps := ⟨_, rfl⟩
 simp only [hps] at qp hpl hnone ⊢
 obtain ⟨zs, hzs⟩ : ∃ zs, ps.map (fun p => zeroV T f p.toNat) = zs := ⟨_, rfl⟩
 rw [hzs]
 refine enter Try.func45 (by kernel_rfl) rfl (by kernel_rfl) rfl rfl rfl ?_
 (repeat' first | refine zcd ?_ | intro K' hK | (with_reducible refine zn hK ?_; clear hK) | ((with_reducible apply o_callF (g := 70) w_none); (case ha => exact ez0); (case hs => ((with_reducible apply qp); exact ezD hfd)); (case' hk => rintro _ h' n' ⟨PA, pc, rfl, hrP, hPn, hn2, hk2⟩)) | ((with_reducible first | apply zo1 | apply zo2 | apply o_guard rfl | apply x_cond | apply k_e1 rfl | apply k_e2 rfl | apply k_e0 rfl | apply k_e3 rfl | apply k_e4 rfl); (case he => exact ez2 hti ht0); (try case hok => exact ezO); all_goals try (intro hb; (try simp only [hbs, reduceCtorEq] at hb); try exact ezX)) | ((with_reducible apply o_undef rfl); (case hb => exact ez0)))
 obtain ⟨n1, rfl⟩ : ∃ y, y = n' := ⟨_, rfl⟩
 have r4 : rowOf h' n = some (32, false, vcell 0 0 [] none 0 0 false) := by
  rw [rowOf_keep (hk2 _ (by omega))]
  simp (disch := first | assumption | omega | rfl | decide) only [go_sem, seval, tys]
  try rfl
 have r5 : rowOf h' (n + 1) = some (32, false, vcell kd 0 [] none 0 0 false) := by
  rw [rowOf_keep (hk2 _ (by omega))]
  simp (disch := first | assumption | omega | rfl | decide) only [go_sem, seval, tys]
  try rfl
 have hkp : ∀ b, b < n → h'.get b = h.get b := fun b hb => by
  rw [hk2 _ (by omega)]
  (repeat rw [Hp.get_ne _ _ (by omega)])
 have hzl : zs.length = ps.length := by rw [← hzs, List.length_map]
 refine x_loopV [7, 20, 21, 22, 23, 24, 25, 26, 27, 28, 29, 30, 31, 32] [20] (fun r vs h5 n5 => ∃ (q : Nat) (acc : List V) (O : Value), r = ps.length - q ∧ q ≤ ps.length ∧ vs = [.int .i64 q] ∧ n1 ≤ n5 ∧ (∀ b, b < n → h5.get b = h.get b) ∧ RdH h5 n1 PA (iv ps) ∧ rowOf h5 n = some (32, false, vcell 0 0 [] none 0 0 false) ∧ rowOf h5 (n + 1) = some (32, false, [.int .u8 kd, .int .i64 0, .string ⟨⟨[]⟩⟩, O, .bool false]) ∧ acc.length = q ∧ OwnV acc O h5 n1 n5 ∧ acc = zs.take q) ps.length rfl (by omega) ?_ ?_
 ·exact ⟨0, [], .slice none 0 0, rfl, by omega, ez0, Nat.le_refl _, hkp, hrP, r4, r5, rfl, .inl ⟨rfl, rfl⟩, by simp⟩
 ·clear hkp r4 r5 hrP
  rintro r g1 _ h5 n5 ⟨q, acc, O, rfl, hq, rfl, hn5, hkp, hrP5, r4, r5, hal, hO, hacc⟩
  have f3 := cellAt_row (off := 3) r5
  by_cases hqp : q < ps.length
  ·obtain ⟨pid, poff, hPA, hpid, cp⟩ := int_at hrP5 hqp
   obtain ⟨y, hy, hyt, hoy⟩ := hnone q hqp
   rw [hy] at cp
   have hT5 : TabH h5 n5 (some ⟨tid, toff, none⟩) T := (hT.keep (Nat.le_refl _) hkp).more (by omega)
   have hzq : zs.take (q + 1) = zs.take q ++ [zeroV T f y] := by
    rw [List.take_succ_eq_append_getElem (by omega)]
    congr 2
    rw [List.getElem_of_eq hzs.symm, List.getElem_map, hy, Int.toNat_natCast]
   obtain ⟨xv, hxv⟩ : ∃ xv, zeroV T f y = xv := ⟨_, rfl⟩
   rw [hxv] at hzq
   have q1 := fun (cl : Nat) (h6 : Hp) (n6 : Nat) (hT6 : TabH h6 n6 (some ⟨tid, toff, none⟩) T) => (ihf y hoy (by omega) d cl h6 n6 hT6).mono (Φ' := fun v h' n' => ∃ A1 cc1, v = .agg ⟨vcell xv.kd xv.i xv.s A1 xv.l.length cc1 xv.c⟩ ∧ FH h' n6 n' xv (vcell xv.kd xv.i xv.s A1 xv.l.length cc1 xv.c) ∧ n6 ≤ n' ∧ ∀ b, b < n6 → h'.get b = h6.get b) fun v h' n' ⟨cs, e1, hf, a, b⟩ => by
    rw [hxv] at hf
    obtain ⟨A1, cc1, rfl⟩ := hf.cells
    exact ⟨A1, cc1, e1, hf, a, b⟩
   subst hPA
   rcases hO with ⟨rfl, rfl⟩ | ⟨hne, id, rows, j1, j2, rfl, q4, hrl, hkk⟩
   ·(repeat' first | refine zcd ?_ | intro K' hK | (with_reducible refine zn hK ?_; clear hK) | (with_reducible refine x_drawnD (id := 5) [(1, 4)] (by kernel_rfl) fun K' hK => ?_) | ((with_reducible apply d_nil); (case hp => exact ezP); (case' hx => (refine hK _ _ _ ?_; clear hK))) | ((with_reducible apply d_pure w_none); (case hp => exact rfl); (case hc => exact rfl); (case he => exact ez2 f3 cp)) | ((with_reducible apply d_eff w_none); (case hc => exact rfl); (case he => exact ez2 f3 cp); (case hok => exact ezO)) | ((with_reducible apply d_guard rfl); (case hb => exact ez2 f3 cp); (case' h1 => intro hb; (try simp only [hbs, reduceCtorEq] at hb); try exact ezX); (case' h2 => intro hb; (try simp only [hbs, reduceCtorEq] at hb); try exact ezX)) | ((with_reducible apply d_callN (g := 45) w_none); (case hs0 => exact rfl); (case ha => exact ez0); (case hs => ((with_reducible apply q1); (exact hT5))); (case' hk => rintro _ h' n' ⟨A1, cc1, rfl, hfx, hn6, hk6⟩)) | ((with_reducible first | apply zo1 | apply zo2 | apply o_guard rfl | apply x_cond | apply k_e1 rfl | apply k_e2 rfl | apply k_e0 rfl | apply k_e3 rfl | apply k_e4 rfl); (case he => exact ez2 f3 cp); (try case hok => exact ezO); all_goals try (intro hb; (try simp only [hbs, reduceCtorEq] at hb); try exact ezX)) | ((with_reducible apply o_undef rfl); (case hb => exact ez0)))
    have r5n : rowOf h' (n + 1) = some (32, false, [.int .u8 kd, .int .i64 0, .string ⟨⟨[]⟩⟩, .slice none 0 0, .bool false]) := by
     rw [rowOf_keep (hk6 _ (by omega))]
     exact r5
    have w5 := rwOf_row r5n
    have f5 := cellAt_row (off := 3) r5n
    (repeat' first | refine zcd ?_ | intro K' hK | (with_reducible refine zn hK ?_; clear hK) | ((with_reducible apply d_nil); (case hp => exact ezP); (case' hx => (refine hK _ _ _ ?_; clear hK))) | ((with_reducible apply d_pure w_none); (case hp => exact rfl); (case hc => exact rfl); (case he => exact ez2 w5 f5)) | ((with_reducible apply d_eff w_none); (case hc => exact rfl); (case he => exact ez2 w5 f5); (case hok => exact ezO)) | ((with_reducible apply d_guard rfl); (case hb => exact ez2 w5 f5); (case' h1 => intro hb; (try simp only [hbs, reduceCtorEq] at hb); try exact ezX); (case' h2 => intro hb; (try simp only [hbs, reduceCtorEq] at hb); try exact ezX)) | ((with_reducible apply d_ap0 (t := 30) apT30 w_none); (case hs => exact ez1 w5); (case hy => exact ez0); (case hsrc => exact src_row (rowOf_same _ _ _ _ _) rfl); (case hc => exact rfl); (case hm => omega); (case h0 => omega); (case' hx => intro rd)) | ((with_reducible first | apply zo1 | apply zo2 | apply o_guard rfl | apply x_cond | apply k_e1 rfl | apply k_e2 rfl | apply k_e0 rfl | apply k_e3 rfl | apply k_e4 rfl); (case he => exact ez2 w5 f5); (try case hok => exact ezO); all_goals try (intro hb; (try simp only [hbs, reduceCtorEq] at hb); try exact ezX)) | ((with_reducible apply o_undef rfl); (case hb => exact ez0)))
    have hq0 : q = 0 := hal.symm
    subst hq0
    refine k_round (ps.length - 1) (by omega) ⟨1, [xv], .slice (some ⟨n' + 1, 0, none⟩) 1 1, rfl, by omega, ez0, by omega, (ezC hk6 hkp), (by (repeat' (first | with_reducible exact (hrP5.keep (by omega) fun b hb => hk6 b (by omega)) | refine RdH.set ?_ (by omega) _ | refine RdH.kill ?_ (fun b o e => by have := hPn b o e; omega) _))), (ezV hk6 r4), ez0, rfl, .inr ⟨by simp, n' + 1, vcell xv.kd xv.i xv.s A1 xv.l.length cc1 xv.c, by omega, by omega, rfl, (by (repeat rw [rowOf_ne _ _ (by omega)]); exact rowOf_same _ _ _ _ _), rfl, fun j hj => ?_⟩, ?_⟩
    ·have hj0 : j = 0 := by simp at hj; omega
     subst hj0
     exact (hfx.keep (by omega) (by omega) fun b hb1 hb2 => by (repeat rw [Hp.get_ne _ _ (by omega)]))
    ·simpa using hzq.symm
   ·(repeat' first | refine zcd ?_ | intro K' hK | (with_reducible refine zn hK ?_; clear hK) | (with_reducible refine x_drawnD (id := 5) [(1, 4)] (by kernel_rfl) fun K' hK => ?_) | ((with_reducible apply d_nil); (case hp => exact ezP); (case' hx => (refine hK _ _ _ ?_; clear hK))) | ((with_reducible apply d_pure w_none); (case hp => exact rfl); (case hc => exact rfl); (case he => exact ez2 f3 cp)) | ((with_reducible apply d_eff w_none); (case hc => exact rfl); (case he => exact ez2 f3 cp); (case hok => exact ezO)) | ((with_reducible apply d_guard rfl); (case hb => exact ez2 f3 cp); (case' h1 => intro hb; (try simp only [hbs, reduceCtorEq] at hb); try exact ezX); (case' h2 => intro hb; (try simp only [hbs, reduceCtorEq] at hb); try exact ezX)) | ((with_reducible apply d_callN (g := 45) w_none); (case hs0 => exact rfl); (case ha => exact ez0); (case hs => ((with_reducible apply q1); (exact hT5))); (case' hk => rintro _ h' n' ⟨A1, cc1, rfl, hfx, hn6, hk6⟩)) | ((with_reducible first | apply zo1 | apply zo2 | apply o_guard rfl | apply x_cond | apply k_e1 rfl | apply k_e2 rfl | apply k_e0 rfl | apply k_e3 rfl | apply k_e4 rfl); (case he => exact ez2 f3 cp); (try case hok => exact ezO); all_goals try (intro hb; (try simp only [hbs, reduceCtorEq] at hb); try exact ezX)) | ((with_reducible apply o_undef rfl); (case hb => exact ez0)))
    have r5n : rowOf h' (n + 1) = some (32, false, [.int .u8 kd, .int .i64 0, .string ⟨⟨[]⟩⟩, .slice (some ⟨id, 0, none⟩) acc.length acc.length, .bool false]) := by
     rw [rowOf_keep (hk6 _ (by omega))]
     exact r5
    have w5 := rwOf_row r5n
    have f5 := cellAt_row (off := 3) r5n
    have w4 := rwOf_row (show rowOf h' id = _ from by rw [rowOf_keep (hk6 _ j2)]; exact q4)
    have htw : rows.take (acc.length * 5) = rows := List.take_of_length_le (by omega)
    (repeat' first | refine zcd ?_ | intro K' hK | (with_reducible refine zn hK ?_; clear hK) | ((with_reducible apply d_nil); (case hp => exact ezP); (case' hx => (refine hK _ _ _ ?_; clear hK))) | ((with_reducible apply d_pure w_none); (case hp => exact rfl); (case hc => exact rfl); (case he => exact ez3 w5 f5 w4)) | ((with_reducible apply d_eff w_none); (case hc => exact rfl); (case he => exact ez3 w5 f5 w4); (case hok => exact ezO)) | ((with_reducible apply d_guard rfl); (case hb => exact ez3 w5 f5 w4); (case' h1 => intro hb; (try simp only [hbs, reduceCtorEq] at hb); try exact ezX); (case' h2 => intro hb; (try simp only [hbs, reduceCtorEq] at hb); try exact ezX)) | ((with_reducible apply d_apR (t := 30) apT30 w_none); (case hs => exact ez2 w5 w4); (case hy => exact ez2 w5 w4); (case hsrc => exact src_row (rowOf_same _ _ _ _ _) rfl); (case hr => exact ez2 w5 w4); (case hc => exact rfl); (case hm => omega); (case hli => omega); (case hln => omega); (case hcs => rw [hrl]; omega); (case' hx => intro rd)) | ((with_reducible first | apply zo1 | apply zo2 | apply o_guard rfl | apply x_cond | apply k_e1 rfl | apply k_e2 rfl | apply k_e0 rfl | apply k_e3 rfl | apply k_e4 rfl); (case he => exact ez3 w5 f5 w4); (try case hok => exact ezO); all_goals try (intro hb; (try simp only [hbs, reduceCtorEq] at hb); try exact ezX)) | ((with_reducible apply o_undef rfl); (case hb => exact ez0)))
    have hnew := fun (H : Hp) (e1 : ∀ b, n1 ≤ b → b < id → H.get b = h'.get b) (e2 : ∀ b, n5 ≤ b → b < n' → H.get b = h'.get b) => rows_snoc (h := H) (lo := n1) (hi := n' + 1) (x := xv) hrl (fun j hj => (hkk j hj).keep (Nat.le_refl _) (by omega) fun b hb1 hb2 => by rw [e1 b hb1 hb2]; exact hk6 _ (by omega)) (hfx.keep (by omega) (by omega) e2)
    refine k_round (ps.length - (q + 1)) (by omega) ⟨q + 1, acc ++ [xv], .slice (some ⟨n' + 1, 0, none⟩) (acc.length + 1) (acc.length + 1), rfl, by omega, ez0, by omega, (ezC hk6 hkp), (by (repeat' (first | with_reducible exact (hrP5.keep (by omega) fun b hb => hk6 b (by omega)) | refine RdH.set ?_ (by omega) _ | refine RdH.kill ?_ (fun b o e => by have := hPn b o e; omega) _))), (ezV hk6 r4), ez0, by rw [List.length_append, hal]; rfl, .inr ⟨by simp, n' + 1, rows ++ vcell xv.kd xv.i xv.s A1 xv.l.length cc1 xv.c, by omega, by omega, by rw [List.length_append]; rfl, (ez1 htw), (hnew h' (fun _ _ _ => rfl) fun _ _ _ => rfl).1, (hnew _ ezN fun b hb1 hb2 => by (repeat rw [Hp.get_ne _ _ (by omega)])).2⟩, ?_⟩
    rw [hzq, ← hacc]
  ·obtain rfl : q = ps.length := by omega
   obtain rfl : acc = zs := by rw [hacc]; exact List.take_of_length_le (by omega)
   have hf0 := fun H e => ((hO.fhs (h := h5)).keep (h' := H) (Nat.le_refl _) (Nat.le_refl _) e).val kd 0 [] false
   have f05 := cellsAt_row (off := 0) (k := 5) r5
   have w40 : rwOf h5 n = some (32, [.int .u8 0, .int .i64 0, .string ⟨⟨[]⟩⟩, .slice none 0 0, .bool false]) := rwOf_row r4
   have hsl : ∃ A l c, O = .slice A l c := by
    rcases hO with ⟨-, rfl⟩ | ⟨-, id, rows, -, -, rfl, -⟩ <;> exact ⟨_, _, _, rfl⟩
   obtain ⟨OA, ol, oc, rfl⟩ := hsl
   (repeat' first | refine zcd ?_ | intro K' hK | (with_reducible refine zn hK ?_; clear hK) | fail | ((with_reducible first | apply zo1 | apply zo2 | apply o_guard rfl | apply x_cond | apply k_e1 rfl | apply k_e2 rfl | apply k_e0 rfl | apply k_e3 rfl | apply k_e4 rfl); (case he => exact ez2 f05 w40); (try case hok => exact ezO); all_goals try (intro hb; (try simp only [hbs, reduceCtorEq] at hb); try exact ezX)) | ((with_reducible apply o_undef rfl); (case hb => exact ez0)))
   exact sw_fh1 ((hf0 _ fun b a c => Hp.get_ne _ _ (by omega)).more (by omega) (Nat.le_refl _)) (by omega) (ezB hkp) fun cs2 h2 n2 a b c => ⟨cs2, rfl, a, b, c⟩
end Go.Proofs.Ytcpkdjikembpnaa.Ce
