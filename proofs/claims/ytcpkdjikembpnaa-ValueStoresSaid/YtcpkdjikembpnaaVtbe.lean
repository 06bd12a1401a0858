/- Parts of the proof of ValueStores: Is, It, Op, Qz. No condition of its own. -/
import Derived.ProofKit
import Derived.Lib.SmallJoins
import Derived.OpenShut
import Derived.ChangeOld
import Derived.SliceStrings
import Derived.Test.YtcpkdjikembpnaaVtaa
import Derived.Test.YtcpkdjikembpnaaVtai
import Derived.Test.YtcpkdjikembpnaaVtal
import Derived.Test.YtcpkdjikembpnaaVtaq
import Derived.Test.YtcpkdjikembpnaaVtaz
import Derived.Test.YtcpkdjikembpnaaVtbb
import Derived.Test.YtcpkdjikembpnaaVtbd
set_option linter.unusedVariables false
set_option linter.unusedSimpArgs false
set_option maxRecDepth 100000
set_option maxHeartbeats 4000000
namespace Go.Proofs.Ytcpkdjikembpnaa.Ce
open Go.RowKit
variable (k d cl : Nat) (h : Hp) (n : Nat)
theorem rstore_ev (hk : 30000 ≤ k) (TA : Option Addr) (T : List Tp) (tc : Nat) (hT : TabH h n TA T) (hS : ∀ t ∈ T, t.fs.length ≤ 20000) (hm : T.length ≤ 9223372036854775807) (lim : Int) (N : Nat) (t : Int) (v : V) (hb : Bd N v) (cs : List Value) (hv : VH h n v cs) (b : Int) (A : Option Addr) (c : Nat) (hs : List UInt8) (hr : RdH h n A (bv hs)) (hA : A = none → c = 0) (hhl : hs.length ≤ 20000) :
  SQ k (d + N + 14) cl 20 [.slice TA T.length tc, .agg ⟨[.int .u64 b, .slice A hs.length c]⟩, .int .i64 lim, .int .i64 t, .agg ⟨cs⟩] h n (StN (storeR T lim N b hs t v) h n) := by
 have qa := fun (h6 : Hp) (n6 : Nat) (hT6 : TabH h6 n6 TA T) => rasked15_ev k (d + N + 1) n h6 n6 hk TA T tc hT6 hS hm t
 rw [show d + N + 1 + 12 = d + N + 13 from rfl] at qa
 have qr := fun (h6 : Hp) (n6 : Nat) => (rlimit_ev k (d + N + 11) n h6 n6 b A hs.length c lim (by omega)).mono (Φ' := fun v h' n' => v = .int .i64 (chkB b hs.length lim) ∧ h6 = h' ∧ n6 = n') fun _ _ _ hp => ⟨hp.1, hp.2.1.symm, hp.2.2.symm⟩
 rw [show d + N + 11 + 2 = d + N + 13 from rfl] at qr
 have qv := fun (h6 : Hp) (n6 : Nat) (hT6 : TabH h6 n6 TA T) (hv6 : VH h6 n6 v cs) => rchk15_ev k d n h6 n6 hk TA T tc hT6 hS hm N t v hb cs hv6
 obtain ⟨A1, cc1, rfl, -, -⟩ := hv.cut
 unfold chkV at qv
 unfold storeR
 by_cases hE : okE T t = 0
 ·obtain ⟨x, rfl, ho⟩ := okE_0 hE
  rw [if_neg (not_not_intro hE)]
  simp only [hE, if_neg (not_not_intro (rfl : (0 : Int) = 0)), Int.toNat_natCast] at qa qv ⊢
  by_cases hB : chkB b hs.length lim = 0
  ·rw [if_neg (not_not_intro hB)]
   simp only [hB] at qr
   obtain ⟨rfl, -⟩ := chkB_ok hB
   have qk := fun (cl : Nat) (h6 : Hp) (n6 : Nat) (hr6 : RdH h6 n6 A (bv hs)) => (twin_ev k (d + N + 12) cl h6 n6 65536 A hs c hr6 hA (by omega)).mono (Φ' := fun v h' n' => v = .agg ⟨[.int .u64 65536, .slice (some ⟨n6, 0, none⟩) hs.length hs.length]⟩ ∧ h6.set n6 (.row 5 false (bv hs)) = h' ∧ n6 + 1 = n') fun _ _ _ hp => ⟨hp.1, hp.2.1.symm, hp.2.2.symm⟩
   rw [show d + N + 12 + 1 = d + N + 13 from rfl] at qk
   by_cases hF : fitP T N x v 3 = true
   ·rw [if_pos hF]
    simp only [if_pos hF] at qv
    have qs := fun (cl : Nat) (h6 : Hp) (n6 : Nat) (A c) (cs : List Value) (hT6 : TabH h6 n6 TA T) (hv6 : VH h6 n6 v cs) (hh6 : HR h6 n6 A c hs) => rstored_ev k hk TA T tc hS hm lim N x v 3 ho hF (d + 5) cl h6 n6 A c hs cs hT6 hv6 hh6 hhl
    rw [show d + 5 + N + 8 = d + N + 13 from by omega] at qs
    obtain ⟨res, hres⟩ : ∃ res, storeP T lim N hs x v = res := ⟨_, rfl⟩
    rw [hres] at qs ⊢
    cases res with
    | error e =>
     refine enter Try.func20 (by kernel_rfl) rfl (by kernel_rfl) rfl rfl rfl ?_
     (repeat' first | refine zcd ?_ | intro K' hK | (with_reducible refine zn hK ?_; clear hK) | ((with_reducible apply o_callF (g := 36) w_none); (case ha => exact ez0); (case hs => ((with_reducible apply qa); exact ezT hT)); (case' hk => rintro _ h' n' ⟨rfl, rfl, rfl⟩)) | ((with_reducible apply o_callF (g := 26) w_none); (case ha => exact ez0); (case hs => (exact qr _ _)); (case' hk => rintro _ h' n' ⟨rfl, rfl, rfl⟩)) | ((with_reducible apply o_callF (g := 22) w_none); (case ha => exact ez0); (case hs => ((with_reducible apply qv); (all_goals first | exact ezT hT | ((refine VH.more (B := n) ?_ (by omega)); (repeat' first | exact hv | refine VH.set ?_ (by omega) _))))); (case' hk => rintro _ h' n' ⟨rfl, rfl, rfl⟩)) | (with_reducible refine x_drawnD (id := 7) [(1, 5), (2, 5)] (by kernel_rfl) fun K' hK => ?_) | ((with_reducible apply d_nil); (case hp => exact ezP); (case' hx => (refine hK _ _ _ ?_; clear hK))) | ((with_reducible apply d_pure w_none); (case hp => exact rfl); (case hc => exact rfl); (case he => exact ez0)) | ((with_reducible apply d_eff w_none); (case hc => exact rfl); (case he => exact ez0); (case hok => exact ezO)) | ((with_reducible apply d_guard rfl); (case hb => exact ez0); (case' h1 => intro hb; (try simp only [hbs, reduceCtorEq] at hb); try exact ezX); (case' h2 => intro hb; (try simp only [hbs, reduceCtorEq] at hb); try exact ezX)) | ((with_reducible apply d_callS (g := 18) w_none); (case hs0 => exact rfl); (case ha => exact ez0); (case hs => ((with_reducible apply qk); exact ezD hr)); (case' hk => rintro _ h' n' ⟨rfl, rfl, rfl⟩)) | ((with_reducible apply d_callN (g := 18) w_none); (case hs0 => exact rfl); (case ha => exact ez0); (case hs => ((with_reducible apply qk); exact ezD hr)); (case' hk => rintro _ h' n' ⟨rfl, rfl, rfl⟩)) | ((with_reducible apply d_callS (g := 50) w_none); (case hs0 => exact rfl); (case ha => exact ez0); (case hs => ((with_reducible apply qs); (all_goals first | ((refine TabH.more (B := n) ?_ (by omega)); (repeat' first | exact hT | refine TabH.set ?_ (by omega) _)) | ((refine VH.more (B := n) ?_ (by omega)); (repeat' first | exact hv | refine VH.set ?_ (by omega) _)) | exact .inr ⟨_, rfl, by omega, ez0⟩))); (case' hk => rintro _ h' n' ⟨O, m, c2, rfl, he0, hn6, hk6, -⟩)) | ((with_reducible apply d_callN (g := 50) w_none); (case hs0 => exact rfl); (case ha => exact ez0); (case hs => ((with_reducible apply qs); (all_goals first | ((refine TabH.more (B := n) ?_ (by omega)); (repeat' first | exact hT | refine TabH.set ?_ (by omega) _)) | ((refine VH.more (B := n) ?_ (by omega)); (repeat' first | exact hv | refine VH.set ?_ (by omega) _)) | exact .inr ⟨_, rfl, by omega, ez0⟩))); (case' hk => rintro _ h' n' ⟨O, m, c2, rfl, he0, hn6, hk6, -⟩)) | ((with_reducible first | apply zo1 | apply zo2 | apply o_guard rfl | apply x_cond | apply k_e1 rfl | apply k_e2 rfl | apply k_e0 rfl | apply k_e3 rfl | apply k_e4 rfl); (case he => exact ez0); (try case hok => exact ezO); all_goals try (intro hb; (try simp only [hbs, reduceCtorEq] at hb); try exact ezX)) | ((with_reducible apply o_undef rfl); (case hb => exact ez0)))
     have r10 : rowOf h' (n + 1 + 1) = some (29, false, [.int .u64 0, .slice none 0 0]) := (by rw [rowOf_keep (hk6 _ (by omega))]; exact ez0)
     have w10 := rwOf_row r10
     (repeat' first | refine zcd ?_ | intro K' hK | (with_reducible refine zn hK ?_; clear hK) | ((with_reducible apply d_nil); (case hp => exact ezP); (case' hx => (refine hK _ _ _ ?_; clear hK))) | ((with_reducible apply d_pure w_none); (case hp => exact rfl); (case hc => exact rfl); (case he => exact ez0)) | ((with_reducible apply d_eff w_none); (case hc => exact rfl); (case he => exact ez0); (case hok => exact ezO)) | ((with_reducible apply d_guard rfl); (case hb => exact ez0); (case' h1 => intro hb; (try simp only [hbs, reduceCtorEq] at hb); try exact ezX); (case' h2 => intro hb; (try simp only [hbs, reduceCtorEq] at hb); try exact ezX)) | ((with_reducible first | apply zo1 | apply zo2 | apply o_guard rfl | apply x_cond | apply k_e1 rfl | apply k_e2 rfl | apply k_e0 rfl | apply k_e3 rfl | apply k_e4 rfl); (case he => exact ez1 w10); (try case hok => exact ezO); all_goals try (intro hb; (try simp only [hbs, reduceCtorEq] at hb); try exact ezX)) | ((with_reducible apply o_undef rfl); (case hb => exact ez0)))
     all_goals exact sw_sno2 he0
    | ok r =>
     obtain ⟨hs2, own⟩ := r
     refine enter Try.func20 (by kernel_rfl) rfl (by kernel_rfl) rfl rfl rfl ?_
     (repeat' first | refine zcd ?_ | intro K' hK | (with_reducible refine zn hK ?_; clear hK) | ((with_reducible apply o_callF (g := 36) w_none); (case ha => exact ez0); (case hs => ((with_reducible apply qa); exact ezT hT)); (case' hk => rintro _ h' n' ⟨rfl, rfl, rfl⟩)) | ((with_reducible apply o_callF (g := 26) w_none); (case ha => exact ez0); (case hs => (exact qr _ _)); (case' hk => rintro _ h' n' ⟨rfl, rfl, rfl⟩)) | ((with_reducible apply o_callF (g := 22) w_none); (case ha => exact ez0); (case hs => ((with_reducible apply qv); (all_goals first | exact ezT hT | ((refine VH.more (B := n) ?_ (by omega)); (repeat' first | exact hv | refine VH.set ?_ (by omega) _))))); (case' hk => rintro _ h' n' ⟨rfl, rfl, rfl⟩)) | (with_reducible refine x_drawnD (id := 7) [(1, 5), (2, 5)] (by kernel_rfl) fun K' hK => ?_) | ((with_reducible apply d_nil); (case hp => exact ezP); (case' hx => (refine hK _ _ _ ?_; clear hK))) | ((with_reducible apply d_pure w_none); (case hp => exact rfl); (case hc => exact rfl); (case he => exact ez0)) | ((with_reducible apply d_eff w_none); (case hc => exact rfl); (case he => exact ez0); (case hok => exact ezO)) | ((with_reducible apply d_guard rfl); (case hb => exact ez0); (case' h1 => intro hb; (try simp only [hbs, reduceCtorEq] at hb); try exact ezX); (case' h2 => intro hb; (try simp only [hbs, reduceCtorEq] at hb); try exact ezX)) | ((with_reducible apply d_callS (g := 18) w_none); (case hs0 => exact rfl); (case ha => exact ez0); (case hs => ((with_reducible apply qk); exact ezD hr)); (case' hk => rintro _ h' n' ⟨rfl, rfl, rfl⟩)) | ((with_reducible apply d_callN (g := 18) w_none); (case hs0 => exact rfl); (case ha => exact ez0); (case hs => ((with_reducible apply qk); exact ezD hr)); (case' hk => rintro _ h' n' ⟨rfl, rfl, rfl⟩)) | ((with_reducible apply d_callS (g := 50) w_none); (case hs0 => exact rfl); (case ha => exact ez0); (case hs => ((with_reducible apply qs); (all_goals first | ((refine TabH.more (B := n) ?_ (by omega)); (repeat' first | exact hT | refine TabH.set ?_ (by omega) _)) | ((refine VH.more (B := n) ?_ (by omega)); (repeat' first | exact hv | refine VH.set ?_ (by omega) _)) | exact .inr ⟨_, rfl, by omega, ez0⟩))); (case' hk => rintro _ h' n' ⟨A3, c3, bid, rfl, hr3, ho3, hne3, hb1, hb2, hb3, hn6, hk6⟩)) | ((with_reducible apply d_callN (g := 50) w_none); (case hs0 => exact rfl); (case ha => exact ez0); (case hs => ((with_reducible apply qs); (all_goals first | ((refine TabH.more (B := n) ?_ (by omega)); (repeat' first | exact hT | refine TabH.set ?_ (by omega) _)) | ((refine VH.more (B := n) ?_ (by omega)); (repeat' first | exact hv | refine VH.set ?_ (by omega) _)) | exact .inr ⟨_, rfl, by omega, ez0⟩))); (case' hk => rintro _ h' n' ⟨A3, c3, bid, rfl, hr3, ho3, hne3, hb1, hb2, hb3, hn6, hk6⟩)) | ((with_reducible first | apply zo1 | apply zo2 | apply o_guard rfl | apply x_cond | apply k_e1 rfl | apply k_e2 rfl | apply k_e0 rfl | apply k_e3 rfl | apply k_e4 rfl); (case he => exact ez0); (try case hok => exact ezO); all_goals try (intro hb; (try simp only [hbs, reduceCtorEq] at hb); try exact ezX)) | ((with_reducible apply o_undef rfl); (case hb => exact ez0)))
     have r10 : rowOf h' (n + 1 + 1) = some (29, false, [.int .u64 0, .slice none 0 0]) := (by rw [rowOf_keep (hk6 _ (by omega))]; exact ez0)
     have w10 := rwOf_row r10
     have hA3 : A3 = none ∨ ∃ id, A3 = some ⟨id, 0, none⟩ ∧ n + 1 + 1 < id := by
      rcases ho3 with e | ⟨id, e, hid⟩
      ·exact .inr ⟨_, e, by omega⟩
      ·exact .inr ⟨id, e, by omega⟩
     have hold : ∀ b, A3 = some ⟨b, 0, none⟩ → b < n' ∧ n + 1 + 1 < b := fun b hb => ⟨hr3.old b hb, by
      rcases hA3 with e | ⟨id, e, hid⟩
      ·rw [e] at hb; cases hb
      ·rw [hb] at e
       injection e with e
       injection e with e
       omega⟩
     (repeat' first | refine zcd ?_ | intro K' hK | (with_reducible refine zn hK ?_; clear hK) | ((with_reducible apply d_nil); (case hp => exact ezP); (case' hx => (refine hK _ _ _ ?_; clear hK))) | ((with_reducible apply d_pure w_none); (case hp => exact rfl); (case hc => exact rfl); (case he => exact ez0)) | ((with_reducible apply d_eff w_none); (case hc => exact rfl); (case he => exact ez0); (case hok => exact ezO)) | ((with_reducible apply d_guard rfl); (case hb => exact ez0); (case' h1 => intro hb; (try simp only [hbs, reduceCtorEq] at hb); try exact ezX); (case' h2 => intro hb; (try simp only [hbs, reduceCtorEq] at hb); try exact ezX)) | ((with_reducible first | apply zo1 | apply zo2 | apply o_guard rfl | apply x_cond | apply k_e1 rfl | apply k_e2 rfl | apply k_e0 rfl | apply k_e3 rfl | apply k_e4 rfl); (case he => exact ez1 w10); (try case hok => exact ezO); all_goals try (intro hb; (try simp only [hbs, reduceCtorEq] at hb); try exact ezX)) | ((with_reducible apply o_undef rfl); (case hb => exact ez0)))
     exact sw_store (A := none) (c := 0) (hs := []) (.inl ⟨rfl, rfl, rfl⟩) (hr3.at_ (by omega) (fun b hb => by have := hold b hb; (repeat rw [Hp.get_ne _ _ (by omega)]))) (hA3.imp (fun e => e) fun ⟨id, e, hid⟩ => ⟨id, e, by omega⟩) hne3 (by omega) (by omega) (fun b hb => by (repeat rw [Hp.get_ne _ _ (by omega)]); rw [hk6 _ (by omega)]; (repeat rw [Hp.get_ne _ _ (by omega)])) (ezW hb3)
   ·rw [if_neg hF]
    simp only [if_neg hF] at qv
    refine enter Try.func20 (by kernel_rfl) rfl (by kernel_rfl) rfl rfl rfl ?_
    (repeat' first | refine zcd ?_ | intro K' hK | (with_reducible refine zn hK ?_; clear hK) | ((with_reducible apply o_callF (g := 36) w_none); (case ha => exact ez0); (case hs => ((with_reducible apply qa); exact ezT hT)); (case' hk => rintro _ h' n' ⟨rfl, rfl, rfl⟩)) | ((with_reducible apply o_callF (g := 26) w_none); (case ha => exact ez0); (case hs => (exact qr _ _)); (case' hk => rintro _ h' n' ⟨rfl, rfl, rfl⟩)) | ((with_reducible apply o_callF (g := 22) w_none); (case ha => exact ez0); (case hs => ((with_reducible apply qv); (all_goals first | exact ezT hT | ((refine VH.more (B := n) ?_ (by omega)); (repeat' first | exact hv | refine VH.set ?_ (by omega) _))))); (case' hk => rintro _ h' n' ⟨rfl, rfl, rfl⟩)) | ((with_reducible first | apply zo1 | apply zo2 | apply o_guard rfl | apply x_cond | apply k_e1 rfl | apply k_e2 rfl | apply k_e0 rfl | apply k_e3 rfl | apply k_e4 rfl); (case he => exact ez0); (try case hok => exact ezO); all_goals try (intro hb; (try simp only [hbs, reduceCtorEq] at hb); try exact ezX)) | ((with_reducible apply o_undef rfl); (case hb => exact ez0)))
    all_goals exact sw_sno2 (by decide)
  ·rw [if_pos hB]
   obtain ⟨E, hEe⟩ : ∃ E, chkB b hs.length lim = E := ⟨_, rfl⟩
   simp only [hEe] at qr hB ⊢
   refine enter Try.func20 (by kernel_rfl) rfl (by kernel_rfl) rfl rfl rfl ?_
   (repeat' first | refine zcd ?_ | intro K' hK | (with_reducible refine zn hK ?_; clear hK) | ((with_reducible apply o_callF (g := 36) w_none); (case ha => exact ez0); (case hs => ((with_reducible apply qa); exact ezT hT)); (case' hk => rintro _ h' n' ⟨rfl, rfl, rfl⟩)) | ((with_reducible apply o_callF (g := 26) w_none); (case ha => exact ez0); (case hs => (exact qr _ _)); (case' hk => rintro _ h' n' ⟨rfl, rfl, rfl⟩)) | ((with_reducible apply o_callF (g := 22) w_none); (case ha => exact ez0); (case hs => ((with_reducible apply qv); (all_goals first | exact ezT hT | ((refine VH.more (B := n) ?_ (by omega)); (repeat' first | exact hv | refine VH.set ?_ (by omega) _))))); (case' hk => rintro _ h' n' ⟨rfl, rfl, rfl⟩)) | ((with_reducible first | apply zo1 | apply zo2 | apply o_guard rfl | apply x_cond | apply k_e1 rfl | apply k_e2 rfl | apply k_e0 rfl | apply k_e3 rfl | apply k_e4 rfl); (case he => exact ez0); (try case hok => exact ezO); all_goals try (intro hb; (try simp only [hbs, reduceCtorEq] at hb); try exact ezX)) | ((with_reducible apply o_undef rfl); (case hb => exact ez0)))
   all_goals exact sw_sno2 hB
 ·rw [if_pos hE]
  obtain ⟨E, hEe⟩ : ∃ E, okE T t = E := ⟨_, rfl⟩
  simp only [hEe] at qa hE ⊢
  refine enter Try.func20 (by kernel_rfl) rfl (by kernel_rfl) rfl rfl rfl ?_
  (repeat' first | refine zcd ?_ | intro K' hK | (with_reducible refine zn hK ?_; clear hK) | ((with_reducible apply o_callF (g := 36) w_none); (case ha => exact ez0); (case hs => ((with_reducible apply qa); exact ezT hT)); (case' hk => rintro _ h' n' ⟨rfl, rfl, rfl⟩)) | ((with_reducible apply o_callF (g := 26) w_none); (case ha => exact ez0); (case hs => (exact qr _ _)); (case' hk => rintro _ h' n' ⟨rfl, rfl, rfl⟩)) | ((with_reducible apply o_callF (g := 22) w_none); (case ha => exact ez0); (case hs => ((with_reducible apply qv); (all_goals first | exact ezT hT | ((refine VH.more (B := n) ?_ (by omega)); (repeat' first | exact hv | refine VH.set ?_ (by omega) _))))); (case' hk => rintro _ h' n' ⟨rfl, rfl, rfl⟩)) | ((with_reducible first | apply zo1 | apply zo2 | apply o_guard rfl | apply x_cond | apply k_e1 rfl | apply k_e2 rfl | apply k_e0 rfl | apply k_e3 rfl | apply k_e4 rfl); (case he => exact ez0); (try case hok => exact ezO); all_goals try (intro hb; (try simp only [hbs, reduceCtorEq] at hb); try exact ezX)) | ((with_reducible apply o_undef rfl); (case hb => exact ez0)))
  all_goals exact sw_sno2 hE
end Go.Proofs.Ytcpkdjikembpnaa.Ce
namespace Go.Proofs.Ytcpkdjikembpnaa.Ce
open Go.RowKit
theorem sp_fixs {P : Program} {F : CallE} {cl : Nat} {g : FuncId} {ar : List Value} {h : Hp} {m : Nat} {Φ : Value → Hp → Nat → Prop} (hs : Sp P F cl g ar h m Φ) : ∃ v h' n', Φ v h' n' ∧ Sp P F cl g ar h m fun v2 h2 n2 => v2 = v ∧ h2 = h' ∧ n2 = n' := by
 obtain ⟨hg, v, h', n', hr, hp⟩ := hs
 exact ⟨v, h', n', hp, hg, v, h', n', hr, rfl, rfl, rfl⟩
theorem cnt_bd {v : V} (h : cntF 501 500 v ≤ 500) : Bd 500 v := by
 have := cntF_sz 501 500 v (by omega) h
 exact Bd.of_sz 500 v (by omega) (by omega)
variable (k d cl : Nat) (h : Hp) (n : Nat)
theorem lst_out (hk : 30000 ≤ k) (TA A : Option Addr) (T : List Tp) (hs : List UInt8) (tc c : Nat) (b lim t : Int) (v w : V) (cs cs2 : List Value) (hv : VH h n v cs) (hw : VH h n w cs2) (hm : hs.length ≤ 9223372036854775807) (B4 : Bool) (hout : B4 = true ∨ greatB hs.length = true ∨ 500 < cntF 501 500 v ∨ 500 < cntF 501 500 w) (hS1 : SQ k (d + 2600) n 9 [.slice TA T.length tc] (((h.set n (.row 29 false [.int .u64 b, .slice A hs.length c])).set (n + 1) (.row 32 false cs)).set (n + 2) (.row 32 false cs2)) (n + 3) fun v2 h2 n2 => v2 = .bool B4 ∧ (((h.set n (.row 29 false [.int .u64 b, .slice A hs.length c])).set (n + 1) (.row 32 false cs)).set (n + 2) (.row 32 false cs2)) = h2 ∧ n + 3 = n2) :
  SQ k (d + 2601) cl 4 [.slice TA T.length tc, .agg ⟨[.int .u64 b, .slice A hs.length c]⟩, .int .i64 lim, .int .i64 t, .agg ⟨cs⟩, .agg ⟨cs2⟩] h n fun v h' n' => v = .bool true := by
 have qg := fun (h6 : Hp) (n6 : Nat) => (great_ev k (d + 2599) n h6 n6 b A hs.length c).mono (Φ' := fun v2 h2 n2 => v2 = .bool (greatB hs.length) ∧ h6 = h2 ∧ n6 = n2) fun _ _ _ hp => ⟨hp.1, hp.2.1.symm, hp.2.2.symm⟩
 have qc1 := fun (h6 : Hp) (n6 : Nat) (hv6 : VH h6 n6 v cs) => rcount_ev k hk 501 500 v (by omega) (by omega) (d + 2099) n h6 n6 cs hv6
 have qc2 := fun (h6 : Hp) (n6 : Nat) (hv6 : VH h6 n6 w cs2) => rcount_ev k hk 501 500 w (by omega) (by omega) (d + 2099) n h6 n6 cs2 hv6
 obtain ⟨A1, cc1, rfl, -, -⟩ := hv.cut
 obtain ⟨A2, cc2, rfl, -, -⟩ := hw.cut
 have qc1 : ∀ (h6 : Hp) (n6 : Nat), VH h6 n6 v (vcell v.kd v.i v.s A1 v.l.length cc1 v.c) → SQ k (d + 2600) n 17 [.agg ⟨vcell v.kd v.i v.s A1 v.l.length cc1 v.c⟩, .int .i64 500] h6 n6 fun w' h' n' => w' = .int .i64 (cntF 501 500 v) ∧ h6 = h' ∧ n6 = n' := qc1
 have qc2 : ∀ (h6 : Hp) (n6 : Nat), VH h6 n6 w (vcell w.kd w.i w.s A2 w.l.length cc2 w.c) → SQ k (d + 2600) n 17 [.agg ⟨vcell w.kd w.i w.s A2 w.l.length cc2 w.c⟩, .int .i64 500] h6 n6 fun w' h' n' => w' = .int .i64 (cntF 501 500 w) ∧ h6 = h' ∧ n6 = n' := qc2
 obtain ⟨G, hG⟩ : ∃ G, greatB hs.length = G := ⟨_, rfl⟩
 obtain ⟨C1, hC1⟩ : ∃ C, cntF 501 500 v = C := ⟨_, rfl⟩
 obtain ⟨C2, hC2⟩ : ∃ C, cntF 501 500 w = C := ⟨_, rfl⟩
 simp only [hG] at hout qg
 simp only [hC1] at hout qc1
 simp only [hC2] at hout qc2
 cases B4 <;> cases G
 all_goals
  try simp only [Bool.false_eq_true, reduceCtorEq, false_or] at hout
  refine enter Try.func4 (by kernel_rfl) rfl (by kernel_rfl) rfl rfl rfl ?_
  (repeat' first | refine zcd ?_ | intro K' hK | (with_reducible refine zn hK ?_; clear hK) | ((with_reducible apply o_callF (g := 9) w_none); (case ha => exact ez0); (case hs => (exact hS1)); (case' hk => rintro _ h' n' ⟨rfl, rfl, rfl⟩)) | ((with_reducible apply o_callF (g := 16) w_none); (case ha => exact ez0); (case hs => (exact qg _ _)); (case' hk => rintro _ h' n' ⟨rfl, rfl, rfl⟩)) | ((with_reducible apply o_callF (g := 17) w_none); (case ha => exact ez0); (case hs => ((first | with_reducible apply qc1 | with_reducible apply qc2); (first | ((refine VH.more (B := n) ?_ (by omega)); (repeat' first | exact hv | refine VH.set ?_ (by omega) _); done) | ((refine VH.more (B := n) ?_ (by omega)); (repeat' first | exact hw | refine VH.set ?_ (by omega) _); done)))); (case' hk => rintro _ h' n' ⟨rfl, rfl, rfl⟩)) | ((with_reducible first | apply zo1 | apply zo2 | apply o_guard rfl | apply x_cond | apply k_e1 rfl | apply k_e2 rfl | apply k_e0 rfl | apply k_e3 rfl | apply k_e4 rfl); (case he => exact ez0); (try case hok => exact ezO); all_goals try (intro hb; (try simp only [hbs, reduceCtorEq] at hb); try exact ezX)) | ((with_reducible apply o_undef rfl); (case hb => exact ez0)))
  all_goals first | exact sw_flat rfl rfl rfl | (exfalso; omega)
theorem lst_in (hk : 30000 ≤ k) (TA A : Option Addr) (T : List Tp) (hs : List UInt8) (tc c : Nat) (b lim t : Int) (v w : V) (cs cs2 : List Value) (hv : VH h n v cs) (hw : VH h n w cs2) (hT : TabH h n TA T) (hg4 : T.length ≤ 40 ∧ ∀ t ∈ T, t.fs.length ≤ 20) (hr : RdH h n A (bv hs)) (hc : A = none → c = 0) (hgr : greatB hs.length = false) (hcv : cntF 501 500 v ≤ 500) (hcw : cntF 501 500 w ≤ 500) (B4 : Bool) (hB4 : B4 = false) (hS1 : SQ k (d + 2600) n 9 [.slice TA T.length tc] (((h.set n (.row 29 false [.int .u64 b, .slice A hs.length c])).set (n + 1) (.row 32 false cs)).set (n + 2) (.row 32 false cs2)) (n + 3) fun v2 h2 n2 => v2 = .bool B4 ∧ (((h.set n (.row 29 false [.int .u64 b, .slice A hs.length c])).set (n + 1) (.row 32 false cs)).set (n + 2) (.row 32 false cs2)) = h2 ∧ n + 3 = n2) :
  SQ k (d + 2601) cl 4 [.slice TA T.length tc, .agg ⟨[.int .u64 b, .slice A hs.length c]⟩, .int .i64 lim, .int .i64 t, .agg ⟨cs⟩, .agg ⟨cs2⟩] h n fun v h' n' => v = .bool true := by
 subst hB4
 have hhl : hs.length ≤ 16500 := by unfold greatB at hgr; simp at hgr; omega
 have hST : ∀ t ∈ T, t.fs.length ≤ 20000 := fun t ht => by have := hg4.2 t ht; omega
 have hmm : T.length ≤ 9223372036854775807 := by omega
 have bv1 := cnt_bd hcv
 have bw1 := cnt_bd hcw
 have qg := fun (h6 : Hp) (n6 : Nat) => (great_ev k (d + 2599) n h6 n6 b A hs.length c).mono (Φ' := fun v2 h2 n2 => v2 = .bool (greatB hs.length) ∧ h6 = h2 ∧ n6 = n2) fun _ _ _ hp => ⟨hp.1, hp.2.1.symm, hp.2.2.symm⟩
 rw [hgr] at qg
 obtain ⟨A1, cc1, rfl, -, -⟩ := hv.cut
 obtain ⟨A2, cc2, rfl, -, -⟩ := hw.cut
 obtain ⟨C1, hC1⟩ : ∃ C, cntF 501 500 v = C := ⟨_, rfl⟩
 obtain ⟨C2, hC2⟩ : ∃ C, cntF 501 500 w = C := ⟨_, rfl⟩
 rw [hC1] at hcv
 rw [hC2] at hcw
 have qc1 : ∀ (h6 : Hp) (n6 : Nat), VH h6 n6 v (vcell v.kd v.i v.s A1 v.l.length cc1 v.c) → SQ k (d + 2600) n 17 [.agg ⟨vcell v.kd v.i v.s A1 v.l.length cc1 v.c⟩, .int .i64 500] h6 n6 fun w' h' n' => w' = .int .i64 C1 ∧ h6 = h' ∧ n6 = n' := fun h6 n6 hv6 => by
  have := rcount_ev k hk 501 500 v (by omega) (by omega) (d + 2099) n h6 n6 _ hv6
  rw [hC1] at this
  exact this
 have qc2 : ∀ (h6 : Hp) (n6 : Nat), VH h6 n6 w (vcell w.kd w.i w.s A2 w.l.length cc2 w.c) → SQ k (d + 2600) n 17 [.agg ⟨vcell w.kd w.i w.s A2 w.l.length cc2 w.c⟩, .int .i64 500] h6 n6 fun w' h' n' => w' = .int .i64 C2 ∧ h6 = h' ∧ n6 = n' := fun h6 n6 hv6 => by
  have := rcount_ev k hk 501 500 w (by omega) (by omega) (d + 2099) n h6 n6 _ hv6
  rw [hC2] at this
  exact this
 have qt := fun (h6 : Hp) (n6 : Nat) (hr6 : RdH h6 n6 A (bv hs)) => (twin_ev k (d + 2599) n h6 n6 b A hs c hr6 hc (by omega)).mono (Φ' := fun v h' n' => v = .agg ⟨[.int .u64 b, .slice (some ⟨n6, 0, none⟩) hs.length hs.length]⟩ ∧ h6.set n6 (.row 5 false (bv hs)) = h' ∧ n6 + 1 = n') fun _ _ _ hp => ⟨hp.1, hp.2.1.symm, hp.2.2.symm⟩
 obtain ⟨C, hC⟩ : ∃ C, chkV T 500 t v = C := ⟨_, rfl⟩
 have qv : ∀ (cl2 : Nat) (h6 : Hp) (n6 : Nat), TabH h6 n6 TA T → VH h6 n6 v (vcell v.kd v.i v.s A1 v.l.length cc1 v.c) → SQ k (d + 2600) cl2 21 [.slice TA T.length tc, .int .i64 t, .agg ⟨vcell v.kd v.i v.s A1 v.l.length cc1 v.c⟩] h6 n6 fun w' h' n' => w' = .int .i64 C ∧ h6 = h' ∧ n6 = n' := fun cl2 h6 n6 hT6 hv6 => by
  have := vchk_ev k (d + 89) cl2 h6 n6 hk TA T tc hT6 hST hmm 500 t v bv1 _ hv6
  rw [hC] at this
  exact this
 have qrv : ∀ (cl2 : Nat) (h6 : Hp) (n6 : Nat), TabH h6 n6 TA T → VH h6 n6 v (vcell v.kd v.i v.s A1 v.l.length cc1 v.c) → SQ k (d + 2600) cl2 22 [.slice TA T.length tc, .int .i64 t, .agg ⟨vcell v.kd v.i v.s A1 v.l.length cc1 v.c⟩] h6 n6 fun w' h' n' => w' = .int .i64 C ∧ h6 = h' ∧ n6 = n' := fun cl2 h6 n6 hT6 hv6 => by
  have := rchk15_ev k (d + 2087) cl2 h6 n6 hk TA T tc hT6 hST hmm 500 t v bv1 _ hv6
  rw [hC] at this
  exact this
 obtain ⟨R, hR⟩ : ∃ R, storeR T lim 500 b hs t v = R := ⟨_, rfl⟩
 have qs : ∀ (h6 : Hp) (n6 id : Nat), TabH h6 n6 TA T → VH h6 n6 v (vcell v.kd v.i v.s A1 v.l.length cc1 v.c) → RdH h6 n6 (some ⟨id, 0, none⟩) (bv hs) → SQ k (d + 2600) n 19 [.slice TA T.length tc, .agg ⟨[.int .u64 b, .slice (some ⟨id, 0, none⟩) hs.length hs.length]⟩, .int .i64 lim, .int .i64 t, .agg ⟨vcell v.kd v.i v.s A1 v.l.length cc1 v.c⟩] h6 n6 (StN R h6 n6) := fun h6 n6 id hT6 hv6 hr6 => by
  have := vstore_ev k (d + 88) n h6 n6 hk TA T tc hT6 hST hmm lim 500 t v bv1 _ hv6 b (some ⟨id, 0, none⟩) hs.length hs hr6 (fun e => by cases e) (.inr ⟨_, _, rfl⟩) (by omega)
  rw [hR] at this
  exact this
 have qrs : ∀ (h6 : Hp) (n6 : Nat), TabH h6 n6 TA T → VH h6 n6 v (vcell v.kd v.i v.s A1 v.l.length cc1 v.c) → RdH h6 n6 A (bv hs) → SQ k (d + 2600) n 20 [.slice TA T.length tc, .agg ⟨[.int .u64 b, .slice A hs.length c]⟩, .int .i64 lim, .int .i64 t, .agg ⟨vcell v.kd v.i v.s A1 v.l.length cc1 v.c⟩] h6 n6 (StN R h6 n6) := fun h6 n6 hT6 hv6 hr6 => by
  have := rstore_ev k (d + 2086) n h6 n6 hk TA T tc hT6 hST hmm lim 500 t v bv1 _ hv6 b A c hs hr6 hc (by omega)
  rw [hR] at this
  exact this
 have ps := fun (cl2 : Nat) (h6 : Hp) (n6 : Nat) (cs cs' : List Value) (va : VH h6 n6 v cs) (vb : VH h6 n6 w cs') => (psamev_ev k hk 500 v w (d + 1600) cl2 h6 n6 cs cs' bv1 va vb).mono (Φ' := fun x h' n' => x = .bool (sameV v w) ∧ h6 = h' ∧ n6 = n') fun _ _ _ hp => ⟨hp.1, hp.2.1.symm, hp.2.2.symm⟩
 have rs := fun (cl2 : Nat) (h6 : Hp) (n6 : Nat) (cs cs' : List Value) (va : VH h6 n6 v cs) (vb : VH h6 n6 w cs') => (rsamev_ev k hk 500 v w (d + 2100) cl2 h6 n6 cs cs' bv1 va vb).mono (Φ' := fun x h' n' => x = .bool (sameV v w) ∧ h6 = h' ∧ n6 = n') fun _ _ _ hp => ⟨hp.1, hp.2.1.symm, hp.2.2.symm⟩
 obtain ⟨S, hS⟩ : ∃ S, sameV v w = S := ⟨_, rfl⟩
 simp only [hS] at ps rs
 have sb : ∀ (a : Int) (xs : List UInt8), sameB a xs a xs = true := fun a xs => by unfold sameB; simp
 have qo := fun (cl2 : Nat) (h6 : Hp) (n6 id : Nat) (hr6 : RdH h6 n6 (some ⟨id, 0, none⟩) (bv hs)) (hr7 : RdH h6 n6 A (bv hs)) => (rsame_ev k (d + 2599) cl2 h6 n6 b (some ⟨id, 0, none⟩) hs hs.length b A hs c hr6 hr7 (fun e => by cases e) hc).mono (Φ' := fun x h' n' => x = .bool true ∧ h6 = h' ∧ n6 = n') fun _ _ _ hp => ⟨by rw [hp.1, sb], hp.2.1.symm, hp.2.2.symm⟩
 clear hC1 hC2 hC hR hS
 cases R with
 | error e =>
  have qz : ∀ (cl2 : Nat) (h6 : Hp) (n6 : Nat), SQ k (d + 2600) cl2 23 [.agg ⟨[.int .u64 0, .slice none 0 0]⟩, .agg ⟨[.int .u64 0, .slice none 0 0]⟩] h6 n6 fun x h' n' => x = .bool true ∧ h6 = h' ∧ n6 = n' := fun cl2 h6 n6 => (rsame_ev k (d + 2599) cl2 h6 n6 0 none [] 0 0 none [] 0 RdH.nil RdH.nil (fun _ => rfl) (fun _ => rfl)).mono fun _ _ _ hp => ⟨by rw [hp.1, sb], hp.2.1.symm, hp.2.2.symm⟩
  have hSS : (S == S) = true := by cases S <;> rfl
  have hCC : (C == C) = true := by simp
  have hee : (e == e) = true := by simp
  refine enter Try.func4 (by kernel_rfl) rfl (by kernel_rfl) rfl rfl rfl ?_
  (repeat' first | refine zcd ?_ | intro K' hK | (with_reducible refine zn hK ?_; clear hK) | ((with_reducible apply o_callF (g := 9) w_none); (case ha => exact ez0); (case hs => (exact hS1)); (case' hk => rintro _ h' n' ⟨rfl, rfl, rfl⟩)) | ((with_reducible apply o_callF (g := 16) w_none); (case ha => exact ez0); (case hs => (exact qg _ _)); (case' hk => rintro _ h' n' ⟨rfl, rfl, rfl⟩)) | ((with_reducible apply o_callF (g := 17) w_none); (case ha => exact ez0); (case hs => ((first | with_reducible apply qc1 | with_reducible apply qc2); (first | ((refine VH.more (B := n) ?_ (by omega)); (repeat' first | exact hv | refine VH.set ?_ (by omega) _); done) | ((refine VH.more (B := n) ?_ (by omega)); (repeat' first | exact hw | refine VH.set ?_ (by omega) _); done)))); (case' hk => rintro _ h' n' ⟨rfl, rfl, rfl⟩)) | ((with_reducible apply o_callF (g := 18) w_none); (case ha => exact ez0); (case hs => ((with_reducible apply qt); exact ezD hr)); (case' hk => rintro _ h' n' ⟨rfl, rfl, rfl⟩)) | ((with_reducible apply o_callF (g := 19) w_none); (case ha => exact ez0); (case hs => ((with_reducible apply qs); (all_goals first | ((refine TabH.more (B := n) ?_ (by omega)); (repeat' first | exact hT | refine TabH.set ?_ (by omega) _)) | ((refine VH.more (B := n) ?_ (by omega)); (repeat' first | exact hv | refine VH.set ?_ (by omega) _); done) | ((repeat' (first | with_reducible exact RdH.row (by omega) | with_reducible refine RdH.ne ?_ (by omega) _)); done)))); (case' hk => rintro _ h' n' ⟨rfl, he0, rfl, rfl⟩)) | ((with_reducible apply o_callF (g := 20) w_none); (case ha => exact ez0); (case hs => ((with_reducible apply qrs); (all_goals first | ((refine TabH.more (B := n) ?_ (by omega)); (repeat' first | exact hT | refine TabH.set ?_ (by omega) _)) | ((refine VH.more (B := n) ?_ (by omega)); (repeat' first | exact hv | refine VH.set ?_ (by omega) _); done) | exact ezD hr))); (case' hk => rintro _ h' n' ⟨rfl, he1, rfl, rfl⟩)) | (with_reducible refine x_drawnD (id := 6) [(2, 6), (3, 6), (10, 11), (16, 18), (27, 28), (32, 33), (32, 35), (33, 35), (34, 35), (32, 36), (33, 36), (34, 36), (35, 36)] (by kernel_rfl) fun K' hK => ?_) | ((with_reducible apply d_nil); (case hp => exact ezP); (case' hx => (refine hK _ _ _ ?_; clear hK))) | ((with_reducible apply d_pure w_none); (case hp => exact rfl); (case hc => exact rfl); (case he => exact ez5 @b_strEql @b_self hSS hCC hee)) | ((with_reducible apply d_eff w_none); (case hc => exact rfl); (case he => exact ez5 @b_strEql @b_self hSS hCC hee); (case hok => exact ezO)) | ((with_reducible apply d_guard rfl); (case hb => exact ez5 @b_strEql @b_self hSS hCC hee); (case' h1 => intro hb; (try simp only [hbs, reduceCtorEq] at hb); try exact ezX); (case' h2 => intro hb; (try simp only [hbs, reduceCtorEq] at hb); try exact ezX)) | ((with_reducible apply d_callS (g := 21) w_none); (case hs0 => exact rfl); (case ha => exact ez0); (case hs => ((with_reducible apply qv); (all_goals first | ((refine TabH.more (B := n) ?_ (by omega)); (repeat' first | exact hT | refine TabH.set ?_ (by omega) _)) | ((refine VH.more (B := n) ?_ (by omega)); (repeat' first | exact hv | refine VH.set ?_ (by omega) _); done)))); (case' hk => rintro _ h' n' ⟨rfl, rfl, rfl⟩)) | ((with_reducible apply d_callN (g := 21) w_none); (case hs0 => exact rfl); (case ha => exact ez0); (case hs => ((with_reducible apply qv); (all_goals first | ((refine TabH.more (B := n) ?_ (by omega)); (repeat' first | exact hT | refine TabH.set ?_ (by omega) _)) | ((refine VH.more (B := n) ?_ (by omega)); (repeat' first | exact hv | refine VH.set ?_ (by omega) _); done)))); (case' hk => rintro _ h' n' ⟨rfl, rfl, rfl⟩)) | ((with_reducible apply d_callS (g := 22) w_none); (case hs0 => exact rfl); (case ha => exact ez0); (case hs => ((with_reducible apply qrv); (all_goals first | ((refine TabH.more (B := n) ?_ (by omega)); (repeat' first | exact hT | refine TabH.set ?_ (by omega) _)) | ((refine VH.more (B := n) ?_ (by omega)); (repeat' first | exact hv | refine VH.set ?_ (by omega) _); done)))); (case' hk => rintro _ h' n' ⟨rfl, rfl, rfl⟩)) | ((with_reducible apply d_callN (g := 22) w_none); (case hs0 => exact rfl); (case ha => exact ez0); (case hs => ((with_reducible apply qrv); (all_goals first | ((refine TabH.more (B := n) ?_ (by omega)); (repeat' first | exact hT | refine TabH.set ?_ (by omega) _)) | ((refine VH.more (B := n) ?_ (by omega)); (repeat' first | exact hv | refine VH.set ?_ (by omega) _); done)))); (case' hk => rintro _ h' n' ⟨rfl, rfl, rfl⟩)) | ((with_reducible apply d_callS (g := 23) w_none); (case hs0 => exact rfl); (case ha => exact ez0); (case hs => (exact qz _ _ _)); (case' hk => rintro _ h' n' ⟨rfl, rfl, rfl⟩)) | ((with_reducible apply d_callN (g := 23) w_none); (case hs0 => exact rfl); (case ha => exact ez0); (case hs => (exact qz _ _ _)); (case' hk => rintro _ h' n' ⟨rfl, rfl, rfl⟩)) | ((with_reducible apply d_callS (g := 23) w_none); (case hs0 => exact rfl); (case ha => exact ez0); (case hs => ((with_reducible apply qo); (all_goals first | ((repeat' (first | with_reducible exact RdH.row (by omega) | with_reducible refine RdH.ne ?_ (by omega) _)); done) | exact ezD hr))); (case' hk => rintro _ h' n' ⟨rfl, rfl, rfl⟩)) | ((with_reducible apply d_callN (g := 23) w_none); (case hs0 => exact rfl); (case ha => exact ez0); (case hs => ((with_reducible apply qo); (all_goals first | ((repeat' (first | with_reducible exact RdH.row (by omega) | with_reducible refine RdH.ne ?_ (by omega) _)); done) | exact ezD hr))); (case' hk => rintro _ h' n' ⟨rfl, rfl, rfl⟩)) | ((with_reducible apply d_b2s (xs := []) (B := 0) b2T27_9 w_none); (case hy => exact ez0); (case hr => exact RdH.nil); (case h0 => intro _; rfl); (case' hx => intro rd)) | ((with_reducible apply d_callS (g := 24) w_none); (case hs0 => exact rfl); (case ha => exact ez0); (case hs => ((with_reducible apply ps); (all_goals first | ((refine VH.more (B := n) ?_ (by omega)); (repeat' first | exact hv | refine VH.set ?_ (by omega) _); done) | ((refine VH.more (B := n) ?_ (by omega)); (repeat' first | exact hw | refine VH.set ?_ (by omega) _); done)))); (case' hk => rintro _ h' n' ⟨rfl, rfl, rfl⟩)) | ((with_reducible apply d_callN (g := 24) w_none); (case hs0 => exact rfl); (case ha => exact ez0); (case hs => ((with_reducible apply ps); (all_goals first | ((refine VH.more (B := n) ?_ (by omega)); (repeat' first | exact hv | refine VH.set ?_ (by omega) _); done) | ((refine VH.more (B := n) ?_ (by omega)); (repeat' first | exact hw | refine VH.set ?_ (by omega) _); done)))); (case' hk => rintro _ h' n' ⟨rfl, rfl, rfl⟩)) | ((with_reducible apply d_callS (g := 15) w_none); (case hs0 => exact rfl); (case ha => exact ez0); (case hs => ((with_reducible apply rs); (all_goals first | ((refine VH.more (B := n) ?_ (by omega)); (repeat' first | exact hv | refine VH.set ?_ (by omega) _); done) | ((refine VH.more (B := n) ?_ (by omega)); (repeat' first | exact hw | refine VH.set ?_ (by omega) _); done)))); (case' hk => rintro _ h' n' ⟨rfl, rfl, rfl⟩)) | ((with_reducible apply d_callN (g := 15) w_none); (case hs0 => exact rfl); (case ha => exact ez0); (case hs => ((with_reducible apply rs); (all_goals first | ((refine VH.more (B := n) ?_ (by omega)); (repeat' first | exact hv | refine VH.set ?_ (by omega) _); done) | ((refine VH.more (B := n) ?_ (by omega)); (repeat' first | exact hw | refine VH.set ?_ (by omega) _); done)))); (case' hk => rintro _ h' n' ⟨rfl, rfl, rfl⟩)) | ((with_reducible first | apply zo1 | apply zo2 | apply o_guard rfl | apply x_cond | apply k_e1 rfl | apply k_e2 rfl | apply k_e0 rfl | apply k_e3 rfl | apply k_e4 rfl); (case he => exact ez0); (try case hok => exact ezO); all_goals try (intro hb; (try simp only [hbs, reduceCtorEq] at hb); try exact ezX)) | ((with_reducible apply o_undef rfl); (case hb => exact ez0)))
  all_goals exact sw_flat rfl rfl rfl
 | ok r =>
  obtain ⟨hs2, own⟩ := r
  have hSS : (S == S) = true := by cases S <;> rfl
  have hCC : (C == C) = true := by simp
  refine enter Try.func4 (by kernel_rfl) rfl (by kernel_rfl) rfl rfl rfl ?_
  (repeat' first | refine zcd ?_ | intro K' hK | (with_reducible refine zn hK ?_; clear hK) | ((with_reducible apply o_callF (g := 9) w_none); (case ha => exact ez0); (case hs => (exact hS1)); (case' hk => rintro _ h' n' ⟨rfl, rfl, rfl⟩)) | ((with_reducible apply o_callF (g := 16) w_none); (case ha => exact ez0); (case hs => (exact qg _ _)); (case' hk => rintro _ h' n' ⟨rfl, rfl, rfl⟩)) | ((with_reducible apply o_callF (g := 17) w_none); (case ha => exact ez0); (case hs => ((first | with_reducible apply qc1 | with_reducible apply qc2); (first | ((refine VH.more (B := n) ?_ (by omega)); (repeat' first | exact hv | refine VH.set ?_ (by omega) _); done) | ((refine VH.more (B := n) ?_ (by omega)); (repeat' first | exact hw | refine VH.set ?_ (by omega) _); done)))); (case' hk => rintro _ h' n' ⟨rfl, rfl, rfl⟩)) | ((with_reducible apply o_callF (g := 18) w_none); (case ha => exact ez0); (case hs => ((with_reducible apply qt); exact ezD hr)); (case' hk => rintro _ h' n' ⟨rfl, rfl, rfl⟩)) | ((with_reducible apply o_callF (g := 19) w_none); (case ha => exact ez0); (case hs => ((with_reducible apply qs); (all_goals first | ((refine TabH.more (B := n) ?_ (by omega)); (repeat' first | exact hT | refine TabH.set ?_ (by omega) _)) | ((refine VH.more (B := n) ?_ (by omega)); (repeat' first | exact hv | refine VH.set ?_ (by omega) _); done) | ((repeat' (first | with_reducible exact RdH.row (by omega) | with_reducible refine RdH.ne ?_ (by omega) _)); done)))); (case' hk => rintro _ h' n' ⟨A3, c3, bid, rfl, hr3, ho3, hne3, hb1, hb2, hb3, hn1, hk1⟩)) | ((with_reducible first | apply zo1 | apply zo2 | apply o_guard rfl | apply x_cond | apply k_e1 rfl | apply k_e2 rfl | apply k_e0 rfl | apply k_e3 rfl | apply k_e4 rfl); (case he => exact ez0); (try case hok => exact ezO); all_goals try (intro hb; (try simp only [hbs, reduceCtorEq] at hb); try exact ezX)) | ((with_reducible apply o_undef rfl); (case hb => exact ez0)))
  obtain ⟨h1, rfl⟩ : ∃ y, y = h' := ⟨_, rfl⟩
  obtain ⟨n1, rfl⟩ : ∃ y, y = n' := ⟨_, rfl⟩
  have b1 : ∀ q, q < n → h1.get q = h.get q := fun q hq => by rw [hk1 _ (by omega)]; (repeat rw [Hp.get_ne _ _ (by omega)])
  have r7 : rowOf h1 n = some (29, false, [.int .u64 b, .slice A hs.length c]) := by rw [rowOf_keep (hk1 _ (by omega))]; exact ez0
  have r10 : rowOf h1 (n + 1) = some (32, false, vcell v.kd v.i v.s A1 v.l.length cc1 v.c) := by rw [rowOf_keep (hk1 _ (by omega))]; exact ez0
  have r11 : rowOf h1 (n + 2) = some (32, false, vcell w.kd w.i w.s A2 w.l.length cc2 w.c) := by rw [rowOf_keep (hk1 _ (by omega))]; exact ez0
  have rt : rowOf h1 (n + 3) = some (5, false, bv hs) := by rw [rowOf_keep (hk1 _ (by omega))]; exact ez0
  have r13 : rowOf h1 (n + 4) = some (29, false, [.int .u64 b, .slice (some ⟨n + 3, 0, none⟩) hs.length hs.length]) := by rw [rowOf_keep (hk1 _ (by omega))]; exact ez0
  have hT1 : TabH h1 n TA T := hT.keep (Nat.le_refl _) b1
  have hv1 : VH h1 n v (vcell v.kd v.i v.s A1 v.l.length cc1 v.c) := hv.keep (Nat.le_refl _) b1
  have hr1 : RdH h1 n A (bv hs) := hr.keep (Nat.le_refl _) b1
  have f7 := cellsAt_row (off := 0) (k := 2) r7
  have f10 := cellsAt_row (off := 0) (k := 5) r10
  clear hk1 qs hS1 qc1 qc2 qg
  (repeat' first | refine zcd ?_ | intro K' hK | (with_reducible refine zn hK ?_; clear hK) | ((with_reducible apply o_callF (g := 20) w_none); (case ha => exact ez0); (case hs => ((with_reducible apply qrs); (all_goals first | ((refine TabH.more (B := n) ?_ (by omega)); (repeat' first | exact hT1 | refine TabH.set ?_ (by omega) _)) | ((refine VH.more (B := n) ?_ (by omega)); (repeat' first | exact hv1 | refine VH.set ?_ (by omega) _); done) | exact ezD hr1))); (case' hk => rintro _ h' n' ⟨A5, c5, bid5, rfl, hr5, ho5, hne5, hb51, hb52, hb53, hn2, hk2⟩)) | ((with_reducible first | apply zo1 | apply zo2 | apply o_guard rfl | apply x_cond | apply k_e1 rfl | apply k_e2 rfl | apply k_e0 rfl | apply k_e3 rfl | apply k_e4 rfl); (case he => exact ez2 f7 f10); (try case hok => exact ezO); all_goals try (intro hb; (try simp only [hbs, reduceCtorEq] at hb); try exact ezX)) | ((with_reducible apply o_undef rfl); (case hb => exact ez0)))
  obtain ⟨h2, rfl⟩ : ∃ y, y = h' := ⟨_, rfl⟩
  obtain ⟨n2, rfl⟩ : ∃ y, y = n' := ⟨_, rfl⟩
  have b2 : ∀ q, q < n1 → h2.get q = h1.get q := fun q hq => by rw [hk2 _ (by omega)]; (repeat rw [Hp.get_ne _ _ (by omega)])
  have b3 : ∀ q, q < n → h2.get q = h.get q := fun q hq => (b2 q (by omega)).trans (b1 q hq)
  have s14 : rowOf h2 n1 = some (29, false, [.int .u64 65536, .slice A3 hs2.length c3]) := by rw [rowOf_keep (hk2 _ (by omega))]; exact ez0
  have s7 := (rowOf_keep (b2 n (by omega))).trans r7
  have s10 := (rowOf_keep (b2 (n + 1) (by omega))).trans r10
  have s11 := (rowOf_keep (b2 (n + 2) (by omega))).trans r11
  have s13 := (rowOf_keep (b2 (n + 4) (by omega))).trans r13
  have st := (rowOf_keep (b2 (n + 3) (by omega))).trans rt
  have sO := (rowOf_keep (b2 bid (by omega))).trans hb3
  have hq3 : RdH h2 n2 A3 (bv hs2) := ((hr3.rd.1.keep (Nat.le_refl _) b2).more (by omega))
  have hq5 : RdH h2 n2 A5 (bv hs2) := hr5.rd.1
  have hT2 : TabH h2 n TA T := hT.keep (Nat.le_refl _) b3
  have hv2 : VH h2 n v (vcell v.kd v.i v.s A1 v.l.length cc1 v.c) := hv.keep (Nat.le_refl _) b3
  have hw2 : VH h2 n w (vcell w.kd w.i w.s A2 w.l.length cc2 w.c) := hw.keep (Nat.le_refl _) b3
  have hr2 : RdH h2 n A (bv hs) := hr.keep (Nat.le_refl _) b3
  have hRt : RdH h2 n2 (some ⟨n + 3, 0, none⟩) (bv hs) := RdH.ofRow st (by omega)
  have qx := fun (cl2 : Nat) (h6 : Hp) (n6 : Nat) (hr6 : RdH h6 n6 A3 (bv hs2)) (hr7 : RdH h6 n6 A5 (bv hs2)) => (rsame_ev k (d + 2599) cl2 h6 n6 65536 A3 hs2 c3 65536 A5 hs2 c5 hr6 hr7 hr3.rd.2 hr5.rd.2).mono (Φ' := fun x h' n' => x = .bool true ∧ h6 = h' ∧ n6 = n') fun _ _ _ hp => ⟨by rw [hp.1, sb], hp.2.1.symm, hp.2.2.symm⟩
  have g7 := cellsAt_row (off := 0) (k := 2) s7
  have g10 := cellsAt_row (off := 0) (k := 5) s10
  have g11 := cellsAt_row (off := 0) (k := 5) s11
  have g13 := cellsAt_row (off := 0) (k := 2) s13
  have g14 := cellsAt_row (off := 0) (k := 2) s14
  clear hk2 qrs r7 r10 r11 r13 rt s7 s10 s11 s13 s14 f7 f10
  (repeat' first | refine zcd ?_ | intro K' hK | (with_reducible refine zn hK ?_; clear hK) | (with_reducible refine x_drawnD (id := 6) [(2, 6), (3, 6), (10, 11), (16, 18), (27, 28), (32, 33), (32, 35), (33, 35), (34, 35), (32, 36), (33, 36), (34, 36), (35, 36)] (by kernel_rfl) fun K' hK => ?_) | ((with_reducible apply d_nil); (case hp => exact ezP); (case' hx => (refine hK _ _ _ ?_; clear hK))) | ((with_reducible apply d_pure w_none); (case hp => exact rfl); (case hc => exact rfl); (case he => exact ez9 g7 g10 g11 g13 g14 @b_strEql @b_self hSS hCC)) | ((with_reducible apply d_eff w_none); (case hc => exact rfl); (case he => exact ez9 g7 g10 g11 g13 g14 @b_strEql @b_self hSS hCC); (case hok => exact ezO)) | ((with_reducible apply d_guard rfl); (case hb => exact ez9 g7 g10 g11 g13 g14 @b_strEql @b_self hSS hCC); (case' h1 => intro hb; (try simp only [hbs, reduceCtorEq] at hb); try exact ezX); (case' h2 => intro hb; (try simp only [hbs, reduceCtorEq] at hb); try exact ezX)) | ((with_reducible apply d_callS (g := 21) w_none); (case hs0 => exact rfl); (case ha => exact ez0); (case hs => ((with_reducible apply qv); (all_goals first | exact (hT2.set (by omega) _).more (by omega) | exact (hv2.set (by omega) _).more (by omega)))); (case' hk => rintro _ h' n' ⟨rfl, rfl, rfl⟩)) | ((with_reducible apply d_callN (g := 21) w_none); (case hs0 => exact rfl); (case ha => exact ez0); (case hs => ((with_reducible apply qv); (all_goals first | exact (hT2.set (by omega) _).more (by omega) | exact (hv2.set (by omega) _).more (by omega)))); (case' hk => rintro _ h' n' ⟨rfl, rfl, rfl⟩)) | ((with_reducible apply d_callS (g := 22) w_none); (case hs0 => exact rfl); (case ha => exact ez0); (case hs => ((with_reducible apply qrv); (all_goals first | exact (hT2.set (by omega) _).more (by omega) | exact (hv2.set (by omega) _).more (by omega)))); (case' hk => rintro _ h' n' ⟨rfl, rfl, rfl⟩)) | ((with_reducible apply d_callN (g := 22) w_none); (case hs0 => exact rfl); (case ha => exact ez0); (case hs => ((with_reducible apply qrv); (all_goals first | exact (hT2.set (by omega) _).more (by omega) | exact (hv2.set (by omega) _).more (by omega)))); (case' hk => rintro _ h' n' ⟨rfl, rfl, rfl⟩)) | ((with_reducible apply d_callS (g := 23) w_none); (case hs0 => exact rfl); (case ha => exact ez0); (case hs => ((with_reducible apply qx); (all_goals first | exact (hq3.set (Nat.le_refl _) _).more (by omega) | exact (hq5.set (Nat.le_refl _) _).more (by omega)))); (case' hk => rintro _ h' n' ⟨rfl, rfl, rfl⟩)) | ((with_reducible apply d_callN (g := 23) w_none); (case hs0 => exact rfl); (case ha => exact ez0); (case hs => ((with_reducible apply qx); (all_goals first | exact (hq3.set (Nat.le_refl _) _).more (by omega) | exact (hq5.set (Nat.le_refl _) _).more (by omega)))); (case' hk => rintro _ h' n' ⟨rfl, rfl, rfl⟩)) | ((with_reducible apply d_callS (g := 23) w_none); (case hs0 => exact rfl); (case ha => exact ez0); (case hs => ((with_reducible apply qo); (all_goals first | exact (hRt.set (Nat.le_refl _) _).more (by omega) | exact (hr2.set (by omega) _).more (by omega)))); (case' hk => rintro _ h' n' ⟨rfl, rfl, rfl⟩)) | ((with_reducible apply d_callN (g := 23) w_none); (case hs0 => exact rfl); (case ha => exact ez0); (case hs => ((with_reducible apply qo); (all_goals first | exact (hRt.set (Nat.le_refl _) _).more (by omega) | exact (hr2.set (by omega) _).more (by omega)))); (case' hk => rintro _ h' n' ⟨rfl, rfl, rfl⟩)) | ((with_reducible apply d_b2s (xs := own) (B := n2 + 50) b2T27_9 w_none); (case hy => exact ez0); (case hr => first | exact RdH.ofRow ((rowOf_ne _ _ (by omega)).trans sO) (by omega) | exact RdH.ofRow ((rowOf_ne _ _ (by omega)).trans hb53) (by omega)); (case h0 => intro h; cases h); (case' hx => intro rd)) | ((with_reducible apply d_callS (g := 24) w_none); (case hs0 => exact rfl); (case ha => exact ez0); (case hs => ((with_reducible apply ps); (all_goals first | exact (hv2.set (by omega) _).more (by omega) | exact (hw2.set (by omega) _).more (by omega)))); (case' hk => rintro _ h' n' ⟨rfl, rfl, rfl⟩)) | ((with_reducible apply d_callN (g := 24) w_none); (case hs0 => exact rfl); (case ha => exact ez0); (case hs => ((with_reducible apply ps); (all_goals first | exact (hv2.set (by omega) _).more (by omega) | exact (hw2.set (by omega) _).more (by omega)))); (case' hk => rintro _ h' n' ⟨rfl, rfl, rfl⟩)) | ((with_reducible apply d_callS (g := 15) w_none); (case hs0 => exact rfl); (case ha => exact ez0); (case hs => ((with_reducible apply rs); (all_goals first | exact (hv2.set (by omega) _).more (by omega) | exact (hw2.set (by omega) _).more (by omega)))); (case' hk => rintro _ h' n' ⟨rfl, rfl, rfl⟩)) | ((with_reducible apply d_callN (g := 15) w_none); (case hs0 => exact rfl); (case ha => exact ez0); (case hs => ((with_reducible apply rs); (all_goals first | exact (hv2.set (by omega) _).more (by omega) | exact (hw2.set (by omega) _).more (by omega)))); (case' hk => rintro _ h' n' ⟨rfl, rfl, rfl⟩)) | ((with_reducible first | apply zo1 | apply zo2 | apply o_guard rfl | apply x_cond | apply k_e1 rfl | apply k_e2 rfl | apply k_e0 rfl | apply k_e3 rfl | apply k_e4 rfl); (case he => exact ez0); (try case hok => exact ezO); all_goals try (intro hb; (try simp only [hbs, reduceCtorEq] at hb); try exact ezX)) | ((with_reducible apply o_undef rfl); (case hb => exact ez0)))
  all_goals exact sw_flat rfl rfl rfl
theorem valueStores_ev (hk : 30000 ≤ k) (TA A : Option Addr) (T : List Tp) (hs : List UInt8) (tc c : Nat) (b lim t : Int) (v w : V) (cs cs2 : List Value) (hv : VH h n v cs) (hw : VH h n w cs2) (hT : TabH h n TA T) (hm : T.length ≤ 9223372036854775807) (hS0 : ∀ t ∈ T, t.fs.length ≤ 9223372036854775807) (hr : RdH h n A (bv hs)) (hc : A = none → c = 0) (hxm : hs.length ≤ 9223372036854775807) :
  SQ k (d + 2601) cl 4 [.slice TA T.length tc, .agg ⟨[.int .u64 b, .slice A hs.length c]⟩, .int .i64 lim, .int .i64 t, .agg ⟨cs⟩, .agg ⟨cs2⟩] h n fun v h' n' => v = .bool true := by
 obtain ⟨x, h2, n2, ⟨B, rfl, hg, hh2, hn2⟩, hB⟩ := sp_fixs (tgreat_ev k (d + 2599) n (((h.set n (.row 29 false [.int .u64 b, .slice A hs.length c])).set (n + 1) (.row 32 false cs)).set (n + 2) (.row 32 false cs2)) (n + 3) hk TA T tc ((((hT.set (Nat.le_refl _) _).set (by omega) _).set (by omega) _).more (by omega)) hm hS0)
 have hS1 : SQ k (d + 2600) n 9 [.slice TA T.length tc] (((h.set n (.row 29 false [.int .u64 b, .slice A hs.length c])).set (n + 1) (.row 32 false cs)).set (n + 2) (.row 32 false cs2)) (n + 3) fun v2 h2 n2 => v2 = .bool B ∧ (((h.set n (.row 29 false [.int .u64 b, .slice A hs.length c])).set (n + 1) (.row 32 false cs)).set (n + 2) (.row 32 false cs2)) = h2 ∧ n + 3 = n2 := hB.mono fun _ _ _ hp => ⟨hp.1, by rw [hp.2.1, hh2], by rw [hp.2.2, hn2]⟩
 by_cases hout : B = true ∨ greatB hs.length = true ∨ 500 < cntF 501 500 v ∨ 500 < cntF 501 500 w
 ·exact lst_out k d cl h n hk TA A T hs tc c b lim t v w cs cs2 hv hw hxm B hout hS1
 ·have hB : B = false := by cases B <;> simp_all
  subst hB
  exact lst_in k d cl h n hk TA A T hs tc c b lim t v w cs cs2 hv hw hT (hg rfl) hr hc (by cases hx : greatB hs.length <;> simp_all) (by omega) (by omega) _ rfl hS1
end Go.Proofs.Ytcpkdjikembpnaa.Ce
namespace Go.Proofs.Ytcpkdjikembpnaa
open Go.ChangeShapes Go.WideShapes Go.ChangeAt Go.RowKit Go.Joins Go.Deep
section
variable {H : Type} {enc : TypeId × Value → H} {P : Program} {w : World} {base : Nat}
theorem open_bytes_cell {t e : TypeId} {held : Bool} {fuel : Nat} {v : Value} {x : DataW H × List MemPlace} (ht : P.underlying t = some (.slice e)) (he : P.underlying e = some (.int .u8)) (hc : P.cellsOf e = 1)
  (h : DataW.trod enc P w base (fun _ => true) held fuel t [v] = some x) :
  ∃ (A : Option Addr) (xs : List UInt8) (c : Nat), v = .slice A xs.length c ∧ Rd w w.heap.size A (bv xs) ∧ xs.length ≤ c ∧ c ≤ 9223372036854775807 ∧ (A = none → c = 0) := by
 rcases open_ints ht he hc h with ⟨hcs, _⟩ | ⟨a, len, cap, zs, hcs, _, hl, hm, hz, _, hcell, hwz⟩
 ·injection hcs with hcs _
  exact ⟨none, [], 0, hcs, Rd.nil_, by simp, by omega, fun _ => rfl⟩
 ·injection hcs with hcs _
  simp at hz
  have hzl : ((zs.take len).map fun n => UInt8.ofNat n.toNat).length = len := by simp; omega
  refine ⟨some a, (zs.take len).map fun n => UInt8.ofNat n.toNat, cap, by rw [hzl, hcs], ?_, by rw [hzl]; exact hl, by unfold maxLen at hm; omega, fun h => (by cases h)⟩
  by_cases h0 : len = 0
  ·subst h0; exact .inl (by simp [bv])
  ·obtain ⟨b, off, spot⟩ := a
   have hc0 := hcell 0 (by omega)
   have hspot : spot = none := by simpa [Addr.add] using World.cell?_spot hc0
   subst hspot
   have hbl : b < w.heap.size := by
    have := World.block_lt_of_cell? w _ hc0
    rw [add_none] at this
    exact this
   refine .inr ⟨b, off, rfl, hbl, fun j v hj => ?_⟩
   have hjl : j < len := by
    rcases Nat.lt_or_ge j len with hlt | hge
    ·exact hlt
    ·rw [List.getElem?_eq_none (by rw [bv_length, hzl]; exact hge)] at hj; cases hj
   have hjz : j < zs.length := by omega
   have hcj := hcell j hjz
   rw [add_none] at hcj
   rw [hcj]
   have hw := hwz (zs[j]) (List.getElem_mem _)
   have hb := bounds_u8 hw
   simp only [bv, List.getElem?_map, List.getElem?_take, hjl, if_true, List.getElem?_eq_getElem hjz, Option.map_some] at hj
   rw [← hj]
   simp only [List.getD, List.getElem?_eq_getElem hjz, Option.getD_some]
   congr 2
   simp
   omega
theorem open_region {r : Reach} {b0 : Nat} {t tb tu e : TypeId} {n0 n1 : Field} {v : Value} {d : DataW H} {p : List MemPlace} (hs : P.underlying t = some (.struct #[n0, n1])) (hone : oneCellFields P #[n0, n1] = true) (hC : P.cellsOf t = 2)
  (h0 : n0.type = tu) (h1 : n1.type = tb) (hu : P.underlying tu = some (.int .u64)) (hb : P.underlying tb = some (.slice e)) (he : P.underlying e = some (.int .u8)) (hc : P.cellsOf e = 1)
  (hv : Value.okWide P w r b0 t v) (h : DataW.Trod enc P w base (fun _ => true) true t v d p) :
  ∃ (b : Int) (A : Option Addr) (xs : List UInt8) (c : Nat), v = .agg #[.int .u64 b, .slice A xs.length c] ∧ Rd w w.heap.size A (bv xs) ∧ 0 ≤ b ∧ b < 18446744073709551616 ∧ xs.length ≤ c ∧ c ≤ 9223372036854775807 ∧ (A = none → c = 0) := by
 obtain ⟨c0, c1, y0, y1, m, rfl, _, _, hy0, hy1⟩ := open_agg2 hs hone hC hv h
 subst h0; subst h1
 obtain ⟨b, e0, _, wb⟩ := DataW.trod_int hu hy0
 injection e0 with e0 _
 obtain ⟨A, xs, c, rfl, hr, hl, hcm, hn⟩ := open_bytes_cell hb he hc hy1
 have hbb := bounds_u64 wb
 exact ⟨b, A, xs, c, by rw [e0], hr, hbb.1, by omega, hl, hcm, hn⟩
end
end Go.Proofs.Ytcpkdjikembpnaa
namespace Go.Proofs.Ytcpkdjikembpnaa
open Go.ChangeShapes Go.WideShapes Go.ChangeAt Go.RowKit Go.Joins Go.Deep
section
variable {H : Type} {enc : TypeId × Value → H} {P : Program} {w : World} {base : Nat}
end
end Go.Proofs.Ytcpkdjikembpnaa
namespace Go.Proofs.Ytcpkdjikembpnaa
open Go.ChangeShapes Go.WideShapes Go.ChangeAt Go.RowKit Go.Joins Go.Deep
section
variable {H : Type} {enc : TypeId × Value → H} {P : Program} {w : World} {base : Nat}
end
end Go.Proofs.Ytcpkdjikembpnaa
namespace Go.Proofs.Ytcpkdjikembpnaa
open Go.ChangeShapes Go.WideShapes Go.ChangeAt Go.RowKit Go.Joins Go.Deep
def iv (l : List Int) : List Value := l.map fun z => .int .i64 z
theorem iv_length (l : List Int) : (iv l).length = l.length := by simp [iv]
theorem rd_of_cells {w : World} {a : Addr} {vs : List Value} (h : ∀ i v, vs[i]? = some v → w.cell? (a.add i) = some v) : Rd w w.heap.size (some a) vs := by
 by_cases hx : vs = []
 ·exact .inl hx
 ·obtain ⟨b, off, spot⟩ := a
  obtain ⟨v0, hv0⟩ : ∃ v, vs[0]? = some v := by
   cases vs with
   | nil => exact absurd rfl hx
   | cons v _ => exact ⟨v, rfl⟩
  have hc0 := h 0 v0 hv0
  have hspot : spot = none := by simpa [Addr.add] using World.cell?_spot hc0
  subst hspot
  have hbl : b < w.heap.size := by
   have := World.block_lt_of_cell? w _ hc0
   rw [add_none] at this
   exact this
  exact .inr ⟨b, off, rfl, hbl, fun j v hj => by have := h j v hj; rwa [add_none] at this⟩
section
variable {H : Type} {enc : TypeId × Value → H} {P : Program} {w : World} {base : Nat}
end
end Go.Proofs.Ytcpkdjikembpnaa
namespace Go.Proofs.Ytcpkdjikembpnaa.Ce
open Go.RowKit
theorem calls_sp {P : Program} (hm : P.follows .mixedOrders = true) {W : FuncId → Bool} {k d : Nat} {g : FuncId} {args vs : List Value} {w : World} (ha : args.map (visV w.heap.size) = vs)
  (hs : Sp P (acall P W k d) w.heap.size g vs (absW w) w.heap.size fun v _ _ => v = .bool true) : Calls P g ⟨args⟩ w fun e w' => e = .returned (.bool true) ∧ Below w.heap.size w w' := by
 subst ha
 exact calls_in hm hs.1 hs.isTrue_
theorem bv_vis (B : Nat) (xs : List UInt8) : (bv xs).map (vis B) = bv xs := by
 unfold bv
 rw [List.map_map]
 apply List.map_congr_left
 intro x _
 exact vis_flat rfl
theorem bytes_here {w : World} {A : Option Addr} {c : Nat} {xs : List UInt8} (h : Rd w w.heap.size A (bv xs)) (hc : xs.length ≤ c) (hm : c ≤ 9223372036854775807) (h0 : A = none → c = 0) :
  ∃ A' c', vis w.heap.size (.slice A xs.length c) = .slice A' xs.length c' ∧ RdH (absW w) w.heap.size A' (bv xs) ∧ (A' = none → c' = 0) := by
 obtain ⟨A', c', h1, h2, _, h3, _⟩ := rd_here h (fun hh => by rw [← bv_length, hh]; rfl) hc hm h0
 rw [bv_vis] at h2
 exact ⟨A', c', h1, h2, h3⟩
end Go.Proofs.Ytcpkdjikembpnaa.Ce
