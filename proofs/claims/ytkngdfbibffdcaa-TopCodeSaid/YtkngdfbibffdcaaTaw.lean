/- Parts of the proof of TopCode: Mca, Mc, Ne, Mz. No condition of its own. -/
import Derived.Test.YtkngdfbibffdcaaTam
import Derived.Test.YtkngdfbibffdcaaTar
import Derived.Test.YtkngdfbibffdcaaTas
import Derived.Test.YtkngdfbibffdcaaTat
import Derived.Test.YtkngdfbibffdcaaTau
import Derived.Test.YtkngdfbibffdcaaTav
set_option linter.unusedVariables false
set_option linter.unusedSimpArgs false
set_option maxRecDepth 100000
set_option maxHeartbeats 4000000
namespace Go.Proofs.Ytkngdfbibffdcaa.Ce
open Go.RowKit
open Classical in
noncomputable def askE (T : List Tp) (i j : Int) : Int := if ChkT T then (if (0 ≤ i ∧ i < T.length) ∧ 0 ≤ j ∧ j < T.length then 0 else 2) else 8
variable (k d cl : Nat) (h : Hp) (n : Nat)
theorem rasked_ev (hk : 30000 ≤ k) (A : Option Addr) (T : List Tp) (c : Nat) (hT : TabH h n A T) (hS : ∀ t ∈ T, t.fs.length ≤ 20000) (hm : T.length ≤ 9223372036854775807) (i j : Int) :
    SQ k (d + 7) cl 9 [.slice A T.length c, .int .i64 i, .int .i64 j] h n fun v h' n' => v = .int .i64 (askE T i j) ∧ h' = h ∧ n' = n := by
  by_cases hC : ChkT T
  · have he := errT_ok hC
    by_cases hi : (0 ≤ i ∧ i < T.length) ∧ 0 ≤ j ∧ j < T.length
    · have hz : askE T i j = 0 := by unfold askE; rw [if_pos hC, if_pos hi]
      rw [hz]
      refine enter Try.func9 (by kernel_rfl) rfl (by kernel_rfl) rfl rfl rfl ?_
      (repeat' first | refine zcd ?_ | intro K' hK | (with_reducible refine zn hK ?_; clear hK) | ((with_reducible apply o_callF (g := 31) w_none); (case ha => exact ez0); (case hs => ((with_reducible apply rcheck_ev (T := T)); (case hT => first | exact hT | exact hT.set (by omega) _); (case hS => exact hS); (all_goals first | exact hk | omega))); (case' hk => rintro _ h' n' ⟨rfl, rfl, rfl⟩)) | ((with_reducible first | apply zo1 | apply zo2 | apply o_guard rfl | apply x_cond | apply k_e1 rfl | apply k_e2 rfl | apply k_e0 rfl | apply k_e3 rfl | apply k_e4 rfl); (case he => exact ez1 he); (try case hok => exact ezO); all_goals try (intro hb; (try simp only [hbs, reduceCtorEq] at hb); try exact ezX)) | ((with_reducible apply o_undef rfl); (case hb => exact ez0)))
      all_goals exact sw_flat rfl rfl ⟨rfl, rfl, rfl⟩
    · have hz : askE T i j = 2 := by unfold askE; rw [if_pos hC, if_neg hi]
      rw [hz]
      refine enter Try.func9 (by kernel_rfl) rfl (by kernel_rfl) rfl rfl rfl ?_
      (repeat' first | refine zcd ?_ | intro K' hK | (with_reducible refine zn hK ?_; clear hK) | ((with_reducible apply o_callF (g := 31) w_none); (case ha => exact ez0); (case hs => ((with_reducible apply rcheck_ev (T := T)); (case hT => first | exact hT | exact hT.set (by omega) _); (case hS => exact hS); (all_goals first | exact hk | omega))); (case' hk => rintro _ h' n' ⟨rfl, rfl, rfl⟩)) | ((with_reducible first | apply zo1 | apply zo2 | apply o_guard rfl | apply x_cond | apply k_e1 rfl | apply k_e2 rfl | apply k_e0 rfl | apply k_e3 rfl | apply k_e4 rfl); (case he => exact ez1 he); (try case hok => exact ezO); all_goals try (intro hb; (try simp only [hbs, reduceCtorEq] at hb); try exact ezX)) | ((with_reducible apply o_undef rfl); (case hb => exact ez0)))
      all_goals exact sw_flat rfl rfl ⟨rfl, rfl, rfl⟩
  · have he := errT_no hC
    have hz : askE T i j = 8 := by unfold askE; rw [if_neg hC]
    rw [hz]
    refine enter Try.func9 (by kernel_rfl) rfl (by kernel_rfl) rfl rfl rfl ?_
    (repeat' first | refine zcd ?_ | intro K' hK | (with_reducible refine zn hK ?_; clear hK) | ((with_reducible apply o_callF (g := 31) w_none); (case ha => exact ez0); (case hs => ((with_reducible apply rcheck_ev (T := T)); (case hT => first | exact hT | exact hT.set (by omega) _); (case hS => exact hS); (all_goals first | exact hk | omega))); (case' hk => rintro _ h' n' ⟨rfl, rfl, rfl⟩)) | ((with_reducible first | apply zo1 | apply zo2 | apply o_guard rfl | apply x_cond | apply k_e1 rfl | apply k_e2 rfl | apply k_e0 rfl | apply k_e3 rfl | apply k_e4 rfl); (case he => exact ez1 he); (try case hok => exact ezO); all_goals try (intro hb; (try simp only [hbs, reduceCtorEq] at hb); try exact ezX)) | ((with_reducible apply o_undef rfl); (case hb => exact ez0)))
    all_goals exact sw_flat rfl rfl ⟨rfl, rfl, rfl⟩
theorem askE_0 {T : List Tp} {i : Int} (hC : ChkT T) (hi : 0 ≤ i ∧ i < T.length) : askE T i i = 0 := by unfold askE; rw [if_pos hC, if_pos ⟨hi, hi⟩]
theorem askE_2 {T : List Tp} {i : Int} (hC : ChkT T) (hi : ¬ (0 ≤ i ∧ i < T.length)) : askE T i i = 2 := by unfold askE; rw [if_pos hC, if_neg fun hh => hi hh.1]
theorem askE_8 {T : List Tp} {i j : Int} (hC : ¬ ChkT T) : askE T i j = 8 := by unfold askE; rw [if_neg hC]
end Go.Proofs.Ytkngdfbibffdcaa.Ce
namespace Go.Proofs.Ytkngdfbibffdcaa.Ce
open Go.RowKit
variable (k d cl : Nat) (h : Hp) (n : Nat)
theorem rask5_ev (hk : 30000 ≤ k) (A : Option Addr) (T : List Tp) (c : Nat) (hT : TabH h n A T) (hS : ∀ t ∈ T, t.fs.length ≤ 20000) (hm : T.length ≤ 9223372036854775807) (i : Int) :
    SQ k (d + 8) cl 5 [.slice A T.length c, .int .i64 i] h n fun v h' n' => v = .int .i64 (szR 1000000 T i).2.2 ∧ h' = h ∧ n' = n := by
  by_cases hC : ChkT T
  · by_cases hi : 0 ≤ i ∧ i < T.length
    · have ha := askE_0 hC hi
      have hl := hC.1
      by_cases hb : 256 < ((eRow 1000000 T).at_ i).1
      · have hz : (szR 1000000 T i).2.2 = 16 := by unfold szR; rw [if_pos hC, if_pos hi, if_pos hb]
        rw [hz]
        have hbg := hb
        have hEl := eRow_length 1000000 T
        obtain ⟨j, rfl⟩ := Int.eq_ofNat_of_zero_le hi.1
        obtain ⟨hge, hge1⟩ := sz_get (E := eRow 1000000 T) (j := j) (by omega)
        refine enter Try.func5 (by kernel_rfl) rfl (by kernel_rfl) rfl rfl rfl ?_
        (repeat' first | refine zcd ?_ | intro K' hK | (with_reducible refine zn hK ?_; clear hK) | ((with_reducible apply o_callF (g := 9) w_none); (case ha => exact ez0); (case hs => ((with_reducible apply rasked_ev (T := T)); (case hT => exact hT); (case hS => exact hS); (all_goals first | exact hk | omega))); (case' hk => rintro _ h' n' ⟨rfl, rfl, rfl⟩)) | ((with_reducible apply o_callF (g := 10) w_none); (case ha => exact ez0); (case hs => ((with_reducible apply rsizes_ev (T := T)); (case hT => first | exact hT | exact hT.set (by omega) _); (case hF => exact hC.2.1); (all_goals first | exact hk | omega))); (case' hk => rintro _ h' n' ⟨rfl, rfl, rfl⟩)) | ((with_reducible first | apply zo1 | apply zo2 | apply o_guard rfl | apply x_cond | apply k_e1 rfl | apply k_e2 rfl | apply k_e0 rfl | apply k_e3 rfl | apply k_e4 rfl); (case he => exact ez2 ha hge); (try case hok => exact ezO); all_goals try (intro hb; (try simp only [hbs, reduceCtorEq] at hb); try exact ezX)) | ((with_reducible apply o_undef rfl); (case hb => exact ez0)))
        all_goals exact sw_flat rfl rfl ⟨rfl, rfl, rfl⟩
      · have hz : (szR 1000000 T i).2.2 = 0 := by unfold szR; rw [if_pos hC, if_pos hi, if_neg hb]
        rw [hz]
        have hbg := hb
        have hEl := eRow_length 1000000 T
        obtain ⟨j, rfl⟩ := Int.eq_ofNat_of_zero_le hi.1
        obtain ⟨hge, hge1⟩ := sz_get (E := eRow 1000000 T) (j := j) (by omega)
        refine enter Try.func5 (by kernel_rfl) rfl (by kernel_rfl) rfl rfl rfl ?_
        (repeat' first | refine zcd ?_ | intro K' hK | (with_reducible refine zn hK ?_; clear hK) | ((with_reducible apply o_callF (g := 9) w_none); (case ha => exact ez0); (case hs => ((with_reducible apply rasked_ev (T := T)); (case hT => exact hT); (case hS => exact hS); (all_goals first | exact hk | omega))); (case' hk => rintro _ h' n' ⟨rfl, rfl, rfl⟩)) | ((with_reducible apply o_callF (g := 10) w_none); (case ha => exact ez0); (case hs => ((with_reducible apply rsizes_ev (T := T)); (case hT => first | exact hT | exact hT.set (by omega) _); (case hF => exact hC.2.1); (all_goals first | exact hk | omega))); (case' hk => rintro _ h' n' ⟨rfl, rfl, rfl⟩)) | ((with_reducible first | apply zo1 | apply zo2 | apply o_guard rfl | apply x_cond | apply k_e1 rfl | apply k_e2 rfl | apply k_e0 rfl | apply k_e3 rfl | apply k_e4 rfl); (case he => exact ez2 ha hge); (try case hok => exact ezO); all_goals try (intro hb; (try simp only [hbs, reduceCtorEq] at hb); try exact ezX)) | ((with_reducible apply o_undef rfl); (case hb => exact ez0)))
        all_goals exact sw_flat rfl rfl ⟨rfl, rfl, rfl⟩
    · have ha := askE_2 hC hi
      have hz : (szR 1000000 T i).2.2 = 2 := by unfold szR; rw [if_pos hC, if_neg hi]
      rw [hz]
      refine enter Try.func5 (by kernel_rfl) rfl (by kernel_rfl) rfl rfl rfl ?_
      (repeat' first | refine zcd ?_ | intro K' hK | (with_reducible refine zn hK ?_; clear hK) | ((with_reducible apply o_callF (g := 9) w_none); (case ha => exact ez0); (case hs => ((with_reducible apply rasked_ev (T := T)); (case hT => exact hT); (case hS => exact hS); (all_goals first | exact hk | omega))); (case' hk => rintro _ h' n' ⟨rfl, rfl, rfl⟩)) | ((with_reducible first | apply zo1 | apply zo2 | apply o_guard rfl | apply x_cond | apply k_e1 rfl | apply k_e2 rfl | apply k_e0 rfl | apply k_e3 rfl | apply k_e4 rfl); (case he => exact ez1 ha); (try case hok => exact ezO); all_goals try (intro hb; (try simp only [hbs, reduceCtorEq] at hb); try exact ezX)) | ((with_reducible apply o_undef rfl); (case hb => exact ez0)))
      all_goals exact sw_flat rfl rfl ⟨rfl, rfl, rfl⟩
  · have ha := askE_8 (i := i) (j := i) hC
    have hz : (szR 1000000 T i).2.2 = 8 := by unfold szR; rw [if_neg hC]
    rw [hz]
    refine enter Try.func5 (by kernel_rfl) rfl (by kernel_rfl) rfl rfl rfl ?_
    (repeat' first | refine zcd ?_ | intro K' hK | (with_reducible refine zn hK ?_; clear hK) | ((with_reducible apply o_callF (g := 9) w_none); (case ha => exact ez0); (case hs => ((with_reducible apply rasked_ev (T := T)); (case hT => exact hT); (case hS => exact hS); (all_goals first | exact hk | omega))); (case' hk => rintro _ h' n' ⟨rfl, rfl, rfl⟩)) | ((with_reducible first | apply zo1 | apply zo2 | apply o_guard rfl | apply x_cond | apply k_e1 rfl | apply k_e2 rfl | apply k_e0 rfl | apply k_e3 rfl | apply k_e4 rfl); (case he => exact ez1 ha); (try case hok => exact ezO); all_goals try (intro hb; (try simp only [hbs, reduceCtorEq] at hb); try exact ezX)) | ((with_reducible apply o_undef rfl); (case hb => exact ez0)))
    all_goals exact sw_flat rfl rfl ⟨rfl, rfl, rfl⟩
end Go.Proofs.Ytkngdfbibffdcaa.Ce
namespace Go.Proofs.Ytkngdfbibffdcaa.Ce
open Go.RowKit
def Keeps (O : Value) (h : Hp) (n : Nat) (v : Value) (h' : Hp) (n' : Nat) : Prop :=
  n ≤ n' ∧ (∀ b o vs, Blk O b → RdH h n (some ⟨b, o, none⟩) vs → RdH h' n' (some ⟨b, o, none⟩) vs) ∧ ∀ b, b < n → Blk O b → Blk v b
theorem Keeps.rd {O v : Value} {h h' : Hp} {n n' lo : Nat} {A : Option Addr} {vs : List Value} (hk : Keeps O h n v h' n') (hr : RdH h lo A vs) (hl : lo ≤ n) (hb : ∀ b, b < lo → Blk O b) : RdH h' lo A vs := by
  refine ⟨hr.1, ?_⟩
  rcases hr.2 with e | ⟨id, off, e, hc⟩
  · exact .inl e
  · have hid := hr.1 id off e
    subst e
    exact (hk.2.1 id off vs (hb id hid) (hr.more hl)).2
theorem Keeps.tab {O v : Value} {h h' : Hp} {n n' lo : Nat} {A : Option Addr} {T : List Tp} (hk : Keeps O h n v h' n') (hT : TabH h lo A T) (hl : lo ≤ n) (hb : ∀ b, b < lo → Blk O b) : TabH h' lo A T := ⟨hk.rd hT.rd hl hb, fun t ht => hk.rd (hT.fd t ht) hl hb, hT.nl, hT.bd⟩
theorem OwnC.blk {ps : List (Int × Int)} {O : Value} {h : Hp} {lo n b : Nat} (ho : OwnC ps O h lo n) (hb : b < lo) : Blk O b := by
  rcases ho with ⟨-, rfl⟩ | ⟨-, id, h1, h2, rfl, -⟩
  · intro len c hh; cases hh
  · intro len c hh
    injection hh with hh
    injection hh with hh
    injection hh with hh
    omega
theorem Keeps.rfl_ {O : Value} {h : Hp} {n : Nat} : Keeps O h n O h n := ⟨Nat.le_refl _, fun _ _ _ _ hr => hr, fun _ _ hb => hb⟩
theorem Keeps.trans {O O1 O2 : Value} {h h1 h2 : Hp} {n n1 n2 : Nat} (a : Keeps O h n O1 h1 n1) (b : Keeps O1 h1 n1 O2 h2 n2) : Keeps O h n O2 h2 n2 :=
  ⟨Nat.le_trans a.1 b.1, fun x o vs hb hr => b.2.1 x o vs (a.2.2 x (hr.1 x o rfl) hb) (a.2.1 x o vs hb hr), fun x hx hb => b.2.2 x (Nat.lt_of_lt_of_le hx a.1) (a.2.2 x hx hb)⟩
theorem Keeps.new {O v : Value} {h h' : Hp} {n n' m : Nat} (a : Keeps O h n v h' n') (hm : n ≤ m) (x : AObj) (hn : n' ≤ m + 1) : Keeps O h n v (h'.set m x) (m + 1) :=
  ⟨by omega, fun b o vs hb hr => by
    have h1 := a.2.1 b o vs hb hr
    have hbn := hr.1 b o rfl
    exact (h1.ne (by omega) x).more hn, a.2.2⟩
theorem Keeps.cell {O v : Value} {h h' : Hp} {n n' b e : Nat} {ro : Bool} {vs : List Value} (hk : Keeps O h n v h' n') (hr : rowOf h b = some (e, ro, vs)) (hb : b < n) (hbl : Blk O b) : RdH h' n' (some ⟨b, 0, none⟩) vs := hk.2.1 b 0 vs hbl (RdH.ofRow hr hb)
theorem RdH.cellk {h : Hp} {B b : Nat} {vs : List Value} (hr : RdH h B (some ⟨b, 0, none⟩) vs) {k : Nat} {v : Value} (hv : vs[k]? = some v) : cellAt h b k = some v := by
  rcases hr.2 with e | ⟨id, off, e, hc⟩
  · rw [e] at hv; simp at hv
  · injection e with e
    injection e with e1 e2
    subst e1; subst e2
    have := hc k v hv
    rwa [Nat.zero_add] at this
theorem OwnC.new_blk {ps : List (Int × Int)} {O : Value} {h : Hp} {lo n b : Nat} (ho : OwnC ps O h lo n) (hb : n ≤ b) : Blk O b := by
  rcases ho with ⟨-, rfl⟩ | ⟨-, id, h1, h2, rfl, -⟩
  · intro len c hh; cases hh
  · intro len c hh
    injection hh with hh
    injection hh with hh
    injection hh with hh
    omega
theorem OwnC.set {ps : List (Int × Int)} {O : Value} {h : Hp} {lo n m b : Nat} (ho : OwnC ps O h lo n) (hb : n ≤ b) (hm : n ≤ m) (x : AObj) : OwnC ps O (h.set b x) lo m := by
  rcases ho with ⟨hp, rfl⟩ | ⟨hp, id, h1, h2, rfl, q⟩
  · exact .inl ⟨hp, rfl⟩
  · exact .inr ⟨hp, id, h1, by omega, rfl, by rw [rowOf_ne _ _ (by omega)]; exact q⟩
theorem RdH.cello {h : Hp} {B b o : Nat} {vs : List Value} (hr : RdH h B (some ⟨b, o, none⟩) vs) {k : Nat} {v : Value} (hv : vs[k]? = some v) : cellAt h b (o + k) = some v := by
  rcases hr.2 with e | ⟨id, off, e, hc⟩
  · rw [e] at hv; simp at hv
  · injection e with e
    injection e with e1 e2
    subst e1; subst e2
    exact hc k v hv
theorem Keeps.val {O v v' : Value} {h h' : Hp} {n n' : Nat} (a : Keeps O h n v h' n') (hb : ∀ b, b < n → Blk v' b) : Keeps O h n v' h' n' := ⟨a.1, a.2.1, fun b h1 _ => hb b h1⟩
theorem Keeps.kill {v : Value} {id len c : Nat} {h h' : Hp} {n n' : Nat} (a : Keeps (.slice (some ⟨id, 0, none⟩) len c) h n v h' n') (x : AObj) : Keeps (.slice (some ⟨id, 0, none⟩) len c) h n v (h'.set id x) n' :=
  ⟨a.1, fun b o vs hb hr => (a.2.1 b o vs hb hr).ne (fun e => hb len c (by rw [e])) x, a.2.2⟩
variable (k : Nat)
theorem parts_ev (hk : 30000 ≤ k) (T : List Tp) (hC : ChkT T) : ∀ (f d cl : Nat) (h : Hp) (n lo : Nat) (A : Option Addr) (c : Nat) (EA : Option Addr) (ec : Nat) (O : Value) (acc : List (Int × Int)) (i : Nat) (off : Int), cl ≤ lo → lo ≤ n → TabH h lo A T → RdH h lo EA (ev (eRow 1048576 T)) → OwnC acc O h lo n →
      i < T.length → i < f → ((eRow 1048576 T).at_ (i : Int)).1 ≤ 256 → (acc.length : Int) + ((eRow 1048576 T).at_ (i : Int)).1 ≤ 100000 → 0 ≤ off → off + ((eRow 1048576 T).at_ (i : Int)).1 ≤ 1000000 →
    SQ k (d + f + 2) cl 47 [O, .slice A T.length c, .slice EA T.length ec, .int .i64 i, .int .i64 off] h n fun v h' n' => OwnC (acc ++ cellsR 1048576 T f i off) v h' lo n' ∧ Keeps O h n v h' n'
  | 0, _, _, _, _, _, _, _, _, _, _, _, _, _, _, _, _, _, _, _, h, _, _, _, _ => absurd h (by omega)
  | f + 1, d, cl, h, n, lo, A, c, EA, ec, O, acc, i, off, hlc, hlo, hT, hE, hO, hi, hif, hs, hal, ho, hos => by
    have ih := parts_ev hk T hC f d
    have hF := hC.2.1
    have hl := hC.1
    have hfi := hF i hi
    have hkd := fine_kd hfi
    have hcl := cells_len (C := 1048576) (by omega) (by decide) hF (f + 1) i off hi hif hs
    have hce := cellsR_at (C := 1048576) (f := f) (off := off) hi
    have e := eRow_at 1048576 hF hi
    obtain ⟨tid, toff, hA, htid, ht4, ht0, ht1, ht2, ht3⟩ := hT.at_ hi
    subst hA
    rw [show d + (f + 1) + 2 = d + f + 2 + 1 from by omega]
    refine enterW Try.func47 (by kernel_rfl) rfl (by kernel_rfl) rfl rfl rfl ?_
    obtain ⟨eid, eoff, hEA, heid, -⟩ := hE.at_ (by rw [ev_length, eRow_length]; omega)
    subst hEA
    have hEok : ∀ p ∈ eRow 1048576 T, EOk 1048576 p := by have := eRow_ok (C := 1048576) (by omega) (by decide) hF T.length (Nat.le_refl _); rwa [List.take_length] at this
    by_cases h6 : (T[i]).kd = 6
    · have ha := fine_arr hfi h6
      obtain ⟨el, hel⟩ := Int.eq_ofNat_of_zero_le ha.1
      obtain ⟨l, hln⟩ := Int.eq_ofNat_of_zero_le (show 0 ≤ (T[i]).ln by omega)
      rw [if_pos h6, hel, hln, Int.toNat_natCast] at hce
      rw [eOne_6 h6, hel, hln] at e
      rw [h6, hel, hln] at ht4
      obtain ⟨S, hS⟩ : ∃ S, ((eRow 1048576 T).at_ (el : Int)).1 = S := ⟨_, rfl⟩
      have hS0 : 0 ≤ S := by rw [← hS]; exact (Ext.at_mem hEok (by omega) (by rw [eRow_length]; omega)).1
      rw [hS] at e hce
      obtain ⟨g, hg⟩ : ∃ g : Nat → List (Int × Int), g = fun (j : Nat) => cellsR 1048576 T f (el : Int) (off + j * S) := ⟨_, rfl⟩
      rw [← hg] at hce
      rw [e] at hs hos hal
      dsimp only at hs hos hal
      have hge := (ev_get (E := eRow 1048576 T) (i := el) (by rw [eRow_length]; omega)).1
      rw [hS, lget_eq] at hge
      (repeat' first | refine zcd ?_ | intro K' hK | (with_reducible refine zn hK ?_; clear hK) | fail | ((with_reducible first | apply zo1 | apply zo2 | apply o_guard rfl | apply x_cond | apply k_e1 rfl | apply k_e2 rfl | apply k_e0 rfl | apply k_e3 rfl | apply k_e4 rfl); (case he => exact ez1 ht4); (try case hok => exact ezO); all_goals try (intro hb; (try simp only [hbs, reduceCtorEq] at hb); try exact ezX)) | ((with_reducible apply o_undef rfl); (case hb => exact ez0)))
      refine x_loopV [0, 12, 33, 34, 35, 36, 37, 38, 39, 40, 41, 42, 43, 44, 45, 46, 47, 48, 49, 50, 51, 52] [0, 33] (fun m vs h' n' => ∃ (j : Nat) (O' : Value), m = l - j ∧ j ≤ l ∧ vs = [O', .int .i64 j] ∧ OwnC (acc ++ (List.range j).flatMap g) O' h' lo n' ∧ Keeps O (h.set n (.row 32 false [.int .u8 6, .int .i64 el, .int .i64 l, .slice (T[i]).A (T[i]).fs.length (T[i]).c])) (n + 1) O' h' n') l rfl (by omega) ?_ ?_
      · exact ⟨0, O, rfl, by omega, ez0, by simpa using hO.set (Nat.le_refl _) (by omega) _, Keeps.rfl_⟩
      · rintro m fr _ h' n' ⟨j, O', rfl, hj, rfl, hO2, hK⟩
        have hT2 := hK.tab (hT.set hlo _) (by omega) (fun b hb => hO.blk hb)
        have hE2 := hK.rd (hE.set hlo _) (by omega) (fun b hb => hO.blk hb)
        have hrow := hK.cell (rowOf_same _ _ _ _ _) (by omega) (hO.new_blk (Nat.le_refl _))
        have c1 := hrow.cellk (k := 1) rfl
        have ce := hE2.cello hge
        have hn := hK.1
        by_cases hjl : j < l
        · have hj1 : 0 ≤ (j : Int) * S := Int.mul_nonneg (by omega) hS0
          have hj2 : (j : Int) * S + S ≤ (l : Int) * S := by
            have := Int.mul_le_mul_of_nonneg_right (show ((j : Int) + 1) ≤ l by omega) hS0
            rwa [Int.add_mul, Int.one_mul] at this
          have hacc : acc ++ (List.range (j + 1)).flatMap g = (acc ++ (List.range j).flatMap g) ++ g j := by rw [List.range_succ, List.flatMap_append, List.flatMap_cons, List.flatMap_nil, List.append_nil, List.append_assoc]
          have hlb : (((List.range j).flatMap g).length : Int) ≤ j * S := by
            have h1 := flat_le (g := g) (B := S.toNat) j fun q _ => by
              have := cells_len (C := 1048576) (by omega) (by decide) hF f el (off + q * S) (by omega) (by omega) (by rw [hS]; omega)
              rw [hS] at this
              rw [hg]
              show (cellsR 1048576 T f (el : Int) (off + q * S)).length ≤ _
              omega
            have h2 : ((j * S.toNat : Nat) : Int) = j * S := by rw [Int.natCast_mul]; congr 1; omega
            omega
          have hgj : g j = cellsR 1048576 T f (el : Int) (off + j * S) := by rw [hg]
          (repeat' first | refine zcd ?_ | intro K' hK | (with_reducible refine zn hK ?_; clear hK) | (with_reducible refine x_drawnD (id := 7) [(4, 9), (4, 12)] (by kernel_rfl) fun K' hK => ?_) | ((with_reducible apply d_nil); (case hp => exact ezP); (case' hx => (refine hK _ _ _ ?_; clear hK))) | ((with_reducible apply d_pure w_none); (case hp => exact rfl); (case hc => exact rfl); (case he => exact ez2 c1 ce)) | ((with_reducible apply d_eff w_none); (case hc => exact rfl); (case he => exact ez2 c1 ce); (case hok => exact ezO)) | ((with_reducible apply d_guard rfl); (case hb => exact ez2 c1 ce); (case' h1 => intro hb; (try simp only [hbs, reduceCtorEq] at hb); try exact ezX); (case' h2 => intro hb; (try simp only [hbs, reduceCtorEq] at hb); try exact ezX)) | ((with_reducible apply d_callS (g := 47) w_none); (case hs0 => exact rfl); (case ha => exact ez0); (case hs => (exact ih cl h' n' lo _ _ _ _ O' (acc ++ (List.range j).flatMap g) el (off + j * S) hlc (by omega) hT2 hE2 hO2 (by omega) (by omega) (by rw [hS]; omega) (by rw [hS, List.length_append]; omega) (by omega) (by rw [hS]; omega))); (case' hk => rintro _ h' n' ⟨hO3, hK3⟩)) | ((with_reducible first | apply zo1 | apply zo2 | apply o_guard rfl | apply x_cond | apply k_e1 rfl | apply k_e2 rfl | apply k_e0 rfl | apply k_e3 rfl | apply k_e4 rfl); (case he => exact ez2 c1 ce); (try case hok => exact ezO); all_goals try (intro hb; (try simp only [hbs, reduceCtorEq] at hb); try exact ezX)) | ((with_reducible apply o_undef rfl); (case hb => exact ez0)))
          refine k_round (l - (j + 1)) (by omega) ⟨j + 1, _, rfl, by omega, ez0, by rw [hacc, hgj]; exact hO3, hK.trans hK3⟩
        · obtain rfl : j = l := by omega
          (repeat' first | refine zcd ?_ | intro K' hK | (with_reducible refine zn hK ?_; clear hK) | fail | ((with_reducible first | apply zo1 | apply zo2 | apply o_guard rfl | apply x_cond | apply k_e1 rfl | apply k_e2 rfl | apply k_e0 rfl | apply k_e3 rfl | apply k_e4 rfl); (case he => exact ez1 c1); (try case hok => exact ezO); all_goals try (intro hb; (try simp only [hbs, reduceCtorEq] at hb); try exact ezX)) | ((with_reducible apply o_undef rfl); (case hb => exact ez0)))
          rw [hce]
          exact ⟨hO2, (Keeps.rfl_.new (Nat.le_refl _) _ (by omega)).trans hK⟩
    · by_cases h5 : (T[i]).kd = 5
      · rw [if_neg h6, if_pos h5] at hce
        rw [eOne_5 h5] at e
        rw [h5] at ht4
        have hall : ∀ x ∈ (T[i]).fs, 0 ≤ x.2 ∧ x.2 < T.length := fun x hx => by
          obtain ⟨q, hq, rfl⟩ := List.getElem_of_mem hx
          have := fine_fld hfi hq
          omega
        have hfl := fine_len hfi
        have hfo : FOk 1048576 (eRow 1048576 T) (T[i]).fs := fun x hx => Ext.at_mem hEok (hall x hx).1 (by rw [eRow_length]; exact (hall x hx).2)
        have hfd := hT.fd _ (List.getElem_mem hi)
        (repeat' first | refine zcd ?_ | intro K' hK | (with_reducible refine zn hK ?_; clear hK) | ((with_reducible apply o_callF (g := 63) w_none); (case ha => exact ez0); (case hs => ((with_reducible apply lay_ev (E := eRow 1048576 T) (fs := (T[i]).fs)); (case hm => rw [eRow_length]); (case hE => exact (hE.set hlo _).more (by omega)); (case hr => exact (hfd.set hlo _).more (by omega)); (case hf => exact hfo); (case hx => intro x hx; rw [eRow_length]; exact hall x hx); (all_goals first | exact hk | omega))); (case' hk => rintro _ h' n' ⟨rfl, rfl, rfl⟩)) | ((with_reducible first | apply zo1 | apply zo2 | apply o_guard rfl | apply x_cond | apply k_e1 rfl | apply k_e2 rfl | apply k_e0 rfl | apply k_e3 rfl | apply k_e4 rfl); (case he => exact ez1 ht4); (try case hok => exact ezO); all_goals try (intro hb; (try simp only [hbs, reduceCtorEq] at hb); try exact ezX)) | ((with_reducible apply o_undef rfl); (case hb => exact ez0)))
        obtain ⟨L, hL⟩ : ∃ L, (T[i]).fs.length = L := ⟨_, rfl⟩
        obtain ⟨offs, hoff⟩ : ∃ offs, (layR 1048576 (eRow 1048576 T) (T[i]).fs).1 = offs := ⟨_, rfl⟩
        obtain ⟨g, hg⟩ : ∃ g : Nat → List (Int × Int), g = fun (j : Nat) => cellsR 1048576 T f ((T[i]).fs.getD j ([], 0)).2 (off + offs.getD j 0) := ⟨_, rfl⟩
        rw [hoff, ← hg, hL] at hce
        have hol : offs.length = L := by have := layR_len 1048576 (eRow 1048576 T) (T[i]).fs (T[i]).fs.length (Nat.le_refl _); rw [List.take_length, hoff, hL] at this; exact this
        have hok := layR_ok (by omega) hfo (T[i]).fs.length (Nat.le_refl _)
        rw [List.take_length] at hok
        have hbb := upI_bnd hok.2.2 hok.1
        rw [e] at hs hos hal
        dsimp only at hs hos hal
        rw [hoff, hL]
        refine x_loopV [0, 15, 16, 67, 68, 69, 70, 71, 72, 73, 74, 75, 76, 77, 78, 79, 80, 81, 82, 83, 84] [0, 67] (fun m vs h' n' => ∃ (j : Nat) (O' : Value), m = L - j ∧ j ≤ L ∧ vs = [O', .int .i64 j] ∧ OwnC (acc ++ (List.range j).flatMap g) O' h' lo n' ∧ Keeps O (((h.set n (.row 32 false [.int .u8 5, .int .i64 (T[i]).el, .int .i64 (T[i]).ln, .slice (T[i]).A L (T[i]).c])).set (n + 1) (.row 3 false (iv offs))).set (n + 1 + 1) (.row 104 false [.int .i64 (upI (layR 1048576 (eRow 1048576 T) (T[i]).fs).2.1 (layR 1048576 (eRow 1048576 T) (T[i]).fs).2.2), .int .i64 (layR 1048576 (eRow 1048576 T) (T[i]).fs).2.2])) (n + 1 + 1 + 1) O' h' n') L rfl (by omega) ?_ ?_
        · exact ⟨0, O, rfl, by omega, ez0, by simpa using ((hO.set (m := n + 1) (Nat.le_refl _) (by omega) _).set (m := n + 1 + 1) (Nat.le_refl _) (by omega) _).set (m := n + 1 + 1 + 1) (Nat.le_refl _) (by omega) _, Keeps.rfl_⟩
        · rintro m fr _ h' n' ⟨j, O', rfl, hj, rfl, hO2, hK⟩
          have hT2 := hK.tab (((hT.set hlo _).set (by omega) _).set (by omega) _) (by omega) (fun b hb => hO.blk hb)
          have hE2 := hK.rd (((hE.set hlo _).set (by omega) _).set (by omega) _) (by omega) (fun b hb => hO.blk hb)
          have hofs := hK.cell (b := n + 1) (by rw [rowOf_ne _ _ (by omega)]; exact rowOf_same _ _ _ _ _) (by omega) (hO.new_blk (by omega))
          have hn := hK.1
          by_cases hjl : j < L
          · have hjl2 : j < (T[i]).fs.length := by omega
            obtain ⟨id2, off2, hFA, hid2, hf2, -, hty⟩ := fld_at (hT2.fd _ (List.getElem_mem hi)) hjl2
            have hin := fine_fld hfi hjl2
            obtain ⟨ty, hty2⟩ := Int.eq_ofNat_of_zero_le hin.1
            rw [hty2] at hty hf2
            have co := hofs.cellk (k := j) (v := .int .i64 (offs.getD j 0)) (by have := iv_lget (l := offs) (i := j) (by omega); rw [lget_eq] at this; exact this)
            have hli := lay_in (C := 1048576) (by omega) hfo (T[i]).fs.length (Nat.le_refl _) (by rw [List.take_length]; omega) j hjl2
            rw [List.take_length, hoff, hty2] at hli
            have hS0 : 0 ≤ ((eRow 1048576 T).at_ (ty : Int)).1 := (Ext.at_mem hEok (by omega) (by rw [eRow_length]; omega)).1
            have hgj : g j = cellsR 1048576 T f (ty : Int) (off + offs.getD j 0) := by
              rw [hg]
              show cellsR 1048576 T f ((T[i]).fs.getD j ([], 0)).2 (off + offs.getD j 0) = _
              rw [List.getD_eq_getElem?_getD (l := (T[i]).fs), List.getElem?_eq_getElem hjl2, Option.getD_some, hty2]
            have hacc : acc ++ (List.range (j + 1)).flatMap g = (acc ++ (List.range j).flatMap g) ++ g j := by rw [List.range_succ, List.flatMap_append, List.flatMap_cons, List.flatMap_nil, List.append_nil, List.append_assoc]
            have hok2 := layR_ok (by omega) hfo j (by omega)
            have hfj := hfo _ (List.getElem_mem hjl2)
            have hbj := upI_bnd hfj.2.2 hok2.1
            have hlo2 := layR_off 1048576 (eRow 1048576 T) hjl2
            rw [hoff] at hlo2
            rw [hty2] at hlo2 hbj
            have hfle := (fields_le (C := 1048576) (g := g) (by decide) (E := eRow 1048576 T) (fs := (T[i]).fs) (fun f hf => ⟨(hfo f hf).1, (hfo f hf).2.2⟩) (fun q hq hs => by
              have hx := fine_fld hfi hq
              obtain ⟨x, hx2⟩ := Int.eq_ofNat_of_zero_le hx.1
              rw [hg]
              show ((cellsR 1048576 T f ((T[i]).fs.getD q ([], 0)).2 (off + offs.getD q 0)).length : Int) ≤ _
              rw [List.getD_eq_getElem?_getD (l := (T[i]).fs), List.getElem?_eq_getElem hq, Option.getD_some]
              rw [hx2] at hs ⊢
              exact cells_len (C := 1048576) (by decide) (by decide) hF f x _ (by omega) (by omega) hs) j (by omega)).2
            (repeat' first | refine zcd ?_ | intro K' hK | (with_reducible refine zn hK ?_; clear hK) | (with_reducible refine x_drawnD (id := 14) [(4, 9)] (by kernel_rfl) fun K' hK => ?_) | ((with_reducible apply d_nil); (case hp => exact ezP); (case' hx => (refine hK _ _ _ ?_; clear hK))) | ((with_reducible apply d_pure w_none); (case hp => exact rfl); (case hc => exact rfl); (case he => exact ez1 co)) | ((with_reducible apply d_eff w_none); (case hc => exact rfl); (case he => exact ez1 co); (case hok => exact ezO)) | ((with_reducible apply d_guard rfl); (case hb => exact ez1 co); (case' h1 => intro hb; (try simp only [hbs, reduceCtorEq] at hb); try exact ezX); (case' h2 => intro hb; (try simp only [hbs, reduceCtorEq] at hb); try exact ezX)) | ((with_reducible apply d_callS (g := 47) w_none); (case hs0 => exact rfl); (case ha => exact ez0); (case hs => (exact ih cl _ (n' + 1) lo _ _ _ _ O' (acc ++ (List.range j).flatMap g) ty (off + offs.getD j 0) hlc (by omega) (hT2.set (by omega) _) (hE2.set (by omega) _) (hO2.set (Nat.le_refl _) (by omega) _) (by omega) (by omega) (by omega) (by rw [List.length_append]; omega) (by omega) (by omega))); (case' hk => rintro _ h' n' ⟨hO3, hK3⟩)) | ((with_reducible first | apply zo1 | apply zo2 | apply o_guard rfl | apply x_cond | apply k_e1 rfl | apply k_e2 rfl | apply k_e0 rfl | apply k_e3 rfl | apply k_e4 rfl); (case he => exact ez3 hFA hf2 co); (try case hok => exact ezO); all_goals try (intro hb; (try simp only [hbs, reduceCtorEq] at hb); try exact ezX)) | ((with_reducible apply o_undef rfl); (case hb => exact ez0)))
            refine k_round (L - (j + 1)) (by omega) ⟨j + 1, _, rfl, by omega, ez0, by rw [hacc, hgj]; exact hO3, hK.trans ((Keeps.rfl_.new (Nat.le_refl _) _ (by omega)).trans hK3)⟩
          · obtain rfl : j = L := by omega
            (repeat' first | refine zcd ?_ | intro K' hK | (with_reducible refine zn hK ?_; clear hK) | fail | ((with_reducible first | apply zo1 | apply zo2 | apply o_guard rfl | apply x_cond | apply k_e1 rfl | apply k_e2 rfl | apply k_e0 rfl | apply k_e3 rfl | apply k_e4 rfl); (case he => exact ez0); (try case hok => exact ezO); all_goals try (intro hb; (try simp only [hbs, reduceCtorEq] at hb); try exact ezX)) | ((with_reducible apply o_undef rfl); (case hb => exact ez0)))
            rw [hce]
            exact ⟨hO2, (((Keeps.rfl_.new (Nat.le_refl _) _ (by omega)).new (by omega) _ (by omega)).new (by omega) _ (by omega)).trans hK⟩
      · rw [if_neg h6, if_neg h5] at hce
        rcases hO with ⟨hp, rfl⟩ | ⟨hp, id, k1, k2, rfl, q4⟩
        · (repeat' first | refine zcd ?_ | intro K' hK | (with_reducible refine zn hK ?_; clear hK) | ((with_reducible apply o_ap0 (t := 69) apT69 w_none); (case hs => exact ez0); (case hy => exact ez0); (case hsrc => exact src_row (rowOf_same _ _ _ _ _) rfl); (case hc => exact rfl); (case hm => omega); (case h0 => omega)) | ((with_reducible first | apply zo1 | apply zo2 | apply o_guard rfl | apply x_cond | apply k_e1 rfl | apply k_e2 rfl | apply k_e0 rfl | apply k_e3 rfl | apply k_e4 rfl); (case he => exact ez1 ht4); (try case hok => exact ezO); all_goals try (intro hb; (try simp only [hbs, reduceCtorEq] at hb); try exact ezX)) | ((with_reducible apply o_undef rfl); (case hb => exact ez0)))
          rw [hce, hp]
          exact ⟨.inr ⟨by simp, n + 1 + 1, by omega, by omega, rfl, rowOf_same _ _ _ _ _⟩, Keeps.val (Keeps.new (Keeps.new (Keeps.new Keeps.rfl_ (Nat.le_refl _) _ (by omega)) (by omega) _ (by omega)) (by omega) _ (by omega)) fun b hb => blk_new (by omega)⟩
        · have w4 := rwOf_row q4
          have htk : (pv acc).take (acc.length * 2) = pv acc := List.take_of_length_le (by rw [pv_length]; omega)
          (repeat' first | refine zcd ?_ | intro K' hK | (with_reducible refine zn hK ?_; clear hK) | ((with_reducible apply o_apR (t := 69) apT69 w_none); (case hs => exact ez1 w4); (case hy => exact ez1 w4); (case hsrc => exact src_row (rowOf_same _ _ _ _ _) rfl); (case hr => exact ez1 w4); (case hc => exact rfl); (case hm => omega); (case hli => omega); (case hln => omega); (case hcs => rw [pv_length]; omega)) | ((with_reducible first | apply zo1 | apply zo2 | apply o_guard rfl | apply x_cond | apply k_e1 rfl | apply k_e2 rfl | apply k_e0 rfl | apply k_e3 rfl | apply k_e4 rfl); (case he => exact ez2 ht4 w4); (try case hok => exact ezO); all_goals try (intro hb; (try simp only [hbs, reduceCtorEq] at hb); try exact ezX)) | ((with_reducible apply o_undef rfl); (case hb => exact ez0)))
          rw [hce, htk]
          exact ⟨.inr ⟨by simp, n + 1 + 1, by omega, by omega, by rw [List.length_append]; rfl, by rw [pv_app]; exact rowOf_same _ _ _ _ _⟩, Keeps.val (Keeps.new (Keeps.kill (Keeps.new (Keeps.new Keeps.rfl_ (Nat.le_refl _) _ (by omega)) (by omega) _ (by omega)) _) (by omega) _ (by omega)) fun b hb => blk_new (by omega)⟩
end Go.Proofs.Ytkngdfbibffdcaa.Ce
namespace Go.Proofs.Ytkngdfbibffdcaa.Ce
open Go.RowKit
theorem fine_some {m i : Nat} {t : Tp} (h : fineB m i t = true) (h5 : t.kd = 5) : 0 < t.fs.length := by
  rw [fineB_5 h5] at h
  simp at h
  omega
theorem cells_ne {C : Int} {T : List Tp} (hF : Fine T) : ∀ (f i : Nat) (off : Int), i < T.length → i < f → cellsR C T f i off ≠ []
  | 0, _, _, _, h => absurd h (by omega)
  | f + 1, i, off, hi, hf => by
    have hfi := hF i hi
    rw [cellsR_at hi]
    by_cases h6 : (T[i]).kd = 6
    · have ha := fine_arr hfi h6
      obtain ⟨x, hx⟩ := Int.eq_ofNat_of_zero_le ha.1
      have := cells_ne (C := C) hF f x (off + ((0 : Nat) : Int) * ((eRow C T).at_ (x : Int)).1) (by omega) (by omega)
      rw [if_pos h6, hx]
      intro hh
      exact this (List.flatMap_eq_nil_iff.1 hh 0 (List.mem_range.2 (by omega)))
    · rw [if_neg h6]
      by_cases h5 : (T[i]).kd = 5
      · have hj : 0 < (T[i]).fs.length := fine_some hfi h5
        have hx := fine_fld hfi hj
        obtain ⟨x, hx2⟩ := Int.eq_ofNat_of_zero_le hx.1
        have := cells_ne (C := C) hF f x (off + (layR C (eRow C T) (T[i]).fs).1.getD 0 0) (by omega) (by omega)
        rw [if_pos h5]
        intro hh
        have hh := List.flatMap_eq_nil_iff.1 hh 0 (List.mem_range.2 hj)
        rw [List.getD_eq_getElem?_getD (l := (T[i]).fs), List.getElem?_eq_getElem hj, Option.getD_some, hx2] at hh
        exact this hh
      · rw [if_neg h5]
        simp
def cellsT (T : List Tp) (j : Nat) : List (Int × Int) := cellsR 1000000 T 32 j 0
theorem szR_0 {C : Int} {T : List Tp} {i : Int} (h : (szR C T i).2.2 = 0) : ChkT T ∧ 0 ≤ i ∧ i < T.length ∧ ((eRow C T).at_ i).1 ≤ 256 ∧ szR C T i = (((eRow C T).at_ i).1, ((eRow C T).at_ i).2, 0) := by
  unfold szR at h ⊢
  by_cases hC : ChkT T
  · rw [if_pos hC] at h ⊢
    by_cases hi : 0 ≤ i ∧ i < T.length
    · rw [if_pos hi] at h ⊢
      by_cases hb : 256 < ((eRow C T).at_ i).1
      · rw [if_pos hb] at h; cases h
      · rw [if_neg hb]; exact ⟨hC, hi.1, hi.2, by omega, rfl⟩
    · rw [if_neg hi] at h; cases h
  · rw [if_neg hC] at h; cases h
variable (k d cl : Nat) (h : Hp) (n : Nat)
theorem lasked_err (hk : 30000 ≤ k) (A : Option Addr) (T : List Tp) (c : Nat) (hT : TabH h n A T) (hS : ∀ t ∈ T, t.fs.length ≤ 20000) (hm : T.length ≤ 9223372036854775807) (i : Int) (he : (szR 1048576 T i).2.2 ≠ 0) :
    SQ k (d + 7) cl 46 [.slice A T.length c, .int .i64 i] h n fun v h' n' => v = .tuple ⟨[.slice none 0 0, .int .i64 (szR 1048576 T i).2.2]⟩ ∧ h' = h ∧ n' = n := by
  by_cases hC : ChkT T
  · by_cases hi : 0 ≤ i ∧ i < T.length
    · by_cases hb : 256 < ((eRow 1048576 T).at_ i).1
      · rw [show szR 1048576 T i = (0, 0, 16) by unfold szR; rw [if_pos hC, if_pos hi, if_pos hb]]
        exact lasked_big k d cl h n hk A T c hT hS hm i hC hi hb
      · exact absurd (show (szR 1048576 T i).2.2 = 0 by unfold szR; rw [if_pos hC, if_pos hi, if_neg hb]) he
    · rw [show szR 1048576 T i = (0, 0, 2) by unfold szR; rw [if_pos hC, if_neg hi]]
      exact lasked_arg k d cl h n hk A T c hT hS hm i hC hi
  · rw [show szR 1048576 T i = (0, 0, 8) by unfold szR; rw [if_neg hC]]
    exact lasked_bad k d cl h n hk A T c hT hS hm i hC
theorem lparts_ev (hk : 30000 ≤ k) (A : Option Addr) (T : List Tp) (c : Nat) (hT : TabH h n A T) (hC : ChkT T) (j : Nat) (h1 : j < T.length) (hb : ((eRow 1048576 T).at_ (j : Int)).1 ≤ 256) (hcl : cl ≤ n + 1) :
    SQ k (d + 39) cl 47 [.slice none 0 0, .slice A T.length c, .slice (some ⟨n, 0, none⟩) T.length T.length, .int .i64 j, .int .i64 0] (h.set n (.row 104 false (ev (eRow 1048576 T)))) (n + 1) fun v h' n' => ∃ id, n + 1 ≤ id ∧ id < n' ∧ v = .slice (some ⟨id, 0, none⟩) (cellsT T j).length (cellsT T j).length ∧ rowOf h' id = some (77, false, pv (cellsT T j)) ∧ RdH h' n' (some ⟨n, 0, none⟩) (ev (eRow 1048576 T)) := by
  have hl := hC.1
  have hce : cellsT T j = cellsR 1048576 T 32 j 0 := (cells_eq hC.2.1 32 j 0 (by omega) (by omega) hb).symm
  have hne := cells_ne (C := 1048576) hC.2.1 32 j 0 (by omega) (by omega)
  have hP := parts_ev k hk T hC 32 (d + 5) cl (h.set n (.row 104 false (ev (eRow 1048576 T)))) (n + 1) (n + 1) A c (some ⟨n, 0, none⟩) T.length (.slice none 0 0) [] j 0 hcl (Nat.le_refl _) ((hT.set (Nat.le_refl _) _).more (by omega)) (RdH.row (by omega)) (.inl ⟨rfl, rfl⟩) (by omega) (by omega) hb (by show ((0 : Nat) : Int) + _ ≤ _; omega) (Int.le_refl _) (by omega)
  rw [List.nil_append, ← hce] at hP
  rw [← hce] at hne
  refine Sp.mono hP fun v h' n' hh => ?_
  obtain ⟨⟨hp, -⟩ | ⟨-, id, k1, k2, rfl, q4⟩, hK⟩ := hh
  · exact absurd hp hne
  · exact ⟨id, k1, k2, rfl, q4, hK.cell (rowOf_same _ _ _ _ _) (by omega) (fun len c hh => by cases hh)⟩
theorem lcells_ok (hk : 30000 ≤ k) (A : Option Addr) (T : List Tp) (c : Nat) (hT : TabH h n A T) (hS : ∀ t ∈ T, t.fs.length ≤ 20000) (hm : T.length ≤ 9223372036854775807) (j : Nat) (he : (szR 1048576 T j).2.2 = 0) :
    SQ k (d + 40) cl 24 [.slice A T.length c, .int .i64 j] h n fun v h' n' => v = .tuple ⟨[.slice (some ⟨n, 0, none⟩) (cellsT T j).length (cellsT T j).length, .int .i64 0]⟩ ∧ h' = h.set n (.row 77 false (pv (cellsT T j))) ∧ n' = n + 1 := by
  obtain ⟨hC, h0, h1, hb, -⟩ := szR_0 he
  have hl := hC.1
  have hne := cells_ne (C := 1000000) hC.2.1 32 j 0 (by omega) (by omega)
  have hA := lasked_ok k (d + 32) n h n hk A T c hT hS hm j hC ⟨h0, h1⟩ (by omega)
  have hP := lparts_ev k d n h n hk A T c hT hC j (by omega) hb (by omega)
  refine enter Try.func24 (by kernel_rfl) rfl (by kernel_rfl) rfl rfl rfl ?_
  (repeat' first | refine zcd ?_ | intro K' hK | (with_reducible refine zn hK ?_; clear hK) | ((with_reducible apply o_callF (g := 46) w_none); (case ha => exact ez0); (case hs => (exact hA)); (case' hk => rintro _ h' n' ⟨rfl, rfl, rfl⟩)) | ((with_reducible apply o_callF (g := 47) w_none); (case ha => exact ez0); (case hs => (exact hP)); (case' hk => rintro _ h' n' ⟨id, k1, k2, rfl, q4, -⟩)) | ((with_reducible first | apply zo1 | apply zo2 | apply o_guard rfl | apply x_cond | apply k_e1 rfl | apply k_e2 rfl | apply k_e0 rfl | apply k_e3 rfl | apply k_e4 rfl); (case he => exact ez0); (try case hok => exact ezO); all_goals try (intro hb; (try simp only [hbs, reduceCtorEq] at hb); try exact ezX)) | ((with_reducible apply o_undef rfl); (case hb => exact ez0)))
  (refine sw_row ezI rfl (by omega) (by first | assumption | (simp (disch := first | assumption | omega | rfl | decide) only [go_sem, seval, tys] <;> rfl)) (by exact pv_idA _ _) ezR ?_; exact ⟨rfl, rfl, rfl⟩)
end Go.Proofs.Ytkngdfbibffdcaa.Ce
namespace Go.Proofs.Ytkngdfbibffdcaa.Ce
open Go.RowKit
variable (k d cl : Nat) (h : Hp) (n : Nat)
theorem tgreat_ev (hk : 30000 ≤ k) (A : Option Addr) (T : List Tp) (c : Nat) (hT : TabH h n A T) (hm : T.length ≤ 9223372036854775807) (hS0 : ∀ t ∈ T, t.fs.length ≤ 9223372036854775807) :
    SQ k (d + 1) cl 4 [.slice A T.length c] h n fun v h' n' => ∃ B : Bool, v = .bool B ∧ (B = false → T.length ≤ 40 ∧ ∀ t ∈ T, t.fs.length ≤ 20) ∧ h' = h ∧ n' = n := by
  by_cases hl : T.length ≤ 40
  · refine enter Try.func4 (by kernel_rfl) rfl (by kernel_rfl) rfl rfl rfl ?_
    (repeat' first | refine zcd ?_ | intro K' hK | (with_reducible refine zn hK ?_; clear hK) | fail | ((with_reducible first | apply zo1 | apply zo2 | apply o_guard rfl | apply x_cond | apply k_e1 rfl | apply k_e2 rfl | apply k_e0 rfl | apply k_e3 rfl | apply k_e4 rfl); (case he => exact ez0); (try case hok => exact ezO); all_goals try (intro hb; (try simp only [hbs, reduceCtorEq] at hb); try exact ezX)) | ((with_reducible apply o_undef rfl); (case hb => exact ez0)))
    refine x_loopF [2, 3, 4, 8, 9, 10, 11, 12, 13, 14, 15, 16, 17, 18, 19, 20, 21, 22, 23, 24, 25, 26, 27, 28, 29, 30, 31, 32, 33, 34, 35, 36, 37, 38, 39, 40, 41] [3] (fun m vs => ∃ q : Nat, m = T.length - q ∧ q ≤ T.length ∧ vs = [.int .i64 q] ∧ ∀ t ∈ T.take q, t.fs.length ≤ 20) T.length rfl (by omega) ⟨0, rfl, by omega, by simp (disch := first | assumption | omega | rfl | decide) only [go_sem, seval, tys] <;> rfl, by intro t ht; simp at ht⟩ ?_
    rintro m g _ ⟨q, rfl, hq, rfl, hall⟩
    by_cases hqT : q < T.length
    · obtain ⟨tid, toff, hA, htid, -, -, -, -, ht3⟩ := hT.at_ hqT
      have hmem := List.getElem_mem hqT
      have hfd2 := hT.fd _ hmem
      have hs0 := hS0 _ hmem
      obtain ⟨t, htt⟩ : ∃ t, T[q] = t := ⟨_, rfl⟩
      rw [htt] at ht3 hfd2 hs0
      subst hA
      by_cases h20 : t.fs.length ≤ 20
      · (repeat' first | refine zcd ?_ | intro K' hK | (with_reducible refine zn hK ?_; clear hK) | fail | ((with_reducible first | apply zo1 | apply zo2 | apply o_guard rfl | apply x_cond | apply k_e1 rfl | apply k_e2 rfl | apply k_e0 rfl | apply k_e3 rfl | apply k_e4 rfl); (case he => exact ez1 ht3); (try case hok => exact ezO); all_goals try (intro hb; (try simp only [hbs, reduceCtorEq] at hb); try exact ezX)) | ((with_reducible apply o_undef rfl); (case hb => exact ez0)))
        refine x_loopF [2, 4, 21, 22, 23, 24, 25, 26, 27, 28, 29, 30, 31, 32, 33, 34, 35, 36, 37, 38, 39, 40, 41] [4] (fun m vs => ∃ j : Nat, m = t.fs.length - j ∧ j ≤ t.fs.length ∧ vs = [.int .i64 j]) t.fs.length rfl (by omega) ⟨0, rfl, by omega, by simp (disch := first | assumption | omega | rfl | decide) only [go_sem, seval, tys] <;> rfl⟩ ?_
        rintro m g2 _ ⟨j, rfl, hj, rfl⟩
        by_cases hjf : j < t.fs.length
        · obtain ⟨id2, off2, hFA, hid2, -, hfa, -⟩ := fld_at hfd2 hjf
          rw [hFA] at ht3
          (repeat' first | refine zcd ?_ | intro K' hK | (with_reducible refine zn hK ?_; clear hK) | fail | ((with_reducible first | apply zo1 | apply zo2 | apply o_guard rfl | apply x_cond | apply k_e1 rfl | apply k_e2 rfl | apply k_e0 rfl | apply k_e3 rfl | apply k_e4 rfl); (case he => exact ez3 ht3 hfa @size_mk); (try case hok => exact ezO); all_goals try (intro hb; (try simp only [hbs, reduceCtorEq] at hb); try exact ezX)) | ((with_reducible apply o_undef rfl); (case hb => exact ez0)))
          all_goals first | exact sw_flat rfl rfl ⟨true, rfl, fun h => (by cases h), rfl, rfl⟩ | refine k_round (t.fs.length - (j + 1)) (by omega) ⟨⟨rfl, rfl⟩, j + 1, rfl, by omega, by simp (disch := first | assumption | omega | rfl | decide) only [go_sem, seval, tys] <;> rfl⟩
        · obtain rfl : j = t.fs.length := by omega
          (repeat' first | refine zcd ?_ | intro K' hK | (with_reducible refine zn hK ?_; clear hK) | fail | ((with_reducible first | apply zo1 | apply zo2 | apply o_guard rfl | apply x_cond | apply k_e1 rfl | apply k_e2 rfl | apply k_e0 rfl | apply k_e3 rfl | apply k_e4 rfl); (case he => exact ez1 ht3); (try case hok => exact ezO); all_goals try (intro hb; (try simp only [hbs, reduceCtorEq] at hb); try exact ezX)) | ((with_reducible apply o_undef rfl); (case hb => exact ez0)))
          refine k_round (T.length - (q + 1)) (by omega) ⟨⟨rfl, rfl⟩, q + 1, rfl, by omega, by simp (disch := first | assumption | omega | rfl | decide) only [go_sem, seval, tys] <;> rfl, ?_⟩
          rw [List.take_succ_eq_append_getElem hqT]
          intro x hx
          rcases List.mem_append.1 hx with hx | hx
          · exact hall x hx
          · rw [List.mem_singleton.1 hx, htt]; exact h20
      · (repeat' first | refine zcd ?_ | intro K' hK | (with_reducible refine zn hK ?_; clear hK) | fail | ((with_reducible first | apply zo1 | apply zo2 | apply o_guard rfl | apply x_cond | apply k_e1 rfl | apply k_e2 rfl | apply k_e0 rfl | apply k_e3 rfl | apply k_e4 rfl); (case he => exact ez1 ht3); (try case hok => exact ezO); all_goals try (intro hb; (try simp only [hbs, reduceCtorEq] at hb); try exact ezX)) | ((with_reducible apply o_undef rfl); (case hb => exact ez0)))
        all_goals exact sw_flat rfl rfl ⟨true, rfl, fun h => (by cases h), rfl, rfl⟩
    · obtain rfl : q = T.length := by omega
      rw [List.take_length] at hall
      (repeat' first | refine zcd ?_ | intro K' hK | (with_reducible refine zn hK ?_; clear hK) | fail | ((with_reducible first | apply zo1 | apply zo2 | apply o_guard rfl | apply x_cond | apply k_e1 rfl | apply k_e2 rfl | apply k_e0 rfl | apply k_e3 rfl | apply k_e4 rfl); (case he => exact ez0); (try case hok => exact ezO); all_goals try (intro hb; (try simp only [hbs, reduceCtorEq] at hb); try exact ezX)) | ((with_reducible apply o_undef rfl); (case hb => exact ez0)))
      all_goals exact sw_flat rfl rfl ⟨false, rfl, fun _ => ⟨hl, hall⟩, rfl, rfl⟩
  · refine enter Try.func4 (by kernel_rfl) rfl (by kernel_rfl) rfl rfl rfl ?_
    (repeat' first | refine zcd ?_ | intro K' hK | (with_reducible refine zn hK ?_; clear hK) | fail | ((with_reducible first | apply zo1 | apply zo2 | apply o_guard rfl | apply x_cond | apply k_e1 rfl | apply k_e2 rfl | apply k_e0 rfl | apply k_e3 rfl | apply k_e4 rfl); (case he => exact ez0); (try case hok => exact ezO); all_goals try (intro hb; (try simp only [hbs, reduceCtorEq] at hb); try exact ezX)) | ((with_reducible apply o_undef rfl); (case hb => exact ez0)))
    all_goals exact sw_flat rfl rfl ⟨true, rfl, fun h => (by cases h), rfl, rfl⟩
end Go.Proofs.Ytkngdfbibffdcaa.Ce
