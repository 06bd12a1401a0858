/- Parts of the proof of TopCode: Jn, Jl, Zn, Zo, Zp. No condition of its own. -/
import Derived.Test.YtkngdfbibffdcaaTak
import Derived.Test.YtkngdfbibffdcaaTam
import Derived.Test.YtkngdfbibffdcaaTan
import Derived.Test.YtkngdfbibffdcaaTap
import Derived.Test.YtkngdfbibffdcaaTaq
import Derived.Test.YtkngdfbibffdcaaTat
import Derived.Test.YtkngdfbibffdcaaTaw
import Derived.Test.YtkngdfbibffdcaaTax
import Derived.Test.YtkngdfbibffdcaaTay
set_option linter.unusedVariables false
set_option linter.unusedSimpArgs false
set_option maxRecDepth 100000
set_option maxHeartbeats 4000000
namespace Go.Proofs.Ytkngdfbibffdcaa.Ce
open Go.RowKit
variable (k d cl : Nat) (h : Hp) (n : Nat)
theorem pholds_err (hk : 30000 ≤ k) (A : Option Addr) (T : List Tp) (c : Nat) (hT : TabH h n A T) (hS : ∀ t ∈ T, t.fs.length ≤ 20000) (hm : T.length ≤ 9223372036854775807) (i j : Int) (he : askE T i j ≠ 0) :
    SQ k (d + 8) cl 27 [.slice A T.length c, .int .i64 i, .int .i64 j] h n fun v h' n' => v = .tuple ⟨[.bool false, .int .i64 (askE T i j)]⟩ ∧ h' = h ∧ n' = n := by
  have q1 := pasked_2 k d n (h.set n (.row 3 false (iv [i, j]))) (n + 1) hk A T c ((hT.set (Nat.le_refl _) _).more (by omega)) hS hm i j (some ⟨n, 0, none⟩) 2 (RdH.row (by omega))
  obtain ⟨e, hee⟩ : ∃ e, askE T i j = e := ⟨_, rfl⟩
  rw [hee] at q1 he ⊢
  have hbe : (e == 0) = false := by rw [beq_eq_false_iff_ne]; exact he
  refine enter Try.func27 (by kernel_rfl) rfl (by kernel_rfl) rfl rfl rfl ?_
  (repeat' first | refine zcd ?_ | intro K' hK | (with_reducible refine zn hK ?_; clear hK) | ((with_reducible apply o_callF (g := 48) w_none); (case ha => exact ez0); (case hs => (exact q1)); (case' hk => rintro _ h' n' ⟨rfl, rfl, rfl⟩)) | ((with_reducible first | apply zo1 | apply zo2 | apply o_guard rfl | apply x_cond | apply k_e1 rfl | apply k_e2 rfl | apply k_e0 rfl | apply k_e3 rfl | apply k_e4 rfl); (case he => exact ez1 hbe); (try case hok => exact ezO); all_goals try (intro hb; (try simp only [hbs, reduceCtorEq] at hb); try exact ezX)) | ((with_reducible apply o_undef rfl); (case hb => exact ez0)))
  all_goals exact sw_flat rfl rfl ⟨rfl, rfl, rfl⟩
theorem preach_err (hk : 30000 ≤ k) (A : Option Addr) (T : List Tp) (c : Nat) (hT : TabH h n A T) (hS : ∀ t ∈ T, t.fs.length ≤ 20000) (hm : T.length ≤ 9223372036854775807) (i : Int) (he : askE T i i ≠ 0) :
    SQ k (d + 8) cl 26 [.slice A T.length c, .int .i64 i] h n fun v h' n' => v = .tuple ⟨[.slice none 0 0, .int .i64 (askE T i i)]⟩ ∧ h' = h ∧ n' = n := by
  have q1 := pasked_1 k d n (h.set n (.row 3 false (iv [i]))) (n + 1) hk A T c ((hT.set (Nat.le_refl _) _).more (by omega)) hS hm i (some ⟨n, 0, none⟩) 1 (RdH.row (by omega))
  obtain ⟨e, hee⟩ : ∃ e, askE T i i = e := ⟨_, rfl⟩
  rw [hee] at q1 he ⊢
  have hbe : (e == 0) = false := by rw [beq_eq_false_iff_ne]; exact he
  refine enter Try.func26 (by kernel_rfl) rfl (by kernel_rfl) rfl rfl rfl ?_
  (repeat' first | refine zcd ?_ | intro K' hK | (with_reducible refine zn hK ?_; clear hK) | ((with_reducible apply o_callF (g := 48) w_none); (case ha => exact ez0); (case hs => (exact q1)); (case' hk => rintro _ h' n' ⟨rfl, rfl, rfl⟩)) | ((with_reducible first | apply zo1 | apply zo2 | apply o_guard rfl | apply x_cond | apply k_e1 rfl | apply k_e2 rfl | apply k_e0 rfl | apply k_e3 rfl | apply k_e4 rfl); (case he => exact ez1 hbe); (try case hok => exact ezO); all_goals try (intro hb; (try simp only [hbs, reduceCtorEq] at hb); try exact ezX)) | ((with_reducible apply o_undef rfl); (case hb => exact ez0)))
  all_goals exact sw_flat rfl rfl ⟨rfl, rfl, rfl⟩
theorem psame_err (hk : 30000 ≤ k) (A : Option Addr) (T : List Tp) (c : Nat) (hT : TabH h n A T) (hS : ∀ t ∈ T, t.fs.length ≤ 20000) (hm : T.length ≤ 9223372036854775807) (i j : Int) (he : askE T i j ≠ 0) :
    SQ k (d + 8) cl 30 [.slice A T.length c, .int .i64 i, .int .i64 j] h n fun v h' n' => v = .tuple ⟨[.bool false, .int .i64 (askE T i j)]⟩ ∧ h' = h ∧ n' = n := by
  have q1 := pasked_2 k d n (h.set n (.row 3 false (iv [i, j]))) (n + 1) hk A T c ((hT.set (Nat.le_refl _) _).more (by omega)) hS hm i j (some ⟨n, 0, none⟩) 2 (RdH.row (by omega))
  obtain ⟨e, hee⟩ : ∃ e, askE T i j = e := ⟨_, rfl⟩
  rw [hee] at q1 he ⊢
  have hbe : (e == 0) = false := by rw [beq_eq_false_iff_ne]; exact he
  refine enter Try.func30 (by kernel_rfl) rfl (by kernel_rfl) rfl rfl rfl ?_
  (repeat' first | refine zcd ?_ | intro K' hK | (with_reducible refine zn hK ?_; clear hK) | ((with_reducible apply o_callF (g := 48) w_none); (case ha => exact ez0); (case hs => (exact q1)); (case' hk => rintro _ h' n' ⟨rfl, rfl, rfl⟩)) | ((with_reducible first | apply zo1 | apply zo2 | apply o_guard rfl | apply x_cond | apply k_e1 rfl | apply k_e2 rfl | apply k_e0 rfl | apply k_e3 rfl | apply k_e4 rfl); (case he => exact ez1 hbe); (try case hok => exact ezO); all_goals try (intro hb; (try simp only [hbs, reduceCtorEq] at hb); try exact ezX)) | ((with_reducible apply o_undef rfl); (case hb => exact ez0)))
  all_goals exact sw_flat rfl rfl ⟨rfl, rfl, rfl⟩
end Go.Proofs.Ytkngdfbibffdcaa.Ce
namespace Go.Proofs.Ytkngdfbibffdcaa.Ce
open Go.RowKit
theorem askE_in {T : List Tp} {i j : Int} (h : askE T i j = 0) : ChkT T ∧ (0 ≤ i ∧ i < T.length) ∧ 0 ≤ j ∧ j < T.length := by
  unfold askE at h
  split at h
  · split at h
    · exact ⟨‹_›, ‹_›⟩
    · cases h
  · cases h
noncomputable def holdsE (T : List Tp) (i j : Int) : Bool := if askE T i j = 0 then holdsB T i.toNat j.toNat else false
noncomputable def reachE (T : List Tp) (i : Int) : List Int := if askE T i i = 0 then reachL T i.toNat else []
noncomputable def sameE (T : List Tp) (i j : Int) : Bool := if askE T i j = 0 then alikeB T i.toNat j.toNat else false
variable (k d cl : Nat) (h : Hp) (n : Nat)
theorem pholds_all (hk : 30000 ≤ k) (A : Option Addr) (T : List Tp) (c : Nat) (hT : TabH h n A T) (hS : ∀ t ∈ T, t.fs.length ≤ 20000) (hm : T.length ≤ 9223372036854775807) (i j : Int) :
    SQ k (d + 8) cl 27 [.slice A T.length c, .int .i64 i, .int .i64 j] h n fun v h' n' => v = .tuple ⟨[.bool (holdsE T i j), .int .i64 (askE T i j)]⟩ ∧ h = h' ∧ n = n' := by
  by_cases he : askE T i j = 0
  · obtain ⟨hC, hi, hj⟩ := askE_in he
    obtain ⟨i, rfl⟩ := Int.eq_ofNat_of_zero_le hi.1
    obtain ⟨j, rfl⟩ := Int.eq_ofNat_of_zero_le hj.1
    have q := pholds_ok k d cl h n hk A T c hT hS hm hC i j (by omega) (by omega)
    unfold holdsE
    simp only [he, if_pos, Int.toNat_natCast]
    exact q.mono fun _ _ _ hp => ⟨hp.1, hp.2.1.symm, hp.2.2.symm⟩
  · have q := pholds_err k d cl h n hk A T c hT hS hm i j he
    unfold holdsE
    rw [if_neg he]
    exact q.mono fun _ _ _ hp => ⟨hp.1, hp.2.1.symm, hp.2.2.symm⟩
theorem preach_all (hk : 30000 ≤ k) (A : Option Addr) (T : List Tp) (c : Nat) (hT : TabH h n A T) (hS : ∀ t ∈ T, t.fs.length ≤ 20000) (hm : T.length ≤ 9223372036854775807) (i : Int) :
    SQ k (d + 8) cl 26 [.slice A T.length c, .int .i64 i] h n fun v h' n' => ∃ V, v = .tuple ⟨[V, .int .i64 (askE T i i)]⟩ ∧ IntsR (reachE T i) h n V h' n' := by
  by_cases he : askE T i i = 0
  · obtain ⟨hC, hi, hj⟩ := askE_in he
    obtain ⟨i, rfl⟩ := Int.eq_ofNat_of_zero_le hi.1
    have q := preach_ok k d cl h n hk A T c hT hS hm hC i (by omega)
    unfold reachE
    simp only [he, if_pos, Int.toNat_natCast]
    exact q.mono fun _ _ _ ⟨V, e, hv⟩ => ⟨V, e, IntsV.rd hv⟩
  · have q := preach_err k d cl h n hk A T c hT hS hm i he
    unfold reachE
    rw [if_neg he]
    exact q.mono fun _ _ _ hp => ⟨_, hp.1, IntsV.rd (.inl ⟨rfl, rfl, hp.2.1, hp.2.2⟩)⟩
theorem psame_all (hk : 30000 ≤ k) (A : Option Addr) (T : List Tp) (c : Nat) (hT : TabH h n A T) (hS : ∀ t ∈ T, t.fs.length ≤ 20000) (hm : T.length ≤ 9223372036854775807) (i j : Int) :
    SQ k (d + 8) cl 30 [.slice A T.length c, .int .i64 i, .int .i64 j] h n fun v h' n' => v = .tuple ⟨[.bool (sameE T i j), .int .i64 (askE T i j)]⟩ ∧ h = h' ∧ n = n' := by
  by_cases he : askE T i j = 0
  · obtain ⟨hC, hi, hj⟩ := askE_in he
    obtain ⟨i, rfl⟩ := Int.eq_ofNat_of_zero_le hi.1
    obtain ⟨j, rfl⟩ := Int.eq_ofNat_of_zero_le hj.1
    have q := psame_ok k d cl h n hk A T c hT hS hm hC i j (by omega) (by omega)
    unfold sameE
    simp only [he, if_pos, Int.toNat_natCast]
    exact q.mono fun _ _ _ hp => ⟨hp.1, hp.2.1.symm, hp.2.2.symm⟩
  · have q := psame_err k d cl h n hk A T c hT hS hm i j he
    unfold sameE
    rw [if_neg he]
    exact q.mono fun _ _ _ hp => ⟨hp.1, hp.2.1.symm, hp.2.2.symm⟩
end Go.Proofs.Ytkngdfbibffdcaa.Ce
namespace Go.Proofs.Ytkngdfbibffdcaa.Ce
open Go.RowKit
theorem cells_held {C : Int} {T : List Tp} (hF : Fine T) : ∀ (f i : Nat) (off : Int), i < T.length → i < f → ∀ p ∈ cellsR C T f i off, ∃ t : Nat, p.2 = t ∧ Rch T false i t
  | 0, _, _, _, h => absurd h (by omega)
  | f + 1, i, off, hi, hf => by
    have hfi := hF i hi
    rw [cellsR_at hi]
    intro p hp
    by_cases h6 : (T[i]).kd = 6
    · have ha := fine_arr hfi h6
      obtain ⟨x, hx⟩ := Int.eq_ofNat_of_zero_le ha.1
      rw [if_pos h6] at hp
      obtain ⟨j, -, hj⟩ := List.mem_flatMap.1 hp
      rw [hx] at hj
      obtain ⟨t, ht, hr⟩ := cells_held hF f x _ (by omega) (by omega) p hj
      refine ⟨t, ht, Rch.trans (Rch.step .refl hi ?_) hr⟩
      unfold leadsT
      rw [if_pos (.inl h6), ← hx]
      exact List.mem_singleton.2 rfl
    · rw [if_neg h6] at hp
      by_cases h5 : (T[i]).kd = 5
      · rw [if_pos h5] at hp
        obtain ⟨j, hj, hp⟩ := List.mem_flatMap.1 hp
        have hj := List.mem_range.1 hj
        have hx := fine_fld hfi hj
        obtain ⟨x, hx2⟩ := Int.eq_ofNat_of_zero_le hx.1
        rw [List.getD_eq_getElem?_getD (l := (T[i]).fs), List.getElem?_eq_getElem hj, Option.getD_some, hx2] at hp
        obtain ⟨t, ht, hr⟩ := cells_held hF f x _ (by omega) (by omega) p hp
        refine ⟨t, ht, Rch.trans (Rch.step .refl hi ?_) hr⟩
        unfold leadsT
        rw [if_neg (fun h => by rcases h with h | ⟨h, -⟩; exact h6 h; cases h), ← hx2]
        exact List.mem_map.2 ⟨_, List.getElem_mem hj, rfl⟩
      · rw [if_neg h5] at hp
        obtain rfl := List.mem_singleton.1 hp
        exact ⟨i, rfl, .refl⟩
theorem zip_diag {α : Type} : ∀ {l : List α} {p : α × α}, p ∈ l.zip l → p.1 = p.2
  | a :: l, p, h => by
    rw [List.zip_cons_cons] at h
    rcases List.mem_cons.1 h with rfl | h
    · rfl
    · exact zip_diag h
theorem Met_diag {T : List Tp} {i a b : Nat} (h : Met T i i a b) : a = b := by
  induction h with
  | refl => rfl
  | @step a b x y hm ha hb hs hp ih =>
    subst ih
    have h2 : (x : Int) = (y : Int) := zip_diag hp
    omega
theorem same_self {T : List Tp} {i : Nat} (he : askE T i i = 0) : sameE T i i = true := by
  unfold sameE
  rw [if_pos he, Int.toNat_natCast]
  exact alikeB_t fun a b hm ha hb => by obtain rfl := Met_diag hm; exact ⟨rfl, rfl, rfl⟩
theorem reach_pos {T : List Tp} {i : Nat} (he : askE T i i = 0) (hi : i < T.length) : 0 < (reachE T i).length := by
  unfold reachE
  rw [if_pos he, Int.toNat_natCast]
  exact List.length_pos_of_mem (reach_mem.2 ⟨i, rfl, hi, .refl⟩)
theorem askE_ij {T : List Tp} (hC : ChkT T) {i j : Nat} (hi : i < T.length) (hj : j < T.length) : askE T i j = 0 := by
  unfold askE
  rw [if_pos hC, if_pos ⟨by omega, by omega⟩]
theorem held_self {T : List Tp} (hC : ChkT T) {i t : Nat} (hi : i < T.length) (ht : t < T.length) (h : Rch T false i t) : holdsE T i t = true := by
  unfold holdsE
  rw [if_pos (askE_ij hC hi ht), Int.toNat_natCast, Int.toNat_natCast]
  exact (holdsB_iff ht).2 h
def stA (hi : Int) (ps : List (Int × Int)) (q : Nat) : Int := (ps.getD q (hi, 0)).1
theorem asc_st {S : Int → Int} : ∀ {ps : List (Int × Int)} {lo hi : Int} {q : Nat} (hq : q < ps.length), AscB S lo hi ps → stA hi ps q = (ps[q]).1 ∧ lo ≤ (ps[q]).1 ∧ (ps[q]).1 + S (ps[q]).2 ≤ stA hi ps (q + 1)
  | [p], lo, hi, 0, _, h => ⟨rfl, h.1, h.2.2⟩
  | p :: r :: ps, lo, hi, 0, _, h => ⟨rfl, h.1, h.2.2.1⟩
  | p :: ps, lo, hi, q + 1, hq, h => by
    have := asc_st (ps := ps) (q := q) (by simpa using hq) h.2.2
    have h1 := h.1
    have h2 := h.2.1
    unfold stA at this ⊢
    simp only [List.getD_cons_succ, List.getElem_cons_succ]
    exact ⟨this.1, by omega, this.2.2⟩
theorem stA_le {S : Int → Int} {ps : List (Int × Int)} {lo hi : Int} (h : AscB S lo hi ps) (q : Nat) : stA hi ps q ≤ hi := by
  by_cases hq : q < ps.length
  · have h1 := asc_st hq h
    have h2 := AscB.mem h _ (List.getElem_mem hq)
    omega
  · unfold stA
    rw [List.getD_eq_getElem?_getD, List.getElem?_eq_none (by omega)]
    exact Int.le_refl _
theorem stA_end {ps : List (Int × Int)} {hi : Int} : stA hi ps ps.length = hi := by
  unfold stA
  rw [List.getD_eq_getElem?_getD, List.getElem?_eq_none (by omega)]
  rfl
theorem usedS_take_bnd {S : Int → Int} : ∀ {ps : List (Int × Int)} {lo hi : Int} (q : Nat), AscB S lo hi ps → 0 ≤ usedS S (ps.take q) ∧ usedS S (ps.take q) ≤ hi - lo
  | ps, lo, hi, 0, h => by have := h.le; rw [List.take_zero, usedS]; omega
  | [], lo, hi, q + 1, h => by have := h.le; rw [List.take_nil, usedS]; omega
  | p :: ps, lo, hi, q + 1, h => by
    have := usedS_take_bnd (ps := ps) q h.2.2
    have h1 := h.1
    have h2 := h.2.1
    rw [List.take_succ_cons, usedS]
    omega
def CW (w wm J : Nat) : Prop := (w = 1 ∧ wm = 1 ∧ J = 1) ∨ (w = 8 ∧ wm = 8 ∧ J = 1) ∨ (w = 16 ∧ wm = 8 ∧ J = 2) ∨ (w = 24 ∧ wm = 8 ∧ J = 3)
theorem CW.all {w wm J : Nat} (h : CW w wm J) : (wm = 1 ∨ wm = 8) ∧ 1 ≤ w ∧ w ≤ 24 ∧ 0 < J ∧ J ≤ 3 ∧ (∀ j, j < J → 8 * j < w) ∧ w ≤ 8 * J ∧ wm ≤ w := by
  rcases h with ⟨rfl, rfl, rfl⟩ | ⟨rfl, rfl, rfl⟩ | ⟨rfl, rfl, rfl⟩ | ⟨rfl, rfl, rfl⟩
  all_goals refine ⟨by omega, by omega, by omega, by omega, by omega, fun j hj => by omega, by omega, by omega⟩
theorem CW.jw {w wm J : Nat} (h : CW w wm J) : J * wm = w := by
  rcases h with ⟨rfl, rfl, rfl⟩ | ⟨rfl, rfl, rfl⟩ | ⟨rfl, rfl, rfl⟩ | ⟨rfl, rfl, rfl⟩ <;> rfl
theorem CW.jm {w wm J j : Nat} (h : CW w wm J) (hj : j < J) : j * wm ≤ 24 := by
  rcases h with ⟨rfl, rfl, rfl⟩ | ⟨rfl, rfl, rfl⟩ | ⟨rfl, rfl, rfl⟩ | ⟨rfl, rfl, rfl⟩ <;> omega
theorem CW.mn {w wm J : Nat} (h : CW w wm J) : (if (w : Int) < 8 then (w : Int) else (8 : Int)) = (wm : Int) := by
  rcases h with ⟨rfl, rfl, rfl⟩ | ⟨rfl, rfl, rfl⟩ | ⟨rfl, rfl, rfl⟩ | ⟨rfl, rfl, rfl⟩ <;> rfl
theorem CW.one {w wm J w' wm' J' : Nat} (h : CW w wm J) (h' : CW w' wm' J') (e : w = w') : wm = wm' ∧ J = J' := by
  subst e
  unfold CW at h h'
  omega
theorem szR_small {T : List Tp} (hC : ChkT T) {t w : Nat} (ht : t < T.length) (hw : szT 1048576 T t = w) (h : w ≤ 256) : ∃ al : Int, szR 1048576 T t = ((w : Int), al, 0) := by
  unfold szT at hw
  refine ⟨((eRow 1048576 T).at_ (t : Int)).2, ?_⟩
  unfold szR
  rw [if_pos hC, if_pos ⟨by omega, by omega⟩, hw, if_neg (by omega)]
theorem cell_at {T : List Tp} (hC : ChkT T) {j : Nat} (h1 : j < T.length) (hb : ((eRow 1048576 T).at_ (j : Int)).1 ≤ 256) {q : Nat} (hq : q < (cellsT T j).length) : ∃ a t w wm J : Nat, (cellsT T j)[q] = ((a : Int), (t : Int)) ∧ szT 1048576 T t = w ∧ t < T.length ∧ Rch T false j t ∧ CW w wm J ∧ stA (szT 1048576 T j) (cellsT T j) q = a ∧ (a : Int) + w ≤ stA (szT 1048576 T j) (cellsT T j) (q + 1) ∧ stA (szT 1048576 T j) (cellsT T j) (q + 1) ≤ szT 1048576 T j := by
  obtain ⟨hasc, hty, hlen⟩ := cellsT_bnd hC h1 hb
  have hl := hC.1
  have hmem := List.getElem_mem hq
  have hw := cell_wid hC h1 hb _ hmem
  have hce : cellsT T j = cellsR 1048576 T 32 j 0 := (cells_eq hC.2.1 32 j 0 (by omega) (by omega) hb).symm
  have hm2 : ∀ p ∈ cellsT T j, ∃ t : Nat, p.2 = t ∧ Rch T false j t := by rw [hce]; exact cells_held hC.2.1 32 j 0 (by omega) (by omega)
  have hh := hm2 _ hmem
  have hs := asc_st hq hasc
  have hle := stA_le hasc (q + 1)
  have ht := hty _ hmem
  obtain ⟨⟨a, t⟩, hp⟩ : ∃ p, (cellsT T j)[q] = p := ⟨_, rfl⟩
  rw [hp] at hw hs ht hh ⊢
  obtain ⟨t2, ht2, hr⟩ := hh
  obtain ⟨a, rfl⟩ := Int.eq_ofNat_of_zero_le hs.2.1
  obtain rfl : t = t2 := ht2
  have hs3 := hs.2.2
  rcases hw with e | e | e | e
  · exact ⟨a, t2, 1, 1, 1, rfl, e, by have := ht.2; omega, hr, .inl ⟨rfl, rfl, rfl⟩, hs.1, by rw [e] at hs3; exact hs3, hle⟩
  · exact ⟨a, t2, 8, 8, 1, rfl, e, by have := ht.2; omega, hr, .inr (.inl ⟨rfl, rfl, rfl⟩), hs.1, by rw [e] at hs3; exact hs3, hle⟩
  · exact ⟨a, t2, 16, 8, 2, rfl, e, by have := ht.2; omega, hr, .inr (.inr (.inl ⟨rfl, rfl, rfl⟩)), hs.1, by rw [e] at hs3; exact hs3, hle⟩
  · exact ⟨a, t2, 24, 8, 3, rfl, e, by have := ht.2; omega, hr, .inr (.inr (.inr ⟨rfl, rfl, rfl⟩)), hs.1, by rw [e] at hs3; exact hs3, hle⟩
def encR (wm n : Nat) : Nat → List UInt8
  | 0 => []
  | j + 1 => encR wm n j ++ leB wm n
theorem encR_len {wm : Nat} (hw : 0 < wm) (n : Nat) : ∀ j, (encR wm n j).length = j * wm
  | 0 => by rw [Nat.zero_mul]; rfl
  | j + 1 => by rw [encR, List.length_append, encR_len hw n j, leB_len hw, Nat.add_mul, Nat.one_mul]
theorem encR_head (wm n : Nat) : ∀ j, ∃ r, encR wm n (j + 1) = leB wm n ++ r
  | 0 => ⟨[], by rw [encR, encR, List.nil_append, List.append_nil]⟩
  | j + 1 => by
    obtain ⟨r, hr⟩ := encR_head wm n j
    exact ⟨r ++ leB wm n, by rw [encR, hr, List.append_assoc]⟩
def Wr (S : Int → Int) (ps : List (Int × Int)) (q : Nat) (all : List UInt8) : Prop :=
  ∀ (q' a t w wm J : Nat), q' < q → ps[q']? = some ((a : Int), (t : Int)) → S t = w → CW w wm J → a + wm ≤ all.length ∧ all.getD a 0 = UInt8.ofNat q' ∧ ∀ i, 0 < i → i < wm → all.getD (a + i) 0 = 0
theorem getD_app {all m : List UInt8} {i : Nat} (h : i < all.length) : (all ++ m).getD i 0 = all.getD i 0 := by
  rw [List.getD_eq_getElem?_getD, List.getD_eq_getElem?_getD, List.getElem?_append_left h]
theorem Wr.app {S : Int → Int} {ps : List (Int × Int)} {q : Nat} {all : List UInt8} (h : Wr S ps q all) (m : List UInt8) : Wr S ps q (all ++ m) := by
  intro q' a t w wm J h1 h2 h3 h4
  obtain ⟨e1, e2, e3⟩ := h q' a t w wm J h1 h2 h3 h4
  have hw := h4.all
  refine ⟨by rw [List.length_append]; omega, by rw [getD_app (by omega)]; exact e2, fun i i0 i1 => by rw [getD_app (by omega)]; exact e3 i i0 i1⟩
theorem Wr.nil (S : Int → Int) (ps : List (Int × Int)) (all : List UInt8) : Wr S ps 0 all := fun _ _ _ _ _ _ h => absurd h (by omega)
theorem Wr.step {S : Int → Int} {ps : List (Int × Int)} {q a t w wm J : Nat} {all : List UInt8} (h : Wr S ps q all) (hp : ps[q]? = some ((a : Int), (t : Int))) (hS : S t = w) (hW : CW w wm J) (hl : all.length = a) : Wr S ps (q + 1) (all ++ encR wm q J) := by
  intro q' a' t' w' wm' J' h1 h2 h3 h4
  by_cases hq : q' < q
  · exact (h.app _) q' a' t' w' wm' J' hq h2 h3 h4
  · obtain rfl : q' = q := by omega
    rw [hp] at h2
    injection h2 with h2
    injection h2 with e1 e2
    obtain rfl : a = a' := by omega
    obtain rfl : t = t' := by omega
    obtain ⟨e3, e4⟩ := hW.one h4 (by omega)
    subst e3; subst e4
    have hw := hW.all
    obtain ⟨J, rfl⟩ : ∃ J0, J = J0 + 1 := ⟨J - 1, by omega⟩
    obtain ⟨r, hr⟩ := encR_head wm q' J
    rw [hr]
    have hlb := leB_len (w := wm) (by omega) q'
    refine ⟨by rw [List.length_append, List.length_append, hlb]; omega, ?_, fun i i0 i1 => ?_⟩
    · rw [List.getD_eq_getElem?_getD, List.getElem?_append_right (by omega), hl, Nat.sub_self]
      rfl
    · rw [List.getD_eq_getElem?_getD, List.getElem?_append_right (by omega), hl, Nat.add_sub_cancel_left, List.getElem?_append_left (by omega)]
      unfold leB
      obtain ⟨i, rfl⟩ : ∃ m, i = m + 1 := ⟨i - 1, by omega⟩
      rw [List.getElem?_cons_succ, List.getElem?_replicate]
      rw [if_pos (by omega)]
      rfl
def StD (N : Nat) (WA : Option Addr) (L : Nat) (all : List UInt8) (h' : Hp) (n' : Nat) : Prop :=
  (all = [] ∧ L = 0 ∧ WA = none) ∨ ∃ ia, WA = some ⟨ia, 0, none⟩ ∧ N ≤ ia ∧ ia < n' ∧ 0 < L ∧ rowOf h' ia = some (5, false, bv all)
def StM (h0 : Hp) (N : Nat) (WA : Option Addr) (L : Nat) (all : List UInt8) (h' : Hp) (n' : Nat) : Prop :=
  all.length = L ∧ N ≤ n' ∧ (∀ b, b < N → h'.get b = h0.get b) ∧ StD N WA L all h' n'
theorem stm_first {h0 h1 : Hp} {N n1 B : Nat} (bs : List UInt8) (hB : bs.length = B) (h0B : 0 < B) (hN : N ≤ n1) (hk : ∀ b, b < N → h1.get b = h0.get b) :
    StM h0 N (some ⟨n1 + 1, 0, none⟩) B bs ((h1.set n1 (.row 5 false (bv bs))).set (n1 + 1) (.row 5 false (bv bs))) (n1 + 1 + 1) :=
  ⟨hB, by omega, fun b hb => by rw [Hp.get_ne _ _ (by omega), Hp.get_ne _ _ (by omega)]; exact hk b hb, .inr ⟨n1 + 1, rfl, by omega, by omega, h0B, rowOf_same _ _ _ _ _⟩⟩
theorem stm_next {h0 h1 : Hp} {N n1 B ia L : Nat} {all : List UInt8} (bs : List UInt8) (hB : bs.length = B) (hL : all.length = L) (hN : N ≤ n1) (hk : ∀ b, b < N → h1.get b = h0.get b) (i1 : N ≤ ia) (i2 : ia < n1) (i3 : 0 < L) :
    StM h0 N (some ⟨n1 + 1, 0, none⟩) (L + B) (all ++ bs) (((h1.set n1 (.row 5 false (bv bs))).set ia none).set (n1 + 1) (.row 5 false ((bv all).take (L * 1) ++ bv bs))) (n1 + 1 + 1) := by
  refine ⟨by rw [List.length_append, hL, hB], by omega, fun b hb => ?_, .inr ⟨n1 + 1, rfl, by omega, by omega, by omega, ?_⟩⟩
  · rw [Hp.get_ne _ _ (by omega), Hp.get_ne _ _ (by omega), Hp.get_ne _ _ (by omega)]
    exact hk b hb
  · rw [rowOf_same, ← hL, bv_take, bv_ap2]
variable (k d cl : Nat) (h : Hp) (n : Nat)
theorem fixed_ev (hk : 30000 ≤ k) (x wm : Nat) (hx : x < 256) (hw : wm = 1 ∨ wm = 8) : SQ k (d + 2) cl 28 [.int .u64 (x : Int), .int .i64 (wm : Int)] h n fun v h' n' => v = .tuple ⟨[.slice (some ⟨n, 0, none⟩) wm wm, .int .i64 0]⟩ ∧ h.set n (.row 5 false (bv (leB wm x))) = h' ∧ n + 1 = n' := by
  rcases hw with rfl | rfl
  · exact fixed1_ev k d cl h n hk x hx
  · exact fixed8_ev k d cl h n hk x hx
theorem unfixed_ev (hk : 30000 ≤ k) (id L a x wm : Nat) (all : List UInt8) (hr : RdH h n (some ⟨id, 0, none⟩) (bv all)) (hLa : all.length = L) (hL : L ≤ 20000) (ha : a + wm ≤ L) (hx : x < 256) (hw : wm = 1 ∨ wm = 8) (hq0 : all.getD a 0 = UInt8.ofNat x) (hqz : ∀ i, 0 < i → i < wm → all.getD (a + i) 0 = 0) : SQ k (d + 2) cl 29 [.agg ⟨[.slice (some ⟨id, 0, none⟩) L L, .int .i64 (a : Int)]⟩, .int .i64 (wm : Int)] h n fun v h' n' => v = .tuple ⟨[.agg ⟨[.slice (some ⟨id, 0, none⟩) L L, .int .i64 ((a : Int) + (wm : Int))]⟩, .int .u64 (x : Int), .int .i64 0]⟩ ∧ h = h' ∧ n = n' := by
  rcases hw with rfl | rfl
  · exact unfixed1_ev k d cl h n hk id L a x all hr hLa hL ha hx hq0 hqz
  · exact unfixed8_ev k d cl h n hk id L a x all hr hLa hL ha hx hq0 hqz
end Go.Proofs.Ytkngdfbibffdcaa.Ce
namespace Go.Proofs.Ytkngdfbibffdcaa.Ce
open Go.RowKit
variable (k d cl : Nat) (h : Hp) (n : Nat)
theorem celled_ev (hk : 30000 ≤ k) (A : Option Addr) (T : List Tp) (c : Nat) (hT : TabH h n A T) (hS : ∀ t ∈ T, t.fs.length ≤ 20000) (hm : T.length ≤ 9223372036854775807) (j : Nat) (he : (szR 1048576 T j).2.2 = 0) : SQ k (d + 41) cl 8 [.slice A T.length c, .int .i64 (j : Int)] h n fun v h' n' => v = .bool true := by
  obtain ⟨hC, h0, h1, hb, hz⟩ := szR_0 he
  have hj : j < T.length := by omega
  have hl := hC.1
  have ha := askE_0 hC ⟨h0, h1⟩
  have hsame := same_self ha
  have hrp := reach_pos ha hj
  obtain ⟨hasc, hty, hQ⟩ := cellsT_bnd hC hj hb
  have hne := cells_ne (C := 1000000) hC.2.1 32 j 0 (by omega) (by omega)
  have hEok : ∀ p ∈ eRow 1048576 T, EOk 1048576 p := by have := eRow_ok (C := 1048576) (by omega) (by decide) hC.2.1 T.length (Nat.le_refl _); rwa [List.take_length] at this
  have hal := (Ext.at_mem hEok h0 (by rw [eRow_length]; omega)).2.2
  have hcell := fun q (hq : q < (cellsT T j).length) => cell_at hC hj hb hq
  have hpad : ((padT T j).length : Int) = szT 1048576 T j - usedS (szT 1048576 T) (cellsT T j) := by
    unfold padT
    rw [gaps_len hasc fun p hp => (hty p hp).1]
    omega
  have q2 := (lcells_ok k d n h n hk A T c hT hS hm j he).mono (Φ' := fun v h' n' => v = .tuple ⟨[.slice (some ⟨n, 0, none⟩) (cellsT T j).length (cellsT T j).length, .int .i64 0]⟩ ∧ h.set n (.row 77 false (pv (cellsT T j))) = h' ∧ n + 1 = n') fun _ _ _ hp => ⟨hp.1, hp.2.1.symm, hp.2.2.symm⟩
  have q3 := fun (hx : Hp) (hTx : TabH hx (n + 1) A T) => (lpad_ok k d n hx (n + 1) hk A T c hTx hS hm j he).mono (Φ' := fun v h' n' => ∃ h1 n1 LA c2, h1 = h' ∧ n1 = n' ∧ v = .tuple ⟨[.slice LA (padT T j).length c2, .int .i64 0]⟩ ∧ n + 1 ≤ n1 ∧ (∀ b, b < n + 1 → h1.get b = hx.get b) ∧ TabH h1 n1 A T) fun _ h' n' ⟨V, e, hv⟩ => by
    obtain ⟨LA, c2, rfl, -, -, hn, hkk⟩ := IntsV.rd hv
    exact ⟨h', n', LA, c2, rfl, rfl, e, hn, hkk, (hTx.keep (Nat.le_refl _) hkk).more hn⟩
  have q4 := fun (h6 : Hp) (n6 : Nat) (hT6 : TabH h6 n6 A T) => (preach_all k (d + 32) n h6 n6 hk A T c hT6 hS hm j).mono (Φ' := fun v h' n' => ∃ h2 n2 LA c2, h2 = h' ∧ n2 = n' ∧ v = .tuple ⟨[.slice LA (reachE T j).length c2, .int .i64 0]⟩ ∧ n6 ≤ n2 ∧ (∀ b, b < n6 → h2.get b = h6.get b)) fun _ h' n' ⟨V, e, hv⟩ => by
    obtain ⟨LA, c2, rfl, -, -, hn, hkk⟩ := hv
    rw [ha] at e
    exact ⟨h', n', LA, c2, rfl, rfl, e, hn, hkk⟩
  obtain ⟨RL, hRL⟩ : ∃ RL, (reachE T j).length = RL := ⟨_, rfl⟩
  rw [hRL] at hrp
  simp only [hRL] at q4
  have eRL : ((RL : Int) == 0) = false := by rw [beq_eq_false_iff_ne]; omega
  obtain ⟨PL, hPL⟩ : ∃ PL, (padT T j).length = PL := ⟨_, rfl⟩
  rw [hPL] at hpad
  simp only [hPL] at q3
  obtain ⟨ps, hps⟩ : ∃ ps, cellsT T j = ps := ⟨_, rfl⟩
  have hQ0 : 0 < ps.length := by
    rw [← hps]
    exact List.length_pos_iff.2 hne
  simp only [hps] at hcell hty q2
  rw [hps] at hasc hQ hpad
  obtain ⟨Z, hZ⟩ := Int.eq_ofNat_of_zero_le hasc.le
  rw [hZ] at hcell hasc hpad
  have hZ' : ((eRow 1048576 T).at_ (j : Int)).1 = Z := hZ
  rw [hZ'] at hz hb
  obtain ⟨al, hale⟩ : ∃ al, ((eRow 1048576 T).at_ (j : Int)).2 = al := ⟨_, rfl⟩
  rw [hale] at hz hal
  have hal1 : 1 ≤ al := by rcases hal with rfl | rfl <;> decide
  obtain ⟨S, hSe⟩ : ∃ S, szT 1048576 T = S := ⟨_, rfl⟩
  have hZ1 : 1 ≤ Z := by
    obtain ⟨a, t, w, wm, J, -, -, -, -, hW, -, h2, h3⟩ := hcell 0 hQ0
    have := hW.all
    omega
  have q1 := fun (h6 : Hp) (n6 : Nat) (hT6 : TabH h6 n6 A T) => (lsize_ev k (d + 32) n h6 n6 hk A T c hT6 hS hm j).mono (Φ' := fun v h' n' => v = .tuple ⟨[.int .i64 (Z : Int), .int .i64 al, .int .i64 0]⟩ ∧ h6 = h' ∧ n6 = n') fun _ _ _ hp => ⟨by rw [hp.1, hz], hp.2.1.symm, hp.2.2.symm⟩
  have hsz := fun (t w : Nat) (ht : t < T.length) (hw : szT 1048576 T t = w) (h : w ≤ 256) => szR_small hC ht hw h
  rw [hSe] at hasc hpad
  simp only [hSe] at hcell hsz
  obtain ⟨Q, hQe⟩ : ∃ Q, ps.length = Q := ⟨_, rfl⟩
  simp only [hQe] at q2
  obtain ⟨hx, hhx⟩ : ∃ hx, h.set n (.row 77 false (pv ps)) = hx := ⟨_, rfl⟩
  have hTx : TabH hx (n + 1) A T := by rw [← hhx]; exact (hT.set (Nat.le_refl _) _).more (by omega)
  have hcb : rowOf hx n = some (77, false, pv ps) := by rw [← hhx]; exact rowOf_same _ _ _ _ _
  rw [hhx] at q2
  have q1 := q1 h n hT
  have q3 := q3 hx hTx
  obtain ⟨B, hB⟩ : ∃ B, T.length = B := ⟨_, rfl⟩
  simp only [hB] at q1 q2 q3 q4 ⊢
  refine enter Try.func8 (by kernel_rfl) rfl (by kernel_rfl) rfl rfl rfl ?_
  (repeat' first | refine zcd ?_ | intro K' hK | (with_reducible refine zn hK ?_; clear hK) | ((with_reducible apply o_callF (g := 23) w_none); (case ha => exact ez0); (case hs => (exact q1)); (case' hk => rintro _ h' n' ⟨rfl, rfl, rfl⟩)) | ((with_reducible apply o_callF (g := 24) w_none); (case ha => exact ez0); (case hs => (exact q2)); (case' hk => rintro _ h' n' ⟨rfl, rfl, rfl⟩)) | ((with_reducible apply o_callF (g := 25) w_none); (case ha => exact ez0); (case hs => (exact q3)); (case' hk => rintro _ h' n' ⟨h1, n1, LA, c1, rfl, rfl, rfl, hn1, hk1, hT1⟩)) | ((with_reducible apply o_callF (g := 26) w_none); (case ha => exact ez0); (case hs => ((with_reducible apply q4); assumption)); (case' hk => rintro _ h' n' ⟨h2, n2, LB, c2, rfl, rfl, rfl, hn2, hk2⟩)) | ((with_reducible first | apply zo1 | apply zo2 | apply o_guard rfl | apply x_cond | apply k_e1 rfl | apply k_e2 rfl | apply k_e0 rfl | apply k_e3 rfl | apply k_e4 rfl); (case he => exact ez1 eRL); (try case hok => exact ezO); all_goals try (intro hb; (try simp only [hbs, reduceCtorEq] at hb); try exact ezX)) | ((with_reducible apply o_undef rfl); (case hb => exact ez0)))
  clear q1 q2 q3 q4 eRL hRL hrp hPL hal hale hal1 hEok hne he
  have hT2 : TabH h2 n2 A T := (hT1.keep (Nat.le_refl _) hk2).more hn2
  have hc2 : rowOf h2 n = some (77, false, pv ps) := by rw [rowOf_keep (hk2 _ (by omega)), rowOf_keep (hk1 _ (by omega))]; exact hcb
  have hnn : n < n2 := by omega
  have hkn : ∀ {h6 : Hp} {n6 : Nat}, n2 ≤ n6 → (∀ b, b < n2 → h6.get b = h2.get b) → TabH h6 n6 A T ∧ rowOf h6 n = some (77, false, pv ps) := fun hn hk => ⟨(hT2.keep (Nat.le_refl _) hk).more hn, by rw [rowOf_keep (hk _ hnn)]; exact hc2⟩
  have hcs : ∀ {h6 : Hp} {q a t : Nat} (hq : q < ps.length), ps[q] = ((a : Int), (t : Int)) → rowOf h6 n = some (77, false, pv ps) → cellAt h6 n (q * 2) = some (.int .i64 (a : Int)) ∧ cellAt h6 n (q * 2 + 1) = some (.int .i64 (t : Int)) := fun {h6 q a t} hq hp hr => by
    obtain ⟨i1, o1, hA1, -, -, e1, e2⟩ := prt_at (RdH.ofRow (B := n + 1) hr (by omega)) hq
    injection hA1 with hA1
    injection hA1 with e3 e4
    subst e3; subst e4
    rw [hp, Nat.zero_add] at e1 e2
    exact ⟨e1, e2⟩
  refine x_loopV [4, 14, 15, 16, 17, 18, 19, 20, 21, 22, 23, 90, 91, 92, 93, 94, 95, 96, 97, 98, 99, 100, 101, 102, 103, 104, 105, 106, 107, 108, 109, 110, 111, 112, 113, 114, 115, 116, 117, 118, 119, 120, 121, 122, 123, 124, 125, 126, 127, 128, 129, 130, 131, 132, 133, 134, 135, 136, 137, 138, 139, 140, 141, 142, 143, 144, 145, 146, 147, 148, 149, 150, 151, 152, 153, 154, 155, 156, 157, 158, 159, 160, 161, 162, 163, 164, 165, 166, 167, 168, 169, 170, 171, 172, 173, 174, 175, 176, 177, 178, 179, 180, 181, 182, 183] [14, 15] (fun m vs h' n' => m ≤ Q ∧ ∃ (WA : Option Addr) (L : Nat) (all : List UInt8), vs = [.slice WA L L, .int .i64 ((Q - m : Nat) : Int)] ∧ StM h2 n2 WA L all h' n' ∧ Wr S ps (Q - m) all ∧ (L : Int) ≤ stA Z ps (Q - m)) Q rfl (by omega) ⟨Nat.le_refl _, none, 0, [], by simp (disch := first | assumption | omega | rfl | decide) only [go_sem, seval, tys]; rw [Nat.sub_self]; rfl, ⟨rfl, Nat.le_refl _, fun _ _ => rfl, .inl ⟨rfl, rfl, rfl⟩⟩, by rw [Nat.sub_self]; exact Wr.nil S ps [], ?_⟩ ?_
  · obtain ⟨a, t, w, wm, J, -, -, -, -, -, h2, -⟩ := hcell 0 hQ0
    rw [Nat.sub_self, h2]
    omega
  rintro m g _ h5 n5 ⟨hm5, WA, L, all, rfl, hst, hwr, hLs⟩
  obtain ⟨hL, hn5, hk5, hst⟩ := hst
  obtain ⟨hT5, hc5⟩ := hkn hn5 hk5
  rcases m with _ | m
  · rw [Nat.sub_zero] at *
    rw [← hQe, stA_end] at hLs
    (repeat' first | refine zcd ?_ | intro K' hK | (with_reducible refine zn hK ?_; clear hK) | fail | ((with_reducible first | apply zo1 | apply zo2 | apply o_guard rfl | apply x_cond | apply k_e1 rfl | apply k_e2 rfl | apply k_e0 rfl | apply k_e3 rfl | apply k_e4 rfl); (case he => exact ez0); (try case hok => exact ezO); all_goals try (intro hb; (try simp only [hbs, reduceCtorEq] at hb); try exact ezX)) | ((with_reducible apply o_undef rfl); (case hb => exact ez0)))
    refine x_loopV [14, 184, 185, 186, 187, 188, 189, 190] [14] (fun m vs h' n' => ∃ (WA : Option Addr) (L : Nat) (all : List UInt8), vs = [.slice WA L L] ∧ StM h2 n2 WA L all h' n' ∧ Wr S ps Q all ∧ L + m = Z) (Z - L) rfl (by omega) ⟨WA, L, all, by simp (disch := first | assumption | omega | rfl | decide) only [go_sem, seval, tys] <;> rfl, ⟨hL, hn5, hk5, hst⟩, hwr, by omega⟩ ?_
    rintro m g2 _ h6 n6 ⟨WA6, L6, all6, rfl, ⟨hL6, hn6, hk6, hst6⟩, hwr6, hLm⟩
    rcases m with _ | m
    · rcases hst6 with ⟨-, hL0, -⟩ | ⟨ia, rfl, i1, i2, i3, hra⟩
      · omega
      have eZ : Z = L6 := by omega
      subst eZ
      (repeat' first | refine zcd ?_ | intro K' hK | (with_reducible refine zn hK ?_; clear hK) | fail | ((with_reducible first | apply zo1 | apply zo2 | apply o_guard rfl | apply x_cond | apply k_e1 rfl | apply k_e2 rfl | apply k_e0 rfl | apply k_e3 rfl | apply k_e4 rfl); (case he => exact ez0); (try case hok => exact ezO); all_goals try (intro hb; (try simp only [hbs, reduceCtorEq] at hb); try exact ezX)) | ((with_reducible apply o_undef rfl); (case hb => exact ez0)))
      refine x_loopV [4, 24, 25, 26, 27, 28, 29, 30, 31, 191, 192, 193, 194, 195, 196, 197, 198, 199, 200, 201, 202, 203, 204, 205, 206, 207, 208, 209, 210, 211, 212, 213, 214, 215, 216, 217, 218, 219, 220, 221, 222, 223, 224, 225, 226, 227, 228, 229, 230, 231, 232, 233, 234, 235, 236] [24, 25] (fun m vs h' n' => m ≤ Q ∧ vs = [.int .i64 (usedS S (ps.take (Q - m))), .int .i64 ((Q - m : Nat) : Int)] ∧ n6 ≤ n' ∧ ∀ b, b < n6 → h'.get b = h6.get b) Q rfl (by omega) ⟨Nat.le_refl _, by simp (disch := first | assumption | omega | rfl | decide) only [go_sem, seval, tys]; rw [Nat.sub_self]; rfl, Nat.le_refl _, fun _ _ => rfl⟩ ?_
      rintro m g3 _ h7 n7 ⟨hm7, rfl, hn7, hk7⟩
      obtain ⟨hT7, hc7⟩ := hkn (h6 := h7) (n6 := n7) (by omega) fun b hb => (hk7 b (by omega)).trans (hk6 b hb)
      have hra7 : rowOf h7 ia = some (5, false, bv all6) := by rw [rowOf_keep (hk7 _ i2)]; exact hra
      rcases m with _ | m
      · rw [Nat.sub_zero, List.take_of_length_le (by omega)]
        have q10 := (psame_all k (d + 32) n h7 n7 hk A T c hT7 hS hm j j).mono (Φ' := fun v h' n' => v = .tuple ⟨[.bool true, .int .i64 0]⟩ ∧ h7 = h' ∧ n7 = n') fun _ _ _ hp => ⟨by rw [hp.1, hsame, ha], hp.2⟩
        rw [hB] at q10
        have hub := usedS_le hasc
        obtain ⟨u, hu⟩ : ∃ u, usedS S ps = u := ⟨_, rfl⟩
        rw [hu] at hpad hub ⊢
        have hsum : u + (PL : Int) = (Z : Int) := by omega
        (repeat' first | refine zcd ?_ | intro K' hK | (with_reducible refine zn hK ?_; clear hK) | ((with_reducible apply o_callF (g := 30) w_none); (case ha => exact ez0); (case hs => (exact q10)); (case' hk => rintro _ h' n' ⟨rfl, rfl, rfl⟩)) | ((with_reducible first | apply zo1 | apply zo2 | apply o_guard rfl | apply x_cond | apply k_e1 rfl | apply k_e2 rfl | apply k_e0 rfl | apply k_e3 rfl | apply k_e4 rfl); (case he => exact ez1 hsum); (try case hok => exact ezO); all_goals try (intro hb; (try simp only [hbs, reduceCtorEq] at hb); try exact ezX)) | ((with_reducible apply o_undef rfl); (case hb => exact ez0)))
        all_goals exact sw_flat rfl rfl rfl
      · obtain ⟨q, hqe⟩ : ∃ q, Q - (m + 1) = q := ⟨_, rfl⟩
        rw [hqe]
        have hq : q < ps.length := by omega
        have hnx : (q : Int) + 1 = ((Q - m : Nat) : Int) := by omega
        have hnx2 : Q - m = q + 1 := by omega
        obtain ⟨a, t, w, wm, J, hpq, hSt, htT, hR, hW, hsa, hnxt, hle⟩ := hcell q hq
        have hWa := hW.all
        obtain ⟨al2, hz2⟩ := hsz t w htT hSt (by omega)
        have q8 := (lsize_ev k (d + 32) n h7 n7 hk A T c hT7 hS hm t).mono (Φ' := fun v h' n' => v = .tuple ⟨[.int .i64 (w : Int), .int .i64 al2, .int .i64 0]⟩ ∧ h7 = h' ∧ n7 = n') fun _ _ _ hp => ⟨by rw [hp.1, hz2], hp.2.1.symm, hp.2.2.symm⟩
        obtain ⟨ca, ct⟩ := hcs hq hpq hc7
        rw [hB] at q8
        obtain ⟨w1, w2, w3⟩ := hwr6 q a t w wm J (by omega) (by rw [List.getElem?_eq_getElem hq, hpq]) hSt hW
        have q9 := unfixed_ev k (d + 38) n h7 n7 hk ia Z a q wm all6 (RdH.ofRow hra7 (by omega)) hL6 (by omega) (by omega) (by omega) hWa.1 w2 w3
        have hus : usedS S (ps.take (Q - m)) = usedS S (ps.take q) + (w : Int) := by rw [hnx2, usedS_take S hq, hpq, ← hSt]
        have hub := usedS_take_bnd q hasc
        obtain ⟨u, hu⟩ : ∃ u, usedS S (ps.take q) = u := ⟨_, rfl⟩
        rw [hu] at hus hub ⊢
        have hwq := wrap_u64 (x := (q : Int)) (by omega) (by omega)
        (repeat' first | refine zcd ?_ | intro K' hK | (with_reducible refine zn hK ?_; clear hK) | ((with_reducible apply o_callF (g := 23) w_none); (case ha => exact ez0); (case hs => (exact q8)); (case' hk => rintro _ h' n' ⟨rfl, rfl, rfl⟩)) | ((with_reducible apply o_callF (g := 29) w_none); (case ha => exact ez0); (case hs => (exact q9)); (case' hk => rintro _ h' n' ⟨rfl, rfl, rfl⟩)) | ((with_reducible first | apply zo1 | apply zo2 | apply o_guard rfl | apply x_cond | apply k_e1 rfl | apply k_e2 rfl | apply k_e0 rfl | apply k_e3 rfl | apply k_e4 rfl); (case he => (intros; simp (disch := first | assumption | omega | rfl | decide) only [go_sem, seval, tys, ca, ct, (hW.mn), hwq] <;> rfl)); (try case hok => exact ezO); all_goals try (intro hb; (try simp only [hbs, reduceCtorEq] at hb); try exact ezX)) | ((with_reducible apply o_undef rfl); (case hb => exact ez0)))
        all_goals exact k_round m (by omega) ⟨by omega, by simp (disch := first | assumption | omega | rfl | decide) only [go_sem, seval, tys]; rw [hnx, hus], by omega, fun b hb => by rw [Hp.get_ne _ _ (by omega)]; exact hk7 b hb⟩
    · rcases hst6 with ⟨rfl, rfl, rfl⟩ | ⟨ia, rfl, i1, i2, i3, hra⟩
      · have hf := stm_first (h0 := h2) (h1 := h6) (N := n2) (n1 := n6) [0] (B := 1) rfl (by omega) hn6 hk6
        (repeat' first | refine zcd ?_ | intro K' hK | (with_reducible refine zn hK ?_; clear hK) | ((with_reducible apply o_ap0 (t := 39) apT39 w_none); (case hs => exact ez0); (case hy => exact ez0); (case hsrc => exact src_row ez0 rfl); (case hc => rfl); (case hm => omega); (case h0 => omega)) | ((with_reducible first | apply zo1 | apply zo2 | apply o_guard rfl | apply x_cond | apply k_e1 rfl | apply k_e2 rfl | apply k_e0 rfl | apply k_e3 rfl | apply k_e4 rfl); (case he => exact ez0); (try case hok => exact ezO); all_goals try (intro hb; (try simp only [hbs, reduceCtorEq] at hb); try exact ezX)) | ((with_reducible apply o_undef rfl); (case hb => exact ez0)))
        all_goals exact k_round m (by omega) ⟨_, 1, [0], by simp (disch := first | assumption | omega | rfl | decide) only [go_sem, seval, tys] <;> rfl, hf, hwr6.app [0], by omega⟩
      · have hf := stm_next (h0 := h2) (h1 := h6) (N := n2) (n1 := n6) [0] (B := 1) rfl hL6 hn6 hk6 i1 i2 i3
        have hrwa := rwOf_row hra
        (repeat' first | refine zcd ?_ | intro K' hK | (with_reducible refine zn hK ?_; clear hK) | ((with_reducible apply o_apR (t := 39) apT39 w_none); (case hs => exact ez0); (case hy => exact ez0); (case hsrc => exact src_row ez0 rfl); (case hr => exact ez1 hrwa); (case hc => rfl); (case hm => omega); (case hli => omega); (case hln => omega); (case hcs => rw [bv_length]; omega)) | ((with_reducible first | apply zo1 | apply zo2 | apply o_guard rfl | apply x_cond | apply k_e1 rfl | apply k_e2 rfl | apply k_e0 rfl | apply k_e3 rfl | apply k_e4 rfl); (case he => exact ez1 hrwa); (try case hok => exact ezO); all_goals try (intro hb; (try simp only [hbs, reduceCtorEq] at hb); try exact ezX)) | ((with_reducible apply o_undef rfl); (case hb => exact ez0)))
        all_goals exact k_round m (by omega) ⟨_, L6 + 1, _, by simp (disch := first | assumption | omega | rfl | decide) only [go_sem, seval, tys] <;> rfl, hf, hwr6.app [0], by omega⟩
  · obtain ⟨q, hqe⟩ : ∃ q, Q - (m + 1) = q := ⟨_, rfl⟩
    rw [hqe] at hwr hLs ⊢
    have hq : q < ps.length := by omega
    have hnx : (q : Int) + 1 = ((Q - m : Nat) : Int) := by omega
    have hnx2 : Q - m = q + 1 := by omega
    obtain ⟨a, t, w, wm, J, hpq, hSt, htT, hR, hW, hsa, hnxt, hle⟩ := hcell q hq
    have hWa := hW.all
    obtain ⟨al2, hz2⟩ := hsz t w htT hSt (by omega)
    have hho := held_self hC hj htT hR
    have hak := askE_ij hC hj htT
    rw [hsa] at hLs
    have q7 := (pholds_all k (d + 32) n h5 n5 hk A T c hT5 hS hm j t).mono (Φ' := fun v h' n' => v = .tuple ⟨[.bool true, .int .i64 0]⟩ ∧ h5 = h' ∧ n5 = n') fun _ _ _ hp => ⟨by rw [hp.1, hho, hak], hp.2⟩
    have q8 := (lsize_ev k (d + 32) n h5 n5 hk A T c hT5 hS hm t).mono (Φ' := fun v h' n' => v = .tuple ⟨[.int .i64 (w : Int), .int .i64 al2, .int .i64 0]⟩ ∧ h5 = h' ∧ n5 = n') fun _ _ _ hp => ⟨by rw [hp.1, hz2], hp.2.1.symm, hp.2.2.symm⟩
    obtain ⟨ca, ct⟩ := hcs hq hpq hc5
    rw [hB] at q7 q8
    clear hpad hZ hZ' hz hak
    (repeat' first | refine zcd ?_ | intro K' hK | (with_reducible refine zn hK ?_; clear hK) | ((with_reducible apply o_callF (g := 27) w_none); (case ha => exact ez0); (case hs => (exact q7)); (case' hk => rintro _ h' n' ⟨rfl, rfl, rfl⟩)) | ((with_reducible apply o_callF (g := 23) w_none); (case ha => exact ez0); (case hs => (exact q8)); (case' hk => rintro _ h' n' ⟨rfl, rfl, rfl⟩)) | ((with_reducible first | apply zo1 | apply zo2 | apply o_guard rfl | apply x_cond | apply k_e1 rfl | apply k_e2 rfl | apply k_e0 rfl | apply k_e3 rfl | apply k_e4 rfl); (case he => exact ez2 ca ct); (try case hok => exact ezO); all_goals try (intro hb; (try simp only [hbs, reduceCtorEq] at hb); try exact ezX)) | ((with_reducible apply o_undef rfl); (case hb => exact ez0)))
    clear q7 q8
    refine x_loopV [14, 155, 156, 157, 158, 159, 160, 161, 162, 163, 164, 165] [14] (fun m vs h' n' => ∃ (WA : Option Addr) (L : Nat) (all : List UInt8), vs = [.slice WA L L] ∧ StM h2 n2 WA L all h' n' ∧ Wr S ps q all ∧ L + m = a) (a - L) rfl (by omega) ⟨WA, L, all, by simp (disch := first | assumption | omega | rfl | decide) only [go_sem, seval, tys] <;> rfl, ⟨hL, hn5, hk5, hst⟩, hwr, by omega⟩ ?_
    rintro m2 g2 _ h6 n6 ⟨WA6, L6, all6, rfl, ⟨hL6, hn6, hk6, hst6⟩, hwr6, hLm⟩
    obtain ⟨hT6, hc6⟩ := hkn hn6 hk6
    obtain ⟨ca6, ct6⟩ := hcs hq hpq hc6
    rcases m2 with _ | m2
    · have eA : a = L6 := by omega
      subst eA
      (repeat' first | refine zcd ?_ | intro K' hK | (with_reducible refine zn hK ?_; clear hK) | fail | ((with_reducible first | apply zo1 | apply zo2 | apply o_guard rfl | apply x_cond | apply k_e1 rfl | apply k_e2 rfl | apply k_e0 rfl | apply k_e3 rfl | apply k_e4 rfl); (case he => exact ez1 ca6); (try case hok => exact ezO); all_goals try (intro hb; (try simp only [hbs, reduceCtorEq] at hb); try exact ezX)) | ((with_reducible apply o_undef rfl); (case hb => exact ez0)))
      refine x_loopV [4, 14, 21, 22, 23, 166, 167, 168, 169, 170, 171, 172, 173, 174, 175, 176, 177, 178, 179, 180, 181, 182, 183] [14, 21] (fun m vs h' n' => m ≤ J ∧ ∃ (WA : Option Addr) (L : Nat), vs = [.slice WA L L, .int .i64 ((8 * (J - m) : Nat) : Int)] ∧ StM h2 n2 WA L (all6 ++ encR wm q (J - m)) h' n') J rfl (by omega) ⟨Nat.le_refl _, WA6, a, by simp (disch := first | assumption | omega | rfl | decide) only [go_sem, seval, tys]; rw [Nat.sub_self]; rfl, by rw [Nat.sub_self]; exact ⟨by rw [encR, List.append_nil]; exact hL6, hn6, hk6, by rw [encR, List.append_nil]; exact hst6⟩⟩ ?_
      rintro m3 g3 _ h8 n8 ⟨hm3, WA8, L8, rfl, ⟨hL8, hn8, hk8, hst8⟩⟩
      have hencl := encR_len (wm := wm) (by omega) q (J - m3)
      rcases m3 with _ | m3
      · rw [Nat.sub_zero] at *
        have hL8w : L8 = a + w := by rw [← hL8, List.length_append, hL6, hencl, hW.jw]
        (repeat' first | refine zcd ?_ | intro K' hK | (with_reducible refine zn hK ?_; clear hK) | fail | ((with_reducible first | apply zo1 | apply zo2 | apply o_guard rfl | apply x_cond | apply k_e1 rfl | apply k_e2 rfl | apply k_e0 rfl | apply k_e3 rfl | apply k_e4 rfl); (case he => exact ez0); (try case hok => exact ezO); all_goals try (intro hb; (try simp only [hbs, reduceCtorEq] at hb); try exact ezX)) | ((with_reducible apply o_undef rfl); (case hb => exact ez0)))
        all_goals exact k_round m (by omega) ⟨by omega, WA8, L8, _, by simp (disch := first | assumption | omega | rfl | decide) only [go_sem, seval, tys]; rw [hnx], ⟨hL8, hn8, hk8, hst8⟩, by rw [hnx2]; exact hwr6.step (by rw [List.getElem?_eq_getElem hq, hpq]) hSt hW hL6, by rw [hnx2]; omega⟩
      · obtain ⟨jj, hjj⟩ : ∃ jj, J - (m3 + 1) = jj := ⟨_, rfl⟩
        rw [hjj] at hL8 hst8 hencl ⊢
        have hjl := hWa.2.2.2.2.2.1 jj (by omega)
        have hj3 : J - m3 = jj + 1 := by omega
        have hj8 : ((8 * jj : Nat) : Int) + 8 = ((8 * (J - m3) : Nat) : Int) := by omega
        have hjm := hW.jm (j := jj) (by omega)
        have hL8b : L8 ≤ 300 := by rw [← hL8, List.length_append, hL6, hencl]; omega
        clear hencl hjm
        have q9 := fixed_ev k (d + 38) n h8 n8 hk q wm (by omega) hWa.1
        have hwq := wrap_u64 (x := (q : Int)) (by omega) (by omega)
        have hbT := bv_length (leB wm q)
        have hlb := leB_len (w := wm) (by omega) q
        rw [hlb] at hbT
        have hwm0 : 0 < wm := by omega
        have hwm8 : wm ≤ 8 := by omega
        have hco : (bv (leB wm q)).all cok = true := by
          rw [List.all_eq_true]
          intro v hv
          obtain ⟨x, -, rfl⟩ := List.mem_map.1 hv
          rfl
        have heR : all6 ++ encR wm q (J - m3) = (all6 ++ encR wm q jj) ++ leB wm q := by rw [hj3, encR, List.append_assoc]
        obtain ⟨al8, hal8⟩ : ∃ al8, all6 ++ encR wm q jj = al8 := ⟨_, rfl⟩
        rw [hal8] at heR hL8 hst8
        rcases hst8 with ⟨h80, rfl, rfl⟩ | ⟨ia, rfl, i1, i2, i3, hra⟩
        · have hf := stm_first (h0 := h2) (h1 := h8) (N := n2) (n1 := n8) (leB wm q) hlb hwm0 hn8 hk8
          rw [h80, List.nil_append] at heR
          (repeat' first | refine zcd ?_ | intro K' hK | (with_reducible refine zn hK ?_; clear hK) | ((with_reducible apply o_callF (g := 28) w_none); (case ha => exact ez0); (case hs => (exact q9)); (case' hk => rintro _ h' n' ⟨rfl, rfl, rfl⟩)) | ((with_reducible apply o_ap0 (t := 39) apT39 w_none); (case hs => exact ez0); (case hy => exact ez0); (case hsrc => exact src_row ez0 (by rw [hbT, Nat.mul_one])); (case hc => exact hco); (case hm => omega); (case h0 => omega)) | ((with_reducible first | apply zo1 | apply zo2 | apply o_guard rfl | apply x_cond | apply k_e1 rfl | apply k_e2 rfl | apply k_e0 rfl | apply k_e3 rfl | apply k_e4 rfl); (case he => (intros; simp (disch := first | assumption | omega | rfl | decide) only [go_sem, seval, tys, (hW.mn), hwq] <;> rfl)); (try case hok => exact ezO); all_goals try (intro hb; (try simp only [hbs, reduceCtorEq] at hb); try exact ezX)) | ((with_reducible apply o_undef rfl); (case hb => exact ez0)))
          all_goals exact k_round m3 (by omega) ⟨by omega, _, wm, by simp (disch := first | assumption | omega | rfl | decide) only [go_sem, seval, tys]; rw [hj8], by rw [heR]; exact hf⟩
        · have hf := stm_next (h0 := h2) (h1 := h8) (N := n2) (n1 := n8) (leB wm q) hlb hL8 hn8 hk8 i1 i2 i3
          have hrwa := rwOf_row hra
          (repeat' first | refine zcd ?_ | intro K' hK | (with_reducible refine zn hK ?_; clear hK) | ((with_reducible apply o_callF (g := 28) w_none); (case ha => exact ez0); (case hs => (exact q9)); (case' hk => rintro _ h' n' ⟨rfl, rfl, rfl⟩)) | ((with_reducible apply o_apR (t := 39) apT39 w_none); (case hs => exact ez0); (case hy => exact ez0); (case hsrc => exact src_row ez0 (by rw [hbT, Nat.mul_one])); (case hr => exact ez1 hrwa); (case hc => exact hco); (case hm => omega); (case hli => omega); (case hln => omega); (case hcs => rw [bv_length]; omega)) | ((with_reducible first | apply zo1 | apply zo2 | apply o_guard rfl | apply x_cond | apply k_e1 rfl | apply k_e2 rfl | apply k_e0 rfl | apply k_e3 rfl | apply k_e4 rfl); (case he => (intros; simp (disch := first | assumption | omega | rfl | decide) only [go_sem, seval, tys, (hW.mn), hwq, hrwa] <;> rfl)); (try case hok => exact ezO); all_goals try (intro hb; (try simp only [hbs, reduceCtorEq] at hb); try exact ezX)) | ((with_reducible apply o_undef rfl); (case hb => exact ez0)))
          all_goals exact k_round m3 (by omega) ⟨by omega, _, L8 + wm, by simp (disch := first | assumption | omega | rfl | decide) only [go_sem, seval, tys]; rw [hj8], by rw [heR]; exact hf⟩
    · rcases hst6 with ⟨rfl, rfl, rfl⟩ | ⟨ia, rfl, i1, i2, i3, hra⟩
      · have hf := stm_first (h0 := h2) (h1 := h6) (N := n2) (n1 := n6) [0] (B := 1) rfl (by omega) hn6 hk6
        (repeat' first | refine zcd ?_ | intro K' hK | (with_reducible refine zn hK ?_; clear hK) | ((with_reducible apply o_ap0 (t := 39) apT39 w_none); (case hs => exact ez0); (case hy => exact ez0); (case hsrc => exact src_row ez0 rfl); (case hc => rfl); (case hm => omega); (case h0 => omega)) | ((with_reducible first | apply zo1 | apply zo2 | apply o_guard rfl | apply x_cond | apply k_e1 rfl | apply k_e2 rfl | apply k_e0 rfl | apply k_e3 rfl | apply k_e4 rfl); (case he => exact ez1 ca6); (try case hok => exact ezO); all_goals try (intro hb; (try simp only [hbs, reduceCtorEq] at hb); try exact ezX)) | ((with_reducible apply o_undef rfl); (case hb => exact ez0)))
        all_goals exact k_round m2 (by omega) ⟨_, 1, [0], by simp (disch := first | assumption | omega | rfl | decide) only [go_sem, seval, tys] <;> rfl, hf, hwr6.app [0], by omega⟩
      · have hf := stm_next (h0 := h2) (h1 := h6) (N := n2) (n1 := n6) [0] (B := 1) rfl hL6 hn6 hk6 i1 i2 i3
        have hrwa := rwOf_row hra
        (repeat' first | refine zcd ?_ | intro K' hK | (with_reducible refine zn hK ?_; clear hK) | ((with_reducible apply o_apR (t := 39) apT39 w_none); (case hs => exact ez0); (case hy => exact ez0); (case hsrc => exact src_row ez0 rfl); (case hr => exact ez1 hrwa); (case hc => rfl); (case hm => omega); (case hli => omega); (case hln => omega); (case hcs => rw [bv_length]; omega)) | ((with_reducible first | apply zo1 | apply zo2 | apply o_guard rfl | apply x_cond | apply k_e1 rfl | apply k_e2 rfl | apply k_e0 rfl | apply k_e3 rfl | apply k_e4 rfl); (case he => exact ez2 ca6 hrwa); (try case hok => exact ezO); all_goals try (intro hb; (try simp only [hbs, reduceCtorEq] at hb); try exact ezX)) | ((with_reducible apply o_undef rfl); (case hb => exact ez0)))
        all_goals exact k_round m2 (by omega) ⟨_, L6 + 1, _, by simp (disch := first | assumption | omega | rfl | decide) only [go_sem, seval, tys] <;> rfl, hf, hwr6.app [0], by omega⟩
end Go.Proofs.Ytkngdfbibffdcaa.Ce
namespace Go.Proofs.Ytkngdfbibffdcaa.Ce
open Go.RowKit
variable (k d cl : Nat) (h : Hp) (n : Nat)
theorem put2_ev (id p : Nat) (a b : UInt8) (hr : rowOf h id = some (39, false, [.slice (some ⟨p, 0, none⟩) 1 1])) (hrp : rowOf h p = some (5, false, bv [a])) (hid : id < n) (hci : cl ≤ id) (hp : p < n) (hcp : cl ≤ p) (hpi : p ≠ id) : SQ k (d + 1) cl 33 [.int .u8 b.toNat, .pointer (some ⟨id, 0, none⟩)] h n fun v h' n' => v = .tuple ⟨[]⟩ ∧ (((h.set n (.row 5 false (bv [b]))).set p none).set (n + 1) (.row 5 false (bv [a, b]))).set id (.row 39 false [.slice (some ⟨n + 1, 0, none⟩) 2 2]) = h' ∧ n + 1 + 1 = n' := by
  have hw := rwOf_row hr
  have hc := cellAt_row (off := 0) hr
  have hrwa := rwOf_row hrp
  refine enterW Try.func33 (by kernel_rfl) rfl (by kernel_rfl) rfl rfl rfl ?_
  (repeat' first | refine zcd ?_ | intro K' hK | (with_reducible refine zn hK ?_; clear hK) | ((with_reducible apply o_apR (t := 39) apT39 w_none); (case hs => exact ez1 hc); (case hy => exact ez0); (case hsrc => exact src_row ez0 rfl); (case hr => exact ez1 hrwa); (case hc => rfl); (case hm => omega); (case hli => omega); (case hln => omega); (case hcs => rw [bv_length]; exact Nat.le_refl 1)) | ((with_reducible first | apply zo1 | apply zo2 | apply o_guard rfl | apply x_cond | apply k_e1 rfl | apply k_e2 rfl | apply k_e0 rfl | apply k_e3 rfl | apply k_e4 rfl); (case he => exact ez3 hw hc hrwa); (try case hok => exact ezO); all_goals try (intro hb; (try simp only [hbs, reduceCtorEq] at hb); try exact ezX)) | ((with_reducible apply o_undef rfl); (case hb => exact ez0)))
  all_goals exact ⟨rfl, rfl, rfl⟩
theorem vary300_ev (hk : 30000 ≤ k) : SQ k (d + 2) cl 11 [.int .u64 300] h n fun v h' n' => v = .slice (some ⟨n, 0, none⟩) 2 2 ∧ h.set n (.row 5 false (bv [172, 2])) = h' ∧ n + 1 = n' := by
  have q1 : ∀ (h6 : Hp) (n6 id : Nat) (hr6 : rowOf h6 id = some (39, false, [.slice none 0 0])) (hid : id < n6) (hci : n ≤ id), SQ k (d + 1) n 33 [.int .u8 172, .pointer (some ⟨id, 0, none⟩)] h6 n6 fun v h' n' => v = .tuple ⟨[]⟩ ∧ ((h6.set n6 (.row 5 false (bv [172]))).set (n6 + 1) (.row 5 false (bv [172]))).set id (.row 39 false [.slice (some ⟨n6 + 1, 0, none⟩) 1 1]) = h' ∧ n6 + 1 + 1 = n' := fun h6 n6 id hr6 hid hci => put_ev k d n h6 n6 id 172 hr6 hid hci
  have q2 : ∀ (h6 : Hp) (n6 id p : Nat) (hr6 : rowOf h6 id = some (39, false, [.slice (some ⟨p, 0, none⟩) 1 1])) (hrp : rowOf h6 p = some (5, false, bv [172])) (hid : id < n6) (hci : n ≤ id) (hp : p < n6) (hcp : n ≤ p) (hpi : p ≠ id), SQ k (d + 1) n 33 [.int .u8 2, .pointer (some ⟨id, 0, none⟩)] h6 n6 fun v h' n' => v = .tuple ⟨[]⟩ ∧ (((h6.set n6 (.row 5 false (bv [2]))).set p none).set (n6 + 1) (.row 5 false (bv [172, 2]))).set id (.row 39 false [.slice (some ⟨n6 + 1, 0, none⟩) 2 2]) = h' ∧ n6 + 1 + 1 = n' := fun h6 n6 id p hr6 hrp hid hci hp hcp hpi => put2_ev k d n h6 n6 id p 172 2 hr6 hrp hid hci hp hcp hpi
  have hsh : ∀ (t : TypeId) (h : Hp) (n : Nat), mBin Try.prog .shr t (.int .u64 300) (.int .u64 7) h n = some ⟨.int .u64 2, h, n, [], []⟩ := fun t h n => rfl
  have hor : ∀ (t : TypeId) (h : Hp) (n : Nat), mBin Try.prog .or t (.int .u8 44) (.int .u8 128) h n = some ⟨.int .u8 172, h, n, [], []⟩ := fun t h n => rfl
  have hw1 : IntKind.wrap .u8 300 = 44 := rfl
  have hw2 : IntKind.wrap .u8 2 = 2 := rfl
  refine enter Try.func11 (by kernel_rfl) rfl (by kernel_rfl) rfl rfl rfl ?_
  (repeat' first | refine zcd ?_ | intro K' hK | (with_reducible refine zn hK ?_; clear hK) | (with_reducible refine x_turns ?_) | (with_reducible refine x_turn (by omega) ?_) | (with_reducible refine k_turn ?_) | ((with_reducible apply o_callC (g := 33) w_none); (case hx => exact ez0); (case ha => exact ez0); (case hs => first | ((with_reducible apply q1); (all_goals first | exact ez0 | omega)) | ((with_reducible apply q2); (all_goals first | exact ez0 | omega))); (case' hk => rintro _ h' n' ⟨rfl, rfl, rfl⟩)) | ((with_reducible first | apply zo1 | apply zo2 | apply o_guard rfl | apply x_cond | apply k_e1 rfl | apply k_e2 rfl | apply k_e0 rfl | apply k_e3 rfl | apply k_e4 rfl); (case he => exact ez4 hsh hor hw1 hw2); (try case hok => exact ezO); all_goals try (intro hb; (try simp only [hbs, reduceCtorEq] at hb); try exact ezX)) | ((with_reducible apply o_undef rfl); (case hb => exact ez0)))
  all_goals (refine sw_row ezI rfl (by omega) ez0 (bv_idA2 n [172, 2]) ezR ?_; exact ⟨rfl, rfl, rfl⟩)
theorem sumC_abc : sumC [97, 98, 99] = 891568578 := by decide +kernel
theorem hex_abc {j : Nat} (h : HexJ 891568578 j) : hexS 891568578 j = [51, 53, 50, 52, 52, 49, 99, 50] := by
  obtain ⟨h1, h2, h3, h4⟩ := h
  rcases (show j = 1 ∨ j = 2 ∨ j = 3 ∨ j = 4 ∨ j = 5 ∨ j = 6 ∨ j = 7 ∨ j = 8 ∨ j = 9 ∨ j = 10 ∨ j = 11 ∨ j = 12 ∨ j = 13 ∨ j = 14 ∨ j = 15 ∨ j = 16 by omega) with rfl | rfl | rfl | rfl | rfl | rfl | rfl | rfl | rfl | rfl | rfl | rfl | rfl | rfl | rfl | rfl
  all_goals first | decide | omega
theorem alive_ev (hk : 30000 ≤ k) : SQ k (d + 6) cl 6 [] h n fun v h' n' => v = .bool true ∧ h = h' ∧ n = n' := by
  have q1 := fun (h6 : Hp) (n6 : Nat) => vary300_ev k (d + 3) n h6 n6 hk
  have q3 := fun (h6 : Hp) (n6 : Nat) => (table_ev k (d + 3) n h6 n6 hk).mono (Φ' := fun v h' n' => v = .agg ⟨tabV⟩ ∧ h6 = h' ∧ n6 = n') fun _ _ _ hp => ⟨hp.1, hp.2.1.symm, hp.2.2.symm⟩
  have q4 := fun (h6 : Hp) (n6 id : Nat) (hr6 : RdH h6 n6 (some ⟨id, 0, none⟩) (bv [97, 98, 99])) => (sum_ev k d n h6 n6 hk (some ⟨id, 0, none⟩) [97, 98, 99] 0 hr6 (by decide)).mono (Φ' := fun v h' n' => v = .tuple ⟨[.int .u32 891568578, .int .i64 0]⟩ ∧ h6 = h' ∧ n6 = n') fun _ _ _ hp => ⟨by rw [hp.1, sumC_abc]; rfl, hp.2.1.symm, hp.2.2.symm⟩
  have q4 : ∀ (h6 : Hp) (n6 id : Nat) (hr6 : RdH h6 n6 (some ⟨id, 0, none⟩) (bv [97, 98, 99])), SQ k (d + 5) n 12 [.agg ⟨tabV⟩, .slice (some ⟨id, 0, none⟩) 3 0] h6 n6 fun v h' n' => v = .tuple ⟨[.int .u32 891568578, .int .i64 0]⟩ ∧ h6 = h' ∧ n6 = n' := q4
  have q6 := fun (h6 : Hp) (n6 : Nat) => (hex_ev k (d + 3) n h6 n6 hk 891568578 (by decide)).mono (Φ' := fun v h' n' => v = .string ⟨⟨[48, 120, 51, 53, 50, 52, 52, 49, 99, 50]⟩⟩ ∧ h6 = h' ∧ n6 = n') fun _ _ _ ⟨j, hj, e1, e2, e3⟩ => ⟨by rw [e1, hex_abc hj], e2.symm, e3.symm⟩
  have q6 : ∀ (h6 : Hp) (n6 : Nat), SQ k (d + 5) n 14 [.int .u64 891568578] h6 n6 fun v h' n' => v = .string ⟨⟨[48, 120, 51, 53, 50, 52, 52, 49, 99, 50]⟩⟩ ∧ h6 = h' ∧ n6 = n' := q6
  have hw : IntKind.wrap .u64 891568578 = 891568578 := rfl
  have e0 : (ByteArray.toList ⟨⟨[48, 120, 51, 53, 50, 52, 52, 49, 99, 50]⟩⟩ == ByteArray.toList ⟨⟨[48, 120, 51, 53, 50, 52, 52, 49, 99, 50]⟩⟩) = true := beq_self_eq_true _
  have hself : ∀ (h : Hp) (n id : Nat), mConvert Try.prog 39 39 (.slice (some ⟨id, 0, none⟩) 3 0) h n = (rwOf h id).bind fun r => some ⟨.slice (some ⟨n, 0, none⟩) 3 0, (h.set id none).set n (.row r.1 true r.2), n + 1, [id], [id]⟩ := fun _ _ _ => m_self (len := 2) apS.1.2.1 apS.2 (by kernel_rfl)
  have hvl := tabV_len
  have hvc := tabV_cok
  obtain ⟨TV, hTV⟩ : ∃ TV, tabV = TV := ⟨_, rfl⟩
  rw [hTV] at hvl hvc
  simp only [hTV] at q3 q4
  refine enter Try.func6 (by kernel_rfl) rfl (by kernel_rfl) rfl rfl rfl ?_
  (repeat' first | refine zcd ?_ | intro K' hK | (with_reducible refine zn hK ?_; clear hK) | (with_reducible refine x_turns ?_) | (with_reducible refine x_turn (by omega) ?_) | (with_reducible refine k_turn ?_) | ((with_reducible apply o_callF (g := 11) w_none); (case ha => exact ez0); (case hs => (exact q1 _ _)); (case' hk => rintro _ h' n' ⟨rfl, rfl, rfl⟩)) | ((with_reducible apply o_callF (g := 13) w_none); (case ha => exact ez0); (case hs => (exact q3 _ _)); (case' hk => rintro _ h' n' ⟨rfl, rfl, rfl⟩)) | ((with_reducible apply o_callF (g := 12) w_none); (case ha => exact ez0); (case hs => ((with_reducible apply q4); exact RdH.row (by omega))); (case' hk => rintro _ h' n' ⟨rfl, rfl, rfl⟩)) | ((with_reducible apply o_callF (g := 14) w_none); (case ha => exact ez0); (case hs => (exact q6 _ _)); (case' hk => rintro _ h' n' ⟨rfl, rfl, rfl⟩)) | ((with_reducible first | apply zo1 | apply zo2 | apply o_guard rfl | apply x_cond | apply k_e1 rfl | apply k_e2 rfl | apply k_e0 rfl | apply k_e3 rfl | apply k_e4 rfl); (case he => exact ez6 hw hvl hvc @b_strEql e0 hself); (try case hok => exact ezO); all_goals try (intro hb; (try simp only [hbs, reduceCtorEq] at hb); try exact ezX)) | ((with_reducible apply o_undef rfl); (case hb => exact ez0)))
  all_goals exact sw_flat rfl rfl ⟨rfl, rfl, rfl⟩
end Go.Proofs.Ytkngdfbibffdcaa.Ce
