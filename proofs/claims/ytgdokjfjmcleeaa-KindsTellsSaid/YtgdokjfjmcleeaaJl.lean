/- What is asked about types, errors and all; tables with the same data answer the same. -/
import Derived.Test.YtgdokjfjmcleeaaJu
import Derived.Test.YtgdokjfjmcleeaaMw
namespace Go.Proofs.Ytgdokjfjmcleeaa.Ce
open Go.RowKit
set_option linter.unusedVariables false
set_option linter.unusedSimpArgs false
set_option maxRecDepth 100000
set_option maxHeartbeats 4000000

theorem leadsT_dat {far : Bool} {t u : Tp} (h : t.dat = u.dat) : leadsT far t = leadsT far u := by
  obtain ⟨h1, h2, h3, h4⟩ := dat_elim h
  unfold leadsT
  rw [h1, h2, h4]
theorem Rch_dat {T U : List Tp} (h : U.map Tp.dat = T.map Tp.dat) {far : Bool} {i x : Nat} (hr : Rch T far i x) : Rch U far i x := by
  induction hr with
  | refl => exact .refl
  | step hr hx hy ih => exact .step ih (by rw [dat_len h]; exact hx) (by rw [leadsT_dat (dat_at h hx)]; exact hy)
theorem Rch_dat_iff {T U : List Tp} (h : U.map Tp.dat = T.map Tp.dat) {far : Bool} {i x : Nat} : Rch U far i x ↔ Rch T far i x := ⟨Rch_dat h.symm, Rch_dat h⟩
theorem rchF_dat {T U : List Tp} (h : U.map Tp.dat = T.map Tp.dat) (far : Bool) (i : Nat) : rchF U far i = rchF T far i := by
  unfold rchF
  rw [dat_len h]
  refine List.map_congr_left fun x _ => ?_
  exact decide_eq_decide.2 (Rch_dat_iff h)
theorem holdsB_dat {T U : List Tp} (h : U.map Tp.dat = T.map Tp.dat) (i j : Nat) : holdsB U i j = holdsB T i j := by unfold holdsB; rw [rchF_dat h]
theorem depR_dat {T U : List Tp} (h : U.map Tp.dat = T.map Tp.dat) : depR U = depR T := foldl_dat (fun D t u he => by unfold depOne; rw [leadsT_dat he]) U T [] h
theorem depT_dat {T U : List Tp} (h : U.map Tp.dat = T.map Tp.dat) (i : Nat) : depT U i = depT T i := by unfold depT; rw [depR_dat h]
theorem reachL_dat {T U : List Tp} (h : U.map Tp.dat = T.map Tp.dat) (i : Nat) : reachL U i = reachL T i := by unfold reachL; rw [rchF_dat h, dat_len h]
theorem widT_dat {T U : List Tp} (h : U.map Tp.dat = T.map Tp.dat) (i : Nat) : widT U i = widT T i := by unfold widT; rw [wD_dat h]
theorem Shp_dat {t u t' u' : Tp} (h : t.dat = t'.dat) (h2 : u.dat = u'.dat) (hs : Shp t u) : Shp t' u' := by
  obtain ⟨a1, a2, a3, a4⟩ := dat_elim h
  obtain ⟨b1, b2, b3, b4⟩ := dat_elim h2
  exact ⟨by rw [← a1, ← b1]; exact hs.1, by rw [← a3, ← b3]; exact hs.2.1, by rw [← a4, ← b4]; exact hs.2.2⟩
theorem Met_dat {T U : List Tp} (h : U.map Tp.dat = T.map Tp.dat) {i k a b : Nat} (hm : Met T i k a b) : Met U i k a b := by
  induction hm with
  | refl => exact .refl
  | @step a b x y hm ha hb hs hp ih =>
    have ha' : a < U.length := by rw [dat_len h]; exact ha
    have hb' : b < U.length := by rw [dat_len h]; exact hb
    refine .step ih ha' hb' (Shp_dat (dat_at h ha).symm (dat_at h hb).symm hs) ?_
    unfold pairsT
    rw [leadsT_dat (dat_at h ha), leadsT_dat (dat_at h hb)]
    exact hp
theorem Alike_dat {T U : List Tp} (h : U.map Tp.dat = T.map Tp.dat) {i k : Nat} (ha : Alike T i k) : Alike U i k := fun a b hm h1 h2 => by
  have h1' : a < T.length := by rw [← dat_len h]; exact h1
  have h2' : b < T.length := by rw [← dat_len h]; exact h2
  exact Shp_dat (dat_at h h1').symm (dat_at h h2').symm (ha a b (Met_dat h.symm hm) h1' h2')
theorem alikeB_dat {T U : List Tp} (h : U.map Tp.dat = T.map Tp.dat) (i j : Nat) : alikeB U i j = alikeB T i j := by
  rw [Bool.eq_iff_iff, alikeB_iff, alikeB_iff]
  exact ⟨Alike_dat h.symm, Alike_dat h⟩
theorem askE_dat {T U : List Tp} (h : U.map Tp.dat = T.map Tp.dat) (i j : Int) : askE U i j = askE T i j := by
  unfold askE
  rw [dat_len h]
  by_cases hc : ChkT T
  · rw [if_pos hc, if_pos ((ChkT_dat h).2 hc)]
  · rw [if_neg hc, if_neg fun hu => hc ((ChkT_dat h).1 hu)]
theorem errT_dat {T U : List Tp} (h : U.map Tp.dat = T.map Tp.dat) : errT U = errT T := by
  unfold errT
  by_cases hc : ChkT T
  · rw [if_pos hc, if_pos ((ChkT_dat h).2 hc)]
  · rw [if_neg hc, if_neg fun hu => hc ((ChkT_dat h).1 hu)]
theorem askE_in {T : List Tp} {i j : Int} (h : askE T i j = 0) : ChkT T ∧ (0 ≤ i ∧ i < T.length) ∧ 0 ≤ j ∧ j < T.length := by
  unfold askE at h
  split at h
  · split at h
    · exact ⟨‹_›, ‹_›⟩
    · cases h
  · cases h
noncomputable def holdsE (T : List Tp) (i j : Int) : Bool := if askE T i j = 0 then holdsB T i.toNat j.toNat else false
noncomputable def depE (T : List Tp) (i : Int) : Int := if askE T i i = 0 then depT T i.toNat else 0
noncomputable def reachE (T : List Tp) (i : Int) : List Int := if askE T i i = 0 then reachL T i.toNat else []
noncomputable def sameE (T : List Tp) (i j : Int) : Bool := if askE T i j = 0 then alikeB T i.toNat j.toNat else false
noncomputable def widE (T : List Tp) (i : Int) : Int := if askE T i i = 0 then widT T i.toNat else 0
theorem holdsE_dat {T U : List Tp} (h : U.map Tp.dat = T.map Tp.dat) (i j : Int) : holdsE U i j = holdsE T i j := by unfold holdsE; rw [askE_dat h, holdsB_dat h]
theorem depE_dat {T U : List Tp} (h : U.map Tp.dat = T.map Tp.dat) (i : Int) : depE U i = depE T i := by unfold depE; rw [askE_dat h, depT_dat h]
theorem reachE_dat {T U : List Tp} (h : U.map Tp.dat = T.map Tp.dat) (i : Int) : reachE U i = reachE T i := by unfold reachE; rw [askE_dat h, reachL_dat h]
theorem sameE_dat {T U : List Tp} (h : U.map Tp.dat = T.map Tp.dat) (i j : Int) : sameE U i j = sameE T i j := by unfold sameE; rw [askE_dat h, alikeB_dat h]
theorem widE_dat {T U : List Tp} (h : U.map Tp.dat = T.map Tp.dat) (i : Int) : widE U i = widE T i := by unfold widE; rw [askE_dat h, widT_dat h]
theorem reachE_len {T : List Tp} (hl : T.length ≤ 100) (i : Int) : (reachE T i).length ≤ 20000 := by
  unfold reachE
  split
  · have := reach_len T i.toNat; omega
  · exact Nat.zero_le _
variable (k d cl : Nat) (h : Hp) (n : Nat)
theorem pholds_all (hk : 30000 ≤ k) (A : Option Addr) (T : List Tp) (c : Nat) (hT : TabH h n A T) (hS : ∀ t ∈ T, t.fs.length ≤ 20000) (hm : T.length ≤ 9223372036854775807) (i j : Int) :
    Sp Try.prog (acall Try.prog WW k (d + 8)) cl 40 [.slice A T.length c, .int .i64 i, .int .i64 j] h n fun v h' n' => v = .tuple ⟨[.bool (holdsE T i j), .int .i64 (askE T i j)]⟩ ∧ h = h' ∧ n = n' := by
  by_cases he : askE T i j = 0
  · obtain ⟨hC, hi, hj⟩ := askE_in he
    obtain ⟨i, rfl⟩ := Int.eq_ofNat_of_zero_le hi.1
    obtain ⟨j, rfl⟩ := Int.eq_ofNat_of_zero_le hj.1
    have q := pholds_ok k d cl h n hk A T c hT hS hm hC i j (by omega) (by omega)
    unfold holdsE
    simp only [he, if_pos, Int.toNat_natCast]
    exact q.mono fun _ _ _ hp => ⟨hp.1, hp.2.1.symm, hp.2.2.symm⟩
  · have q := pholds_err k d cl h n hk A T c hT hS hm i j he
    unfold holdsE
    rw [if_neg he]
    exact q.mono fun _ _ _ hp => ⟨hp.1, hp.2.1.symm, hp.2.2.symm⟩
theorem pdepth_all (hk : 30000 ≤ k) (A : Option Addr) (T : List Tp) (c : Nat) (hT : TabH h n A T) (hS : ∀ t ∈ T, t.fs.length ≤ 20000) (hm : T.length ≤ 9223372036854775807) (i : Int) :
    Sp Try.prog (acall Try.prog WW k (d + 8)) cl 41 [.slice A T.length c, .int .i64 i] h n fun v h' n' => v = .tuple ⟨[.int .i64 (depE T i), .int .i64 (askE T i i)]⟩ ∧ h = h' ∧ n = n' := by
  by_cases he : askE T i i = 0
  · obtain ⟨hC, hi, hj⟩ := askE_in he
    obtain ⟨i, rfl⟩ := Int.eq_ofNat_of_zero_le hi.1
    have q := pdepth_ok k d cl h n hk A T c hT hS hm hC i (by omega)
    unfold depE
    simp only [he, if_pos, Int.toNat_natCast]
    exact q.mono fun _ _ _ hp => ⟨hp.1, hp.2.1.symm, hp.2.2.symm⟩
  · have q := pdepth_err k d cl h n hk A T c hT hS hm i he
    unfold depE
    rw [if_neg he]
    exact q.mono fun _ _ _ hp => ⟨hp.1, hp.2.1.symm, hp.2.2.symm⟩
theorem preach_all (hk : 30000 ≤ k) (A : Option Addr) (T : List Tp) (c : Nat) (hT : TabH h n A T) (hS : ∀ t ∈ T, t.fs.length ≤ 20000) (hm : T.length ≤ 9223372036854775807) (i : Int) :
    Sp Try.prog (acall Try.prog WW k (d + 8)) cl 42 [.slice A T.length c, .int .i64 i] h n fun v h' n' => ∃ V, v = .tuple ⟨[V, .int .i64 (askE T i i)]⟩ ∧ IntsR (reachE T i) h n V h' n' := by
  by_cases he : askE T i i = 0
  · obtain ⟨hC, hi, hj⟩ := askE_in he
    obtain ⟨i, rfl⟩ := Int.eq_ofNat_of_zero_le hi.1
    have q := preach_ok k d cl h n hk A T c hT hS hm hC i (by omega)
    unfold reachE
    simp only [he, if_pos, Int.toNat_natCast]
    exact q.mono fun _ _ _ ⟨V, e, hv⟩ => ⟨V, e, IntsV.rd hv⟩
  · have q := preach_err k d cl h n hk A T c hT hS hm i he
    unfold reachE
    rw [if_neg he]
    exact q.mono fun _ _ _ hp => ⟨_, hp.1, IntsV.rd (.inl ⟨rfl, rfl, hp.2.1, hp.2.2⟩)⟩
theorem psame_all (hk : 30000 ≤ k) (A : Option Addr) (T : List Tp) (c : Nat) (hT : TabH h n A T) (hS : ∀ t ∈ T, t.fs.length ≤ 20000) (hm : T.length ≤ 9223372036854775807) (i j : Int) :
    Sp Try.prog (acall Try.prog WW k (d + 8)) cl 43 [.slice A T.length c, .int .i64 i, .int .i64 j] h n fun v h' n' => v = .tuple ⟨[.bool (sameE T i j), .int .i64 (askE T i j)]⟩ ∧ h = h' ∧ n = n' := by
  by_cases he : askE T i j = 0
  · obtain ⟨hC, hi, hj⟩ := askE_in he
    obtain ⟨i, rfl⟩ := Int.eq_ofNat_of_zero_le hi.1
    obtain ⟨j, rfl⟩ := Int.eq_ofNat_of_zero_le hj.1
    have q := psame_ok k d cl h n hk A T c hT hS hm hC i j (by omega) (by omega)
    unfold sameE
    simp only [he, if_pos, Int.toNat_natCast]
    exact q.mono fun _ _ _ hp => ⟨hp.1, hp.2.1.symm, hp.2.2.symm⟩
  · have q := psame_err k d cl h n hk A T c hT hS hm i j he
    unfold sameE
    rw [if_neg he]
    exact q.mono fun _ _ _ hp => ⟨hp.1, hp.2.1.symm, hp.2.2.symm⟩
theorem pwidth_all (hk : 30000 ≤ k) (A : Option Addr) (T : List Tp) (c : Nat) (hT : TabH h n A T) (hS : ∀ t ∈ T, t.fs.length ≤ 20000) (hm : T.length ≤ 9223372036854775807) (i : Int) :
    Sp Try.prog (acall Try.prog WW k (d + 8)) cl 39 [.slice A T.length c, .int .i64 i] h n fun v h' n' => v = .tuple ⟨[.int .i64 (widE T i), .int .i64 (askE T i i)]⟩ ∧ h = h' ∧ n = n' := by
  by_cases he : askE T i i = 0
  · obtain ⟨hC, hi, hj⟩ := askE_in he
    obtain ⟨i, rfl⟩ := Int.eq_ofNat_of_zero_le hi.1
    have q := pwidth_ok k d cl h n hk A T c hT hS hm hC i (by omega)
    unfold widE
    simp only [he, if_pos, Int.toNat_natCast]
    exact q.mono fun _ _ _ hp => ⟨hp.1, hp.2.1.symm, hp.2.2.symm⟩
  · have q := pwidth_err k d cl h n hk A T c hT hS hm i he
    unfold widE
    rw [if_neg he]
    exact q.mono fun _ _ _ hp => ⟨hp.1, hp.2.1.symm, hp.2.2.symm⟩
theorem rholds_all (hk : 30000 ≤ k) (A : Option Addr) (T : List Tp) (c : Nat) (hT : TabH h n A T) (hS : ∀ t ∈ T, t.fs.length ≤ 20000) (hm : T.length ≤ 9223372036854775807) (i j : Int) :
    Sp Try.prog (acall Try.prog WW k (d + 8)) cl 46 [.slice A T.length c, .int .i64 i, .int .i64 j] h n fun v h' n' => v = .tuple ⟨[.bool (holdsE T i j), .int .i64 (askE T i j)]⟩ ∧ h = h' ∧ n = n' := by
  by_cases he : askE T i j = 0
  · obtain ⟨hC, hi, hj⟩ := askE_in he
    obtain ⟨i, rfl⟩ := Int.eq_ofNat_of_zero_le hi.1
    obtain ⟨j, rfl⟩ := Int.eq_ofNat_of_zero_le hj.1
    have q := rholds_ok k d cl h n hk A T c hT hS hm hC i j (by omega) (by omega)
    unfold holdsE
    simp only [he, if_pos, Int.toNat_natCast]
    exact q.mono fun _ _ _ hp => ⟨hp.1, hp.2.1.symm, hp.2.2.symm⟩
  · have q := rholds_err k d cl h n hk A T c hT hS hm i j he
    unfold holdsE
    rw [if_neg he]
    exact q.mono fun _ _ _ hp => ⟨hp.1, hp.2.1.symm, hp.2.2.symm⟩
theorem rdepth_all (hk : 30000 ≤ k) (A : Option Addr) (T : List Tp) (c : Nat) (hT : TabH h n A T) (hS : ∀ t ∈ T, t.fs.length ≤ 20000) (hm : T.length ≤ 9223372036854775807) (i : Int) :
    Sp Try.prog (acall Try.prog WW k (d + 8)) cl 47 [.slice A T.length c, .int .i64 i] h n fun v h' n' => v = .tuple ⟨[.int .i64 (depE T i), .int .i64 (askE T i i)]⟩ ∧ h = h' ∧ n = n' := by
  by_cases he : askE T i i = 0
  · obtain ⟨hC, hi, hj⟩ := askE_in he
    obtain ⟨i, rfl⟩ := Int.eq_ofNat_of_zero_le hi.1
    have q := rdepth_ok k d cl h n hk A T c hT hS hm hC i (by omega)
    unfold depE
    simp only [he, if_pos, Int.toNat_natCast]
    exact q.mono fun _ _ _ hp => ⟨hp.1, hp.2.1.symm, hp.2.2.symm⟩
  · have q := rdepth_err k d cl h n hk A T c hT hS hm i he
    unfold depE
    rw [if_neg he]
    exact q.mono fun _ _ _ hp => ⟨hp.1, hp.2.1.symm, hp.2.2.symm⟩
theorem rreach_all (hk : 30000 ≤ k) (A : Option Addr) (T : List Tp) (c : Nat) (hT : TabH h n A T) (hS : ∀ t ∈ T, t.fs.length ≤ 20000) (hm : T.length ≤ 9223372036854775807) (i : Int) :
    Sp Try.prog (acall Try.prog WW k (d + 8)) cl 50 [.slice A T.length c, .int .i64 i] h n fun v h' n' => ∃ V, v = .tuple ⟨[V, .int .i64 (askE T i i)]⟩ ∧ IntsR (reachE T i) h n V h' n' := by
  by_cases he : askE T i i = 0
  · obtain ⟨hC, hi, hj⟩ := askE_in he
    obtain ⟨i, rfl⟩ := Int.eq_ofNat_of_zero_le hi.1
    have q := rreach_ok k d cl h n hk A T c hT hS hm hC i (by omega)
    unfold reachE
    simp only [he, if_pos, Int.toNat_natCast]
    exact q.mono fun _ _ _ ⟨V, e, hv⟩ => ⟨V, e, IntsV.rd hv⟩
  · have q := rreach_err k d cl h n hk A T c hT hS hm i he
    unfold reachE
    rw [if_neg he]
    exact q.mono fun _ _ _ hp => ⟨_, hp.1, IntsV.rd (.inl ⟨rfl, rfl, hp.2.1, hp.2.2⟩)⟩
theorem rsame_all (hk : 30000 ≤ k) (A : Option Addr) (T : List Tp) (c : Nat) (hT : TabH h n A T) (hS : ∀ t ∈ T, t.fs.length ≤ 20000) (hm : T.length ≤ 9223372036854775807) (i j : Int) :
    Sp Try.prog (acall Try.prog WW k (d + 8)) cl 51 [.slice A T.length c, .int .i64 i, .int .i64 j] h n fun v h' n' => v = .tuple ⟨[.bool (sameE T i j), .int .i64 (askE T i j)]⟩ ∧ h = h' ∧ n = n' := by
  by_cases he : askE T i j = 0
  · obtain ⟨hC, hi, hj⟩ := askE_in he
    obtain ⟨i, rfl⟩ := Int.eq_ofNat_of_zero_le hi.1
    obtain ⟨j, rfl⟩ := Int.eq_ofNat_of_zero_le hj.1
    have q := rsame_ok k d cl h n hk A T c hT hS hm hC i j (by omega) (by omega)
    unfold sameE
    simp only [he, if_pos, Int.toNat_natCast]
    exact q.mono fun _ _ _ hp => ⟨hp.1, hp.2.1.symm, hp.2.2.symm⟩
  · have q := rsame_err k d cl h n hk A T c hT hS hm i j he
    unfold sameE
    rw [if_neg he]
    exact q.mono fun _ _ _ hp => ⟨hp.1, hp.2.1.symm, hp.2.2.symm⟩
theorem rwidth_all (hk : 30000 ≤ k) (A : Option Addr) (T : List Tp) (c : Nat) (hT : TabH h n A T) (hS : ∀ t ∈ T, t.fs.length ≤ 20000) (hm : T.length ≤ 9223372036854775807) (i : Int) :
    Sp Try.prog (acall Try.prog WW k (d + 8)) cl 52 [.slice A T.length c, .int .i64 i] h n fun v h' n' => v = .tuple ⟨[.int .i64 (widE T i), .int .i64 (askE T i i)]⟩ ∧ h = h' ∧ n = n' := by
  by_cases he : askE T i i = 0
  · obtain ⟨hC, hi, hj⟩ := askE_in he
    obtain ⟨i, rfl⟩ := Int.eq_ofNat_of_zero_le hi.1
    have q := rwidth_ok k d cl h n hk A T c hT hS hm hC i (by omega)
    unfold widE
    simp only [he, if_pos, Int.toNat_natCast]
    exact q.mono fun _ _ _ hp => ⟨hp.1, hp.2.1.symm, hp.2.2.symm⟩
  · have q := rwidth_err k d cl h n hk A T c hT hS hm i he
    unfold widE
    rw [if_neg he]
    exact q.mono fun _ _ _ hp => ⟨hp.1, hp.2.1.symm, hp.2.2.symm⟩
end Go.Proofs.Ytgdokjfjmcleeaa.Ce
