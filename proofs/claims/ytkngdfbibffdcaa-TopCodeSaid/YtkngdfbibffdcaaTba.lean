/- Parts of the proof of TopCode: Zq, Op, Qz, Ot, Oj. No condition of its own. -/
import Derived.ProofKit
import Derived.Lib.SmallJoins
import Derived.OpenShut
import Derived.ChangeOld
import Derived.SliceStrings
import Derived.Deep.SlicePairs
import Derived.Test.YtkngdfbibffdcaaTaa
import Derived.Test.YtkngdfbibffdcaaTaj
import Derived.Test.YtkngdfbibffdcaaTal
import Derived.Test.YtkngdfbibffdcaaTao
import Derived.Test.YtkngdfbibffdcaaTat
import Derived.Test.YtkngdfbibffdcaaTaw
import Derived.Test.YtkngdfbibffdcaaTaz
set_option linter.unusedVariables false
set_option linter.unusedSimpArgs false
set_option maxRecDepth 100000
set_option maxHeartbeats 4000000
namespace Go.Proofs.Ytkngdfbibffdcaa.Ce
open Go.RowKit
variable (k d cl : Nat) (h : Hp) (n : Nat)
theorem said_ev (hk : 30000 ≤ k) (A : Option Addr) (l : List (List UInt8)) (c : Nat) (by8 : UInt8) (hr : RdH h n A (xv l)) (hl : l.length ≤ 20) (hs : ∀ s ∈ l, s.length ≤ 100) : SQ k (d + 6) cl 7 [.slice A l.length c, .int .u8 by8.toNat] h n fun v h' n' => v = .bool true ∧ h = h' ∧ n = n' := by
  rcases l with _ | ⟨s, l⟩
  · exact said_nil k d cl h n hk A c by8 hr
  · exact said_cons k d cl h n hk A (s :: l) c by8 hr (by simp) hl hs
theorem top_ev (hk : 30000 ≤ k) (A : Option Addr) (l : List (List UInt8)) (c : Nat) (hr : RdH h n A (xv l)) (AT : Option Addr) (T : List Tp) (cT : Nat) (hT : TabH h n AT T) (hm : T.length ≤ 9223372036854775807) (hS0 : ∀ t ∈ T, t.fs.length ≤ 9223372036854775807) (i : Int) (by8 : UInt8) : SQ k (d + 42) cl 3 [.slice A l.length c, .slice AT T.length cT, .int .i64 i, .int .u8 by8.toNat] h n fun v h' n' => v = .bool true := by
  obtain ⟨ll, hll⟩ : ∃ ll, l.length = ll := ⟨_, rfl⟩
  rw [hll]
  by_cases hl : ll ≤ 20
  · obtain ⟨v, h2, n2, ⟨B, rfl, hg, rfl, rfl⟩, hB⟩ := sp_fix (tgreat_ev k (d + 40) n h n hk AT T cT hT hm hS0)
    have hB2 : SQ k (d + 41) n2 4 [.slice AT T.length cT] h2 n2 fun v3 h3 n3 => v3 = .bool B ∧ h2 = h3 ∧ n2 = n3 := hB.mono fun _ _ _ hp => ⟨hp.1, hp.2.1.symm, hp.2.2.symm⟩
    rcases B with _ | _
    · have hS : ∀ t ∈ T, t.fs.length ≤ 20000 := fun t ht => by have := (hg rfl).2 t ht; omega
      have hA := (rask5_ev k (d + 33) n2 h2 n2 hk AT T cT hT hS hm i).mono (Φ' := fun v h' n' => v = .int .i64 (szR 1000000 T i).2.2 ∧ h2 = h' ∧ n2 = n') fun _ _ _ hp => ⟨hp.1, hp.2.1.symm, hp.2.2.symm⟩
      obtain ⟨e, hee⟩ : ∃ e, (szR 1000000 T i).2.2 = e := ⟨_, rfl⟩
      rw [hee] at hA
      by_cases he : e = 0
      · subst he
        rw [← szR_eq] at hee
        obtain ⟨-, h0, -⟩ := szR_0 hee
        obtain ⟨j, rfl⟩ := Int.eq_ofNat_of_zero_le h0
        have qA := alive_ev k (d + 35) n2 h2 n2 hk
        have qC := celled_ev k d n2 h2 n2 hk AT T cT hT hS hm j hee
        refine enter Try.func3 (by kernel_rfl) rfl (by kernel_rfl) rfl rfl rfl ?_
        (repeat' first | refine zcd ?_ | intro K' hK | (with_reducible refine zn hK ?_; clear hK) | ((with_reducible apply o_callF (g := 4) w_none); (case ha => exact ez0); (case hs => (exact hB2)); (case' hk => rintro _ h' n' ⟨rfl, rfl, rfl⟩)) | ((with_reducible apply o_callF (g := 5) w_none); (case ha => exact ez0); (case hs => (exact hA)); (case' hk => rintro _ h' n' ⟨rfl, rfl, rfl⟩)) | ((with_reducible first | apply zo1 | apply zo2 | apply o_guard rfl | apply x_cond | apply k_e1 rfl | apply k_e2 rfl | apply k_e0 rfl | apply k_e3 rfl | apply k_e4 rfl); (case he => exact ez0); (try case hok => exact ezO); all_goals try (intro hb; (try simp only [hbs, reduceCtorEq] at hb); try exact ezX)) | ((with_reducible apply o_undef rfl); (case hb => exact ez0)))
        refine x_loopF [8, 9, 23, 24, 25, 26, 27, 28, 29, 30, 31, 32, 33, 34] [9] (fun m vs => m ≤ ll ∧ vs = [.int .i64 ((ll - m : Nat) : Int)] ∧ ∀ s ∈ l.take (ll - m), s.length ≤ 100) ll rfl (by omega) ⟨Nat.le_refl _, by simp (disch := first | assumption | omega | rfl | decide) only [go_sem, seval, tys]; rw [Nat.sub_self]; rfl, by rw [Nat.sub_self]; intro s hs; cases hs⟩ ?_
        rintro m g _ ⟨hm2, rfl, hs⟩
        rcases m with _ | m
        · rw [Nat.sub_zero, List.take_of_length_le (by omega)] at hs
          rw [Nat.sub_zero]
          have qS := said_ev k (d + 35) n2 h2 n2 hk A l c by8 hr (by omega) hs
          rw [hll] at qS
          (repeat' first | refine zcd ?_ | intro K' hK | (with_reducible refine zn hK ?_; clear hK) | ((with_reducible apply o_callF (g := 6) w_none); (case ha => exact ez0); (case hs => (exact qA)); (case' hk => rintro _ h' n' ⟨rfl, rfl, rfl⟩)) | ((with_reducible apply o_callF (g := 7) w_none); (case ha => exact ez0); (case hs => (exact qS)); (case' hk => rintro _ h' n' ⟨rfl, rfl, rfl⟩)) | ((with_reducible apply o_callF (g := 8) w_none); (case ha => exact ez0); (case hs => (exact qC)); (case' hk => rintro _ h' n' rfl)) | ((with_reducible first | apply zo1 | apply zo2 | apply o_guard rfl | apply x_cond | apply k_e1 rfl | apply k_e2 rfl | apply k_e0 rfl | apply k_e3 rfl | apply k_e4 rfl); (case he => exact ez0); (try case hok => exact ezO); all_goals try (intro hb; (try simp only [hbs, reduceCtorEq] at hb); try exact ezX)) | ((with_reducible apply o_undef rfl); (case hb => exact ez0)))
          all_goals exact sw_flat rfl rfl rfl
        · obtain ⟨q, hqe⟩ : ∃ q, ll - (m + 1) = q := ⟨_, rfl⟩
          rw [hqe] at hs ⊢
          have hq : q < l.length := by omega
          have hnx : (q : Int) + 1 = ((ll - m : Nat) : Int) := by omega
          have htk : l.take (ll - m) = l.take q ++ [l[q]] := by rw [show ll - m = q + 1 from by omega, List.take_succ_eq_append_getElem hq]
          obtain ⟨tid, off, rfl, htid, hce⟩ := hr.at_ (by rw [xv_length]; omega)
          have hce := hce _ _ (xv_get hq)
          obtain ⟨s, hse⟩ : ∃ s, l[q] = s := ⟨_, rfl⟩
          rw [hse] at hce htk
          have hsl := tx_len s
          by_cases h100 : s.length ≤ 100
          · (repeat' first | refine zcd ?_ | intro K' hK | (with_reducible refine zn hK ?_; clear hK) | fail | ((with_reducible first | apply zo1 | apply zo2 | apply o_guard rfl | apply x_cond | apply k_e1 rfl | apply k_e2 rfl | apply k_e0 rfl | apply k_e3 rfl | apply k_e4 rfl); (case he => exact ez2 hce hsl); (try case hok => exact ezO); all_goals try (intro hb; (try simp only [hbs, reduceCtorEq] at hb); try exact ezX)) | ((with_reducible apply o_undef rfl); (case hb => exact ez0)))
            all_goals exact k_round m (by omega) ⟨⟨rfl, rfl⟩, by omega, by simp (disch := first | assumption | omega | rfl | decide) only [go_sem, seval, tys]; rw [hnx], by rw [htk]; intro x hx; rcases List.mem_append.1 hx with hx | hx; exact hs x hx; rw [List.mem_singleton.1 hx]; exact h100⟩
          · (repeat' first | refine zcd ?_ | intro K' hK | (with_reducible refine zn hK ?_; clear hK) | fail | ((with_reducible first | apply zo1 | apply zo2 | apply o_guard rfl | apply x_cond | apply k_e1 rfl | apply k_e2 rfl | apply k_e0 rfl | apply k_e3 rfl | apply k_e4 rfl); (case he => exact ez2 hce hsl); (try case hok => exact ezO); all_goals try (intro hb; (try simp only [hbs, reduceCtorEq] at hb); try exact ezX)) | ((with_reducible apply o_undef rfl); (case hb => exact ez0)))
            all_goals exact sw_flat rfl rfl rfl
      · have hbe : (e == 0) = false := by rw [beq_eq_false_iff_ne]; exact he
        refine enter Try.func3 (by kernel_rfl) rfl (by kernel_rfl) rfl rfl rfl ?_
        (repeat' first | refine zcd ?_ | intro K' hK | (with_reducible refine zn hK ?_; clear hK) | ((with_reducible apply o_callF (g := 4) w_none); (case ha => exact ez0); (case hs => (exact hB2)); (case' hk => rintro _ h' n' ⟨rfl, rfl, rfl⟩)) | ((with_reducible apply o_callF (g := 5) w_none); (case ha => exact ez0); (case hs => (exact hA)); (case' hk => rintro _ h' n' ⟨rfl, rfl, rfl⟩)) | ((with_reducible first | apply zo1 | apply zo2 | apply o_guard rfl | apply x_cond | apply k_e1 rfl | apply k_e2 rfl | apply k_e0 rfl | apply k_e3 rfl | apply k_e4 rfl); (case he => exact ez1 hbe); (try case hok => exact ezO); all_goals try (intro hb; (try simp only [hbs, reduceCtorEq] at hb); try exact ezX)) | ((with_reducible apply o_undef rfl); (case hb => exact ez0)))
        all_goals exact sw_flat rfl rfl rfl
    · refine enter Try.func3 (by kernel_rfl) rfl (by kernel_rfl) rfl rfl rfl ?_
      (repeat' first | refine zcd ?_ | intro K' hK | (with_reducible refine zn hK ?_; clear hK) | ((with_reducible apply o_callF (g := 4) w_none); (case ha => exact ez0); (case hs => (exact hB2)); (case' hk => rintro _ h' n' ⟨rfl, rfl, rfl⟩)) | ((with_reducible first | apply zo1 | apply zo2 | apply o_guard rfl | apply x_cond | apply k_e1 rfl | apply k_e2 rfl | apply k_e0 rfl | apply k_e3 rfl | apply k_e4 rfl); (case he => exact ez0); (try case hok => exact ezO); all_goals try (intro hb; (try simp only [hbs, reduceCtorEq] at hb); try exact ezX)) | ((with_reducible apply o_undef rfl); (case hb => exact ez0)))
      all_goals exact sw_flat rfl rfl rfl
  · refine enter Try.func3 (by kernel_rfl) rfl (by kernel_rfl) rfl rfl rfl ?_
    (repeat' first | refine zcd ?_ | intro K' hK | (with_reducible refine zn hK ?_; clear hK) | fail | ((with_reducible first | apply zo1 | apply zo2 | apply o_guard rfl | apply x_cond | apply k_e1 rfl | apply k_e2 rfl | apply k_e0 rfl | apply k_e3 rfl | apply k_e4 rfl); (case he => exact ez0); (try case hok => exact ezO); all_goals try (intro hb; (try simp only [hbs, reduceCtorEq] at hb); try exact ezX)) | ((with_reducible apply o_undef rfl); (case hb => exact ez0)))
    all_goals exact sw_flat rfl rfl rfl
end Go.Proofs.Ytkngdfbibffdcaa.Ce
namespace Go.Proofs.Ytkngdfbibffdcaa
open Go.ChangeShapes Go.WideShapes Go.ChangeAt Go.RowKit Go.Joins Go.Deep
section
variable {H : Type} {enc : TypeId × Value → H} {P : Program} {w : World} {base : Nat}
end
end Go.Proofs.Ytkngdfbibffdcaa
namespace Go.Proofs.Ytkngdfbibffdcaa
open Go.ChangeShapes Go.WideShapes Go.ChangeAt Go.RowKit Go.Joins Go.Deep
section
variable {H : Type} {enc : TypeId × Value → H} {P : Program} {w : World} {base : Nat}
end
end Go.Proofs.Ytkngdfbibffdcaa
namespace Go.Proofs.Ytkngdfbibffdcaa
open Go.ChangeShapes Go.WideShapes Go.ChangeAt Go.RowKit Go.Joins Go.Deep
section
variable {H : Type} {enc : TypeId × Value → H} {P : Program} {w : World} {base : Nat}
end
end Go.Proofs.Ytkngdfbibffdcaa
namespace Go.Proofs.Ytkngdfbibffdcaa
open Go.ChangeShapes Go.WideShapes Go.ChangeAt Go.RowKit Go.Joins Go.Deep
def iv (l : List Int) : List Value := l.map fun z => .int .i64 z
theorem iv_length (l : List Int) : (iv l).length = l.length := by simp [iv]
theorem rd_of_cells {w : World} {a : Addr} {vs : List Value} (h : ∀ i v, vs[i]? = some v → w.cell? (a.add i) = some v) : Rd w w.heap.size (some a) vs := by
  by_cases hx : vs = []
  · exact .inl hx
  · obtain ⟨b, off, spot⟩ := a
    obtain ⟨v0, hv0⟩ : ∃ v, vs[0]? = some v := by
      cases vs with
      | nil => exact absurd rfl hx
      | cons v _ => exact ⟨v, rfl⟩
    have hc0 := h 0 v0 hv0
    have hspot : spot = none := by simpa [Addr.add] using World.cell?_spot hc0
    subst hspot
    have hbl : b < w.heap.size := by
      have := World.block_lt_of_cell? w _ hc0
      rw [add_none] at this
      exact this
    exact .inr ⟨b, off, rfl, hbl, fun j v hj => by have := h j v hj; rwa [add_none] at this⟩
section
variable {H : Type} {enc : TypeId × Value → H} {P : Program} {w : World} {base : Nat}
end
end Go.Proofs.Ytkngdfbibffdcaa
namespace Go.Proofs.Ytkngdfbibffdcaa.Ce
open Go.RowKit
theorem calls_sp {P : Program} (hm : P.follows .mixedOrders = true) {W : FuncId → Bool} {k d : Nat} {g : FuncId} {args vs : List Value} {w : World} (ha : args.map (visV w.heap.size) = vs)
    (hs : Sp P (acall P W k d) w.heap.size g vs (absW w) w.heap.size fun v _ _ => v = .bool true) : Calls P g ⟨args⟩ w fun e w' => e = .returned (.bool true) ∧ Below w.heap.size w w' := by
  subst ha
  exact calls_in hm hs.1 hs.isTrue_
end Go.Proofs.Ytkngdfbibffdcaa.Ce
namespace Go.Proofs.Ytkngdfbibffdcaa
open Go.ChangeShapes Go.WideShapes Go.ChangeAt Go.RowKit Go.Joins Go.Deep
section
variable {H : Type} {enc : TypeId × Value → H} {P : Program} {w : World} {base : Nat}
end
end Go.Proofs.Ytkngdfbibffdcaa
namespace Go.Proofs.Ytkngdfbibffdcaa
open Go.ChangeShapes Go.WideShapes Go.ChangeAt Go.RowKit Go.Joins Go.Deep
theorem list_of {α : Type} {Q : Nat → α → Prop} : ∀ {m : Nat}, (∀ i, i < m → ∃ r, Q i r) → ∃ l : List α, l.length = m ∧ ∀ i (hi : i < l.length), Q i l[i]
  | 0, _ => ⟨[], rfl, fun i hi => by simp at hi⟩
  | n + 1, h => by
    obtain ⟨l, hl, hx⟩ := list_of fun i (hi : i < n) => h i (by omega)
    obtain ⟨r, hr⟩ := h n (by omega)
    refine ⟨l ++ [r], by simp [hl], fun i hi => ?_⟩
    by_cases hlt : i < l.length
    · rw [List.getElem_append_left hlt]; exact hx i hlt
    · have : i = l.length := by simp at hi; omega
      subst this
      rw [List.getElem_append_right (Nat.le_refl _)]
      simp only [Nat.sub_self, List.getElem_singleton, hl]
      exact hr
section
variable {H : Type} {enc : TypeId × Value → H} {P : Program} {w : World} {base : Nat}
theorem open_fields_cell {t e ts ti : TypeId} {f0 f1 : Field} {held : Bool} {fuel : Nat} {v : Value} {x : DataW H × List MemPlace} (ht : P.underlying t = some (.slice e)) (he : P.underlying e = some (.struct #[f0, f1]))
    (ce : P.cellsOf e = 2) (o0 : f0.offset = 0) (o1 : f1.offset = 1) (c0 : P.cellsOf f0.type = 1) (c1 : P.cellsOf f1.type = 1) (h0 : f0.type = ts) (h1 : f1.type = ti) (hs : P.underlying ts = some .string) (hi : P.underlying ti = some (.int .i64))
    (h : DataW.trod enc P w base (fun _ => true) held fuel t [v] = some x) :
    ∃ (A : Option Addr) (fs : List (List UInt8 × Int)) (c : Nat), v = .slice A fs.length c ∧ Rd w w.heap.size A (Ce.fv fs) ∧ fs.length ≤ c ∧ c ≤ 9223372036854775807 ∧ (A = none → c = 0) ∧ ∀ f ∈ fs, Ce.I64 f.2 := by
  rcases open_slice_pairs ht he ce o0 o1 c0 c1 h with ⟨hcs, _⟩ | ⟨a, len, cap, m, n, V0, V1, D0, D1, P0, P1, hcs, _, hl, hmx, hmm, _, hx⟩
  · injection hcs with hcs _
    exact ⟨none, [], 0, hcs, Rd.nil_, by simp, by omega, fun _ => rfl, by simp⟩
  · injection hcs with hcs _
    simp at hmm
    obtain ⟨fs, hfl, hfx⟩ := list_of (m := len) (Q := fun i (f : List UInt8 × Int) => w.cell? (a.add (i * 2)) = some (.string ⟨⟨f.1⟩⟩) ∧ w.cell? (a.add (i * 2 + 1)) = some (.int .i64 f.2) ∧ Ce.I64 f.2) fun i hi' => by
      obtain ⟨k0, k1, t0, t1⟩ := hx i (by omega)
      rw [h0] at t0
      rw [h1] at t1
      obtain ⟨s, e0, _, _⟩ := DataW.trod_string hs t0
      obtain ⟨b, e1, _, wb⟩ := DataW.trod_int hi t1
      injection e0 with e0 _
      injection e1 with e1 _
      exact ⟨(s.data.toList, b), by rw [k0, e0], by rw [k1, e1], bounds_i64 wb⟩
    refine ⟨some a, fs, cap, by rw [hfl, hcs], rd_of_cells fun q v hq => ?_, by omega, by unfold maxLen at hmx; omega, fun hh => (by cases hh), fun f hf => ?_⟩
    · have hql : q < fs.length * 2 := by
        rcases Nat.lt_or_ge q (fs.length * 2) with hlt | hge
        · exact hlt
        · rw [List.getElem?_eq_none (by rw [Ce.fv_length]; exact hge)] at hq; cases hq
      obtain ⟨i, j, hj, rfl⟩ : ∃ i j, j < 2 ∧ q = i * 2 + j := ⟨q / 2, q % 2, by omega, by omega⟩
      have hil : i < fs.length := by omega
      obtain ⟨k0, k1, _⟩ := hfx i hil
      unfold Ce.fv at hq
      rw [Ce.rows_get Ce.fcell Ce.fcell_length hil hj] at hq
      match j, hj with
      | 0, _ =>
        injection hq with hq
        rw [← hq]
        exact k0
      | 1, _ =>
        injection hq with hq
        rw [← hq]
        exact k1
    · obtain ⟨i, hi', rfl⟩ := List.getElem_of_mem hf
      exact (hfx i hi').2.2
def TpW (w : World) (t : Ce.Tp) : Prop := Rd w w.heap.size t.A (Ce.fv t.fs) ∧ t.fs.length ≤ t.c ∧ t.c ≤ 9223372036854775807 ∧ (t.A = none → t.c = 0) ∧ Ce.TpOk t
theorem open_types {r : Reach} {b0 : Nat} {t e tk ti tf ef ts : TypeId} {g0 g1 g2 g3 f0 f1 : Field} {v : Value} {d : DataW H} {p : List MemPlace} (ht : P.underlying t = some (.slice e)) (he : P.underlying e = some (.struct #[g0, g1, g2, g3]))
    (ce : P.cellsOf e = 4) (o0 : g0.offset = 0) (o1 : g1.offset = 1) (o2 : g2.offset = 2) (o3 : g3.offset = 3) (c0 : P.cellsOf g0.type = 1) (c1 : P.cellsOf g1.type = 1) (c2 : P.cellsOf g2.type = 1) (c3 : P.cellsOf g3.type = 1)
    (h0 : g0.type = tk) (h1 : g1.type = ti) (h2 : g2.type = ti) (h3 : g3.type = tf) (hk : P.underlying tk = some (.int .u8)) (hi : P.underlying ti = some (.int .i64))
    (hf : P.underlying tf = some (.slice ef)) (hef : P.underlying ef = some (.struct #[f0, f1])) (cef : P.cellsOf ef = 2) (of0 : f0.offset = 0) (of1 : f1.offset = 1) (cf0 : P.cellsOf f0.type = 1) (cf1 : P.cellsOf f1.type = 1) (hf0 : f0.type = ts) (hf1 : f1.type = ti) (hs : P.underlying ts = some .string)
    (hv : Value.okWide P w r b0 t v) (h : DataW.Trod enc P w base (fun _ => true) true t v d p) :
    ∃ (A : Option Addr) (T : List Ce.Tp) (c : Nat), v = .slice A T.length c ∧ Rd w w.heap.size A (Ce.tv T) ∧ T.length ≤ c ∧ c ≤ 9223372036854775807 ∧ (A = none → c = 0) ∧ ∀ x ∈ T, TpW w x := by
  obtain ⟨a, len, cap, rfl⟩ := okWide_slice ht hv
  obtain ⟨fuel, hm⟩ := h
  rcases open_slice ht hm with ⟨hcs, _⟩ | ⟨a, len, cap, m, n, D, Pl, hcs, hb, hl, hmx, hmm, _, hx⟩
  · injection hcs with hcs _
    exact ⟨none, [], 0, hcs, Rd.nil_, by simp, by omega, fun _ => rfl, by simp⟩
  · injection hcs with hcs _
    simp at hmm
    obtain ⟨T, hTl, hTx⟩ := list_of (m := len) (Q := fun i (x : Ce.Tp) => (∀ j v, x.v[j]? = some v → w.cell? (a.add (i * 4 + j)) = some v) ∧ TpW w x) fun i hi' => by
      obtain ⟨cs', e1, e2⟩ := hx i (by omega)
      rw [ce] at e1
      obtain ⟨_, hlen, hcell⟩ := World.cells?_some e1
      obtain ⟨xs, k, hk', hxy, _, hxl, hg⟩ := DataW.trod_struct he e2
      match xs, hxl, cs', hlen with
      | [y0, y1, y2, y3], _, [v0, v1, v2, v3], _ =>
        have q0 := hg 0 g0 rfl
        have q1 := hg 1 g1 rfl
        have q2 := hg 2 g2 rfl
        have q3 := hg 3 g3 rfl
        simp [o0, c0] at q0
        simp [o1, c1] at q1
        simp [o2, c2] at q2
        simp [o3, c3] at q3
        rw [h0] at q0
        rw [h1] at q1
        rw [h2] at q2
        rw [h3] at q3
        obtain ⟨kd, z0, _, w0⟩ := DataW.trod_int hk q0
        obtain ⟨el, z1, _, w1⟩ := DataW.trod_int hi q1
        obtain ⟨ln, z2, _, w2⟩ := DataW.trod_int hi q2
        obtain ⟨A, fs, c, z3, r1, r2, r3, r4, r5⟩ := open_fields_cell hf hef cef of0 of1 cf0 cf1 hf0 hf1 hs hi q3
        injection z0 with z0 _
        injection z1 with z1 _
        injection z2 with z2 _
        have b0 := bounds_u8 w0
        refine ⟨⟨kd, el, ln, fs, A, c⟩, fun j v hj => ?_, r1, r2, r3, r4, ⟨by show 0 ≤ kd ∧ kd < 256; omega, bounds_i64 w1, bounds_i64 w2, r5⟩⟩
        have hj4 : j < 4 := (List.getElem?_eq_some_iff.1 hj).1
        have e := hcell j hj4
        rw [add_add] at e
        rw [e, ← hj, z0, z1, z2, z3]
        rfl
    refine ⟨some a, T, cap, by rw [hTl, hcs], rd_of_cells fun q v hq => ?_, by omega, by unfold maxLen at hmx; omega, fun hh => (by cases hh), fun x hx' => ?_⟩
    · have hql : q < T.length * 4 := by
        rcases Nat.lt_or_ge q (T.length * 4) with hlt | hge
        · exact hlt
        · rw [List.getElem?_eq_none (by rw [Ce.tv_length]; exact hge)] at hq; cases hq
      obtain ⟨i, j, hj, rfl⟩ : ∃ i j, j < 4 ∧ q = i * 4 + j := ⟨q / 4, q % 4, by omega, by omega⟩
      have hil : i < T.length := by omega
      unfold Ce.tv at hq
      rw [Ce.rows_get Ce.Tp.v Ce.Tp.v_length hil hj] at hq
      exact (hTx i hil).1 j v hq
    · obtain ⟨i, hi', rfl⟩ := List.getElem_of_mem hx'
      exact (hTx i hi').2
end
namespace Ce
theorem fv_vis (B : Nat) (fs : List (List UInt8 × Int)) : (fv fs).map (vis B) = fv fs := by
  unfold fv
  rw [List.map_flatMap]
  congr 1
theorem fields_here {w : World} {A : Option Addr} {c : Nat} {fs : List (List UInt8 × Int)} (h : Rd w w.heap.size A (fv fs)) (hc : fs.length ≤ c) (hm : c ≤ 9223372036854775807) (h0 : A = none → c = 0) :
    ∃ A' c', vis w.heap.size (.slice A fs.length c) = .slice A' fs.length c' ∧ RdH (absW w) w.heap.size A' (fv fs) ∧ (A' = none → c' = 0) := by
  obtain ⟨A', c', h1, h2, _, h3, _⟩ := rd_here h (fun hh => by have := fv_length fs; rw [hh] at this; simp at this; omega) hc hm h0
  rw [fv_vis] at h2
  exact ⟨A', c', h1, h2, h3⟩
theorem types_vis {w : World} : ∀ T : List Tp, (∀ t ∈ T, TpW w t) → ∃ T' : List Tp, T'.length = T.length ∧ (tv T).map (vis w.heap.size) = tv T' ∧ ∀ t ∈ T', RdH (absW w) w.heap.size t.A (fv t.fs) ∧ (t.A = none → t.c = 0) ∧ TpOk t ∧ t.fs.length ≤ 9223372036854775807
  | [], _ => ⟨[], rfl, rfl, by simp⟩
  | t :: T, h => by
    obtain ⟨T', i1, i2, i3⟩ := types_vis T fun x hx => h x (List.mem_cons_of_mem _ hx)
    obtain ⟨t1, t2, t3, t4, t5⟩ := h t List.mem_cons_self
    obtain ⟨A', c', e1, e2, e3⟩ := fields_here t1 t2 t3 t4
    refine ⟨⟨t.kd, t.el, t.ln, t.fs, A', c'⟩ :: T', by simp [i1], ?_, fun x hx => ?_⟩
    · unfold tv at i2 ⊢
      rw [List.flatMap_cons, List.flatMap_cons, List.map_append, i2]
      congr 1
      unfold Tp.v
      simp only [List.map_cons, List.map_nil, e1]
      rfl
    · rcases List.mem_cons.1 hx with rfl | hx
      · exact ⟨e2, e3, t5, by show t.fs.length ≤ _; omega⟩
      · exact i3 x hx
theorem types_here {w : World} {A : Option Addr} {c : Nat} {T : List Tp} (h : Rd w w.heap.size A (tv T)) (hc : T.length ≤ c) (hm : c ≤ 9223372036854775807) (h0 : A = none → c = 0) (ht : ∀ t ∈ T, TpW w t) :
    ∃ A' c' T', vis w.heap.size (.slice A T.length c) = .slice A' (List.length T') c' ∧ TabH (absW w) w.heap.size A' T' ∧ (A' = none → c' = 0) ∧ T'.length ≤ 9223372036854775807 ∧ ∀ t ∈ T', t.fs.length ≤ 9223372036854775807 := by
  obtain ⟨A', c', h1, h2, _, h3, _⟩ := rd_here h (fun hh => by have := tv_length T; rw [hh] at this; simp at this; omega) hc hm h0
  obtain ⟨T', i1, i2, i3⟩ := types_vis T ht
  rw [i2] at h2
  exact ⟨A', c', T', by rw [i1]; exact h1, ⟨h2, fun t ht => (i3 t ht).1, fun t ht => (i3 t ht).2.1, fun t ht => (i3 t ht).2.2.1⟩, h3, by omega, fun t ht => (i3 t ht).2.2.2⟩
end Ce
end Go.Proofs.Ytkngdfbibffdcaa
namespace Go.Proofs.Ytkngdfbibffdcaa
open Go.ChangeShapes Go.WideShapes Go.ChangeAt Go.RowKit Go.Joins Go.Deep
section
variable {H : Type} {enc : TypeId × Value → H} {P : Program} {w : World} {base : Nat}
theorem open_texts {r : Reach} {b0 : Nat} {t e : TypeId} {v : Value} {d : DataW H} {p : List MemPlace} (ht : P.underlying t = some (.slice e)) (he : P.underlying e = some .string) (hc : P.cellsOf e = 1)
    (hv : Value.okWide P w r b0 t v) (h : DataW.Trod enc P w base (fun _ => true) true t v d p) :
    ∃ (A : Option Addr) (ts : List (List UInt8)) (c : Nat), v = .slice A ts.length c ∧ Rd w w.heap.size A (Ce.xv ts) ∧ ts.length ≤ c ∧ c ≤ 9223372036854775807 ∧ (A = none → c = 0) := by
  obtain ⟨a, len, cap, rfl⟩ := okWide_slice ht hv
  obtain ⟨m, hm⟩ := h
  rcases open_strings ht he hc hm with ⟨hcs, _⟩ | ⟨a, len, cap, zs, hcs, _, hl, hm, hz, _, hcell, hwz⟩
  · injection hcs with hcs _
    exact ⟨none, [], 0, hcs, Rd.nil_, by simp, by omega, fun _ => rfl⟩
  · injection hcs with hcs _
    simp at hz
    have hzl : ((zs.take len).map fun s => s.data.toList).length = len := by simp; omega
    refine ⟨some a, (zs.take len).map fun s => s.data.toList, cap, by rw [hzl, hcs], rd_of_cells fun j v hj => ?_, by rw [hzl]; exact hl, by unfold maxLen at hm; omega, fun hh => by cases hh⟩
    have hjl : j < len := by
      rcases Nat.lt_or_ge j len with hlt | hge
      · exact hlt
      · rw [List.getElem?_eq_none (by rw [Ce.xv_length, hzl]; exact hge)] at hj; cases hj
    have hjz : j < zs.length := by omega
    rw [hcell j hjz]
    simp only [Ce.xv, List.getElem?_map, List.getElem?_take, hjl, if_true, List.getElem?_eq_getElem hjz, Option.map_some] at hj
    rw [← hj]
    simp only [List.getD, List.getElem?_eq_getElem hjz, Option.getD_some]
end
namespace Ce
theorem xv_vis (B : Nat) (ts : List (List UInt8)) : (xv ts).map (vis B) = xv ts := by
  unfold xv
  rw [List.map_map]
  apply List.map_congr_left
  intro x _
  exact vis_flat rfl
theorem texts_here {w : World} {A : Option Addr} {c : Nat} {ts : List (List UInt8)} (h : Rd w w.heap.size A (xv ts)) (hc : ts.length ≤ c) (hm : c ≤ 9223372036854775807) (h0 : A = none → c = 0) :
    ∃ A' c', vis w.heap.size (.slice A ts.length c) = .slice A' ts.length c' ∧ RdH (absW w) w.heap.size A' (xv ts) ∧ (A' = none → c' = 0) := by
  obtain ⟨A', c', h1, h2, _, h3, _⟩ := rd_here h (fun hh => by rw [← xv_length, hh]; rfl) hc hm h0
  rw [xv_vis] at h2
  exact ⟨A', c', h1, h2, h3⟩
end Ce
end Go.Proofs.Ytkngdfbibffdcaa
