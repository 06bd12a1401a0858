/- Parts of the proof of TopCode: Zl, Zm, Lp, Ks. No condition of its own. -/
import Derived.Test.YtkngdfbibffdcaaTal
import Derived.Test.YtkngdfbibffdcaaTam
import Derived.Test.YtkngdfbibffdcaaTap
set_option linter.unusedVariables false
set_option linter.unusedSimpArgs false
set_option maxRecDepth 100000
set_option maxHeartbeats 4000000
namespace Go.Proofs.Ytkngdfbibffdcaa.Ce
open Go.RowKit
theorem tab_over : over tabV (List.replicate 256 (Value.int .u32 0)) = some tabV := by
  rw [over_of (by rw [tabV_len, List.length_replicate]; omega), List.drop_of_length_le (by rw [tabV_len, List.length_replicate]; omega), List.append_nil]
theorem tab_take : ltake 256 tabV = some tabV := by rw [ltake_of (by rw [tabV_len]; omega), List.take_of_length_le (by rw [tabV_len]; omega)]
theorem b_beqlx (a b : Bool) (h : Hp) (n : Nat) : mBin Try.prog .eql 4 (.bool a) (.bool b) h n = some ⟨.bool (a == b), h, n, [], []⟩ := by cases a <;> cases b <;> rfl
variable (k d cl : Nat) (h : Hp) (n : Nat)
theorem said_nil (hk : 30000 ≤ k) (A : Option Addr) (c : Nat) (by8 : UInt8) (hrA : RdH h n A (xv [])) : SQ k (d + 6) cl 7 [.slice A 0 c, .int .u8 by8.toNat] h n fun v h' n' => v = .bool true ∧ h = h' ∧ n = n' := by
  have q1 := fun (h6 : Hp) (n6 : Nat) (hr6 : RdH h6 n6 A (xv [])) => (list_ev k (d + 3) n h6 n6 hk A [] c hr6 (by decide) (fun s hs => by cases hs)).mono (Φ' := fun v h' n' => v = .tuple ⟨[.string ⟨⟨listB []⟩⟩, .int .i64 0]⟩ ∧ h6 = h' ∧ n6 = n') fun _ _ _ hp => ⟨hp.1, hp.2.1.symm, hp.2.2.symm⟩
  have q1 : ∀ (h6 : Hp) (n6 : Nat), RdH h6 n6 A (xv []) → SQ k (d + 5) n 15 [.slice A 0 c] h6 n6 fun v h' n' => v = .tuple ⟨[.string ⟨⟨listB []⟩⟩, .int .i64 0]⟩ ∧ h6 = h' ∧ n6 = n' := q1
  have q2 := fun (h6 : Hp) (n6 : Nat) => (unlist_ev k d n h6 n6 hk [] (by decide) (fun s hs => by cases hs)).mono (Φ' := fun v h' n' => v = .tuple ⟨[.slice none 0 0, .int .i64 0]⟩ ∧ h6 = h' ∧ n6 = n') fun _ _ _ hp => by
    rcases hp with ⟨-, e1, e2, e3⟩ | ⟨e0, -⟩
    · exact ⟨e1, e2.symm, e3.symm⟩
    · exact absurd e0 (by decide)
  have q3 := fun (h6 : Hp) (n6 : Nat) => (table_ev k (d + 3) n h6 n6 hk).mono (Φ' := fun v h' n' => v = .agg ⟨tabV⟩ ∧ h6 = h' ∧ n6 = n') fun _ _ _ hp => ⟨hp.1, hp.2.1.symm, hp.2.2.symm⟩
  have q4 := fun (h6 : Hp) (n6 : Nat) => (sum_ev k d n h6 n6 hk none [] 0 RdH.nil (by decide)).mono (Φ' := fun v h' n' => v = .tuple ⟨[.int .u32 ((sumC [] : Nat) : Int), .int .i64 0]⟩ ∧ h6 = h' ∧ n6 = n') fun _ _ _ hp => ⟨hp.1, hp.2.1.symm, hp.2.2.symm⟩
  have q4 : ∀ (h6 : Hp) (n6 : Nat), SQ k (d + 5) n 12 [.agg ⟨tabV⟩, .slice none 0 0] h6 n6 fun v h' n' => v = .tuple ⟨[.int .u32 ((sumC [] : Nat) : Int), .int .i64 0]⟩ ∧ h6 = h' ∧ n6 = n' := q4
  have q5 := fun (h6 : Hp) (n6 : Nat) => (pieces_ev k (d + 1) n h6 n6 hk none [] 0 ⟨RdH.nil, fun p hp => by cases hp⟩ (by decide) (by decide)).mono (Φ' := fun v h' n' => v = .tuple ⟨[.int .u32 ((sumC [] : Nat) : Int), .int .i64 0]⟩ ∧ h6 = h' ∧ n6 = n') fun _ _ _ hp => ⟨hp.1, hp.2.1.symm, hp.2.2.symm⟩
  have q5 : ∀ (h6 : Hp) (n6 : Nat), SQ k (d + 5) n 18 [.agg ⟨tabV⟩, .slice none 0 0] h6 n6 fun v h' n' => v = .tuple ⟨[.int .u32 ((sumC [] : Nat) : Int), .int .i64 0]⟩ ∧ h6 = h' ∧ n6 = n' := q5
  have hX := sumC_lt []
  obtain ⟨X, hXe⟩ : ∃ X, sumC [] = X := ⟨_, rfl⟩
  rw [hXe] at hX
  simp only [hXe] at q4 q5
  have q6 := fun (h6 : Hp) (n6 : Nat) => (hex_ev k (d + 3) n h6 n6 hk X (by omega)).mono (Φ' := fun v h' n' => ∃ j, HexJ X j ∧ v = .string ⟨⟨48 :: 120 :: hexS X j⟩⟩ ∧ h6 = h' ∧ n6 = n') fun _ _ _ ⟨j, hj, e1, e2, e3⟩ => ⟨j, hj, e1, e2.symm, e3.symm⟩
  have q7 := fun (j : Nat) (hj : HexJ X j) (h6 : Hp) (n6 : Nat) => (unhex_ev k (d + 1) n h6 n6 hk X (by omega) j hj).mono (Φ' := fun v h' n' => v = .tuple ⟨[.int .u64 (X : Int), .int .i64 0]⟩ ∧ h6 = h' ∧ n6 = n') fun _ _ _ hp => ⟨hp.1, hp.2.1.symm, hp.2.2.symm⟩
  have q8 := fun (h6 : Hp) (n6 : Nat) => new_ev k (d + 4) n h6 n6 hk none [] 0 RdH.nil (fun _ => rfl) (by decide)
  have q8 : ∀ (h6 : Hp) (n6 : Nat), SQ k (d + 5) n 20 [.slice none 0 0] h6 n6 fun v h' n' => v = .tuple ⟨[.agg ⟨[.slice (some ⟨n6, 0, none⟩) 0 0, .int .i64 0]⟩, .int .i64 0]⟩ ∧ h6.set n6 (.row 5 false (bv [])) = h' ∧ n6 + 1 = n' := q8
  have q9 := fun (h6 : Hp) (n6 id : Nat) => left_ev k (d + 3) n h6 n6 hk id 0 0 (by omega) (by omega)
  have q9 : ∀ (h6 : Hp) (n6 id : Nat), SQ k (d + 5) n 22 [.agg ⟨[.slice (some ⟨id, 0, none⟩) 0 0, .int .i64 0]⟩] h6 n6 fun v h' n' => v = .tuple ⟨[.int .i64 0, .int .i64 0]⟩ ∧ h6 = h' ∧ n6 = n' := q9
  have hw := wrap_u64 (x := (X : Int)) (by omega) (by omega)
  have hvl := tabV_len
  have hvc := tabV_cok
  have hto := tab_over
  have htt := tab_take
  obtain ⟨TV, hTV⟩ : ∃ TV, tabV = TV := ⟨_, rfl⟩
  rw [hTV] at hvl hvc hto htt
  simp only [hTV] at q3 q4 q5
  obtain ⟨Z, hZ⟩ : ∃ Z, List.replicate 256 (Value.int .u32 0) = Z := ⟨_, rfl⟩
  rw [hZ] at hto
  refine enter Try.func7 (by kernel_rfl) rfl (by kernel_rfl) rfl rfl rfl ?_
  (repeat' first | refine zcd ?_ | intro K' hK | (with_reducible refine zn hK ?_; clear hK) | (with_reducible refine x_turns ?_) | (with_reducible refine x_turn (by omega) ?_) | (with_reducible refine k_turn ?_) | ((with_reducible apply o_callF (g := 15) w_none); (case ha => exact ez0); (case hs => ((with_reducible apply q1); exact hrA)); (case' hk => rintro _ h' n' ⟨rfl, rfl, rfl⟩)) | ((with_reducible apply o_callF (g := 16) w_none); (case ha => exact ez0); (case hs => (exact q2 _ _)); (case' hk => rintro _ h' n' ⟨rfl, rfl, rfl⟩)) | ((with_reducible apply o_callF (g := 13) w_none); (case ha => exact ez0); (case hs => (exact q3 _ _)); (case' hk => rintro _ h' n' ⟨rfl, rfl, rfl⟩)) | ((with_reducible apply o_callF (g := 12) w_none); (case ha => exact ez0); (case hs => (exact q4 _ _)); (case' hk => rintro _ h' n' ⟨rfl, rfl, rfl⟩)) | ((with_reducible apply o_callF (g := 18) w_none); (case ha => exact ez0); (case hs => (exact q5 _ _)); (case' hk => rintro _ h' n' ⟨rfl, rfl, rfl⟩)) | ((with_reducible apply o_callF (g := 14) w_none); (case ha => exact ez0); (case hs => (exact q6 _ _)); (case' hk => rintro _ h' n' ⟨j, hj, rfl, rfl, rfl⟩)) | ((with_reducible apply o_callF (g := 19) w_none); (case ha => exact ez0); (case hs => (exact q7 _ (by assumption) _ _)); (case' hk => rintro _ h' n' ⟨rfl, rfl, rfl⟩)) | ((with_reducible apply o_callF (g := 20) w_none); (case ha => exact ez0); (case hs => (exact q8 _ _)); (case' hk => rintro _ h' n' ⟨rfl, rfl, rfl⟩)) | ((with_reducible apply o_callF (g := 22) w_none); (case ha => exact ez0); (case hs => (exact q9 _ _ _)); (case' hk => rintro _ h' n' ⟨rfl, rfl, rfl⟩)) | ((with_reducible first | apply zo1 | apply zo2 | apply o_guard rfl | apply x_cond | apply k_e1 rfl | apply k_e2 rfl | apply k_e0 rfl | apply k_e3 rfl | apply k_e4 rfl); (case he => exact ez6 hZ hw hvl hvc hto htt); (try case hok => exact ezO); all_goals try (intro hb; (try simp only [hbs, reduceCtorEq] at hb); try exact ezX)) | ((with_reducible apply o_undef rfl); (case hb => exact ez0)))
  all_goals exact sw_flat rfl rfl ⟨rfl, rfl, rfl⟩
end Go.Proofs.Ytkngdfbibffdcaa.Ce
namespace Go.Proofs.Ytkngdfbibffdcaa.Ce
open Go.RowKit
def allW (l : List (List UInt8)) : List UInt8 := l.flatMap txtW
theorem allW_snoc (l : List (List UInt8)) (s : List UInt8) : allW (l ++ [s]) = allW l ++ txtW s := by simp [allW]
theorem allW_at (l : List (List UInt8)) (i : Nat) (hi : i < l.length) : allW l = allW (l.take i) ++ txtW l[i] ++ allW (l.drop (i + 1)) := by
  have e : l = l.take i ++ l[i] :: l.drop (i + 1) := by rw [← List.drop_eq_getElem_cons hi, List.take_append_drop]
  have e2 := congrArg allW e
  rw [e2]
  simp only [allW, List.flatMap_append, List.flatMap_cons, List.append_assoc]
theorem allW_len {l : List (List UInt8)} (h : ∀ s ∈ l, s.length ≤ 100) : (allW l).length ≤ 101 * l.length := by
  induction l with
  | nil => exact Nat.le_refl _
  | cons s l ih =>
    have h1 := ih fun s hs => h s (by simp [hs])
    have h2 := h s (by simp)
    have e : allW (s :: l) = txtW s ++ allW l := rfl
    rw [e, List.length_append, List.length_cons]
    have e2 : (txtW s).length = s.length + 1 := rfl
    omega
def Pcs (h : Hp) (N n ia : Nat) (ps : List Pc) : Prop := ∀ p ∈ ps, N ≤ p.id ∧ p.id < n ∧ p.id ≠ ia ∧ rowOf h p.id = some (5, false, bv p.b)
def St1 (L : List (List UInt8)) (h0 : Hp) (N : Nat) (wa wp : Value) (h' : Hp) (n' : Nat) : Prop :=
  N ≤ n' ∧ (∀ b, b < N → h'.get b = h0.get b) ∧ ∃ ps : List Pc, joinP ps = allW L ∧ ps.length = L.length ∧
    ((L = [] ∧ wa = .slice none 0 0 ∧ wp = .slice none 0 0) ∨ (0 < L.length ∧ ∃ ia ip, wa = .slice (some ⟨ia, 0, none⟩) (allW L).length (allW L).length ∧ wp = .slice (some ⟨ip, 0, none⟩) L.length L.length ∧ N ≤ ia ∧ ia < n' ∧ N ≤ ip ∧ ip < n' ∧ rowOf h' ia = some (5, false, bv (allW L)) ∧ rowOf h' ip = some (39, false, ps.map Pc.v) ∧ Pcs h' N n' ia ps))
theorem st_first {h0 h1 : Hp} {N n1 : Nat} (s : List UInt8) (hN : N ≤ n1) (hk : ∀ b, b < N → h1.get b = h0.get b) :
    St1 [s] h0 N (.slice (some ⟨n1 + 1, 0, none⟩) (txtW s).length (txtW s).length) (.slice (some ⟨n1 + 1 + 1 + 1, 0, none⟩) 1 1) ((((h1.set n1 (.row 5 false (bv (txtW s)))).set (n1 + 1) (.row 5 false (bv (txtW s)))).set (n1 + 1 + 1) (.row 39 false [.slice (some ⟨n1, 0, none⟩) (txtW s).length (txtW s).length])).set (n1 + 1 + 1 + 1) (.row 39 false [.slice (some ⟨n1, 0, none⟩) (txtW s).length (txtW s).length])) (n1 + 1 + 1 + 1 + 1) := by
  have e : allW [s] = txtW s := by simp [allW]
  refine ⟨by omega, fun b hb => by rw [Hp.get_ne _ _ (by omega), Hp.get_ne _ _ (by omega), Hp.get_ne _ _ (by omega), Hp.get_ne _ _ (by omega)]; exact hk b hb, [⟨n1, txtW s⟩], by simp [joinP, allW], rfl, .inr ⟨by simp, n1 + 1, n1 + 1 + 1 + 1, by rw [e], rfl, by omega, by omega, by omega, by omega, ?_, ?_, ?_⟩⟩
  · rw [rowOf_ne _ _ (by omega), rowOf_ne _ _ (by omega), rowOf_same, e]
  · rw [rowOf_same]
    rfl
  · intro p hp
    obtain rfl := List.mem_singleton.1 hp
    refine ⟨hN, by show n1 < _; omega, by show n1 ≠ _; omega, ?_⟩
    show rowOf _ n1 = _
    rw [rowOf_ne _ _ (by omega), rowOf_ne _ _ (by omega), rowOf_ne _ _ (by omega), rowOf_same]
theorem st_next {L : List (List UInt8)} {h0 h1 : Hp} {N n1 ia ip : Nat} {ps : List Pc} (s : List UInt8) (hN : N ≤ n1) (hk : ∀ b, b < N → h1.get b = h0.get b) (hj : joinP ps = allW L) (hl : ps.length = L.length) (i1 : N ≤ ia) (i2 : ia < n1) (i3 : N ≤ ip) (i4 : ip < n1) (hra : rowOf h1 ia = some (5, false, bv (allW L))) (hrp : rowOf h1 ip = some (39, false, ps.map Pc.v)) (hps : Pcs h1 N n1 ia ps) :
    St1 (L ++ [s]) h0 N (.slice (some ⟨n1 + 1, 0, none⟩) ((allW L).length + (txtW s).length) ((allW L).length + (txtW s).length)) (.slice (some ⟨n1 + 1 + 1 + 1, 0, none⟩) (L.length + 1) (L.length + 1)) (((((((h1.set n1 (.row 5 false (bv (txtW s)))).set ia none).set (n1 + 1) (.row 5 false ((bv (allW L)).take ((allW L).length * 1) ++ bv (txtW s))))).set (n1 + 1 + 1) (.row 39 false [.slice (some ⟨n1, 0, none⟩) (txtW s).length (txtW s).length])).set ip none).set (n1 + 1 + 1 + 1) (.row 39 false ((ps.map Pc.v).take (L.length * 1) ++ [.slice (some ⟨n1, 0, none⟩) (txtW s).length (txtW s).length]))) (n1 + 1 + 1 + 1 + 1) := by
  have hne : ia ≠ ip := fun e => by rw [e, hrp] at hra; injection hra with hra; injection hra with h1 _; exact absurd h1 (by decide)
  refine ⟨by omega, fun b hb => ?_, ps ++ [⟨n1, txtW s⟩], by rw [allW_snoc, ← hj]; simp [joinP], by rw [List.length_append, List.length_append, hl]; rfl, .inr ⟨by rw [List.length_append]; simp, n1 + 1, n1 + 1 + 1 + 1, by rw [allW_snoc, List.length_append], by rw [List.length_append]; rfl, by omega, by omega, by omega, by omega, ?_, ?_, ?_⟩⟩
  · rw [Hp.get_ne _ _ (by omega), Hp.get_ne _ _ (by omega), Hp.get_ne _ _ (by omega), Hp.get_ne _ _ (by omega), Hp.get_ne _ _ (by omega), Hp.get_ne _ _ (by omega)]
    exact hk b hb
  · rw [rowOf_ne _ _ (by omega), rowOf_ne _ _ (by omega), rowOf_ne _ _ (by omega), rowOf_same, bv_take, allW_snoc, bv_ap2]
  · rw [rowOf_same, List.take_of_length_le (by rw [List.length_map]; omega), List.map_append]
    rfl
  · intro p hp
    rcases List.mem_append.1 hp with hp | hp
    · obtain ⟨a1, a2, a3, a4⟩ := hps p hp
      have hnp : p.id ≠ ip := fun e => by rw [e, hrp] at a4; injection a4 with a4; injection a4 with h1 _; exact absurd h1 (by decide)
      refine ⟨a1, by omega, by omega, ?_⟩
      rw [rowOf_ne _ _ (by omega), rowOf_ne _ _ hnp, rowOf_ne _ _ (by omega), rowOf_ne _ _ (by omega), rowOf_ne _ _ a3, rowOf_ne _ _ (by omega)]
      exact a4
    · obtain rfl := List.mem_singleton.1 hp
      refine ⟨hN, by show n1 < _; omega, by show n1 ≠ _; omega, ?_⟩
      show rowOf _ n1 = _
      rw [rowOf_ne _ _ (by omega), rowOf_ne _ _ (by omega), rowOf_ne _ _ (by omega), rowOf_ne _ _ (by omega), rowOf_ne _ _ (by omega), rowOf_same]
theorem b_half {t : TypeId} {L : Nat} (hL : L ≤ 1000000) (h : Hp) (n : Nat) : mBin Try.prog .quo t (.int .i64 (L : Int)) (.int .i64 2) h n = some ⟨.int .i64 ((L / 2 : Nat) : Int), h, n, [], []⟩ := by
  rw [b_quo (by decide)]
  have e : (L : Int).tdiv 2 = ((L / 2 : Nat) : Int) := rfl
  rw [e, wrap_i64 (by omega) (by omega)]
variable (k d cl : Nat) (h : Hp) (n : Nat)
theorem said_cons (hk : 30000 ≤ k) (A : Option Addr) (l : List (List UInt8)) (c : Nat) (by8 : UInt8) (hr : RdH h n A (xv l)) (hl0 : 0 < l.length) (hl : l.length ≤ 20) (hs : ∀ s ∈ l, s.length ≤ 100) : SQ k (d + 6) cl 7 [.slice A l.length c, .int .u8 by8.toNat] h n fun v h' n' => v = .bool true ∧ h = h' ∧ n = n' := by
  have q1 := fun (h6 : Hp) (n6 : Nat) (hr6 : RdH h6 n6 A (xv l)) => (list_ev k (d + 3) n h6 n6 hk A l c hr6 hl hs).mono (Φ' := fun v h' n' => v = .tuple ⟨[.string ⟨⟨listB l⟩⟩, .int .i64 0]⟩ ∧ h6 = h' ∧ n6 = n') fun _ _ _ hp => ⟨hp.1, hp.2.1.symm, hp.2.2.symm⟩
  have q2 := fun (h6 : Hp) (n6 : Nat) => (unlist_ev k d n h6 n6 hk l hl hs).mono (Φ' := fun v h' n' => v = .tuple ⟨[.slice (some ⟨n6, 0, none⟩) l.length l.length, .int .i64 0]⟩ ∧ h6.set n6 (.row 9 false (xv l)) = h' ∧ n6 + 1 = n') fun _ _ _ hp => by
    rcases hp with ⟨e0, -⟩ | ⟨-, e1, e2, e3⟩
    · rw [e0] at hl0; exact absurd hl0 (by decide)
    · exact ⟨e1, e2.symm, e3.symm⟩
  obtain ⟨ll, hll⟩ : ∃ ll, l.length = ll := ⟨_, rfl⟩
  rw [hll] at hl hl0 ⊢
  simp only [hll] at q1 q2
  have hWl := allW_len hs
  rw [hll] at hWl
  obtain ⟨h0, hh0⟩ : ∃ h0, h.set n (.row 9 false (xv l)) = h0 := ⟨_, rfl⟩
  have hr0 : RdH h0 (n + 1) A (xv l) := by rw [← hh0]; exact (hr.set (Nat.le_refl _) _).more (by omega)
  have hb0 : rowOf h0 n = some (9, false, xv l) := by rw [← hh0]; exact rowOf_same _ _ _ _ _
  have q2 : ∀ S : List UInt8, listB l = S → SQ k (d + 5) n 16 [.string ⟨⟨S⟩⟩] h n fun v h' n' => v = .tuple ⟨[.slice (some ⟨n, 0, none⟩) ll ll, .int .i64 0]⟩ ∧ h0 = h' ∧ n + 1 = n' := fun S hS => by have := q2 h n; rw [hS, hh0] at this; exact this
  obtain ⟨S, hS⟩ : ∃ S, listB l = S := ⟨_, rfl⟩
  have q2 := q2 S hS
  simp only [hS] at q1
  refine enter Try.func7 (by kernel_rfl) rfl (by kernel_rfl) rfl rfl rfl ?_
  (repeat' first | refine zcd ?_ | intro K' hK | (with_reducible refine zn hK ?_; clear hK) | ((with_reducible apply o_callF (g := 15) w_none); (case ha => exact ez0); (case hs => ((with_reducible apply q1); exact hr)); (case' hk => rintro _ h' n' ⟨rfl, rfl, rfl⟩)) | ((with_reducible apply o_callF (g := 16) w_none); (case ha => exact ez0); (case hs => (exact q2)); (case' hk => rintro _ h' n' ⟨rfl, rfl, rfl⟩)) | ((with_reducible first | apply zo1 | apply zo2 | apply o_guard rfl | apply x_cond | apply k_e1 rfl | apply k_e2 rfl | apply k_e0 rfl | apply k_e3 rfl | apply k_e4 rfl); (case he => exact ez0); (try case hok => exact ezO); all_goals try (intro hb; (try simp only [hbs, reduceCtorEq] at hb); try exact ezX)) | ((with_reducible apply o_undef rfl); (case hb => exact ez0)))
  clear q1 q2
  refine x_loopV [4, 9, 10, 11, 12, 13, 54, 55, 56, 57, 58, 59, 60, 61, 62, 63, 64, 65, 66, 67, 68, 69, 70, 71, 72, 73, 74, 75, 76, 77, 78, 79, 80, 81, 82, 83, 84, 85, 86, 87] [9, 10, 11] (fun m vs h' n' => m ≤ ll ∧ ∃ wa wp, vs = [wa, wp, .int .i64 ((ll - m : Nat) : Int)] ∧ St1 (l.take (ll - m)) h0 (n + 1) wa wp h' n') ll rfl (by omega) ⟨Nat.le_refl _, .slice none 0 0, .slice none 0 0, by simp (disch := first | assumption | omega | rfl | decide) only [go_sem, seval, tys]; rw [Nat.sub_self]; rfl, by rw [Nat.sub_self]; exact ⟨Nat.le_refl _, fun _ _ => rfl, [], rfl, rfl, .inl ⟨rfl, rfl, rfl⟩⟩⟩ ?_
  rintro m g _ h1 n1 ⟨hm, wa, wp, rfl, hn1, hk1, ps, hjp, hpl, hst⟩
  rcases m with _ | m
  · rw [Nat.sub_zero, List.take_of_length_le (by omega)] at *
    rcases hst with ⟨hL0, -, -⟩ | ⟨-, ia, ip, rfl, rfl, i1, i2, i3, i4, hra, hrp, hps⟩
    · rw [hL0] at hll; simp at hll; omega
    obtain ⟨W, hW⟩ : ∃ W, allW l = W := ⟨_, rfl⟩
    have hdec : ∀ i (hi : i < l.length), W = allW (l.take i) ++ txtW l[i] ++ allW (l.drop (i + 1)) := fun i hi => by
      rw [← hW]
      exact allW_at l i hi
    rw [hW] at hWl hjp hra ⊢
    obtain ⟨L, hL⟩ : ∃ L, W.length = L := ⟨_, rfl⟩
    have hL2 : L ≤ 2020 := by omega
    have hL1 : 0 < L := by
      have := hdec 0 (by omega)
      have h2 := congrArg List.length this
      rw [hL, List.length_append, List.length_append] at h2
      have h3 : (txtW l[0]).length = l[0].length + 1 := rfl
      omega
    rw [hll] at hpl
    rw [hll, hL]
    have hrW : RdH h1 n1 (some ⟨ia, 0, none⟩) (bv W) := RdH.ofRow hra i2
    have hpc : PcH h1 n1 (some ⟨ip, 0, none⟩) ps := ⟨RdH.ofRow hrp i4, fun p hp => RdH.ofRow (hps p hp).2.2.2 (hps p hp).2.1⟩
    have q3 := fun (h6 : Hp) (n6 : Nat) => (table_ev k (d + 3) n h6 n6 hk).mono (Φ' := fun v h' n' => v = .agg ⟨tabV⟩ ∧ h6 = h' ∧ n6 = n') fun _ _ _ hp => ⟨hp.1, hp.2.1.symm, hp.2.2.symm⟩
    have q4 := fun (h6 : Hp) (n6 : Nat) (hr6 : RdH h6 n6 (some ⟨ia, 0, none⟩) (bv W)) => (sum_ev k d n h6 n6 hk (some ⟨ia, 0, none⟩) W W.length hr6 (by omega)).mono (Φ' := fun v h' n' => v = .tuple ⟨[.int .u32 ((sumC W : Nat) : Int), .int .i64 0]⟩ ∧ h6 = h' ∧ n6 = n') fun _ _ _ hp => ⟨hp.1, hp.2.1.symm, hp.2.2.symm⟩
    have q5 := fun (h6 : Hp) (n6 : Nat) (hp6 : PcH h6 n6 (some ⟨ip, 0, none⟩) ps) => (pieces_ev k (d + 1) n h6 n6 hk (some ⟨ip, 0, none⟩) ps ps.length hp6 (by omega) (by rw [hjp]; omega)).mono (Φ' := fun v h' n' => v = .tuple ⟨[.int .u32 ((sumC (joinP ps) : Nat) : Int), .int .i64 0]⟩ ∧ h6 = h' ∧ n6 = n') fun _ _ _ hp => ⟨hp.1, hp.2.1.symm, hp.2.2.symm⟩
    have hX := sumC_lt W
    rw [hjp] at q5
    have hsX : ∀ b : List UInt8, sumC b = sumC W → runC 4294967295 b = runC 4294967295 W := fun b hb => by
      have h1 := runC_lt (b := b) (x := 4294967295) (by omega)
      have h2 := runC_lt (b := W) (x := 4294967295) (by omega)
      unfold sumC at hb
      omega
    have q4b := q4
    obtain ⟨X, hXe⟩ : ∃ X, sumC W = X := ⟨_, rfl⟩
    rw [hXe] at hX hsX
    rw [hL] at q4
    rw [hpl] at q5
    simp only [hXe] at q4 q5
    have q6 := fun (h6 : Hp) (n6 : Nat) => (hex_ev k (d + 3) n h6 n6 hk X (by omega)).mono (Φ' := fun v h' n' => ∃ j, HexJ X j ∧ v = .string ⟨⟨48 :: 120 :: hexS X j⟩⟩ ∧ h6 = h' ∧ n6 = n') fun _ _ _ ⟨j, hj, e1, e2, e3⟩ => ⟨j, hj, e1, e2.symm, e3.symm⟩
    have q7 := fun (j : Nat) (hj : HexJ X j) (h6 : Hp) (n6 : Nat) => (unhex_ev k (d + 1) n h6 n6 hk X (by omega) j hj).mono (Φ' := fun v h' n' => v = .tuple ⟨[.int .u64 (X : Int), .int .i64 0]⟩ ∧ h6 = h' ∧ n6 = n') fun _ _ _ hp => ⟨hp.1, hp.2.1.symm, hp.2.2.symm⟩
    have q8 := fun (h6 : Hp) (n6 : Nat) (hr6 : RdH h6 n6 (some ⟨ia, 0, none⟩) (bv W)) => new_ev k (d + 4) n h6 n6 hk (some ⟨ia, 0, none⟩) W W.length hr6 (fun e => by cases e) (by omega)
    rw [hL] at q8
    have hw := wrap_u64 (x := (X : Int)) (by omega) (by omega)
    have hvl := tabV_len
    have hvc := tabV_cok
    have hto := tab_over
    have htt := tab_take
    have q11 := fun (h6 : Hp) (n6 : Nat) (b : List UInt8) (c : Nat) (hr6 : RdH h6 n6 (some ⟨ia, 0, none⟩) (bv b)) (hb : b.length ≤ 20000) => (sum_ev k d n h6 n6 hk (some ⟨ia, 0, none⟩) b c hr6 hb).mono (Φ' := fun v h' n' => v = .tuple ⟨[.int .u32 ((sumC b : Nat) : Int), .int .i64 0]⟩ ∧ h6 = h' ∧ n6 = n') fun _ _ _ hp => ⟨hp.1, hp.2.1.symm, hp.2.2.symm⟩
    obtain ⟨TV, hTV⟩ : ∃ TV, tabV = TV := ⟨_, rfl⟩
    rw [hTV] at hvl hvc hto htt
    simp only [hTV] at q3 q4 q5 q11
    clear q4b
    obtain ⟨Z, hZ⟩ : ∃ Z, List.replicate 256 (Value.int .u32 0) = Z := ⟨_, rfl⟩
    rw [hZ] at hto
    (repeat' first | refine zcd ?_ | intro K' hK | (with_reducible refine zn hK ?_; clear hK) | ((with_reducible apply o_callF (g := 13) w_none); (case ha => exact ez0); (case hs => (exact q3 _ _)); (case' hk => rintro _ h' n' ⟨rfl, rfl, rfl⟩)) | ((with_reducible apply o_callF (g := 12) w_none); (case ha => exact ez0); (case hs => ((with_reducible apply q4); exact ((hrW.set (Nat.le_refl _) _).more (by omega)))); (case' hk => rintro _ h' n' ⟨rfl, rfl, rfl⟩)) | ((with_reducible apply o_callF (g := 18) w_none); (case ha => exact ez0); (case hs => ((with_reducible apply q5); exact ⟨(hpc.rd.set (Nat.le_refl _) _).more (by omega), fun p hp => ((hpc.pc p hp).set (Nat.le_refl _) _).more (by omega)⟩)); (case' hk => rintro _ h' n' ⟨rfl, rfl, rfl⟩)) | ((with_reducible apply o_callF (g := 14) w_none); (case ha => exact ez0); (case hs => (exact q6 _ _)); (case' hk => rintro _ h' n' ⟨j, hj, rfl, rfl, rfl⟩)) | ((with_reducible apply o_callF (g := 19) w_none); (case ha => exact ez0); (case hs => (exact q7 _ (by assumption) _ _)); (case' hk => rintro _ h' n' ⟨rfl, rfl, rfl⟩)) | ((with_reducible apply o_callF (g := 20) w_none); (case ha => exact ez0); (case hs => ((with_reducible apply q8); exact ((hrW.set (Nat.le_refl _) _).more (by omega)))); (case' hk => rintro _ h' n' ⟨rfl, rfl, rfl⟩)) | ((with_reducible first | apply zo1 | apply zo2 | apply o_guard rfl | apply x_cond | apply k_e1 rfl | apply k_e2 rfl | apply k_e0 rfl | apply k_e3 rfl | apply k_e4 rfl); (case he => exact ez6 hZ hw hvl hvc hto htt); (try case hok => exact ezO); all_goals try (intro hb; (try simp only [hbs, reduceCtorEq] at hb); try exact ezX)) | ((with_reducible apply o_undef rfl); (case hb => exact ez0)))
    clear q3 q4 q5 q6 q7 q8 hpc hps hrp hto hZ
    refine x_loopV [4, 23, 24, 25, 26, 134, 135, 136, 137, 138, 139, 140, 141, 142, 143, 144, 145, 146, 147, 148, 149, 150, 151, 152, 153, 154, 155, 156, 157, 158, 159, 160] [23] (fun m vs h' n' => m ≤ ll ∧ vs = [.int .i64 ((ll - m : Nat) : Int)] ∧ n1 + 3 ≤ n' ∧ (∀ b, b < n1 + 2 → h'.get b = ((h1.set n1 (.row 46 false TV)).set (n1 + 1) (.row 5 false (bv W))).get b) ∧ rowOf h' (n1 + 1 + 1) = some (60, false, [.slice (some ⟨n1 + 1, 0, none⟩) L L, .int .i64 (((allW (l.take (ll - m))).length : Nat) : Int)])) ll rfl (by omega) ⟨Nat.le_refl _, by simp (disch := first | assumption | omega | rfl | decide) only [go_sem, seval, tys]; rw [Nat.sub_self]; rfl, by omega, fun b hb => by rw [Hp.get_ne _ _ (by omega)], by rw [rowOf_same, Nat.sub_self]; rfl⟩ ?_
    rintro m g2 _ h2 n2 ⟨hm2, rfl, hn2, hk2, hr21⟩
    have c21 := cellsAt_row (off := 0) (k := 2) hr21
    have w21 := rwOf_row hr21
    have hkh : ∀ b, b < n + 1 → h2.get b = h0.get b := fun b hb => by rw [hk2 b (by omega), Hp.get_ne _ _ (by omega), Hp.get_ne _ _ (by omega)]; exact hk1 b hb
    have hrT : rowOf h2 n1 = some (46, false, TV) := by rw [rowOf_keep (hk2 _ (by omega)), rowOf_ne _ _ (by omega), rowOf_same]
    have hr5 : rowOf h2 (n1 + 1) = some (5, false, bv W) := by rw [rowOf_keep (hk2 _ (by omega)), rowOf_same]
    have hra2 : rowOf h2 ia = some (5, false, bv W) := by rw [rowOf_keep (hk2 _ (by omega)), rowOf_ne _ _ (by omega), rowOf_ne _ _ (by omega)]; exact hra
    rcases m with _ | m
    · rw [Nat.sub_zero, List.take_of_length_le (by omega), hW, hL] at c21 w21
      rw [Nat.sub_zero]
      have q9 := left_ev k (d + 3) n h2 n2 hk (n1 + 1) L L (by omega) (Nat.le_refl _)
      rw [Int.sub_self] at q9
      obtain ⟨J, hJ⟩ : ∃ J, L / 2 = J := ⟨_, rfl⟩
      have hJL : J < W.length := by omega
      have hhf := fun (t : TypeId) => b_half (t := t) (L := L) (by omega)
      rw [hJ] at hhf
      have hcJ : cellAt h2 ia J = some (.int .u8 ((W.getD J 0).toNat : Int)) := by
        rw [cellAt_row hra2, lget_eq, bv_get hJL, getD_lt hJL]
      obtain ⟨y, hy⟩ : ∃ y, W.getD J 0 = y := ⟨_, rfl⟩
      have hyt := y.toNat_lt
      have hbt := by8.toNat_lt
      have hxo := fun (t : TypeId) => b_xor8 (t := t) (a := y.toNat) (b := by8.toNat) hyt hbt
      have hxt : y.toNat ^^^ by8.toNat = (y ^^^ by8).toNat := (UInt8.toNat_xor ..).symm
      rw [hxt] at hxo
      have hrs : ∀ c' : UInt8, runC 4294967295 (W.set J c') = runC 4294967295 W → c' = y := fun c' hc' => by
        rw [← hy]
        exact runC_set hJL c' (by omega) hc'
      have hsl : W.set J y = W := by rw [← hy]; exact set_self hJL
      obtain ⟨c', hc'⟩ : ∃ c', y ^^^ by8 = c' := ⟨_, rfl⟩
      rw [hc'] at hxo
      rw [hy] at hcJ
      have hov : overAt J [Value.int .u8 (c'.toNat : Int)] (bv W) = some (bv (W.set J c')) := by
        rw [overAt_set (by rw [bv_length]; exact hJL)]
        unfold bv
        rw [List.map_set]
      have hWL : (W.set J c').length = L := by rw [List.length_set, hL]
      have hrwa := rwOf_row hra2
      obtain ⟨bb, hb1, hb2⟩ : ∃ bb : Bool, (((sumC (W.set J c') : Nat) : Int) == (X : Int)) = bb ∧ ((by8.toNat : Int) == 0) = bb := by
        by_cases h8 : by8 = 0
        · refine ⟨true, ?_, by rw [h8]; rfl⟩
          rw [← hc', h8, UInt8.xor_zero, hsl, hXe]
          exact beq_self_eq_true _
        · refine ⟨false, ?_, ?_⟩
          · rw [beq_eq_false_iff_ne]
            intro e
            have e1 := hsX _ (Int.ofNat.inj e)
            have e2 := hrs _ e1
            have e3 : y.toNat ^^^ by8.toNat = y.toNat ^^^ 0 := by rw [hxt, hc', e2, Nat.xor_zero]
            exact h8 (UInt8.toNat_inj.1 (xor_can' e3))
          · rw [beq_eq_false_iff_ne]
            intro e
            exact h8 (UInt8.toNat_inj.1 (Int.ofNat.inj e))
      have q12 := fun (h6 : Hp) (n6 : Nat) (hr6 : RdH h6 n6 (some ⟨ia, 0, none⟩) (bv (W.set J c'))) => q11 h6 n6 (W.set J c') L hr6 (by omega)
      rw [hWL] at q12
      clear q11
      obtain ⟨Zs, hZs⟩ : ∃ Zs, sumC (W.set J c') = Zs := ⟨_, rfl⟩
      simp only [hZs] at q12 hb1
      obtain ⟨W', hW'⟩ : ∃ W', W.set J c' = W' := ⟨_, rfl⟩
      simp only [hW'] at q12 hov
      have hbb : ∀ (h : Hp) (n : Nat), mBin Try.prog .eql 4 (.bool bb) (.bool bb) h n = some ⟨.bool true, h, n, [], []⟩ := fun h n => by rw [b_beqlx, beq_self_eq_true]
      have eL : ((L : Int) == 0) = false := by rw [beq_eq_false_iff_ne]; omega
      have cT := cellsAt_row (off := 0) (k := 256) hrT
      have ff := And.intro c21 (And.intro cT htt)
      have fg := And.intro hb1 (And.intro hb2 eL)
      (repeat' first | refine zcd ?_ | intro K' hK | (with_reducible refine zn hK ?_; clear hK) | ((with_reducible apply o_callF (g := 22) w_none); (case ha => exact ez0); (case hs => (exact q9)); (case' hk => rintro _ h' n' ⟨rfl, rfl, rfl⟩)) | ((with_reducible apply o_callF (g := 12) w_none); (case ha => exact ez0); (case hs => ((with_reducible apply q12); exact RdH.ofRow (rowOf_same _ _ _ _ _) (by omega))); (case' hk => rintro _ h' n' ⟨rfl, rfl, rfl⟩)) | ((with_reducible first | apply zo1 | apply zo2 | apply o_guard rfl | apply x_cond | apply k_e1 rfl | apply k_e2 rfl | apply k_e0 rfl | apply k_e3 rfl | apply k_e4 rfl); (case he => exact ez8 ff fg hhf hcJ hxo hov hrwa hbb); (try case hok => exact ezO); all_goals try (intro hb; (try simp only [hbs, reduceCtorEq] at hb); try exact ezX)) | ((with_reducible apply o_undef rfl); (case hb => exact ez0)))
      all_goals exact sw_flat rfl rfl ⟨rfl, rfl, rfl⟩
    · obtain ⟨i, hi⟩ : ∃ i, ll - (m + 1) = i := ⟨_, rfl⟩
      rw [hi] at c21 w21 ⊢
      have hib : i < l.length := by omega
      have hr1 : RdH h2 (n + 1) A (xv l) := hr0.keep (Nat.le_refl _) hkh
      obtain ⟨tid, off, rfl, htid, hce⟩ := hr1.at_ (by rw [xv_length]; omega)
      have hs100 := hs _ (List.getElem_mem hib)
      have hce := hce _ _ (xv_get hib)
      have hWi := hdec i hib
      have htk : l.take (ll - m) = l.take i ++ [l[i]] := by rw [show ll - m = i + 1 from by omega, List.take_succ_eq_append_getElem hib]
      obtain ⟨s, hse⟩ : ∃ s, l[i] = s := ⟨_, rfl⟩
      rw [hse] at hs100 hce htk hWi
      obtain ⟨a, ha⟩ : ∃ a, (allW (l.take i)).length = a := ⟨_, rfl⟩
      have haL : (allW (l.take (ll - m))).length = a + 1 + s.length := by
        rw [htk, allW_snoc, List.length_append, ha]
        show a + (s.length + 1) = _
        omega
      rw [ha] at c21 w21
      have hnx : (i : Int) + 1 = ((ll - m : Nat) : Int) := by omega
      have e0 : (ByteArray.toList ⟨⟨s⟩⟩ == ByteArray.toList ⟨⟨s⟩⟩) = true := beq_self_eq_true _
      have q9 := untext_ev k (d + 2) n h2 n2 hk (n1 + 1) L a (allW (l.take i)) s (allW (l.drop (i + 1))) (by rw [← hWi]; exact RdH.ofRow hr5 (by omega)) (by rw [← hWi, hL]) (by omega) ha hs100
      (repeat' first | refine zcd ?_ | intro K' hK | (with_reducible refine zn hK ?_; clear hK) | ((with_reducible apply o_callF (g := 21) w_none); (case ha => exact ez0); (case hs => (exact q9)); (case' hk => rintro _ h' n' ⟨rfl, rfl, rfl⟩)) | ((with_reducible first | apply zo1 | apply zo2 | apply o_guard rfl | apply x_cond | apply k_e1 rfl | apply k_e2 rfl | apply k_e0 rfl | apply k_e3 rfl | apply k_e4 rfl); (case he => exact ez5 c21 w21 hce @b_strNeq e0); (try case hok => exact ezO); all_goals try (intro hb; (try simp only [hbs, reduceCtorEq] at hb); try exact ezX)) | ((with_reducible apply o_undef rfl); (case hb => exact ez0)))
      all_goals exact k_round m (by omega) ⟨by omega, by simp (disch := first | assumption | omega | rfl | decide) only [go_sem, seval, tys]; rw [hnx], by omega, fun b hb => by rw [Hp.get_ne _ _ (by omega), Hp.get_ne _ _ (by omega)]; exact hk2 b hb, by rw [rowOf_same, haL]⟩
  · obtain ⟨i, hi⟩ : ∃ i, ll - (m + 1) = i := ⟨_, rfl⟩
    rw [hi] at hjp hpl hst ⊢
    have hib : i < l.length := by omega
    have hr1 : RdH h1 (n + 1) A (xv l) := hr0.keep (Nat.le_refl _) hk1
    obtain ⟨tid, off, rfl, htid, hce⟩ := hr1.at_ (by rw [xv_length]; omega)
    have hs100 := hs _ (List.getElem_mem hib)
    have hce := hce _ _ (xv_get hib)
    have hcb : cellAt h1 n i = some (.string ⟨⟨l[i]⟩⟩) := by
      have hb1 : rowOf h1 n = some (9, false, xv l) := by rw [rowOf_keep (hk1 _ (by omega))]; exact hb0
      rw [cellAt_row hb1, lget_eq]
      exact xv_get hib
    have htk : l.take (ll - m) = l.take i ++ [l[i]] := by rw [show ll - m = i + 1 from by omega, List.take_succ_eq_append_getElem hib]
    obtain ⟨s, hse⟩ : ∃ s, l[i] = s := ⟨_, rfl⟩
    rw [hse] at hs100 hce hcb htk
    have hnx : (i : Int) + 1 = ((ll - m : Nat) : Int) := by omega
    have e0 : (ByteArray.toList ⟨⟨s⟩⟩ == ByteArray.toList ⟨⟨s⟩⟩) = true := beq_self_eq_true _
    have q3 := text_ev k (d + 2) n h1 n1 hk s hs100
    have hT : (txtW s).length = s.length + 1 := rfl
    have hbT := bv_length (txtW s)
    obtain ⟨T, hTe⟩ : ∃ T, (txtW s).length = T := ⟨_, rfl⟩
    have hco : (bv (txtW s)).all cok = true := by
      rw [List.all_eq_true]
      intro v hv
      obtain ⟨x, -, rfl⟩ := List.mem_map.1 hv
      rfl
    have hiL : (l.take i).length = i := by rw [List.length_take]; omega
    rcases hst with ⟨hL0, rfl, rfl⟩ | ⟨hL0, ia, ip, rfl, rfl, i1, i2, i3, i4, hra, hrp, hps⟩
    · have hf := st_first (h0 := h0) (h1 := h1) (N := n + 1) (n1 := n1) s hn1 hk1
      rw [hL0, List.nil_append] at htk
      rw [hTe] at hf q3 hbT hT
      (repeat' first | refine zcd ?_ | intro K' hK | (with_reducible refine zn hK ?_; clear hK) | ((with_reducible apply o_callF (g := 17) w_none); (case ha => exact ez0); (case hs => (exact q3)); (case' hk => rintro _ h' n' ⟨rfl, rfl, rfl⟩)) | (with_reducible refine x_drawnD (id := 11) [(6, 10)] (by kernel_rfl) fun K' hK => ?_) | ((with_reducible apply d_nil); (case hp => exact ezP); (case' hx => (refine hK _ _ _ ?_; clear hK))) | ((with_reducible apply d_pure w_none); (case hp => exact rfl); (case hc => exact rfl); (case he => exact ez4 hce hcb @b_strNeq e0)) | ((with_reducible apply d_eff w_none); (case hc => exact rfl); (case he => exact ez4 hce hcb @b_strNeq e0); (case hok => exact ezO)) | ((with_reducible apply d_guard rfl); (case hb => exact ez4 hce hcb @b_strNeq e0); (case' h1 => intro hb; (try simp only [hbs, reduceCtorEq] at hb); try exact ezX); (case' h2 => intro hb; (try simp only [hbs, reduceCtorEq] at hb); try exact ezX)) | ((with_reducible apply o_ap0 (t := 39) apT39 w_none); (case hs => exact ez0); (case hy => exact ez0); (case hsrc => exact src_row ez0 (by rw [hbT, Nat.mul_one])); (case hc => exact hco); (case hm => omega); (case h0 => omega)) | ((with_reducible apply o_ap0 (t := 53) apT53 w_none); (case hs => exact ez0); (case hy => exact ez0); (case hsrc => exact src_row ez0 rfl); (case hc => rfl); (case hm => omega); (case h0 => omega)) | ((with_reducible first | apply zo1 | apply zo2 | apply o_guard rfl | apply x_cond | apply k_e1 rfl | apply k_e2 rfl | apply k_e0 rfl | apply k_e3 rfl | apply k_e4 rfl); (case he => exact ez4 hce hcb @b_strNeq e0); (try case hok => exact ezO); all_goals try (intro hb; (try simp only [hbs, reduceCtorEq] at hb); try exact ezX)) | ((with_reducible apply o_undef rfl); (case hb => exact ez0)))
      all_goals exact k_round m (by omega) ⟨by omega, _, _, by simp (disch := first | assumption | omega | rfl | decide) only [go_sem, seval, tys]; rw [hnx], by rw [htk]; exact hf⟩
    · have hf := st_next (h0 := h0) (h1 := h1) (N := n + 1) (n1 := n1) s hn1 hk1 hjp hpl i1 i2 i3 i4 hra hrp hps
      have hrwa := rwOf_row hra
      have hrwp := rwOf_row hrp
      have hWi : (allW (l.take i)).length ≤ 2020 := by
        have := allW_len (l := l.take i) fun s hs2 => hs s (List.mem_of_mem_take hs2)
        omega
      have hne : ia ≠ ip := fun e => by rw [e, hrp] at hra; injection hra with hra; injection hra with h1 _; exact absurd h1 (by decide)
      rw [hiL] at hf
      rw [hiL] at hpl ⊢
      rw [show (allW (l.take i)).length * 1 = (allW (l.take i)).length from Nat.mul_one _] at hf
      rw [hTe] at hf q3 hbT hT
      (repeat' first | refine zcd ?_ | intro K' hK | (with_reducible refine zn hK ?_; clear hK) | ((with_reducible apply o_callF (g := 17) w_none); (case ha => exact ez0); (case hs => (exact q3)); (case' hk => rintro _ h' n' ⟨rfl, rfl, rfl⟩)) | (with_reducible refine x_drawnD (id := 11) [(6, 10)] (by kernel_rfl) fun K' hK => ?_) | ((with_reducible apply d_nil); (case hp => exact ezP); (case' hx => (refine hK _ _ _ ?_; clear hK))) | ((with_reducible apply d_pure w_none); (case hp => exact rfl); (case hc => exact rfl); (case he => exact ez4 hce hcb @b_strNeq e0)) | ((with_reducible apply d_eff w_none); (case hc => exact rfl); (case he => exact ez4 hce hcb @b_strNeq e0); (case hok => exact ezO)) | ((with_reducible apply d_guard rfl); (case hb => exact ez4 hce hcb @b_strNeq e0); (case' h1 => intro hb; (try simp only [hbs, reduceCtorEq] at hb); try exact ezX); (case' h2 => intro hb; (try simp only [hbs, reduceCtorEq] at hb); try exact ezX)) | ((with_reducible apply o_apR (t := 39) apT39 w_none); (case hs => exact ez0); (case hy => exact ez0); (case hsrc => exact src_row ez0 (by rw [hbT, Nat.mul_one])); (case hr => exact ez1 hrwa); (case hc => exact hco); (case hm => omega); (case hli => omega); (case hln => omega); (case hcs => rw [bv_length]; omega)) | ((with_reducible apply o_apR (t := 53) apT53 w_none); (case hs => exact ez0); (case hy => exact ez0); (case hsrc => exact src_row ez0 rfl); (case hr => exact ez1 hrwp); (case hc => rfl); (case hm => omega); (case hli => omega); (case hln => omega); (case hcs => rw [List.length_map]; omega)) | ((with_reducible first | apply zo1 | apply zo2 | apply o_guard rfl | apply x_cond | apply k_e1 rfl | apply k_e2 rfl | apply k_e0 rfl | apply k_e3 rfl | apply k_e4 rfl); (case he => exact ez6 hce hcb @b_strNeq e0 hrwa hrwp); (try case hok => exact ezO); all_goals try (intro hb; (try simp only [hbs, reduceCtorEq] at hb); try exact ezX)) | ((with_reducible apply o_undef rfl); (case hb => exact ez0)))
      all_goals exact k_round m (by omega) ⟨by omega, _, _, by simp (disch := first | assumption | omega | rfl | decide) only [go_sem, seval, tys]; rw [hnx], by rw [htk]; exact hf⟩
end Go.Proofs.Ytkngdfbibffdcaa.Ce
namespace Go.Proofs.Ytkngdfbibffdcaa.Ce
open Go.RowKit
theorem land_up (n : Nat) (h : n < 2 ^ 63) : n &&& 18446744073709551608 = n / 8 * 8 := by
  have e1 : (18446744073709551608 : Nat) = (2 ^ 61 - 1) <<< 3 := by decide
  have e2 : n / 8 * 8 = (n >>> 3) <<< 3 := by rw [Nat.shiftRight_eq_div_pow, Nat.shiftLeft_eq]
  rw [e1, e2]
  apply Nat.eq_of_testBit_eq
  intro i
  rw [Nat.testBit_and, Nat.testBit_shiftLeft, Nat.testBit_shiftLeft, Nat.testBit_two_pow_sub_one, Nat.testBit_shiftRight]
  by_cases h3 : 3 ≤ i
  · rw [show 3 + (i - 3) = i from by omega, decide_eq_true h3, Bool.true_and, Bool.true_and]
    by_cases h61 : i - 3 < 61
    · rw [decide_eq_true h61, Bool.and_true]
    · rw [decide_eq_false h61, Bool.and_false, Nat.testBit_lt_two_pow (Nat.lt_of_lt_of_le h (Nat.pow_le_pow_right (by omega) (by omega)))]
  · rw [decide_eq_false h3, Bool.false_and, Bool.false_and, Bool.and_false]
def upI (x a : Int) : Int := (x + a - 1) / a * a
theorem upI_1 (x : Int) : upI x 1 = x := by unfold upI; omega
theorem upI_8 (x : Int) : upI x 8 = (x + 7) / 8 * 8 := by unfold upI; omega
def Al (a : Int) : Prop := a = 1 ∨ a = 8
theorem upI_bnd {x a : Int} (ha : Al a) (hx : 0 ≤ x) : x ≤ upI x a ∧ upI x a ≤ x + 7 := by
  rcases ha with rfl | rfl
  · rw [upI_1]; omega
  · rw [upI_8]; omega
theorem upI_min {C x a : Int} (ha : Al a) (hC : C % 8 = 0) : upI (min C x) a = min C (upI x a) := by
  rcases ha with rfl | rfl
  · rw [upI_1, upI_1]
  · rw [upI_8, upI_8]; omega
theorem upI_le {C x a : Int} (ha : Al a) (hC : C % 8 = 0) (h : x ≤ C) : upI x a ≤ C := by
  rcases ha with rfl | rfl
  · rw [upI_1]; exact h
  · rw [upI_8]; omega
theorem b_andnot (x a : Int) (ha : Al a) (hx : 0 ≤ x) (hx2 : x ≤ 4611686018427387904) (h : Hp) (n : Nat) : mBin Try.prog .andNot 3 (.int .i64 (x + a - 1)) (.int .i64 (a - 1)) h n = some ⟨.int .i64 (upI x a), h, n, [], []⟩ := by
  have e : prun Try.prog (Op.intBits .andNot .i64 (x + a - 1) (a - 1)) = some (.int .i64 (upI x a)) := by
    show some (Value.int IntKind.i64 (IntKind.wrap .i64 (((BitVec.ofInt 64 (x + a - 1)) &&& ~~~ (BitVec.ofInt 64 (a - 1))).toNat : Int))) = _
    rcases ha with rfl | rfl
    · obtain ⟨m, rfl⟩ := Int.eq_ofNat_of_zero_le hx
      rw [upI_1, show (m : Int) + 1 - 1 = (m : Int) from by omega, show (1 : Int) - 1 = 0 from rfl]
      have h1 : (BitVec.ofInt 64 (m : Int) &&& ~~~ BitVec.ofInt 64 0).toNat = m := by
        have : ~~~ BitVec.ofInt 64 0 = BitVec.allOnes 64 := by decide
        rw [this, BitVec.and_allOnes, BitVec.ofInt_natCast, BitVec.toNat_ofNat, Nat.mod_eq_of_lt (by omega)]
      rw [h1]
      congr 2
      exact wrap_i64 (by omega) (by omega)
    · obtain ⟨m, rfl⟩ := Int.eq_ofNat_of_zero_le hx
      rw [upI_8, show (m : Int) + 8 - 1 = ((m + 7 : Nat) : Int) from by omega, show (8 : Int) - 1 = 7 from rfl]
      have h1 : (BitVec.ofInt 64 ((m + 7 : Nat) : Int) &&& ~~~ BitVec.ofInt 64 7).toNat = (m + 7) / 8 * 8 := by
        have h7 : (~~~ BitVec.ofInt 64 7).toNat = 18446744073709551608 := by decide
        rw [BitVec.toNat_and, h7, BitVec.ofInt_natCast, BitVec.toNat_ofNat, Nat.mod_eq_of_lt (by omega)]
        exact land_up _ (by omega)
      rw [h1]
      congr 2
      rw [wrap_i64 (by omega) (by omega)]
      omega
  show (prun Try.prog (Op.intBits .andNot .i64 (x + a - 1) (a - 1))).bind (fun v => bif flat1 v then mV v h n else none) = _
  rw [e]
  rfl
abbrev Ext := List (Int × Int)
def Ext.at_ (E : Ext) (i : Int) : Int × Int := E.getD i.toNat (0, 0)
def EOk (C : Int) (p : Int × Int) : Prop := 0 ≤ p.1 ∧ p.1 ≤ C ∧ Al p.2
def lStep (C : Int) (E : Ext) (st : List Int × Int × Int) (f : List UInt8 × Int) : List Int × Int × Int :=
  (st.1 ++ [upI st.2.1 (E.at_ f.2).2], min C (upI st.2.1 (E.at_ f.2).2 + (E.at_ f.2).1), max st.2.2 (E.at_ f.2).2)
def layR (C : Int) (E : Ext) (fs : List (List UInt8 × Int)) : List Int × Int × Int := fs.foldl (lStep C E) ([], 0, 1)
theorem layR_take (C : Int) (E : Ext) {fs : List (List UInt8 × Int)} {q : Nat} (hq : q < fs.length) : layR C E (fs.take (q + 1)) = lStep C E (layR C E (fs.take q)) fs[q] := by
  unfold layR; rw [List.take_succ_eq_append_getElem hq, List.foldl_append]; rfl
theorem layR_len (C : Int) (E : Ext) (fs : List (List UInt8 × Int)) : ∀ q, q ≤ fs.length → (layR C E (fs.take q)).1.length = q
  | 0, _ => by simp [layR]
  | q + 1, h => by rw [layR_take C E (by omega)]; unfold lStep; rw [List.length_append, layR_len C E fs q (by omega)]; rfl
def FOk (C : Int) (E : Ext) (fs : List (List UInt8 × Int)) : Prop := ∀ f ∈ fs, EOk C (E.at_ f.2)
theorem Al.bnd {a : Int} (h : Al a) : 1 ≤ a ∧ a ≤ 8 := by rcases h with rfl | rfl <;> omega
theorem Al.max {a b : Int} (h : Al a) (h' : Al b) : Al (max a b) := by unfold Al at *; omega
theorem layR_ok {C : Int} (hC : 0 ≤ C) {E : Ext} {fs : List (List UInt8 × Int)} (hf : FOk C E fs) : ∀ q, q ≤ fs.length → 0 ≤ (layR C E (fs.take q)).2.1 ∧ (layR C E (fs.take q)).2.1 ≤ C ∧ Al (layR C E (fs.take q)).2.2
  | 0, _ => ⟨Int.le_refl _, hC, .inl rfl⟩
  | q + 1, h => by
    have ih := layR_ok hC hf q (by omega)
    have h1 := hf fs[q] (List.getElem_mem _)
    obtain ⟨h2, h3, h4⟩ := h1
    have h5 := upI_bnd h4 ih.1
    rw [layR_take C E (by omega)]
    unfold lStep
    dsimp only
    exact ⟨by omega, by omega, ih.2.2.max h4⟩
def eOne (C : Int) (E : Ext) (t : Tp) : Int × Int :=
  if t.kd = 1 then (1, 1) else if t.kd = 2 ∨ t.kd = 4 then (8, 8) else if t.kd = 3 then (16, 8) else if t.kd = 7 then (24, 8)
  else if t.kd = 6 then (min C (t.ln * (E.at_ t.el).1), (E.at_ t.el).2)
  else (upI (layR C E t.fs).2.1 (layR C E t.fs).2.2, (layR C E t.fs).2.2)
def eRow (C : Int) (T : List Tp) : Ext := T.foldl (fun E t => E ++ [eOne C E t]) []
theorem eRow_snoc (C : Int) (T : List Tp) (t : Tp) : eRow C (T ++ [t]) = eRow C T ++ [eOne C (eRow C T) t] := by unfold eRow; rw [List.foldl_append]; rfl
theorem eRow_take (C : Int) {T : List Tp} {i : Nat} (hi : i < T.length) : eRow C (T.take (i + 1)) = eRow C (T.take i) ++ [eOne C (eRow C (T.take i)) T[i]] := by rw [List.take_succ_eq_append_getElem hi, eRow_snoc]
theorem eRow_length' (C : Int) : ∀ (T : List Tp) (a : Ext), (T.foldl (fun E t => E ++ [eOne C E t]) a).length = a.length + T.length
  | [], a => by simp
  | t :: T, a => by rw [List.foldl_cons, eRow_length' C T, List.length_append, List.length_cons]; simp; omega
theorem eRow_length (C : Int) (T : List Tp) : (eRow C T).length = T.length := by unfold eRow; rw [eRow_length']; simp
theorem eRow_tlen (C : Int) {T : List Tp} {i : Nat} (hi : i ≤ T.length) : (eRow C (T.take i)).length = i := by rw [eRow_length, List.length_take]; omega
theorem fine_kd {m i : Nat} {t : Tp} (h : fineB m i t = true) : 1 ≤ t.kd ∧ t.kd ≤ 7 := by
  by_cases hk : 1 ≤ t.kd ∧ t.kd ≤ 7
  · exact hk
  · rw [fineB_no hk] at h; cases h
theorem Ext.at_mem {C : Int} {E : Ext} (hE : ∀ p ∈ E, EOk C p) {i : Int} (h0 : 0 ≤ i) (h1 : i < E.length) : EOk C (E.at_ i) := by
  unfold Ext.at_
  rw [List.getD_eq_getElem?_getD, List.getElem?_eq_getElem (by omega)]
  exact hE _ (List.getElem_mem _)
theorem fine_fok {C : Int} {E : Ext} (hE : ∀ p ∈ E, EOk C p) {m : Nat} {t : Tp} (h : fineB m E.length t = true) : FOk C E t.fs := by
  intro f hf
  obtain ⟨q, hq, rfl⟩ := List.getElem_of_mem hf
  have := fine_fld h hq
  exact Ext.at_mem hE this.1 this.2
theorem eOne_ok {C : Int} (hC : 24 ≤ C) (hC8 : C % 8 = 0) {E : Ext} (hE : ∀ p ∈ E, EOk C p) {m : Nat} {t : Tp} (h : fineB m E.length t = true) : EOk C (eOne C E t) := by
  unfold eOne
  have hk := fine_kd h
  repeat' split
  · exact ⟨by decide, by dsimp only; omega, .inl rfl⟩
  · exact ⟨by decide, by dsimp only; omega, .inr rfl⟩
  · exact ⟨by decide, by dsimp only; omega, .inr rfl⟩
  · exact ⟨by decide, by dsimp only; omega, .inr rfl⟩
  · rename_i h6
    have ha := fine_arr h h6
    obtain ⟨h1, h2, h3⟩ := Ext.at_mem hE (i := t.el) ha.1 ha.2.1
    have : 0 ≤ t.ln * (E.at_ t.el).1 := Int.mul_nonneg (by omega) h1
    exact ⟨by dsimp only; omega, by dsimp only; omega, h3⟩
  · have hl := layR_ok (C := C) (by omega) (fine_fok hE h) t.fs.length (Nat.le_refl _)
    rw [List.take_length] at hl
    have hb := upI_bnd hl.2.2 hl.1
    exact ⟨by dsimp only; omega, upI_le hl.2.2 hC8 hl.2.1, hl.2.2⟩
theorem eRow_ok {C : Int} (hC : 24 ≤ C) (hC8 : C % 8 = 0) {T : List Tp} (hF : Fine T) : ∀ i, i ≤ T.length → ∀ p ∈ eRow C (T.take i), EOk C p
  | 0, _ => fun p hp => by simp [eRow] at hp
  | i + 1, hi => by
    have ih := eRow_ok hC hC8 hF i (by omega)
    rw [eRow_take C (by omega)]
    intro p hp
    rcases List.mem_append.1 hp with hp | hp
    · exact ih p hp
    · rw [List.mem_singleton.1 hp]
      exact eOne_ok hC hC8 ih (m := T.length) (by rw [eRow_tlen C (by omega)]; exact hF i (by omega))
def ecell (p : Int × Int) : List Value := [.int .i64 p.1, .int .i64 p.2]
def ev (E : Ext) : List Value := E.flatMap ecell
theorem ecell_length (p : Int × Int) : (ecell p).length = 2 := rfl
theorem ev_length (E : Ext) : (ev E).length = E.length * 2 := rows_length ecell ecell_length E
theorem ev_app (E G : Ext) : ev (E ++ G) = ev E ++ ev G := by unfold ev; rw [List.flatMap_append]
theorem ev_idA (n : Nat) (E : Ext) : ∀ v ∈ ev E, idA n v = [] := by
  intro v hv
  obtain ⟨a, -, h⟩ := List.mem_flatMap.1 hv
  unfold ecell at h
  simp only [List.mem_cons, List.not_mem_nil, or_false] at h
  rcases h with rfl | rfl <;> rfl
theorem ev_get {E : Ext} {i : Nat} (hi : i < E.length) : lget (ev E) (i * 2) = some (.int .i64 (E.at_ (i : Int)).1) ∧ lget (ev E) (i * 2 + 1) = some (.int .i64 (E.at_ (i : Int)).2) ∧ ltake 2 (ldrop (i * 2) (ev E)) = some [.int .i64 (E.at_ (i : Int)).1, .int .i64 (E.at_ (i : Int)).2] := by
  have e : E.at_ (i : Int) = E[i] := by unfold Ext.at_; rw [Int.toNat_natCast, List.getD_eq_getElem?_getD, List.getElem?_eq_getElem hi]; rfl
  have h0 := rows_get ecell ecell_length hi (j := 0) (by omega)
  have h1 := rows_get ecell ecell_length hi (j := 1) (by omega)
  have h2 := rows_split ecell ecell_length hi
  rw [e]
  refine ⟨by rw [lget_eq]; exact h0, by rw [lget_eq]; exact h1, ?_⟩
  rw [ldrop_eq]
  unfold ev
  rw [h2]
  unfold ecell
  simp only [List.cons_append, List.nil_append, ltake_cons, ltake_zero, Option.map_some]
end Go.Proofs.Ytkngdfbibffdcaa.Ce
namespace Go.Proofs.Ytkngdfbibffdcaa.Ce
open Go.RowKit
section
variable {P : Program} {F : CallE} {h : Hp} {n : Nat} {Φ : Value → Hp → Nat → Prop}
theorem reN_two {m1 m2 : Nat} (hne : m1 ≠ m2) : reN n [m1, m2] m2 = n + 1 := by
  unfold reN
  rw [show Nat.beq m1 m2 = false from by rw [Bool.eq_false_iff]; intro hh; exact hne (Nat.eq_of_beq_eq_true hh)]
  unfold reN
  rw [Nat.beq_refl]
  rfl
theorem reN_one {m1 : Nat} {l : List Nat} : reN n (m1 :: l) m1 = n := by
  unfold reN
  rw [Nat.beq_refl]
  rfl
theorem sw_row2 {v v' : Value} {h' : Hp} {n' m1 m2 e1 e2 : Nat} {ro1 ro2 : Bool} {cs1 cs2 : List Value} (hv : idV n v = [m1, m2]) (hne : m1 ≠ m2) (hn : noFn v = true) (h1 : m1 < n') (h2 : m2 < n') (g1 : rowOf h' m1 = some (e1, ro1, cs1)) (g2 : rowOf h' m2 = some (e2, ro2, cs2))
    (c1 : ∀ v ∈ cs1, idA n v = []) (c2 : ∀ v ∈ cs2, idA n v = []) (hre : reV n [m1, m2] v = v') (hk : Φ v' ((h.set n (.row e1 ro1 cs1)).set (n + 1) (.row e2 ro2 cs2)) (n + 1 + 1)) : kSweep h n Φ v h' n' := by
  have g1' : h'.get m1 = .row e1 ro1 cs1 := rowOf_some g1
  have g2' : h'.get m2 = .row e2 ro2 cs2 := rowOf_some g2
  have p1 : plainO n (AObj.row e1 ro1 cs1) = true := by
    show cs1.all (fun v => (idA n v).isEmpty) = true
    rw [List.all_eq_true]
    intro v hv
    rw [c1 v hv]
    rfl
  have p2 : plainO n (AObj.row e2 ro2 cs2) = true := by
    show cs2.all (fun v => (idA n v).isEmpty) = true
    rw [List.all_eq_true]
    intro v hv
    rw [c2 v hv]
    rfl
  have b1 : Nat.blt m1 n' = true := by rw [Nat.blt_eq]; exact h1
  have b2 : Nat.blt m2 n' = true := by rw [Nat.blt_eq]; exact h2
  have ho : once [m1, m2] = [m1, m2] := by simp [once, hne]
  have e : sweep h n (v, h', n') = (v', (h.set n (.row e1 ro1 cs1)).set (n + 1) (.row e2 ro2 cs2), n + 1 + 1) := by
    unfold sweep
    dsimp only
    rw [hv, hn, ho]
    simp only [List.all_cons, List.all_nil, b1, b2, g1', g2', p1, p2, Bool.and_true, cond_true, hre]
    simp [g1', g2']
  unfold kSweep
  rw [e]
  exact hk
end
end Go.Proofs.Ytkngdfbibffdcaa.Ce
