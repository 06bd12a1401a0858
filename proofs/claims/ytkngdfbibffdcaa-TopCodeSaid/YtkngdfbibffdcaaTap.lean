/- Parts of the proof of TopCode: Zk, Ze. No condition of its own. -/
import Derived.Test.YtkngdfbibffdcaaTak
import Derived.Test.YtkngdfbibffdcaaTal
import Derived.Test.YtkngdfbibffdcaaTao
set_option linter.unusedVariables false
set_option linter.unusedSimpArgs false
set_option maxRecDepth 100000
set_option maxHeartbeats 4000000
namespace Go.Proofs.Ytkngdfbibffdcaa.Ce
open Go.RowKit
theorem bv_idA2 (n : Nat) (L : List UInt8) : ∀ v ∈ bv L, idA n v = [] := by
  intro v hv
  obtain ⟨s, -, rfl⟩ := List.mem_map.1 hv
  rfl
def txtW (s : List UInt8) : List UInt8 := UInt8.ofNat s.length :: s
theorem len8 {m : Nat} (h : m < 256) : (UInt8.ofNat m).toNat = m := by
  rw [UInt8.toNat_ofNat']
  exact Nat.mod_eq_of_lt h
theorem RdH.sub {h : Hp} {B id : Nat} {pre s post : List UInt8} (hr : RdH h B (some ⟨id, 0, none⟩) (bv (pre ++ s ++ post))) : RdH h B (some ⟨id, pre.length, none⟩) (bv s) := by
  have hid := hr.1 id 0 rfl
  refine ⟨fun i j e => by injection e with e; injection e with e1; omega, ?_⟩
  by_cases h0 : bv s = []
  · exact .inl h0
  · refine .inr ⟨id, pre.length, rfl, fun q v hq => ?_⟩
    rcases hr.2 with hn | ⟨id2, j2, e, hc⟩
    · rw [bv_ap2, bv_ap2] at hn
      have hh := (List.append_eq_nil_iff.1 hn).1
      exact absurd (List.append_eq_nil_iff.1 hh).2 h0
    · injection e with e
      injection e with e1 e2
      subst e1; subst e2
      have := hc (pre.length + q) v (by
        rw [bv_ap2, bv_ap2, List.append_assoc, List.getElem?_append_right (by rw [bv_length]; omega), bv_length, Nat.add_sub_cancel_left, List.getElem?_append_left]
        · exact hq
        · rcases Nat.lt_or_ge q (bv s).length with hh | hh
          · exact hh
          · rw [List.getElem?_eq_none hh] at hq; cases hq)
      rwa [Nat.zero_add] at this
section
variable {P : Program} {F : CallE} {lim : Nat} {ops l : List Oper} {dst : Option Tmp} {ty : TypeId} {pos : String} {af : Array Edge} {f : Fm} {h : Hp} {n : Nat} {Φ : Value → Hp → Nat → Prop} {KO : Fm → Hp → Nat → Prop}
theorem o_callC {gd : Option (Nat × Bool)} {x : Operand} {args : List Operand} {ts : Array TypeId} {g : FuncId} {cap vs : List Value} (hw : wantsF ops gd f = some true) (hx : lv f x = .func (.func g) ⟨[]⟩ ⟨cap⟩) (ha : args.map (lv f) ++ cap = vs)
    (hs : Sp P F lim g vs h n Φ) (hk : ∀ v h' n', Φ v h' n' → XO P F lim ops l (fput f dst v) h' n' KO) : XO P F lim ops (⟨dst, .call ⟨.value x, args.toArray, ts⟩, ty, pos, af, gd⟩ :: l) f h n KO :=
  o_call (g := g) (cap := ⟨cap⟩) hw hx (by simp [ha]) hs hk
end
variable (k d cl : Nat) (h : Hp) (n : Nat)
theorem put_ev (id : Nat) (b : UInt8) (hr : rowOf h id = some (39, false, [.slice none 0 0])) (hid : id < n) (hci : cl ≤ id) : SQ k (d + 1) cl 33 [.int .u8 b.toNat, .pointer (some ⟨id, 0, none⟩)] h n fun v h' n' => v = .tuple ⟨[]⟩ ∧ ((h.set n (.row 5 false (bv [b]))).set (n + 1) (.row 5 false (bv [b]))).set id (.row 39 false [.slice (some ⟨n + 1, 0, none⟩) 1 1]) = h' ∧ n + 1 + 1 = n' := by
  have hw := rwOf_row hr
  have hc := cellAt_row (off := 0) hr
  refine enterW Try.func33 (by kernel_rfl) rfl (by kernel_rfl) rfl rfl rfl ?_
  (repeat' first | refine zcd ?_ | intro K' hK | (with_reducible refine zn hK ?_; clear hK) | ((with_reducible apply o_ap0 (t := 39) apT39 w_none); (case hs => exact ez1 hc); (case hy => exact ez0); (case hsrc => exact src_row ez0 rfl); (case hc => rfl); (case hm => omega); (case h0 => omega)) | ((with_reducible first | apply zo1 | apply zo2 | apply o_guard rfl | apply x_cond | apply k_e1 rfl | apply k_e2 rfl | apply k_e0 rfl | apply k_e3 rfl | apply k_e4 rfl); (case he => exact ez2 hw hc); (try case hok => exact ezO); all_goals try (intro hb; (try simp only [hbs, reduceCtorEq] at hb); try exact ezX)) | ((with_reducible apply o_undef rfl); (case hb => exact ez0)))
  all_goals exact ⟨rfl, rfl, rfl⟩
theorem vary_ev (hk : 30000 ≤ k) (x : Nat) (hx : x < 128) : SQ k (d + 2) cl 11 [.int .u64 (x : Int)] h n fun v h' n' => v = .slice (some ⟨n, 0, none⟩) 1 1 ∧ h.set n (.row 5 false (bv [UInt8.ofNat x])) = h' ∧ n + 1 = n' := by
  have hl := len8 (m := x) (by omega)
  have hw := wrap_u8n (x := x) (by omega)
  have q := fun (h6 : Hp) (n6 id : Nat) (hr6 : rowOf h6 id = some (39, false, [.slice none 0 0])) (hid : id < n6) (hci : n ≤ id) => put_ev k d n h6 n6 id (UInt8.ofNat x) hr6 hid hci
  rw [hl] at q
  refine enter Try.func11 (by kernel_rfl) rfl (by kernel_rfl) rfl rfl rfl ?_
  (repeat' first | refine zcd ?_ | intro K' hK | (with_reducible refine zn hK ?_; clear hK) | (with_reducible refine x_turns ?_) | (with_reducible refine x_turn (by omega) ?_) | (with_reducible refine k_turn ?_) | ((with_reducible apply o_callC (g := 33) w_none); (case hx => exact ez0); (case ha => exact ez0); (case hs => ((with_reducible apply q); (all_goals first | exact ez0 | omega))); (case' hk => rintro _ h' n' ⟨rfl, rfl, rfl⟩)) | ((with_reducible first | apply zo1 | apply zo2 | apply o_guard rfl | apply x_cond | apply k_e1 rfl | apply k_e2 rfl | apply k_e0 rfl | apply k_e3 rfl | apply k_e4 rfl); (case he => exact ez1 hw); (try case hok => exact ezO); all_goals try (intro hb; (try simp only [hbs, reduceCtorEq] at hb); try exact ezX)) | ((with_reducible apply o_undef rfl); (case hb => exact ez0)))
  all_goals (refine sw_row ezI rfl (by omega) ez0 (bv_idA2 n [UInt8.ofNat x]) ezR ?_; exact ⟨rfl, rfl, rfl⟩)
theorem text_ev (hk : 30000 ≤ k) (s : List UInt8) (hs : s.length ≤ 100) : SQ k (d + 3) cl 17 [.string ⟨⟨s⟩⟩] h n fun v h' n' => v = .tuple ⟨[.slice (some ⟨n, 0, none⟩) (txtW s).length (txtW s).length, .int .i64 0]⟩ ∧ h.set n (.row 5 false (bv (txtW s))) = h' ∧ n + 1 = n' := by
  have q := fun (h6 : Hp) (n6 : Nat) => vary_ev k d n h6 n6 hk s.length (by omega)
  have hl := tx_len s
  have hw := wrap_u64 (x := (s.length : Int)) (by omega) (by omega)
  have htl : (txtW s).length = s.length + 1 := rfl
  have hrow : List.take 1 (bv [UInt8.ofNat s.length]) ++ bvals ⟨⟨s⟩⟩ = bv (txtW s) := rfl
  refine enter Try.func17 (by kernel_rfl) rfl (by kernel_rfl) rfl rfl rfl ?_
  (repeat' first | refine zcd ?_ | intro K' hK | (with_reducible refine zn hK ?_; clear hK) | ((with_reducible apply o_callF (g := 11) w_none); (case ha => exact ez0); (case hs => (exact q _ _)); (case' hk => rintro _ h' n' ⟨rfl, rfl, rfl⟩)) | ((with_reducible apply o_apSR (t := 39) apS.1 w_none); (case hs => exact ez0); (case hy => exact ez0); (case hr => exact ez0); (case hm => rw [hl]; omega); (case hli => omega); (case hln => omega); (case hcs => rw [bv_length]; exact Nat.le_refl 1)) | ((with_reducible first | apply zo1 | apply zo2 | apply o_guard rfl | apply x_cond | apply k_e1 rfl | apply k_e2 rfl | apply k_e0 rfl | apply k_e3 rfl | apply k_e4 rfl); (case he => exact ez2 hl hw); (try case hok => exact ezO); all_goals try (intro hb; (try simp only [hbs, reduceCtorEq] at hb); try exact ezX)) | ((with_reducible apply o_undef rfl); (case hb => exact ez0)))
  all_goals (refine sw_row ezI rfl (by omega) (rowOf_same _ _ _ _ _) (by rw [hrow]; exact bv_idA2 n _) ezR ?_; exact ⟨by rw [htl, Nat.add_comm], by rw [hrow], rfl⟩)
theorem new_ev (hk : 30000 ≤ k) (A : Option Addr) (b : List UInt8) (c : Nat) (hr : RdH h n A (bv b)) (h0 : A = none → c = 0) (hb : b.length ≤ 20000) : SQ k (d + 1) cl 20 [.slice A b.length c] h n fun v h' n' => v = .tuple ⟨[.agg ⟨[.slice (some ⟨n, 0, none⟩) b.length b.length, .int .i64 0]⟩, .int .i64 0]⟩ ∧ h.set n (.row 5 false (bv b)) = h' ∧ n + 1 = n' := by
  obtain ⟨bl, hbl⟩ : ∃ bl, b.length = bl := ⟨_, rfl⟩
  have hbv : (bv b).length = bl := by rw [bv_length, hbl]
  rw [hbl] at hb ⊢
  have hco : (bv b).all cok = true := by
    rw [List.all_eq_true]
    intro v hv
    obtain ⟨x, -, rfl⟩ := List.mem_map.1 hv
    rfl
  have hsr := fun (h6 : Hp) (B6 : Nat) (hr6 : RdH h6 B6 A (bv b)) => src_rd (m := bl) (s := 1) hr6 h0 (by rw [hbv]; omega) (by omega)
  refine enter Try.func20 (by kernel_rfl) rfl (by kernel_rfl) rfl rfl rfl ?_
  (repeat' first | refine zcd ?_ | intro K' hK | (with_reducible refine zn hK ?_; clear hK) | ((with_reducible apply o_apR (t := 39) apT39 w_none); (case hs => exact ez0); (case hy => exact ez0); (case hsrc => exact hsr _ _ (((hr.set (Nat.le_refl _) _).set (by omega) _).more (B' := n + 5) (by omega))); (case hr => exact ez0); (case hc => exact hco); (case hm => omega); (case hli => omega); (case hln => omega); (case hcs => simp)) | ((with_reducible first | apply zo1 | apply zo2 | apply o_guard rfl | apply x_cond | apply k_e1 rfl | apply k_e2 rfl | apply k_e0 rfl | apply k_e3 rfl | apply k_e4 rfl); (case he => exact ez0); (try case hok => exact ezO); all_goals try (intro hb; (try simp only [hbs, reduceCtorEq] at hb); try exact ezX)) | ((with_reducible apply o_undef rfl); (case hb => exact ez0)))
  all_goals (refine sw_row ezI rfl (by omega) ez0 (bv_idA2 n b) ezR ?_; exact ⟨rfl, rfl, rfl⟩)
theorem wcheck_ev (hk : 30000 ≤ k) (id L a : Nat) (hL : L ≤ 20000) (ha : a ≤ L) : SQ k (d + 1) cl 44 [.agg ⟨[.slice (some ⟨id, 0, none⟩) L L, .int .i64 (a : Int)]⟩] h n fun v h' n' => v = .int .i64 0 ∧ h = h' ∧ n = n' := by
  refine enter Try.func44 (by kernel_rfl) rfl (by kernel_rfl) rfl rfl rfl ?_
  (repeat' first | refine zcd ?_ | intro K' hK | (with_reducible refine zn hK ?_; clear hK) | fail | ((with_reducible first | apply zo1 | apply zo2 | apply o_guard rfl | apply x_cond | apply k_e1 rfl | apply k_e2 rfl | apply k_e0 rfl | apply k_e3 rfl | apply k_e4 rfl); (case he => exact ez0); (try case hok => exact ezO); all_goals try (intro hb; (try simp only [hbs, reduceCtorEq] at hb); try exact ezX)) | ((with_reducible apply o_undef rfl); (case hb => exact ez0)))
  all_goals exact sw_flat rfl rfl ⟨rfl, rfl, rfl⟩
theorem left_ev (hk : 30000 ≤ k) (id L a : Nat) (hL : L ≤ 20000) (ha : a ≤ L) : SQ k (d + 2) cl 22 [.agg ⟨[.slice (some ⟨id, 0, none⟩) L L, .int .i64 (a : Int)]⟩] h n fun v h' n' => v = .tuple ⟨[.int .i64 ((L : Int) - a), .int .i64 0]⟩ ∧ h = h' ∧ n = n' := by
  have q := fun (h6 : Hp) (n6 : Nat) => wcheck_ev k d n h6 n6 hk id L a hL ha
  refine enter Try.func22 (by kernel_rfl) rfl (by kernel_rfl) rfl rfl rfl ?_
  (repeat' first | refine zcd ?_ | intro K' hK | (with_reducible refine zn hK ?_; clear hK) | ((with_reducible apply o_callF (g := 44) w_none); (case ha => exact ez0); (case hs => (exact q _ _)); (case' hk => rintro _ h' n' ⟨rfl, rfl, rfl⟩)) | ((with_reducible first | apply zo1 | apply zo2 | apply o_guard rfl | apply x_cond | apply k_e1 rfl | apply k_e2 rfl | apply k_e0 rfl | apply k_e3 rfl | apply k_e4 rfl); (case he => exact ez0); (try case hok => exact ezO); all_goals try (intro hb; (try simp only [hbs, reduceCtorEq] at hb); try exact ezX)) | ((with_reducible apply o_undef rfl); (case hb => exact ez0)))
  all_goals exact sw_flat rfl rfl ⟨rfl, rfl, rfl⟩
theorem b_and7 {t : TypeId} {c : Nat} (hc : c < 128) (h : Hp) (n : Nat) : mBin Try.prog .and t (.int .u8 (c : Int)) (.int .u8 127) h n = some ⟨.int .u8 (c : Int), h, n, [], []⟩ := by
  show (some (Value.int .u8 (IntKind.wrap .u8 (((BitVec.ofInt 8 (c : Int)) &&& (BitVec.ofInt 8 ((127 : Nat) : Int))).toNat : Int)))).bind _ = _
  rw [BitVec.toNat_and, BitVec.ofInt_natCast, BitVec.ofInt_natCast, BitVec.toNat_ofNat, BitVec.toNat_ofNat, Nat.mod_eq_of_lt (by omega), show (127 : Nat) % 2 ^ 8 = 2 ^ 7 - 1 from rfl, Nat.and_two_pow_sub_one_eq_mod, Nat.mod_eq_of_lt hc, wrap_u8n (by omega)]
  rfl
theorem b_shl0 {t : TypeId} {c : Nat} (hc : c < 18446744073709551616) (h : Hp) (n : Nat) : mBin Try.prog .shl t (.int .u64 (c : Int)) (.int .i64 0) h n = some ⟨.int .u64 (c : Int), h, n, [], []⟩ := by
  rw [b_shl (by decide)]
  show some (Ef.mk (.int .u64 (IntKind.wrap .u64 ((c : Int) * 1))) h n [] []) = _
  rw [Int.mul_one, wrap_u64 (by omega) (by omega)]
theorem b_or0 {t : TypeId} {c : Nat} (hc : c < 18446744073709551616) (h : Hp) (n : Nat) : mBin Try.prog .or t (.int .u64 0) (.int .u64 (c : Int)) h n = some ⟨.int .u64 (c : Int), h, n, [], []⟩ := by
  have e : ibits Try.prog .or Nat.lor .u64 (.ofNat 0) (.ofNat c) = some (.int .u64 (.ofNat c)) := by
    show (bif Nat.blt 0 18446744073709551616 && Nat.blt c 18446744073709551616 then some (Value.int .u64 (.ofNat (Nat.lor 0 c))) else none) = _
    have b2 : Nat.blt c 18446744073709551616 = true := by rw [Nat.blt_eq]; exact hc
    rw [b2, show Nat.lor 0 c = c from Nat.zero_or c]
    rfl
  show (ibits Try.prog .or Nat.lor .u64 (.ofNat 0) (.ofNat c)).bind _ = _
  rw [e]
  rfl
theorem unvary_ev (hk : 30000 ≤ k) (id L a x : Nat) (all : List UInt8) (hr : RdH h n (some ⟨id, 0, none⟩) (bv all)) (hLa : all.length = L) (hL : L ≤ 20000) (ha : a < L) (hx : (all.getD a 0).toNat = x) (hx1 : x ≤ 100) : SQ k (d + 2) cl 45 [.agg ⟨[.slice (some ⟨id, 0, none⟩) L L, .int .i64 (a : Int)]⟩, .int .u64 100] h n fun v h' n' => v = .tuple ⟨[.agg ⟨[.slice (some ⟨id, 0, none⟩) L L, .int .i64 ((a + 1 : Nat) : Int)]⟩, .int .u64 (x : Int), .int .i64 0]⟩ ∧ h = h' ∧ n = n' := by
  have q := fun (h6 : Hp) (n6 : Nat) => wcheck_ev k d n h6 n6 hk id L a hL (by omega)
  have hid := hr.1 id 0 rfl
  have hce : cellAt h id a = some (.int .u8 (x : Int)) := by
    obtain ⟨id2, off, e, -, hc⟩ := hr.at_ (by rw [bv_length]; omega)
    injection e with e
    injection e with e1 e2
    subst e1; subst e2
    have := hc a _ (bv_get (by omega))
    rw [Nat.zero_add, ← getD_lt (d := 0) (by omega), hx] at this
    exact this
  have e1 := b_and7 (t := 5) (c := x) (by omega)
  have e2 := b_shl0 (t := 41) (c := x) (by omega)
  have e3 := b_or0 (t := 41) (c := x) (by omega)
  have hw := wrap_u64 (x := (x : Int)) (by omega) (by omega)
  have hn1 : ((a : Nat) : Int) + 1 = ((a + 1 : Nat) : Int) := rfl
  refine enter Try.func45 (by kernel_rfl) rfl (by kernel_rfl) rfl rfl rfl ?_
  (repeat' first | refine zcd ?_ | intro K' hK | (with_reducible refine zn hK ?_; clear hK) | (with_reducible refine x_turns ?_) | (with_reducible refine x_turn (by omega) ?_) | (with_reducible refine k_turn ?_) | ((with_reducible apply o_callF (g := 44) w_none); (case ha => exact ez0); (case hs => (exact q _ _)); (case' hk => rintro _ h' n' ⟨rfl, rfl, rfl⟩)) | ((with_reducible first | apply zo1 | apply zo2 | apply o_guard rfl | apply x_cond | apply k_e1 rfl | apply k_e2 rfl | apply k_e0 rfl | apply k_e3 rfl | apply k_e4 rfl); (case he => exact ez5 hce e1 e2 e3 hw); (try case hok => exact ezO); all_goals try (intro hb; (try simp only [hbs, reduceCtorEq] at hb); try exact ezX)) | ((with_reducible apply o_undef rfl); (case hb => exact ez0)))
  all_goals exact sw_flat ezI rfl ⟨rfl, rfl, rfl⟩
theorem untext_ev (hk : 30000 ≤ k) (id L a : Nat) (pre s post : List UInt8) (hr : RdH h n (some ⟨id, 0, none⟩) (bv (pre ++ txtW s ++ post))) (hLa : (pre ++ txtW s ++ post).length = L) (hL : L ≤ 20000) (ha : pre.length = a) (hs : s.length ≤ 100) : SQ k (d + 3) cl 21 [.agg ⟨[.slice (some ⟨id, 0, none⟩) L L, .int .i64 (a : Int)]⟩, .int .i64 100] h n fun v h' n' => v = .tuple ⟨[.agg ⟨[.slice (some ⟨id, 0, none⟩) L L, .int .i64 ((a + 1 + s.length : Nat) : Int)]⟩, .string ⟨⟨s⟩⟩, .int .i64 0]⟩ ∧ h = h' ∧ n = n' := by
  have hlen : a + 1 + s.length ≤ L := by
    rw [← hLa, List.length_append, List.length_append, ha]
    show _ ≤ a + (s.length + 1) + _
    omega
  have q := fun (h6 : Hp) (n6 : Nat) => wcheck_ev k (d + 1) n h6 n6 hk id L a hL (by omega)
  have hget : ((pre ++ txtW s ++ post).getD a 0).toNat = s.length := by
    have e : (pre ++ txtW s ++ post)[a]? = some (UInt8.ofNat s.length) := by
      rw [List.append_assoc, List.getElem?_append_right (by omega), ha, Nat.sub_self]
      rfl
    rw [List.getD_eq_getElem?_getD, e]
    exact len8 (by omega)
  have q2 := fun (h6 : Hp) (n6 : Nat) (hr6 : RdH h6 n6 (some ⟨id, 0, none⟩) (bv (pre ++ txtW s ++ post))) => unvary_ev k d n h6 n6 hk id L a s.length _ hr6 hLa hL (by omega) hget hs
  have hid := hr.1 id 0 rfl
  have hsub : RdH h n (some ⟨id, a + 1, none⟩) (bv s) := by
    have e : pre ++ txtW s ++ post = (pre ++ [UInt8.ofNat s.length]) ++ s ++ post := by
      unfold txtW
      simp
    rw [e] at hr
    have := RdH.sub hr
    rwa [List.length_append, ha] at this
  have hN : (((a + 1 : Nat) : Int) + (s.length : Int)).toNat - (a + 1) = s.length := by omega
  have hN2 : ((a + 1 : Nat) : Int) + (s.length : Int) = ((a + 1 + s.length : Nat) : Int) := by omega
  have hw := wrap_u64 (x := (s.length : Int)) (by omega) (by omega)
  refine enter Try.func21 (by kernel_rfl) rfl (by kernel_rfl) rfl rfl rfl ?_
  (repeat' first | refine zcd ?_ | intro K' hK | (with_reducible refine zn hK ?_; clear hK) | ((with_reducible apply o_callF (g := 44) w_none); (case ha => exact ez0); (case hs => (exact q _ _)); (case' hk => rintro _ h' n' ⟨rfl, rfl, rfl⟩)) | ((with_reducible apply o_callF (g := 45) w_none); (case ha => exact ez0); (case hs => ((with_reducible apply q2); exact (((hr.set (Nat.le_refl _) _).set (by omega) _).more (by omega)))); (case' hk => rintro _ h' n' ⟨rfl, rfl, rfl⟩)) | ((with_reducible apply o_b2s (xs := s) b2T39_9 w_none); (case hy => exact ez1 hN); (case hr => exact (((hsub.set (Nat.le_refl _) _).set (by omega) _).set (by omega) _).more (B' := n + 50) (by omega)); (case h0 => intro hh; cases hh)) | ((with_reducible first | apply zo1 | apply zo2 | apply o_guard rfl | apply x_cond | apply k_e1 rfl | apply k_e2 rfl | apply k_e0 rfl | apply k_e3 rfl | apply k_e4 rfl); (case he => exact ez2 hw hN); (try case hok => exact ezO); all_goals try (intro hb; (try simp only [hbs, reduceCtorEq] at hb); try exact ezX)) | ((with_reducible apply o_undef rfl); (case hb => exact ez0)))
  all_goals exact sw_flat ezI rfl ⟨by rw [hN2], rfl, rfl⟩
def leB (w x : Nat) : List UInt8 := UInt8.ofNat x :: List.replicate (w - 1) 0
theorem leB_len {w : Nat} (hw : 0 < w) (x : Nat) : (leB w x).length = w := by unfold leB; simp; omega
theorem wide_ev (w : Int) (hw : w = 1 ∨ w = 8) : SQ k (d + 1) cl 50 [.int .i64 w] h n fun v h' n' => v = .int .i64 0 ∧ h = h' ∧ n = n' := by
  rcases hw with rfl | rfl
  all_goals
    refine enter Try.func50 (by kernel_rfl) rfl (by kernel_rfl) rfl rfl rfl ?_
    (repeat' first | refine zcd ?_ | intro K' hK | (with_reducible refine zn hK ?_; clear hK) | fail | ((with_reducible first | apply zo1 | apply zo2 | apply o_guard rfl | apply x_cond | apply k_e1 rfl | apply k_e2 rfl | apply k_e0 rfl | apply k_e3 rfl | apply k_e4 rfl); (case he => exact ez0); (try case hok => exact ezO); all_goals try (intro hb; (try simp only [hbs, reduceCtorEq] at hb); try exact ezX)) | ((with_reducible apply o_undef rfl); (case hb => exact ez0)))
    all_goals exact sw_flat rfl rfl ⟨rfl, rfl, rfl⟩
theorem fine_ev (hk : 30000 ≤ k) (id : Nat) (hr : rowOf h id = some (43, false, [.int .i64 0, .int .i64 0])) (hid : id < n) : SQ k (d + 1) cl 51 [.slice (some ⟨id, 0, none⟩) 2 2] h n fun v h' n' => v = .int .i64 0 ∧ h = h' ∧ n = n' := by
  have c0 := cellAt_row (off := 0) hr
  have c1 := cellAt_row (off := 1) hr
  refine enter Try.func51 (by kernel_rfl) rfl (by kernel_rfl) rfl rfl rfl ?_
  (repeat' first | refine zcd ?_ | intro K' hK | (with_reducible refine zn hK ?_; clear hK) | (with_reducible refine x_turns ?_) | (with_reducible refine x_turn (by omega) ?_) | (with_reducible refine k_turn ?_) | ((with_reducible first | apply zo1 | apply zo2 | apply o_guard rfl | apply x_cond | apply k_e1 rfl | apply k_e2 rfl | apply k_e0 rfl | apply k_e3 rfl | apply k_e4 rfl); (case he => exact ez2 c0 c1); (try case hok => exact ezO); all_goals try (intro hb; (try simp only [hbs, reduceCtorEq] at hb); try exact ezX)) | ((with_reducible apply o_undef rfl); (case hb => exact ez0)))
  all_goals exact sw_flat rfl rfl ⟨rfl, rfl, rfl⟩
theorem shr_0 {x : Nat} (hx : x < 256) {t : TypeId} (h : Hp) (n : Nat) : mBin Try.prog .shr t (.int .u64 (x : Int)) (.int .i64 0) h n = some ⟨.int .u64 (x : Int), h, n, [], []⟩ := by
  rw [b_shr (by decide)]
  show some (Ef.mk (.int .u64 ((x : Int).fdiv 1)) h n [] []) = _
  rw [Int.fdiv_one]
theorem shr_k {x : Nat} {b : Int} (hb : 8 ≤ b) (hb2 : b ≤ 64) (hx : x < 256) {t : TypeId} (h : Hp) (n : Nat) : mBin Try.prog .shr t (.int .u64 (x : Int)) (.int .i64 b) h n = some ⟨.int .u64 0, h, n, [], []⟩ := by
  rw [b_shr (by omega)]
  have e : (x : Int).fdiv (2 ^ (min b.toNat (IntKind.bits .u64))) = 0 := by
    have hm : min b.toNat (IntKind.bits .u64) = b.toNat := Nat.min_eq_left (by show b.toNat ≤ 64; omega)
    rw [hm, Int.fdiv_eq_ediv_of_nonneg _ (Int.pow_nonneg (by decide))]
    have hp : (256 : Nat) ≤ 2 ^ b.toNat := Nat.le_trans (show 256 ≤ 2 ^ 8 by decide) (Nat.pow_le_pow_right (by decide) (by omega))
    have e2 : ((2 : Int) ^ b.toNat) = ((2 ^ b.toNat : Nat) : Int) := by simp
    rw [e2]
    show ((x / 2 ^ b.toNat : Nat) : Int) = 0
    rw [Nat.div_eq_of_lt (by omega)]
    rfl
  rw [e]
theorem shr_7 {x : Nat} (hx : x < 256) {t : TypeId} (h : Hp) (n : Nat) : mBin Try.prog .shr t (.int .u64 (x : Int)) (.int .i64 7) h n = some ⟨.int .u64 ((x / 128 : Nat) : Int), h, n, [], []⟩ := by
  rw [b_shr (by decide)]
  show some (Ef.mk (.int .u64 ((x : Int).fdiv 128)) h n [] []) = _
  rw [Int.fdiv_eq_ediv_of_nonneg _ (by decide)]
  rfl
theorem shr_71 {x : Nat} (hx : x < 256) {t : TypeId} (h : Hp) (n : Nat) : mBin Try.prog .shr t (.int .u64 ((x / 128 : Nat) : Int)) (.int .u64 1) h n = some ⟨.int .u64 0, h, n, [], []⟩ := by
  rw [b_shr (by decide)]
  show some (Ef.mk (.int .u64 (((x / 128 : Nat) : Int).fdiv 2)) h n [] []) = _
  rw [Int.fdiv_eq_ediv_of_nonneg _ (by decide)]
  show some (Ef.mk (.int .u64 ((x / 128 / 2 : Nat) : Int)) h n [] []) = _
  rw [show x / 128 / 2 = 0 from by omega]
  rfl
theorem shr_z {t : TypeId} (h : Hp) (n : Nat) : mBin Try.prog .shr t (.int .u64 0) (.int .u64 1) h n = some ⟨.int .u64 0, h, n, [], []⟩ := by
  rw [b_shr (by decide)]
  rfl
theorem b_orz {t : TypeId} {c : Nat} (hc : c < 18446744073709551616) (h : Hp) (n : Nat) : mBin Try.prog .or t (.int .u64 (c : Int)) (.int .u64 0) h n = some ⟨.int .u64 (c : Int), h, n, [], []⟩ := by
  have e : ibits Try.prog .or Nat.lor .u64 (.ofNat c) (.ofNat 0) = some (.int .u64 (.ofNat c)) := by
    show (bif Nat.blt c 18446744073709551616 && Nat.blt 0 18446744073709551616 then some (Value.int .u64 (.ofNat (Nat.lor c 0))) else none) = _
    have b2 : Nat.blt c 18446744073709551616 = true := by rw [Nat.blt_eq]; exact hc
    rw [b2, show Nat.lor c 0 = c from Nat.or_zero c]
    rfl
  show (ibits Try.prog .or Nat.lor .u64 (.ofNat c) (.ofNat 0)).bind _ = _
  rw [e]
  rfl
theorem b_shlz {t : TypeId} {c : Int} (hc : 0 ≤ c) (h : Hp) (n : Nat) : mBin Try.prog .shl t (.int .u64 0) (.int .i64 c) h n = some ⟨.int .u64 0, h, n, [], []⟩ := by
  rw [b_shl hc, Int.zero_mul, wrap_u64 (by omega) (by omega)]
theorem src_pre {id e m c : Nat} {ro : Bool} {cs : List Value} {h : Hp} (hr : rowOf h id = some (e, ro, cs)) (h0 : 0 < m) (hl : m ≤ cs.length) : SrcIs 1 h (.slice (some ⟨id, 0, none⟩) m c) m (cs.take m) := by
  obtain ⟨m, rfl⟩ : ∃ m', m = m' + 1 := ⟨m - 1, by omega⟩
  exact ⟨[id], by
    show (cellsAt h id 0 ((m + 1) * 1)).map _ = _
    rw [cellsAt_row hr, ldrop_zero, Nat.mul_one, ltake_of hl]
    rfl⟩
theorem fixed1_ev (hk : 30000 ≤ k) (x : Nat) (hx : x < 256) : SQ k (d + 2) cl 28 [.int .u64 (x : Int), .int .i64 1] h n fun v h' n' => v = .tuple ⟨[.slice (some ⟨n, 0, none⟩) 1 1, .int .i64 0]⟩ ∧ h.set n (.row 5 false (bv (leB 1 x))) = h' ∧ n + 1 = n' := by
  have q := fun (h6 : Hp) (n6 : Nat) => wide_ev k d n h6 n6 1 (by omega)
  have hsh : (∀ (t : TypeId) (h : Hp) (n : Nat), mBin Try.prog .shr t (.int .u64 (x : Int)) (.int .i64 0) h n = some ⟨.int .u64 (x : Int), h, n, [], []⟩) ∧ (∀ (t : TypeId) (h : Hp) (n : Nat), mBin Try.prog .shr t (.int .u64 (x : Int)) (.int .i64 8) h n = some ⟨.int .u64 0, h, n, [], []⟩) ∧ (∀ (t : TypeId) (h : Hp) (n : Nat), mBin Try.prog .shr t (.int .u64 (x : Int)) (.int .i64 16) h n = some ⟨.int .u64 0, h, n, [], []⟩) ∧ (∀ (t : TypeId) (h : Hp) (n : Nat), mBin Try.prog .shr t (.int .u64 (x : Int)) (.int .i64 24) h n = some ⟨.int .u64 0, h, n, [], []⟩) ∧ (∀ (t : TypeId) (h : Hp) (n : Nat), mBin Try.prog .shr t (.int .u64 (x : Int)) (.int .i64 32) h n = some ⟨.int .u64 0, h, n, [], []⟩) ∧ (∀ (t : TypeId) (h : Hp) (n : Nat), mBin Try.prog .shr t (.int .u64 (x : Int)) (.int .i64 40) h n = some ⟨.int .u64 0, h, n, [], []⟩) ∧ (∀ (t : TypeId) (h : Hp) (n : Nat), mBin Try.prog .shr t (.int .u64 (x : Int)) (.int .i64 48) h n = some ⟨.int .u64 0, h, n, [], []⟩) ∧ (∀ (t : TypeId) (h : Hp) (n : Nat), mBin Try.prog .shr t (.int .u64 (x : Int)) (.int .i64 56) h n = some ⟨.int .u64 0, h, n, [], []⟩) := ⟨fun t h n => shr_0 (x := x) hx h n, fun t h n => shr_k (b := 8) (by omega) (by omega) (x := x) hx h n, fun t h n => shr_k (b := 16) (by omega) (by omega) (x := x) hx h n, fun t h n => shr_k (b := 24) (by omega) (by omega) (x := x) hx h n, fun t h n => shr_k (b := 32) (by omega) (by omega) (x := x) hx h n, fun t h n => shr_k (b := 40) (by omega) (by omega) (x := x) hx h n, fun t h n => shr_k (b := 48) (by omega) (by omega) (x := x) hx h n, fun t h n => shr_k (b := 56) (by omega) (by omega) (x := x) hx h n⟩
  have hck : (∀ (t : TypeId) (h : Hp) (n : Nat), mBin Try.prog .shr t (.int .u64 (x : Int)) (.int .i64 7) h n = some ⟨.int .u64 ((x / 128 : Nat) : Int), h, n, [], []⟩) ∧ (∀ (t : TypeId) (h : Hp) (n : Nat), mBin Try.prog .shr t (.int .u64 ((x / 128 : Nat) : Int)) (.int .u64 1) h n = some ⟨.int .u64 0, h, n, [], []⟩) := ⟨fun t h n => shr_7 hx h n, fun t h n => shr_71 hx h n⟩
  have hw := wrap_u8n hx
  have hl := len8 hx
  have sl : ∀ (h : Hp) (n id off : Nat) (k1 : IntKind) (hi : Int) (h0 : 0 ≤ hi) (h1 : hi ≤ 8), mSlice Try.prog 110 (.pointer (some ⟨id, off, none⟩)) none (some (.int k1 hi)) h n = some ⟨.slice (some ⟨id, off, none⟩) hi.toNat (hi.toNat + 1), h, n, [], []⟩ := fun _ _ _ _ _ _ h0 h1 => m_slPH (m := 8) (s := 1) (by kernel_rfl) (by omega) h0 h1
  have hrow : bv (leB 1 x) = [Value.int .u8 (x : Int)] := by
    unfold leB bv
    simp [hl, List.replicate]
  rw [hrow]
  refine enter Try.func28 (by kernel_rfl) rfl (by kernel_rfl) rfl rfl rfl ?_
  (repeat' first | refine zcd ?_ | intro K' hK | (with_reducible refine zn hK ?_; clear hK) | (with_reducible refine x_turns ?_) | (with_reducible refine x_turn (by omega) ?_) | (with_reducible refine k_turn ?_) | ((with_reducible apply o_callF (g := 50) w_none); (case ha => exact ez0); (case hs => (exact q _ _)); (case' hk => rintro _ h' n' ⟨rfl, rfl, rfl⟩)) | ((with_reducible apply o_apR (t := 39) apT39 w_none); (case hs => exact ez0); (case hy => exact ez0); (case hsrc => exact src_pre ez0 (by decide) (by simp)); (case hr => exact ez0); (case hc => rfl); (case hm => omega); (case hli => omega); (case hln => omega); (case hcs => simp)) | ((with_reducible first | apply zo1 | apply zo2 | apply o_guard rfl | apply x_cond | apply k_e1 rfl | apply k_e2 rfl | apply k_e0 rfl | apply k_e3 rfl | apply k_e4 rfl); (case he => exact ez4 hsh hck hw sl); (try case hok => exact ezO); all_goals try (intro hb; (try simp only [hbs, reduceCtorEq] at hb); try exact ezX)) | ((with_reducible apply o_undef rfl); (case hb => exact ez0)))
  all_goals (refine sw_row ezI rfl (by omega) ez0 (by intro v hv; simp at hv; first | (subst hv; rfl) | (rcases hv with rfl | rfl <;> rfl) | (rcases hv with rfl | rfl | rfl | rfl | rfl | rfl | rfl | rfl <;> rfl)) ezR ?_; exact ⟨rfl, rfl, rfl⟩)
theorem fixed8_ev (hk : 30000 ≤ k) (x : Nat) (hx : x < 256) : SQ k (d + 2) cl 28 [.int .u64 (x : Int), .int .i64 8] h n fun v h' n' => v = .tuple ⟨[.slice (some ⟨n, 0, none⟩) 8 8, .int .i64 0]⟩ ∧ h.set n (.row 5 false (bv (leB 8 x))) = h' ∧ n + 1 = n' := by
  have q := fun (h6 : Hp) (n6 : Nat) => wide_ev k d n h6 n6 8 (by omega)
  have hsh : (∀ (t : TypeId) (h : Hp) (n : Nat), mBin Try.prog .shr t (.int .u64 (x : Int)) (.int .i64 0) h n = some ⟨.int .u64 (x : Int), h, n, [], []⟩) ∧ (∀ (t : TypeId) (h : Hp) (n : Nat), mBin Try.prog .shr t (.int .u64 (x : Int)) (.int .i64 8) h n = some ⟨.int .u64 0, h, n, [], []⟩) ∧ (∀ (t : TypeId) (h : Hp) (n : Nat), mBin Try.prog .shr t (.int .u64 (x : Int)) (.int .i64 16) h n = some ⟨.int .u64 0, h, n, [], []⟩) ∧ (∀ (t : TypeId) (h : Hp) (n : Nat), mBin Try.prog .shr t (.int .u64 (x : Int)) (.int .i64 24) h n = some ⟨.int .u64 0, h, n, [], []⟩) ∧ (∀ (t : TypeId) (h : Hp) (n : Nat), mBin Try.prog .shr t (.int .u64 (x : Int)) (.int .i64 32) h n = some ⟨.int .u64 0, h, n, [], []⟩) ∧ (∀ (t : TypeId) (h : Hp) (n : Nat), mBin Try.prog .shr t (.int .u64 (x : Int)) (.int .i64 40) h n = some ⟨.int .u64 0, h, n, [], []⟩) ∧ (∀ (t : TypeId) (h : Hp) (n : Nat), mBin Try.prog .shr t (.int .u64 (x : Int)) (.int .i64 48) h n = some ⟨.int .u64 0, h, n, [], []⟩) ∧ (∀ (t : TypeId) (h : Hp) (n : Nat), mBin Try.prog .shr t (.int .u64 (x : Int)) (.int .i64 56) h n = some ⟨.int .u64 0, h, n, [], []⟩) := ⟨fun t h n => shr_0 (x := x) hx h n, fun t h n => shr_k (b := 8) (by omega) (by omega) (x := x) hx h n, fun t h n => shr_k (b := 16) (by omega) (by omega) (x := x) hx h n, fun t h n => shr_k (b := 24) (by omega) (by omega) (x := x) hx h n, fun t h n => shr_k (b := 32) (by omega) (by omega) (x := x) hx h n, fun t h n => shr_k (b := 40) (by omega) (by omega) (x := x) hx h n, fun t h n => shr_k (b := 48) (by omega) (by omega) (x := x) hx h n, fun t h n => shr_k (b := 56) (by omega) (by omega) (x := x) hx h n⟩
  have hck : (∀ (t : TypeId) (h : Hp) (n : Nat), mBin Try.prog .shr t (.int .u64 (x : Int)) (.int .i64 63) h n = some ⟨.int .u64 0, h, n, [], []⟩) ∧ (∀ (t : TypeId) (h : Hp) (n : Nat), mBin Try.prog .shr t (.int .u64 0) (.int .u64 1) h n = some ⟨.int .u64 0, h, n, [], []⟩) := ⟨fun t h n => shr_k (b := 63) (by omega) (by omega) hx h n, fun t h n => shr_z h n⟩
  have hw := wrap_u8n hx
  have hl := len8 hx
  have sl : ∀ (h : Hp) (n id off : Nat) (k1 : IntKind) (hi : Int) (h0 : 0 ≤ hi) (h1 : hi ≤ 8), mSlice Try.prog 110 (.pointer (some ⟨id, off, none⟩)) none (some (.int k1 hi)) h n = some ⟨.slice (some ⟨id, off, none⟩) hi.toNat (hi.toNat + 1), h, n, [], []⟩ := fun _ _ _ _ _ _ h0 h1 => m_slPH (m := 8) (s := 1) (by kernel_rfl) (by omega) h0 h1
  have hrow : bv (leB 8 x) = [Value.int .u8 (x : Int), .int .u8 0, .int .u8 0, .int .u8 0, .int .u8 0, .int .u8 0, .int .u8 0, .int .u8 0] := by
    unfold leB bv
    simp [hl, List.replicate]
  rw [hrow]
  refine enter Try.func28 (by kernel_rfl) rfl (by kernel_rfl) rfl rfl rfl ?_
  (repeat' first | refine zcd ?_ | intro K' hK | (with_reducible refine zn hK ?_; clear hK) | (with_reducible refine x_turns ?_) | (with_reducible refine x_turn (by omega) ?_) | (with_reducible refine k_turn ?_) | ((with_reducible apply o_callF (g := 50) w_none); (case ha => exact ez0); (case hs => (exact q _ _)); (case' hk => rintro _ h' n' ⟨rfl, rfl, rfl⟩)) | ((with_reducible apply o_apR (t := 39) apT39 w_none); (case hs => exact ez0); (case hy => exact ez0); (case hsrc => exact src_pre ez0 (by decide) (by simp)); (case hr => exact ez0); (case hc => rfl); (case hm => omega); (case hli => omega); (case hln => omega); (case hcs => simp)) | ((with_reducible first | apply zo1 | apply zo2 | apply o_guard rfl | apply x_cond | apply k_e1 rfl | apply k_e2 rfl | apply k_e0 rfl | apply k_e3 rfl | apply k_e4 rfl); (case he => exact ez4 hsh hck hw sl); (try case hok => exact ezO); all_goals try (intro hb; (try simp only [hbs, reduceCtorEq] at hb); try exact ezX)) | ((with_reducible apply o_undef rfl); (case hb => exact ez0)))
  all_goals (refine sw_row ezI rfl (by omega) ez0 (by intro v hv; simp at hv; first | (subst hv; rfl) | (rcases hv with rfl | rfl <;> rfl) | (rcases hv with rfl | rfl | rfl | rfl | rfl | rfl | rfl | rfl <;> rfl)) ezR ?_; exact ⟨rfl, rfl, rfl⟩)
theorem unfixed1_ev (hk : 30000 ≤ k) (id L a x : Nat) (all : List UInt8) (hr : RdH h n (some ⟨id, 0, none⟩) (bv all)) (hLa : all.length = L) (hL : L ≤ 20000) (ha : a + 1 ≤ L) (hx : x < 256) (hq0 : all.getD a 0 = UInt8.ofNat x) (hqz : ∀ i, 0 < i → i < 1 → all.getD (a + i) 0 = 0) : SQ k (d + 2) cl 29 [.agg ⟨[.slice (some ⟨id, 0, none⟩) L L, .int .i64 (a : Int)]⟩, .int .i64 1] h n fun v h' n' => v = .tuple ⟨[.agg ⟨[.slice (some ⟨id, 0, none⟩) L L, .int .i64 ((a : Int) + 1)]⟩, .int .u64 (x : Int), .int .i64 0]⟩ ∧ h = h' ∧ n = n' := by
  have q := fun (h6 : Hp) (n6 : Nat) => wcheck_ev k d n h6 n6 hk id L a hL (by omega)
  have q2 := fun (h6 : Hp) (n6 : Nat) => wide_ev k d n h6 n6 1 (by omega)
  have q3 := fun (h6 : Hp) (n6 id6 : Nat) (hr6 : rowOf h6 id6 = some (43, false, [.int .i64 0, .int .i64 0])) (hid6 : id6 < n6) => fine_ev k d n h6 n6 hk id6 hr6 hid6
  have hid := hr.1 id 0 rfl
  have hq : ∀ i, i < 1 → cellAt h id (a + i) = some (.int .u8 (if i = 0 then (x : Int) else 0)) := fun i hi => by
    obtain ⟨id2, off, e, -, hc⟩ := hr.at_ (by rw [bv_length]; omega)
    injection e with e
    injection e with e1 e2
    subst e1; subst e2
    have := hc (a + i) _ (bv_get (by omega))
    rw [Nat.zero_add, ← getD_lt (d := 0) (by omega)] at this
    by_cases h0 : i = 0
    · subst h0
      rw [Nat.add_zero, hq0, len8 hx] at this
      rw [if_pos rfl]
      exact this
    · rw [if_neg h0]
      rw [hqz i (by omega) hi] at this
      exact this
  have hce : cellAt h id a = some (.int .u8 (x : Int)) := hq 0 (by omega)
  have e2 := b_shl0 (t := 41) (c := x) (by omega)
  have e3 := b_or0 (t := 41) (c := x) (by omega)
  have e4 := b_orz (t := 41) (c := x) (by omega)
  have e5 := fun (c : Int) (hc : 0 ≤ c) => b_shlz (t := 41) (c := c) hc
  have hw := wrap_u64 (x := (x : Int)) (by omega) (by omega)
  have hN : ((a : Int) + 1).toNat - a = 1 := by omega
  refine enter Try.func29 (by kernel_rfl) rfl (by kernel_rfl) rfl rfl rfl ?_
  (repeat' first | refine zcd ?_ | intro K' hK | (with_reducible refine zn hK ?_; clear hK) | (with_reducible refine x_turns ?_) | (with_reducible refine x_turn (by omega) ?_) | (with_reducible refine k_turn ?_) | ((with_reducible apply o_callF (g := 44) w_none); (case ha => exact ez0); (case hs => (exact q _ _)); (case' hk => rintro _ h' n' ⟨rfl, rfl, rfl⟩)) | ((with_reducible apply o_callF (g := 50) w_none); (case ha => exact ez0); (case hs => (exact q2 _ _)); (case' hk => rintro _ h' n' ⟨rfl, rfl, rfl⟩)) | ((with_reducible apply o_callF (g := 51) w_none); (case ha => exact ez0); (case hs => ((with_reducible apply q3); (all_goals first | exact ez0 | omega))); (case' hk => rintro _ h' n' ⟨rfl, rfl, rfl⟩)) | ((with_reducible first | apply zo1 | apply zo2 | apply o_guard rfl | apply x_cond | apply k_e1 rfl | apply k_e2 rfl | apply k_e0 rfl | apply k_e3 rfl | apply k_e4 rfl); (case he => exact ez7 hce e2 e3 e4 e5 hw hN); (try case hok => exact ezO); all_goals try (intro hb; (try simp only [hbs, reduceCtorEq] at hb); try exact ezX)) | ((with_reducible apply o_undef rfl); (case hb => exact ez0)))
  all_goals exact sw_flat ezI rfl ⟨rfl, rfl, rfl⟩
theorem unfixed8_ev (hk : 30000 ≤ k) (id L a x : Nat) (all : List UInt8) (hr : RdH h n (some ⟨id, 0, none⟩) (bv all)) (hLa : all.length = L) (hL : L ≤ 20000) (ha : a + 8 ≤ L) (hx : x < 256) (hq0 : all.getD a 0 = UInt8.ofNat x) (hqz : ∀ i, 0 < i → i < 8 → all.getD (a + i) 0 = 0) : SQ k (d + 2) cl 29 [.agg ⟨[.slice (some ⟨id, 0, none⟩) L L, .int .i64 (a : Int)]⟩, .int .i64 8] h n fun v h' n' => v = .tuple ⟨[.agg ⟨[.slice (some ⟨id, 0, none⟩) L L, .int .i64 ((a : Int) + 8)]⟩, .int .u64 (x : Int), .int .i64 0]⟩ ∧ h = h' ∧ n = n' := by
  have q := fun (h6 : Hp) (n6 : Nat) => wcheck_ev k d n h6 n6 hk id L a hL (by omega)
  have q2 := fun (h6 : Hp) (n6 : Nat) => wide_ev k d n h6 n6 8 (by omega)
  have q3 := fun (h6 : Hp) (n6 id6 : Nat) (hr6 : rowOf h6 id6 = some (43, false, [.int .i64 0, .int .i64 0])) (hid6 : id6 < n6) => fine_ev k d n h6 n6 hk id6 hr6 hid6
  have hid := hr.1 id 0 rfl
  have hq : ∀ i, i < 8 → cellAt h id (a + i) = some (.int .u8 (if i = 0 then (x : Int) else 0)) := fun i hi => by
    obtain ⟨id2, off, e, -, hc⟩ := hr.at_ (by rw [bv_length]; omega)
    injection e with e
    injection e with e1 e2
    subst e1; subst e2
    have := hc (a + i) _ (bv_get (by omega))
    rw [Nat.zero_add, ← getD_lt (d := 0) (by omega)] at this
    by_cases h0 : i = 0
    · subst h0
      rw [Nat.add_zero, hq0, len8 hx] at this
      rw [if_pos rfl]
      exact this
    · rw [if_neg h0]
      rw [hqz i (by omega) hi] at this
      exact this
  have hce : (cellAt h id a = some (.int .u8 (x : Int))) ∧ (cellAt h id (a + 1) = some (.int .u8 0)) ∧ (cellAt h id (a + 2) = some (.int .u8 0)) ∧ (cellAt h id (a + 3) = some (.int .u8 0)) ∧ (cellAt h id (a + 4) = some (.int .u8 0)) ∧ (cellAt h id (a + 5) = some (.int .u8 0)) ∧ (cellAt h id (a + 6) = some (.int .u8 0)) ∧ (cellAt h id (a + 7) = some (.int .u8 0)) := ⟨hq 0 (by omega), hq 1 (by omega), hq 2 (by omega), hq 3 (by omega), hq 4 (by omega), hq 5 (by omega), hq 6 (by omega), hq 7 (by omega)⟩
  have e2 := b_shl0 (t := 41) (c := x) (by omega)
  have e3 := b_or0 (t := 41) (c := x) (by omega)
  have e4 := b_orz (t := 41) (c := x) (by omega)
  have e5 := fun (c : Int) (hc : 0 ≤ c) => b_shlz (t := 41) (c := c) hc
  have hw := wrap_u64 (x := (x : Int)) (by omega) (by omega)
  have hN : ((a : Int) + 8).toNat - a = 8 := by omega
  refine enter Try.func29 (by kernel_rfl) rfl (by kernel_rfl) rfl rfl rfl ?_
  (repeat' first | refine zcd ?_ | intro K' hK | (with_reducible refine zn hK ?_; clear hK) | (with_reducible refine x_turns ?_) | (with_reducible refine x_turn (by omega) ?_) | (with_reducible refine k_turn ?_) | ((with_reducible apply o_callF (g := 44) w_none); (case ha => exact ez0); (case hs => (exact q _ _)); (case' hk => rintro _ h' n' ⟨rfl, rfl, rfl⟩)) | ((with_reducible apply o_callF (g := 50) w_none); (case ha => exact ez0); (case hs => (exact q2 _ _)); (case' hk => rintro _ h' n' ⟨rfl, rfl, rfl⟩)) | ((with_reducible apply o_callF (g := 51) w_none); (case ha => exact ez0); (case hs => ((with_reducible apply q3); (all_goals first | exact ez0 | omega))); (case' hk => rintro _ h' n' ⟨rfl, rfl, rfl⟩)) | ((with_reducible first | apply zo1 | apply zo2 | apply o_guard rfl | apply x_cond | apply k_e1 rfl | apply k_e2 rfl | apply k_e0 rfl | apply k_e3 rfl | apply k_e4 rfl); (case he => exact ez7 hce e2 e3 e4 e5 hw hN); (try case hok => exact ezO); all_goals try (intro hb; (try simp only [hbs, reduceCtorEq] at hb); try exact ezX)) | ((with_reducible apply o_undef rfl); (case hb => exact ez0)))
  all_goals exact sw_flat ezI rfl ⟨rfl, rfl, rfl⟩
end Go.Proofs.Ytkngdfbibffdcaa.Ce
namespace Go.Proofs.Ytkngdfbibffdcaa.Ce
open Go.RowKit
def sumC (b : List UInt8) : Nat := 4294967295 - runC 4294967295 b
theorem sumC_lt (b : List UInt8) : sumC b < 4294967296 := by unfold sumC; omega
variable (k d cl : Nat) (h : Hp) (n : Nat)
theorem check_ev (hk : 30000 ≤ k) : SQ k (d + 3) cl 41 [.agg ⟨tabV⟩] h n fun v h' n' => v = .int .i64 0 ∧ h' = h ∧ n' = n := by
  have e1 := neq_tab
  have q1 := fun (h6 : Hp) (n6 : Nat) => table_ev k d n h6 n6 hk
  have hvl := tabV_len
  have hvc := tabV_cok
  obtain ⟨TV, hTV⟩ : ∃ TV, tabV = TV := ⟨_, rfl⟩
  rw [hTV] at hvl hvc ⊢
  simp only [hTV] at e1 q1
  have hlt : ltake 256 TV = some TV := by rw [ltake_of (by omega), List.take_of_length_le (by omega)]
  refine enter Try.func41 (by kernel_rfl) rfl (by kernel_rfl) rfl rfl rfl ?_
  (repeat' first | refine zcd ?_ | intro K' hK | (with_reducible refine zn hK ?_; clear hK) | (with_reducible refine x_drawnD (id := 1) [(0, 1)] (by kernel_rfl) fun K' hK => ?_) | ((with_reducible apply d_nil); (case hp => exact ezP); (case' hx => (refine hK _ _ _ ?_; clear hK))) | ((with_reducible apply d_pure w_none); (case hp => exact rfl); (case hc => exact rfl); (case he => exact ez4 hvl hvc hlt e1)) | ((with_reducible apply d_eff w_none); (case hc => exact rfl); (case he => exact ez4 hvl hvc hlt e1); (case hok => exact ezO)) | ((with_reducible apply d_guard rfl); (case hb => exact ez4 hvl hvc hlt e1); (case' h1 => intro hb; (try simp only [hbs, reduceCtorEq] at hb); try exact ezX); (case' h2 => intro hb; (try simp only [hbs, reduceCtorEq] at hb); try exact ezX)) | ((with_reducible apply d_callS (g := 13) w_none); (case hs0 => exact rfl); (case ha => exact ez0); (case hs => (exact q1 _ _)); (case' hk => rintro _ h' n' ⟨rfl, rfl, rfl⟩)) | ((with_reducible apply d_callN (g := 13) w_none); (case hs0 => exact rfl); (case ha => exact ez0); (case hs => (exact q1 _ _)); (case' hk => rintro _ h' n' ⟨rfl, rfl, rfl⟩)) | ((with_reducible first | apply zo1 | apply zo2 | apply o_guard rfl | apply x_cond | apply k_e1 rfl | apply k_e2 rfl | apply k_e0 rfl | apply k_e3 rfl | apply k_e4 rfl); (case he => exact ez4 hvl hvc hlt e1); (try case hok => exact ezO); all_goals try (intro hb; (try simp only [hbs, reduceCtorEq] at hb); try exact ezX)) | ((with_reducible apply o_undef rfl); (case hb => exact ez0)))
  all_goals exact sw_flat rfl rfl ⟨rfl, rfl, rfl⟩
theorem steps_ev (hk : 30000 ≤ k) (A : Option Addr) (b : List UInt8) (c x : Nat) (hr : RdH h n A (bv b)) (hl : b.length ≤ 20000) (hx : x < 4294967296) : SQ k (d + 1) cl 42 [.agg ⟨tabV⟩, .int .u32 (x : Int), .slice A b.length c] h n fun v h' n' => v = .int .u32 ((runC x b : Nat) : Int) ∧ h' = h ∧ n' = n := by
  have hvl := tabV_len
  have hvc := tabV_cok
  have hge := @tabV_get
  obtain ⟨TV, hTV⟩ : ∃ TV, tabV = TV := ⟨_, rfl⟩
  rw [hTV] at hvl hvc hge ⊢
  obtain ⟨bl, hbl⟩ : ∃ bl, b.length = bl := ⟨_, rfl⟩
  rw [hbl] at hl ⊢
  refine enter Try.func42 (by kernel_rfl) rfl (by kernel_rfl) rfl rfl rfl ?_
  (repeat' first | refine zcd ?_ | intro K' hK | (with_reducible refine zn hK ?_; clear hK) | fail | ((with_reducible first | apply zo1 | apply zo2 | apply o_guard rfl | apply x_cond | apply k_e1 rfl | apply k_e2 rfl | apply k_e0 rfl | apply k_e3 rfl | apply k_e4 rfl); (case he => exact ez2 hvl hvc); (try case hok => exact ezO); all_goals try (intro hb; (try simp only [hbs, reduceCtorEq] at hb); try exact ezX)) | ((with_reducible apply o_undef rfl); (case hb => exact ez0)))
  refine x_loopF [1, 8, 11, 12, 13, 14, 15, 16, 17, 18, 19, 20, 21, 22, 23, 24] [1, 11] (fun m vs => m ≤ bl ∧ vs = [.int .u32 ((runC x (b.take (bl - m)) : Nat) : Int), .int .i64 ((bl - m : Nat) : Int)]) bl rfl (by omega) ⟨Nat.le_refl _, by simp (disch := first | assumption | omega | rfl | decide) only [go_sem, seval, tys]; rw [Nat.sub_self]; rfl⟩ ?_
  rintro m g _ ⟨hm, rfl⟩
  rcases m with _ | m
  · rw [Nat.sub_zero, List.take_of_length_le (by omega)]
    (repeat' first | refine zcd ?_ | intro K' hK | (with_reducible refine zn hK ?_; clear hK) | fail | ((with_reducible first | apply zo1 | apply zo2 | apply o_guard rfl | apply x_cond | apply k_e1 rfl | apply k_e2 rfl | apply k_e0 rfl | apply k_e3 rfl | apply k_e4 rfl); (case he => exact ez0); (try case hok => exact ezO); all_goals try (intro hb; (try simp only [hbs, reduceCtorEq] at hb); try exact ezX)) | ((with_reducible apply o_undef rfl); (case hb => exact ez0)))
    all_goals exact sw_flat rfl rfl ⟨rfl, rfl, rfl⟩
  · obtain ⟨i, hi⟩ : ∃ i, bl - (m + 1) = i := ⟨_, rfl⟩
    rw [hi]
    have hib : i < b.length := by omega
    obtain ⟨id, off, rfl, hid, hce⟩ := hr.at_ (by rw [bv_length]; omega)
    obtain ⟨y, hy⟩ : ∃ y, b[i] = y := ⟨_, rfl⟩
    have hce : cellAt h id (off + i) = some (.int .u8 (y.toNat : Int)) := hce _ _ (by rw [bv_get hib, hy])
    obtain ⟨S, hS⟩ : ∃ S, runC x (b.take i) = S := ⟨_, rfl⟩
    have hSl : S < 4294967296 := by rw [← hS]; exact runC_lt hx
    have hnext : runC x (b.take (bl - m)) = (S / 256) ^^^ tabL.getD ((S % 256) ^^^ y.toNat) 0 := by
      rw [show bl - m = i + 1 from by omega, runC_take x b i hib, hS, getD_lt hib, hy]
      rfl
    have hnx : (i : Int) + 1 = ((bl - m : Nat) : Int) := by omega
    rw [hS]
    have hyl := y.toNat_lt
    have hil : (S % 256) ^^^ y.toNat < 256 := xor_256 (by omega) y.toNat_lt
    have hget := hge hil
    have htl := tab_lt ((S % 256) ^^^ y.toNat)
    obtain ⟨I, hI⟩ : ∃ I, (S % 256) ^^^ y.toNat = I := ⟨_, rfl⟩
    have e1 := b_xor8 (t := 5) (a := S % 256) (b := y.toNat) (by omega) y.toNat_lt
    rw [hI] at hget htl hil hnext
    simp only [hI] at e1
    obtain ⟨W, hW⟩ : ∃ W, tabL.getD I 0 = W := ⟨_, rfl⟩
    rw [hW] at hget htl hnext
    have e2 := b_xor32 (t := 42) (a := S / 256) (b := W) (by omega) htl
    have e3 := b_byte32 (t := 42) (a := S)
    have e4 := wrap_u8m S
    have hilI : ((I : Nat) : Int) < 256 := by omega
    (repeat' first | refine zcd ?_ | intro K' hK | (with_reducible refine zn hK ?_; clear hK) | fail | ((with_reducible first | apply zo1 | apply zo2 | apply o_guard rfl | apply x_cond | apply k_e1 rfl | apply k_e2 rfl | apply k_e0 rfl | apply k_e3 rfl | apply k_e4 rfl); (case he => exact ez8 hvl hvc hce e1 e2 e3 e4 hget); (try case hok => exact ezO); all_goals try (intro hb; (try simp only [hbs, reduceCtorEq] at hb); try exact ezX)) | ((with_reducible apply o_undef rfl); (case hb => exact ez0)))
    all_goals exact k_round m (by omega) ⟨⟨rfl, rfl⟩, by omega, by simp (disch := first | assumption | omega | rfl | decide) only [go_sem, seval, tys]; rw [hnx, hnext]⟩
theorem u_one32 (h : Hp) (n : Nat) : mUn Try.prog .xor (.int .u32 0) h n = some ⟨.int .u32 4294967295, h, n, [], []⟩ := u_not32 (a := 0) (by decide) h n
theorem cnext_ev (hk : 30000 ≤ k) (A : Option Addr) (b : List UInt8) (c : Nat) (hr : RdH h n A (bv b)) (hl : b.length ≤ 20000) : SQ k (d + 4) cl 34 [.agg ⟨tabV⟩, .int .u32 0, .slice A b.length c] h n fun v h' n' => v = .tuple ⟨[.int .u32 ((sumC b : Nat) : Int), .int .i64 0]⟩ ∧ h' = h ∧ n' = n := by
  have hvl := tabV_len
  have hvc := tabV_cok
  have q1 := fun (h6 : Hp) (n6 : Nat) => check_ev k d n h6 n6 hk
  have q2 : ∀ (h6 : Hp) (n6 : Nat), RdH h6 n6 A (bv b) → SQ k (d + 3) n 42 [.agg ⟨tabV⟩, .int .u32 4294967295, .slice A b.length c] h6 n6 fun v h' n' => v = .int .u32 ((runC 4294967295 b : Nat) : Int) ∧ h' = h6 ∧ n' = n6 := fun h6 n6 hr6 => steps_ev k (d + 2) n h6 n6 hk A b c 4294967295 hr6 hl (by omega)
  obtain ⟨TV, hTV⟩ : ∃ TV, tabV = TV := ⟨_, rfl⟩
  rw [hTV] at hvl hvc ⊢
  simp only [hTV] at q1 q2
  have hlt : ltake 256 TV = some TV := by rw [ltake_of (by omega), List.take_of_length_le (by omega)]
  have hS := runC_lt (b := b) (x := 4294967295) (by omega)
  unfold sumC
  obtain ⟨S, hSe⟩ : ∃ S, runC 4294967295 b = S := ⟨_, rfl⟩
  rw [hSe] at hS ⊢
  simp only [hSe] at q2
  have e1 := u_one32
  have e2 := u_not32 hS
  refine enter Try.func34 (by kernel_rfl) rfl (by kernel_rfl) rfl rfl rfl ?_
  (repeat' first | refine zcd ?_ | intro K' hK | (with_reducible refine zn hK ?_; clear hK) | ((with_reducible apply o_callF (g := 41) w_none); (case ha => exact ez0); (case hs => (exact q1 _ _)); (case' hk => rintro _ h' n' ⟨rfl, rfl, rfl⟩)) | ((with_reducible apply o_callF (g := 42) w_none); (case ha => exact ez0); (case hs => ((with_reducible apply q2); exact ezD hr)); (case' hk => rintro _ h' n' ⟨rfl, rfl, rfl⟩)) | ((with_reducible first | apply zo1 | apply zo2 | apply o_guard rfl | apply x_cond | apply k_e1 rfl | apply k_e2 rfl | apply k_e0 rfl | apply k_e3 rfl | apply k_e4 rfl); (case he => exact ez5 hvl hvc hlt e1 e2); (try case hok => exact ezO); all_goals try (intro hb; (try simp only [hbs, reduceCtorEq] at hb); try exact ezX)) | ((with_reducible apply o_undef rfl); (case hb => exact ez0)))
  all_goals exact sw_flat rfl rfl ⟨rfl, rfl, rfl⟩
theorem sum_ev (hk : 30000 ≤ k) (A : Option Addr) (b : List UInt8) (c : Nat) (hr : RdH h n A (bv b)) (hl : b.length ≤ 20000) : SQ k (d + 5) cl 12 [.agg ⟨tabV⟩, .slice A b.length c] h n fun v h' n' => v = .tuple ⟨[.int .u32 ((sumC b : Nat) : Int), .int .i64 0]⟩ ∧ h' = h ∧ n' = n := by
  have hvl := tabV_len
  have hvc := tabV_cok
  have q1 := fun (h6 : Hp) (n6 : Nat) (hr6 : RdH h6 n6 A (bv b)) => cnext_ev k d n h6 n6 hk A b c hr6 hl
  obtain ⟨TV, hTV⟩ : ∃ TV, tabV = TV := ⟨_, rfl⟩
  rw [hTV] at hvl hvc ⊢
  simp only [hTV] at q1
  have hlt : ltake 256 TV = some TV := by rw [ltake_of (by omega), List.take_of_length_le (by omega)]
  refine enter Try.func12 (by kernel_rfl) rfl (by kernel_rfl) rfl rfl rfl ?_
  (repeat' first | refine zcd ?_ | intro K' hK | (with_reducible refine zn hK ?_; clear hK) | ((with_reducible apply o_callF (g := 34) w_none); (case ha => exact ez0); (case hs => ((with_reducible apply q1); exact ezD hr)); (case' hk => rintro _ h' n' ⟨rfl, rfl, rfl⟩)) | ((with_reducible first | apply zo1 | apply zo2 | apply o_guard rfl | apply x_cond | apply k_e1 rfl | apply k_e2 rfl | apply k_e0 rfl | apply k_e3 rfl | apply k_e4 rfl); (case he => exact ez3 hvl hvc hlt); (try case hok => exact ezO); all_goals try (intro hb; (try simp only [hbs, reduceCtorEq] at hb); try exact ezX)) | ((with_reducible apply o_undef rfl); (case hb => exact ez0)))
  all_goals exact sw_flat rfl rfl ⟨rfl, rfl, rfl⟩
structure Pc where
  id : Nat
  b : List UInt8
def Pc.v (p : Pc) : Value := .slice (some ⟨p.id, 0, none⟩) p.b.length p.b.length
structure PcH (h : Hp) (B : Nat) (A : Option Addr) (ps : List Pc) : Prop where
  rd : RdH h B A (ps.map Pc.v)
  pc : ∀ p ∈ ps, RdH h B (some ⟨p.id, 0, none⟩) (bv p.b)
def joinP (ps : List Pc) : List UInt8 := ps.flatMap Pc.b
theorem joinP_take (ps : List Pc) {i : Nat} (hi : i < ps.length) : joinP (ps.take (i + 1)) = joinP (ps.take i) ++ (ps[i]).b := by
  unfold joinP
  rw [List.take_succ_eq_append_getElem hi, List.flatMap_append]
  congr 1
  exact List.append_nil _
theorem joinP_le (ps : List Pc) {i : Nat} (hi : i ≤ ps.length) : (joinP (ps.take i)).length ≤ (joinP ps).length := by
  have : joinP ps = joinP (ps.take i) ++ joinP (ps.drop i) := by
    unfold joinP
    rw [← List.flatMap_append, List.take_append_drop]
  rw [this, List.length_append]
  omega
theorem pieces_ev (hk : 30000 ≤ k) (A : Option Addr) (ps : List Pc) (c : Nat) (hp : PcH h n A ps) (hl : ps.length ≤ 64) (hj : (joinP ps).length ≤ 20000) : SQ k (d + 4) cl 18 [.agg ⟨tabV⟩, .slice A ps.length c] h n fun v h' n' => v = .tuple ⟨[.int .u32 ((sumC (joinP ps) : Nat) : Int), .int .i64 0]⟩ ∧ h' = h ∧ n' = n := by
  have hvl := tabV_len
  have hvc := tabV_cok
  have q1 := fun (h6 : Hp) (n6 : Nat) => check_ev k d n h6 n6 hk
  have q2 := fun (h6 : Hp) (n6 : Nat) (A : Option Addr) (b : List UInt8) (c x : Nat) (hr6 : RdH h6 n6 A (bv b)) (hl : b.length ≤ 20000) (hx : x < 4294967296) => steps_ev k (d + 2) n h6 n6 hk A b c x hr6 hl hx
  obtain ⟨TV, hTV⟩ : ∃ TV, tabV = TV := ⟨_, rfl⟩
  rw [hTV] at hvl hvc ⊢
  simp only [hTV] at q1 q2
  have hlt : ltake 256 TV = some TV := by rw [ltake_of (by omega), List.take_of_length_le (by omega)]
  obtain ⟨pl, hpl⟩ : ∃ pl, ps.length = pl := ⟨_, rfl⟩
  rw [hpl] at hl ⊢
  refine enter Try.func18 (by kernel_rfl) rfl (by kernel_rfl) rfl rfl rfl ?_
  (repeat' first | refine zcd ?_ | intro K' hK | (with_reducible refine zn hK ?_; clear hK) | ((with_reducible apply o_callF (g := 41) w_none); (case ha => exact ez0); (case hs => (exact q1 _ _)); (case' hk => rintro _ h' n' ⟨rfl, rfl, rfl⟩)) | ((with_reducible first | apply zo1 | apply zo2 | apply o_guard rfl | apply x_cond | apply k_e1 rfl | apply k_e2 rfl | apply k_e0 rfl | apply k_e3 rfl | apply k_e4 rfl); (case he => exact ez3 hvl hvc hlt); (try case hok => exact ezO); all_goals try (intro hb; (try simp only [hbs, reduceCtorEq] at hb); try exact ezX)) | ((with_reducible apply o_undef rfl); (case hb => exact ez0)))
  refine x_loopF [4, 5, 7, 8, 10, 21, 22, 23, 24, 25, 26, 27, 28, 29, 30, 31, 32, 33, 34, 35, 36, 37] [7, 8, 21] (fun m vs => m ≤ pl ∧ vs = [.int .u32 ((runC 4294967295 (joinP (ps.take (pl - m))) : Nat) : Int), .int .i64 ((200000 : Int) - (joinP (ps.take (pl - m))).length), .int .i64 ((pl - m : Nat) : Int)]) pl rfl (by omega) ⟨Nat.le_refl _, by simp (disch := first | assumption | omega | rfl | decide) only [go_sem, seval, tys]; rw [Nat.sub_self]; rfl⟩ ?_
  rintro m g _ ⟨hm, rfl⟩
  rcases m with _ | m
  · rw [Nat.sub_zero, List.take_of_length_le (by omega)]
    have hS := runC_lt (b := joinP ps) (x := 4294967295) (by omega)
    have e2 := u_not32 hS
    unfold sumC
    obtain ⟨S, hSe⟩ : ∃ S, runC 4294967295 (joinP ps) = S := ⟨_, rfl⟩
    rw [hSe] at e2 ⊢
    (repeat' first | refine zcd ?_ | intro K' hK | (with_reducible refine zn hK ?_; clear hK) | fail | ((with_reducible first | apply zo1 | apply zo2 | apply o_guard rfl | apply x_cond | apply k_e1 rfl | apply k_e2 rfl | apply k_e0 rfl | apply k_e3 rfl | apply k_e4 rfl); (case he => exact ez1 e2); (try case hok => exact ezO); all_goals try (intro hb; (try simp only [hbs, reduceCtorEq] at hb); try exact ezX)) | ((with_reducible apply o_undef rfl); (case hb => exact ez0)))
    all_goals exact sw_flat rfl rfl ⟨rfl, rfl, rfl⟩
  · obtain ⟨i, hi⟩ : ∃ i, pl - (m + 1) = i := ⟨_, rfl⟩
    rw [hi]
    have hib : i < ps.length := by omega
    obtain ⟨id, off, rfl, hid, hce⟩ := hp.rd.at_ (by rw [List.length_map]; omega)
    obtain ⟨p, hpe⟩ : ∃ p, ps[i] = p := ⟨_, rfl⟩
    have hpm : p ∈ ps := by rw [← hpe]; exact List.getElem_mem _
    have hrp := hp.pc p hpm
    have hce : cellAt h id (off + i) = some (.slice (some ⟨p.id, 0, none⟩) p.b.length p.b.length) := hce _ _ (by rw [List.getElem?_map, List.getElem?_eq_getElem hib, hpe]; rfl)
    have hjt := joinP_take ps hib
    have hjl := joinP_le ps (i := i + 1) (by omega)
    rw [hpe] at hjt
    have hS := runC_lt (b := joinP (ps.take i)) (x := 4294967295) (by omega)
    have hnext : runC 4294967295 (joinP (ps.take (pl - m))) = runC (runC 4294967295 (joinP (ps.take i))) p.b := by
      rw [show pl - m = i + 1 from by omega, hjt, runC_app]
    have hlen : ((joinP (ps.take (pl - m))).length : Int) = (joinP (ps.take i)).length + p.b.length := by
      rw [show pl - m = i + 1 from by omega, hjt, List.length_append]
      omega
    have hnx : (i : Int) + 1 = ((pl - m : Nat) : Int) := by omega
    rw [hjt, List.length_append] at hjl
    obtain ⟨J, hJ⟩ : ∃ J, (joinP (ps.take i)).length = J := ⟨_, rfl⟩
    rw [hJ] at hlen hjl ⊢
    obtain ⟨S, hSe⟩ : ∃ S, runC 4294967295 (joinP (ps.take i)) = S := ⟨_, rfl⟩
    rw [hSe] at hnext hS ⊢
    obtain ⟨id2, b⟩ := p
    dsimp only at hce hrp hlen hnext hjl
    have hbl : b.length ≤ 20000 := by omega
    have q3 := fun (h6 : Hp) (n6 : Nat) (hr6 : RdH h6 n6 (some ⟨id2, 0, none⟩) (bv b)) => q2 h6 n6 (some ⟨id2, 0, none⟩) b b.length S hr6 hbl hS
    obtain ⟨bl, hble⟩ : ∃ bl, b.length = bl := ⟨_, rfl⟩
    rw [hble] at hce hlen hjl hbl
    simp only [hble] at q3
    (repeat' first | refine zcd ?_ | intro K' hK | (with_reducible refine zn hK ?_; clear hK) | ((with_reducible apply o_callF (g := 42) w_none); (case ha => exact ez0); (case hs => ((with_reducible apply q3); exact ezD hrp)); (case' hk => rintro _ h' n' ⟨rfl, rfl, rfl⟩)) | ((with_reducible first | apply zo1 | apply zo2 | apply o_guard rfl | apply x_cond | apply k_e1 rfl | apply k_e2 rfl | apply k_e0 rfl | apply k_e3 rfl | apply k_e4 rfl); (case he => exact ez4 hvl hvc hlt hce); (try case hok => exact ezO); all_goals try (intro hb; (try simp only [hbs, reduceCtorEq] at hb); try exact ezX)) | ((with_reducible apply o_undef rfl); (case hb => exact ez0)))
    all_goals exact k_round m (by omega) ⟨⟨rfl, rfl⟩, by omega, by simp (disch := first | assumption | omega | rfl | decide) only [go_sem, seval, tys]; rw [hnx, hnext, show (200000 : Int) - J - bl = 200000 - (joinP (ps.take (pl - m))).length from by omega]⟩
end Go.Proofs.Ytkngdfbibffdcaa.Ce
