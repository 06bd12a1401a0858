/- The parts of a type: symbolic runs of a function that may write what it is handed. -/
import Derived.Test.YtgdokjfjmcleeaaNcb
import Derived.Test.YtgdokjfjmcleeaaNb
import Derived.Test.YtgdokjfjmcleeaaLm
namespace Go.Proofs.Ytgdokjfjmcleeaa.Ce
open Go.RowKit
set_option linter.unusedVariables false
set_option linter.unusedSimpArgs false
attribute [local go_sem ↓] lv_tmp fput_some fput_none fputs_cons fputs_nil mix_in mix_out finit_zero finit_succ cellAt_same cellAt_ne cellsAt_same cellsAt_ne rwOf_same rwOf_ne' rowOf_same rowOf_ne
attribute [local go_sem] a_move a_assign a_pick a_alloc a_box a_build a_buildSlice bif_cok a_load a_store a_bin a_un a_convert a_func a_makeMap a_makeSlice a_slice a_fieldAddr a_indexAddr a_index a_extract a_len a_append a_copy a_max a_min lv_int lv_bool lv_str lv_func lv_nil b_add b_sub b_mul b_eql b_neq b_lss b_leq b_gtr b_geq b_quo b_rem b_shl8 b_or8 b_shr u_not p_pick m_max m_min x_tuple mVO_some lget_zero lget_succ ltake_zero ltake_cons ldrop_zero ldrop_cons overAt_zero overAt_cons over_nil over_cons Hp.set_set fill_nil fill_cons c_int1 c_bool1 c_str1 c_ptr1 c_sli1 c_map1 c_agg c_agg' cok_int cok_bool cok_str cok_ptr cok_sli cok_map List.length_cons List.length_nil List.all_cons List.all_nil Bool.and_true Bool.true_and Bool.and_self beq_self_eq_true wrap_i64 wrap_u64 wrap_u8 tdiv_pos tmod_pos Nat.zero_add Nat.add_zero Nat.mul_one Nat.zero_mul List.take_zero List.take_nil Option.bind_some Option.map_some Option.map_none cond_true cond_false List.map_cons List.map_nil List.cons_append List.nil_append Int.toNat_natCast Int.zero_add Int.add_zero Int.mul_zero Int.mul_one Bool.not_true Bool.not_false r_tmp r_cell
set_option maxRecDepth 100000
set_option maxHeartbeats 2000000

/-- a block that is not the list's own -/
def Blk (O : Value) (b : Nat) : Prop := ∀ len c, O ≠ .slice (some ⟨b, 0, none⟩) len c
/-- what a call leaves as it was: all rows but the list's own -/
def Keeps (O : Value) (h : Hp) (n : Nat) (v : Value) (h' : Hp) (n' : Nat) : Prop :=
  n ≤ n' ∧ (∀ b o vs, Blk O b → RdH h n (some ⟨b, o, none⟩) vs → RdH h' n' (some ⟨b, o, none⟩) vs) ∧ ∀ b, b < n → Blk O b → Blk v b
theorem Keeps.rd {O v : Value} {h h' : Hp} {n n' lo : Nat} {A : Option Addr} {vs : List Value} (hk : Keeps O h n v h' n') (hr : RdH h lo A vs) (hl : lo ≤ n) (hb : ∀ b, b < lo → Blk O b) : RdH h' lo A vs := by
  refine ⟨hr.1, ?_⟩
  rcases hr.2 with e | ⟨id, off, e, hc⟩
  · exact .inl e
  · have hid := hr.1 id off e
    subst e
    exact (hk.2.1 id off vs (hb id hid) (hr.more hl)).2
theorem Keeps.tab {O v : Value} {h h' : Hp} {n n' lo : Nat} {A : Option Addr} {T : List Tp} (hk : Keeps O h n v h' n') (hT : TabH h lo A T) (hl : lo ≤ n) (hb : ∀ b, b < lo → Blk O b) : TabH h' lo A T := ⟨hk.rd hT.rd hl hb, fun t ht => hk.rd (hT.fd t ht) hl hb, hT.nl, hT.bd⟩
theorem OwnC.blk {ps : List (Int × Int)} {O : Value} {h : Hp} {lo n b : Nat} (ho : OwnC ps O h lo n) (hb : b < lo) : Blk O b := by
  rcases ho with ⟨-, rfl⟩ | ⟨-, id, h1, h2, rfl, -⟩
  · intro len c hh; cases hh
  · intro len c hh
    injection hh with hh
    injection hh with hh
    injection hh with hh
    omega
theorem Keeps.rfl_ {O : Value} {h : Hp} {n : Nat} : Keeps O h n O h n := ⟨Nat.le_refl _, fun _ _ _ _ hr => hr, fun _ _ hb => hb⟩
theorem Keeps.trans {O O1 O2 : Value} {h h1 h2 : Hp} {n n1 n2 : Nat} (a : Keeps O h n O1 h1 n1) (b : Keeps O1 h1 n1 O2 h2 n2) : Keeps O h n O2 h2 n2 :=
  ⟨Nat.le_trans a.1 b.1, fun x o vs hb hr => b.2.1 x o vs (a.2.2 x (hr.1 x o rfl) hb) (a.2.1 x o vs hb hr), fun x hx hb => b.2.2 x (Nat.lt_of_lt_of_le hx a.1) (a.2.2 x hx hb)⟩
theorem Keeps.new {O v : Value} {h h' : Hp} {n n' m : Nat} (a : Keeps O h n v h' n') (hm : n ≤ m) (x : AObj) (hn : n' ≤ m + 1) : Keeps O h n v (h'.set m x) (m + 1) :=
  ⟨by omega, fun b o vs hb hr => by
    have h1 := a.2.1 b o vs hb hr
    have hbn := hr.1 b o rfl
    exact (h1.ne (by omega) x).more hn, a.2.2⟩
theorem Keeps.cell {O v : Value} {h h' : Hp} {n n' b e : Nat} {ro : Bool} {vs : List Value} (hk : Keeps O h n v h' n') (hr : rowOf h b = some (e, ro, vs)) (hb : b < n) (hbl : Blk O b) : RdH h' n' (some ⟨b, 0, none⟩) vs := hk.2.1 b 0 vs hbl (RdH.ofRow hr hb)
theorem RdH.cellk {h : Hp} {B b : Nat} {vs : List Value} (hr : RdH h B (some ⟨b, 0, none⟩) vs) {k : Nat} {v : Value} (hv : vs[k]? = some v) : cellAt h b k = some v := by
  rcases hr.2 with e | ⟨id, off, e, hc⟩
  · rw [e] at hv; simp at hv
  · injection e with e
    injection e with e1 e2
    subst e1; subst e2
    have := hc k v hv
    rwa [Nat.zero_add] at this
theorem OwnC.new_blk {ps : List (Int × Int)} {O : Value} {h : Hp} {lo n b : Nat} (ho : OwnC ps O h lo n) (hb : n ≤ b) : Blk O b := by
  rcases ho with ⟨-, rfl⟩ | ⟨-, id, h1, h2, rfl, -⟩
  · intro len c hh; cases hh
  · intro len c hh
    injection hh with hh
    injection hh with hh
    injection hh with hh
    omega
theorem OwnC.set {ps : List (Int × Int)} {O : Value} {h : Hp} {lo n m b : Nat} (ho : OwnC ps O h lo n) (hb : n ≤ b) (hm : n ≤ m) (x : AObj) : OwnC ps O (h.set b x) lo m := by
  rcases ho with ⟨hp, rfl⟩ | ⟨hp, id, h1, h2, rfl, q⟩
  · exact .inl ⟨hp, rfl⟩
  · exact .inr ⟨hp, id, h1, by omega, rfl, by rw [rowOf_ne _ _ (by omega)]; exact q⟩
theorem RdH.cello {h : Hp} {B b o : Nat} {vs : List Value} (hr : RdH h B (some ⟨b, o, none⟩) vs) {k : Nat} {v : Value} (hv : vs[k]? = some v) : cellAt h b (o + k) = some v := by
  rcases hr.2 with e | ⟨id, off, e, hc⟩
  · rw [e] at hv; simp at hv
  · injection e with e
    injection e with e1 e2
    subst e1; subst e2
    exact hc k v hv
theorem blk_new {b m len c : Nat} (h : b < m) : Blk (.slice (some ⟨m, 0, none⟩) len c) b := by
  intro len2 c2 hh
  injection hh with hh
  injection hh with hh
  injection hh with hh
  omega
theorem Keeps.val {O v v' : Value} {h h' : Hp} {n n' : Nat} (a : Keeps O h n v h' n') (hb : ∀ b, b < n → Blk v' b) : Keeps O h n v' h' n' := ⟨a.1, a.2.1, fun b h1 _ => hb b h1⟩
theorem Keeps.kill {v : Value} {id len c : Nat} {h h' : Hp} {n n' : Nat} (a : Keeps (.slice (some ⟨id, 0, none⟩) len c) h n v h' n') (x : AObj) : Keeps (.slice (some ⟨id, 0, none⟩) len c) h n v (h'.set id x) n' :=
  ⟨a.1, fun b o vs hb hr => (a.2.1 b o vs hb hr).ne (fun e => hb len c (by rw [e])) x, a.2.2⟩
variable (k : Nat)
theorem parts_ev (hk : 30000 ≤ k) (T : List Tp) (hC : ChkT T) : ∀ (f d cl : Nat) (h : Hp) (n lo : Nat) (A : Option Addr) (c : Nat) (EA : Option Addr) (ec : Nat) (O : Value) (acc : List (Int × Int)) (i : Nat) (off : Int), cl ≤ lo → lo ≤ n → TabH h lo A T → RdH h lo EA (ev (eRow 1048576 T)) → OwnC acc O h lo n →
      i < T.length → i < f → ((eRow 1048576 T).at_ (i : Int)).1 ≤ 256 → (acc.length : Int) + ((eRow 1048576 T).at_ (i : Int)).1 ≤ 100000 → 0 ≤ off → off + ((eRow 1048576 T).at_ (i : Int)).1 ≤ 1000000 →
    Sp Try.prog (acall Try.prog WW k (d + f + 2)) cl 64 [O, .slice A T.length c, .slice EA T.length ec, .int .i64 i, .int .i64 off] h n fun v h' n' => OwnC (acc ++ cellsR 1048576 T f i off) v h' lo n' ∧ Keeps O h n v h' n'
  | 0, _, _, _, _, _, _, _, _, _, _, _, _, _, _, _, _, _, _, _, h, _, _, _, _ => absurd h (by omega)
  | f + 1, d, cl, h, n, lo, A, c, EA, ec, O, acc, i, off, hlc, hlo, hT, hE, hO, hi, hif, hs, hal, ho, hos => by
    have ih := parts_ev hk T hC f d
    have hF := hC.2.1
    have hl := hC.1
    have hfi := hF i hi
    have hkd := fine_kd hfi
    have hcl := cells_len (C := 1048576) (by omega) (by decide) hF (f + 1) i off hi hif hs
    have hce := cellsR_at (C := 1048576) (f := f) (off := off) hi
    have e := eRow_at 1048576 hF hi
    obtain ⟨tid, toff, hA, htid, ht4, ht0, ht1, ht2, ht3⟩ := hT.at_ hi
    subst hA
    rw [show d + (f + 1) + 2 = d + f + 2 + 1 from by omega]
    refine enterW Try.func64 (by kernel_rfl) rfl (by kernel_rfl) rfl rfl rfl ?_
    obtain ⟨eid, eoff, hEA, heid, -⟩ := hE.at_ (by rw [ev_length, eRow_length]; omega)
    subst hEA
    have hEok : ∀ p ∈ eRow 1048576 T, EOk 1048576 p := by have := eRow_ok (C := 1048576) (by omega) (by decide) hF T.length (Nat.le_refl _); rwa [List.take_length] at this
    by_cases h6 : (T[i]).kd = 6
    · have ha := fine_arr hfi h6
      obtain ⟨el, hel⟩ := Int.eq_ofNat_of_zero_le ha.1
      obtain ⟨l, hln⟩ := Int.eq_ofNat_of_zero_le (show 0 ≤ (T[i]).ln by omega)
      rw [if_pos h6, hel, hln, Int.toNat_natCast] at hce
      rw [eOne_6 h6, hel, hln] at e
      rw [h6, hel, hln] at ht4
      obtain ⟨S, hS⟩ : ∃ S, ((eRow 1048576 T).at_ (el : Int)).1 = S := ⟨_, rfl⟩
      have hS0 : 0 ≤ S := by rw [← hS]; exact (Ext.at_mem hEok (by omega) (by rw [eRow_length]; omega)).1
      rw [hS] at e hce
      obtain ⟨g, hg⟩ : ∃ g : Nat → List (Int × Int), g = fun (j : Nat) => cellsR 1048576 T f (el : Int) (off + j * S) := ⟨_, rfl⟩
      rw [← hg] at hce
      rw [e] at hs hos hal
      dsimp only at hs hos hal
      have hge := (ev_get (E := eRow 1048576 T) (i := el) (by rw [eRow_length]; omega)).1
      rw [hS, lget_eq] at hge
      (repeat' first | (with_reducible first | apply x_seq | apply k_then | apply x_block | apply x_skip | apply x_ret | apply x_exit | apply x_label | apply k_pass | apply k_hit | apply k_miss rfl | apply k_out | apply k_turned | refine x_text fun K' hK => ?_) | ((with_reducible apply o_nil); refine hK _ _ _ ?_; clear hK) | fail | ((first | ((with_reducible apply o_pure w_none); (case hp => exact rfl); (case' he => intro h n)) | (with_reducible first | apply o_eff w_none | apply o_guard rfl | apply x_cond | apply k_e1 rfl | apply k_e2 rfl | apply k_e0 rfl | apply k_e3 rfl | apply k_e4 rfl)); (case he => (simp (disch := first | assumption | omega | rfl | decide) only [go_sem, Nat.reduceBEq, ↓reduceIte, Nat.reduceEqDiff, Nat.reduceAdd, Nat.reduceMul, Int.reduceToNat, Int.reduceAdd, Int.reduceMul, Int.reduceSub, tys, ht4] <;> rfl)); (try (case hok => first | exact rfl | exact ok_w (by omega) rfl)); all_goals (try (intro hb; (try (simp only [hbs, reduceCtorEq] at hb)); try (exfalso; omega)))) | ((with_reducible apply o_undef rfl); (case hb => (simp (disch := first | assumption | omega | rfl | decide) only [go_sem, Nat.reduceBEq, ↓reduceIte, Nat.reduceEqDiff, Nat.reduceAdd, Nat.reduceMul, Int.reduceToNat, Int.reduceAdd, Int.reduceMul, Int.reduceSub, tys]))))
      refine x_loopV [0, 12, 33, 34, 35, 36, 37, 38, 39, 40, 41, 42, 43, 44, 45, 46, 47, 48, 49, 50, 51, 52] [0, 33] (fun m vs h' n' => ∃ (j : Nat) (O' : Value), m = l - j ∧ j ≤ l ∧ vs = [O', .int .i64 j] ∧ OwnC (acc ++ (List.range j).flatMap g) O' h' lo n' ∧ Keeps O (h.set n (.row 60 false [.int .u8 6, .int .i64 el, .int .i64 l, .slice (T[i]).A (T[i]).fs.length (T[i]).c])) (n + 1) O' h' n') l rfl (by omega) ?_ ?_
      · exact ⟨0, O, rfl, by omega, (by first | (simp (disch := first | assumption | omega | rfl | decide) only [go_sem, Nat.reduceBEq, ↓reduceIte, Nat.reduceEqDiff, Nat.reduceAdd, Nat.reduceMul, Int.reduceToNat, Int.reduceAdd, Int.reduceMul, Int.reduceSub, tys]; done) | (simp (disch := first | assumption | omega | rfl | decide) only [go_sem, Nat.reduceBEq, ↓reduceIte, Nat.reduceEqDiff, Nat.reduceAdd, Nat.reduceMul, Int.reduceToNat, Int.reduceAdd, Int.reduceMul, Int.reduceSub, tys]; exact rfl)), by simpa using hO.set (Nat.le_refl _) (by omega) _, Keeps.rfl_⟩
      · rintro m fr _ h' n' ⟨j, O', rfl, hj, rfl, hO2, hK⟩
        have hT2 := hK.tab (hT.set hlo _) (by omega) (fun b hb => hO.blk hb)
        have hE2 := hK.rd (hE.set hlo _) (by omega) (fun b hb => hO.blk hb)
        have hrow := hK.cell (rowOf_same _ _ _ _ _) (by omega) (hO.new_blk (Nat.le_refl _))
        have c1 := hrow.cellk (k := 1) rfl
        have ce := hE2.cello hge
        have hn := hK.1
        by_cases hjl : j < l
        · have hj1 : 0 ≤ (j : Int) * S := Int.mul_nonneg (by omega) hS0
          have hj2 : (j : Int) * S + S ≤ (l : Int) * S := by
            have := Int.mul_le_mul_of_nonneg_right (show ((j : Int) + 1) ≤ l by omega) hS0
            rwa [Int.add_mul, Int.one_mul] at this
          have hacc : acc ++ (List.range (j + 1)).flatMap g = (acc ++ (List.range j).flatMap g) ++ g j := by rw [List.range_succ, List.flatMap_append, List.flatMap_cons, List.flatMap_nil, List.append_nil, List.append_assoc]
          have hlb : (((List.range j).flatMap g).length : Int) ≤ j * S := by
            have h1 := flat_le (g := g) (B := S.toNat) j fun q _ => by
              have := cells_len (C := 1048576) (by omega) (by decide) hF f el (off + q * S) (by omega) (by omega) (by rw [hS]; omega)
              rw [hS] at this
              rw [hg]
              show (cellsR 1048576 T f (el : Int) (off + q * S)).length ≤ _
              omega
            have h2 : ((j * S.toNat : Nat) : Int) = j * S := by rw [Int.natCast_mul]; congr 1; omega
            omega
          have hgj : g j = cellsR 1048576 T f (el : Int) (off + j * S) := by rw [hg]
          (repeat' first | (with_reducible first | apply x_seq | apply k_then | apply x_block | apply x_skip | apply x_ret | apply x_exit | apply x_label | apply k_pass | apply k_hit | apply k_miss rfl | apply k_out | apply k_turned | refine x_text fun K' hK => ?_) | ((with_reducible apply o_nil); refine hK _ _ _ ?_; clear hK) | (with_reducible refine x_drawnD (id := 7) [(4, 9), (4, 12)] (by kernel_rfl) fun K' hK => ?_) | ((with_reducible apply d_nil); (case hp => (simp (disch := omega) only [pairsOk, List.all_cons, List.all_nil, List.reverse_cons, List.reverse_nil, List.nil_append, List.cons_append, lget_zero, lget_succ, apartB, touches, made_mm, made_lt, made_ge, all_true, ble_t, ble_f, blt_t, blt_f, beq_f, List.contains_cons, List.contains_nil, Bool.and_true, Bool.true_and, Bool.and_false, Bool.false_and, Bool.or_false, Bool.false_or, Bool.not_false, Bool.not_true, beq_self_eq_true])); (case' hx => (refine hK _ _ _ ?_; clear hK))) | ((with_reducible apply d_pure w_none); (case hp => exact rfl); (case hc => exact rfl); (case he => (intro h n; simp (disch := first | assumption | omega | rfl | decide) only [go_sem, Nat.reduceBEq, ↓reduceIte, Nat.reduceEqDiff, Nat.reduceAdd, Nat.reduceMul, Int.reduceToNat, Int.reduceAdd, Int.reduceMul, Int.reduceSub, tys, c1, ce]; exact rfl))) | ((with_reducible apply d_eff w_none); (case hc => exact rfl); (case he => (simp (disch := first | assumption | omega | rfl | decide) only [go_sem, Nat.reduceBEq, ↓reduceIte, Nat.reduceEqDiff, Nat.reduceAdd, Nat.reduceMul, Int.reduceToNat, Int.reduceAdd, Int.reduceMul, Int.reduceSub, tys, c1, ce]; exact rfl)); (case hok => first | exact rfl | exact ok_w (by omega) rfl)) | ((with_reducible apply d_guard rfl); (case hb => (simp (disch := first | assumption | omega | rfl | decide) only [go_sem, Nat.reduceBEq, ↓reduceIte, Nat.reduceEqDiff, Nat.reduceAdd, Nat.reduceMul, Int.reduceToNat, Int.reduceAdd, Int.reduceMul, Int.reduceSub, tys, c1, ce]; exact rfl)); (case' h1 => intro hb; (try (simp only [hbs, reduceCtorEq] at hb)); try (exfalso; omega)); (case' h2 => intro hb; (try (simp only [hbs, reduceCtorEq] at hb)); try (exfalso; omega))) | ((with_reducible apply d_callS (g := 64) w_none); (case hs0 => exact rfl); (case ha => (simp (disch := first | assumption | omega | rfl | decide) only [go_sem, Nat.reduceBEq, ↓reduceIte, Nat.reduceEqDiff, Nat.reduceAdd, Nat.reduceMul, Int.reduceToNat, Int.reduceAdd, Int.reduceMul, Int.reduceSub, tys]; exact rfl)); (case hs => (exact ih cl h' n' lo _ _ _ _ O' (acc ++ (List.range j).flatMap g) el (off + j * S) hlc (by omega) hT2 hE2 hO2 (by omega) (by omega) (by rw [hS]; omega) (by rw [hS, List.length_append]; omega) (by omega) (by rw [hS]; omega))); (case' hk => rintro _ h' n' ⟨hO3, hK3⟩)) | ((first | ((with_reducible apply o_pure w_none); (case hp => exact rfl); (case' he => intro h n)) | (with_reducible first | apply o_eff w_none | apply o_guard rfl | apply x_cond | apply k_e1 rfl | apply k_e2 rfl | apply k_e0 rfl | apply k_e3 rfl | apply k_e4 rfl)); (case he => (simp (disch := first | assumption | omega | rfl | decide) only [go_sem, Nat.reduceBEq, ↓reduceIte, Nat.reduceEqDiff, Nat.reduceAdd, Nat.reduceMul, Int.reduceToNat, Int.reduceAdd, Int.reduceMul, Int.reduceSub, tys, c1, ce] <;> rfl)); (try (case hok => first | exact rfl | exact ok_w (by omega) rfl)); all_goals (try (intro hb; (try (simp only [hbs, reduceCtorEq] at hb)); try (exfalso; omega)))) | ((with_reducible apply o_undef rfl); (case hb => (simp (disch := first | assumption | omega | rfl | decide) only [go_sem, Nat.reduceBEq, ↓reduceIte, Nat.reduceEqDiff, Nat.reduceAdd, Nat.reduceMul, Int.reduceToNat, Int.reduceAdd, Int.reduceMul, Int.reduceSub, tys]))))
          refine k_round (l - (j + 1)) (by omega) ⟨j + 1, _, rfl, by omega, (by first | (simp (disch := first | assumption | omega | rfl | decide) only [go_sem, Nat.reduceBEq, ↓reduceIte, Nat.reduceEqDiff, Nat.reduceAdd, Nat.reduceMul, Int.reduceToNat, Int.reduceAdd, Int.reduceMul, Int.reduceSub, tys]; done) | (simp (disch := first | assumption | omega | rfl | decide) only [go_sem, Nat.reduceBEq, ↓reduceIte, Nat.reduceEqDiff, Nat.reduceAdd, Nat.reduceMul, Int.reduceToNat, Int.reduceAdd, Int.reduceMul, Int.reduceSub, tys]; exact rfl)), by rw [hacc, hgj]; exact hO3, hK.trans hK3⟩
        · obtain rfl : j = l := by omega
          (repeat' first | (with_reducible first | apply x_seq | apply k_then | apply x_block | apply x_skip | apply x_ret | apply x_exit | apply x_label | apply k_pass | apply k_hit | apply k_miss rfl | apply k_out | apply k_turned | refine x_text fun K' hK => ?_) | ((with_reducible apply o_nil); refine hK _ _ _ ?_; clear hK) | fail | ((first | ((with_reducible apply o_pure w_none); (case hp => exact rfl); (case' he => intro h n)) | (with_reducible first | apply o_eff w_none | apply o_guard rfl | apply x_cond | apply k_e1 rfl | apply k_e2 rfl | apply k_e0 rfl | apply k_e3 rfl | apply k_e4 rfl)); (case he => (simp (disch := first | assumption | omega | rfl | decide) only [go_sem, Nat.reduceBEq, ↓reduceIte, Nat.reduceEqDiff, Nat.reduceAdd, Nat.reduceMul, Int.reduceToNat, Int.reduceAdd, Int.reduceMul, Int.reduceSub, tys, c1] <;> rfl)); (try (case hok => first | exact rfl | exact ok_w (by omega) rfl)); all_goals (try (intro hb; (try (simp only [hbs, reduceCtorEq] at hb)); try (exfalso; omega)))) | ((with_reducible apply o_undef rfl); (case hb => (simp (disch := first | assumption | omega | rfl | decide) only [go_sem, Nat.reduceBEq, ↓reduceIte, Nat.reduceEqDiff, Nat.reduceAdd, Nat.reduceMul, Int.reduceToNat, Int.reduceAdd, Int.reduceMul, Int.reduceSub, tys]))))
          rw [hce]
          exact ⟨hO2, (Keeps.rfl_.new (Nat.le_refl _) _ (by omega)).trans hK⟩
    · by_cases h5 : (T[i]).kd = 5
      · rw [if_neg h6, if_pos h5] at hce
        rw [eOne_5 h5] at e
        rw [h5] at ht4
        have hall : ∀ x ∈ (T[i]).fs, 0 ≤ x.2 ∧ x.2 < T.length := fun x hx => by
          obtain ⟨q, hq, rfl⟩ := List.getElem_of_mem hx
          have := fine_fld hfi hq
          omega
        have hfl := fine_len hfi
        have hfo : FOk 1048576 (eRow 1048576 T) (T[i]).fs := fun x hx => Ext.at_mem hEok (hall x hx).1 (by rw [eRow_length]; exact (hall x hx).2)
        have hfd := hT.fd _ (List.getElem_mem hi)
        (repeat' first | (with_reducible first | apply x_seq | apply k_then | apply x_block | apply x_skip | apply x_ret | apply x_exit | apply x_label | apply k_pass | apply k_hit | apply k_miss rfl | apply k_out | apply k_turned | refine x_text fun K' hK => ?_) | ((with_reducible apply o_nil); refine hK _ _ _ ?_; clear hK) | ((with_reducible apply o_callF (g := 60) w_none); (case ha => (simp (disch := first | assumption | omega | rfl | decide) only [go_sem, Nat.reduceBEq, ↓reduceIte, Nat.reduceEqDiff, Nat.reduceAdd, Nat.reduceMul, Int.reduceToNat, Int.reduceAdd, Int.reduceMul, Int.reduceSub, tys]; exact rfl)); (case hs => ((with_reducible apply lay_ev (E := eRow 1048576 T) (fs := (T[i]).fs)); (case hm => rw [eRow_length]); (case hE => exact (hE.set hlo _).more (by omega)); (case hr => exact (hfd.set hlo _).more (by omega)); (case hf => exact hfo); (case hx => intro x hx; rw [eRow_length]; exact hall x hx); (all_goals first | exact hk | omega))); (case' hk => rintro _ h' n' ⟨rfl, rfl, rfl⟩)) | ((first | ((with_reducible apply o_pure w_none); (case hp => exact rfl); (case' he => intro h n)) | (with_reducible first | apply o_eff w_none | apply o_guard rfl | apply x_cond | apply k_e1 rfl | apply k_e2 rfl | apply k_e0 rfl | apply k_e3 rfl | apply k_e4 rfl)); (case he => (simp (disch := first | assumption | omega | rfl | decide) only [go_sem, Nat.reduceBEq, ↓reduceIte, Nat.reduceEqDiff, Nat.reduceAdd, Nat.reduceMul, Int.reduceToNat, Int.reduceAdd, Int.reduceMul, Int.reduceSub, tys, ht4] <;> rfl)); (try (case hok => first | exact rfl | exact ok_w (by omega) rfl)); all_goals (try (intro hb; (try (simp only [hbs, reduceCtorEq] at hb)); try (exfalso; omega)))) | ((with_reducible apply o_undef rfl); (case hb => (simp (disch := first | assumption | omega | rfl | decide) only [go_sem, Nat.reduceBEq, ↓reduceIte, Nat.reduceEqDiff, Nat.reduceAdd, Nat.reduceMul, Int.reduceToNat, Int.reduceAdd, Int.reduceMul, Int.reduceSub, tys]))))
        obtain ⟨L, hL⟩ : ∃ L, (T[i]).fs.length = L := ⟨_, rfl⟩
        obtain ⟨offs, hoff⟩ : ∃ offs, (layR 1048576 (eRow 1048576 T) (T[i]).fs).1 = offs := ⟨_, rfl⟩
        obtain ⟨g, hg⟩ : ∃ g : Nat → List (Int × Int), g = fun (j : Nat) => cellsR 1048576 T f ((T[i]).fs.getD j ([], 0)).2 (off + offs.getD j 0) := ⟨_, rfl⟩
        rw [hoff, ← hg, hL] at hce
        have hol : offs.length = L := by have := layR_len 1048576 (eRow 1048576 T) (T[i]).fs (T[i]).fs.length (Nat.le_refl _); rw [List.take_length, hoff, hL] at this; exact this
        have hok := layR_ok (by omega) hfo (T[i]).fs.length (Nat.le_refl _)
        rw [List.take_length] at hok
        have hbb := upI_bnd hok.2.2 hok.1
        rw [e] at hs hos hal
        dsimp only at hs hos hal
        rw [hoff, hL]
        refine x_loopV [0, 15, 16, 67, 68, 69, 70, 71, 72, 73, 74, 75, 76, 77, 78, 79, 80, 81, 82, 83, 84] [0, 67] (fun m vs h' n' => ∃ (j : Nat) (O' : Value), m = L - j ∧ j ≤ L ∧ vs = [O', .int .i64 j] ∧ OwnC (acc ++ (List.range j).flatMap g) O' h' lo n' ∧ Keeps O (((h.set n (.row 60 false [.int .u8 5, .int .i64 (T[i]).el, .int .i64 (T[i]).ln, .slice (T[i]).A L (T[i]).c])).set (n + 1) (.row 3 false (iv offs))).set (n + 1 + 1) (.row 84 false [.int .i64 (upI (layR 1048576 (eRow 1048576 T) (T[i]).fs).2.1 (layR 1048576 (eRow 1048576 T) (T[i]).fs).2.2), .int .i64 (layR 1048576 (eRow 1048576 T) (T[i]).fs).2.2])) (n + 1 + 1 + 1) O' h' n') L rfl (by omega) ?_ ?_
        · exact ⟨0, O, rfl, by omega, (by first | (simp (disch := first | assumption | omega | rfl | decide) only [go_sem, Nat.reduceBEq, ↓reduceIte, Nat.reduceEqDiff, Nat.reduceAdd, Nat.reduceMul, Int.reduceToNat, Int.reduceAdd, Int.reduceMul, Int.reduceSub, tys]; done) | (simp (disch := first | assumption | omega | rfl | decide) only [go_sem, Nat.reduceBEq, ↓reduceIte, Nat.reduceEqDiff, Nat.reduceAdd, Nat.reduceMul, Int.reduceToNat, Int.reduceAdd, Int.reduceMul, Int.reduceSub, tys]; exact rfl)), by simpa using ((hO.set (m := n + 1) (Nat.le_refl _) (by omega) _).set (m := n + 1 + 1) (Nat.le_refl _) (by omega) _).set (m := n + 1 + 1 + 1) (Nat.le_refl _) (by omega) _, Keeps.rfl_⟩
        · rintro m fr _ h' n' ⟨j, O', rfl, hj, rfl, hO2, hK⟩
          have hT2 := hK.tab (((hT.set hlo _).set (by omega) _).set (by omega) _) (by omega) (fun b hb => hO.blk hb)
          have hE2 := hK.rd (((hE.set hlo _).set (by omega) _).set (by omega) _) (by omega) (fun b hb => hO.blk hb)
          have hofs := hK.cell (b := n + 1) (by rw [rowOf_ne _ _ (by omega)]; exact rowOf_same _ _ _ _ _) (by omega) (hO.new_blk (by omega))
          have hn := hK.1
          by_cases hjl : j < L
          · have hjl2 : j < (T[i]).fs.length := by omega
            obtain ⟨id2, off2, hFA, hid2, hf2, -, hty⟩ := fld_at (hT2.fd _ (List.getElem_mem hi)) hjl2
            have hin := fine_fld hfi hjl2
            obtain ⟨ty, hty2⟩ := Int.eq_ofNat_of_zero_le hin.1
            rw [hty2] at hty hf2
            have co := hofs.cellk (k := j) (v := .int .i64 (offs.getD j 0)) (by have := iv_lget (l := offs) (i := j) (by omega); rw [lget_eq] at this; exact this)
            have hli := lay_in (C := 1048576) (by omega) hfo (T[i]).fs.length (Nat.le_refl _) (by rw [List.take_length]; omega) j hjl2
            rw [List.take_length, hoff, hty2] at hli
            have hS0 : 0 ≤ ((eRow 1048576 T).at_ (ty : Int)).1 := (Ext.at_mem hEok (by omega) (by rw [eRow_length]; omega)).1
            have hgj : g j = cellsR 1048576 T f (ty : Int) (off + offs.getD j 0) := by
              rw [hg]
              show cellsR 1048576 T f ((T[i]).fs.getD j ([], 0)).2 (off + offs.getD j 0) = _
              rw [List.getD_eq_getElem?_getD (l := (T[i]).fs), List.getElem?_eq_getElem hjl2, Option.getD_some, hty2]
            have hacc : acc ++ (List.range (j + 1)).flatMap g = (acc ++ (List.range j).flatMap g) ++ g j := by rw [List.range_succ, List.flatMap_append, List.flatMap_cons, List.flatMap_nil, List.append_nil, List.append_assoc]
            have hok2 := layR_ok (by omega) hfo j (by omega)
            have hfj := hfo _ (List.getElem_mem hjl2)
            have hbj := upI_bnd hfj.2.2 hok2.1
            have hlo2 := layR_off 1048576 (eRow 1048576 T) hjl2
            rw [hoff] at hlo2
            rw [hty2] at hlo2 hbj
            have hfle := (fields_le (C := 1048576) (g := g) (by decide) (E := eRow 1048576 T) (fs := (T[i]).fs) (fun f hf => ⟨(hfo f hf).1, (hfo f hf).2.2⟩) (fun q hq hs => by
              have hx := fine_fld hfi hq
              obtain ⟨x, hx2⟩ := Int.eq_ofNat_of_zero_le hx.1
              rw [hg]
              show ((cellsR 1048576 T f ((T[i]).fs.getD q ([], 0)).2 (off + offs.getD q 0)).length : Int) ≤ _
              rw [List.getD_eq_getElem?_getD (l := (T[i]).fs), List.getElem?_eq_getElem hq, Option.getD_some]
              rw [hx2] at hs ⊢
              exact cells_len (C := 1048576) (by decide) (by decide) hF f x _ (by omega) (by omega) hs) j (by omega)).2
            (repeat' first | (with_reducible first | apply x_seq | apply k_then | apply x_block | apply x_skip | apply x_ret | apply x_exit | apply x_label | apply k_pass | apply k_hit | apply k_miss rfl | apply k_out | apply k_turned | refine x_text fun K' hK => ?_) | ((with_reducible apply o_nil); refine hK _ _ _ ?_; clear hK) | (with_reducible refine x_drawnD (id := 14) [(4, 9)] (by kernel_rfl) fun K' hK => ?_) | ((with_reducible apply d_nil); (case hp => (simp (disch := omega) only [pairsOk, List.all_cons, List.all_nil, List.reverse_cons, List.reverse_nil, List.nil_append, List.cons_append, lget_zero, lget_succ, apartB, touches, made_mm, made_lt, made_ge, all_true, ble_t, ble_f, blt_t, blt_f, beq_f, List.contains_cons, List.contains_nil, Bool.and_true, Bool.true_and, Bool.and_false, Bool.false_and, Bool.or_false, Bool.false_or, Bool.not_false, Bool.not_true, beq_self_eq_true])); (case' hx => (refine hK _ _ _ ?_; clear hK))) | ((with_reducible apply d_pure w_none); (case hp => exact rfl); (case hc => exact rfl); (case he => (intro h n; simp (disch := first | assumption | omega | rfl | decide) only [go_sem, Nat.reduceBEq, ↓reduceIte, Nat.reduceEqDiff, Nat.reduceAdd, Nat.reduceMul, Int.reduceToNat, Int.reduceAdd, Int.reduceMul, Int.reduceSub, tys, co]; exact rfl))) | ((with_reducible apply d_eff w_none); (case hc => exact rfl); (case he => (simp (disch := first | assumption | omega | rfl | decide) only [go_sem, Nat.reduceBEq, ↓reduceIte, Nat.reduceEqDiff, Nat.reduceAdd, Nat.reduceMul, Int.reduceToNat, Int.reduceAdd, Int.reduceMul, Int.reduceSub, tys, co]; exact rfl)); (case hok => first | exact rfl | exact ok_w (by omega) rfl)) | ((with_reducible apply d_guard rfl); (case hb => (simp (disch := first | assumption | omega | rfl | decide) only [go_sem, Nat.reduceBEq, ↓reduceIte, Nat.reduceEqDiff, Nat.reduceAdd, Nat.reduceMul, Int.reduceToNat, Int.reduceAdd, Int.reduceMul, Int.reduceSub, tys, co]; exact rfl)); (case' h1 => intro hb; (try (simp only [hbs, reduceCtorEq] at hb)); try (exfalso; omega)); (case' h2 => intro hb; (try (simp only [hbs, reduceCtorEq] at hb)); try (exfalso; omega))) | ((with_reducible apply d_callS (g := 64) w_none); (case hs0 => exact rfl); (case ha => (simp (disch := first | assumption | omega | rfl | decide) only [go_sem, Nat.reduceBEq, ↓reduceIte, Nat.reduceEqDiff, Nat.reduceAdd, Nat.reduceMul, Int.reduceToNat, Int.reduceAdd, Int.reduceMul, Int.reduceSub, tys]; exact rfl)); (case hs => (exact ih cl _ (n' + 1) lo _ _ _ _ O' (acc ++ (List.range j).flatMap g) ty (off + offs.getD j 0) hlc (by omega) (hT2.set (by omega) _) (hE2.set (by omega) _) (hO2.set (Nat.le_refl _) (by omega) _) (by omega) (by omega) (by omega) (by rw [List.length_append]; omega) (by omega) (by omega))); (case' hk => rintro _ h' n' ⟨hO3, hK3⟩)) | ((first | ((with_reducible apply o_pure w_none); (case hp => exact rfl); (case' he => intro h n)) | (with_reducible first | apply o_eff w_none | apply o_guard rfl | apply x_cond | apply k_e1 rfl | apply k_e2 rfl | apply k_e0 rfl | apply k_e3 rfl | apply k_e4 rfl)); (case he => (simp (disch := first | assumption | omega | rfl | decide) only [go_sem, Nat.reduceBEq, ↓reduceIte, Nat.reduceEqDiff, Nat.reduceAdd, Nat.reduceMul, Int.reduceToNat, Int.reduceAdd, Int.reduceMul, Int.reduceSub, tys, hFA, hf2, co] <;> rfl)); (try (case hok => first | exact rfl | exact ok_w (by omega) rfl)); all_goals (try (intro hb; (try (simp only [hbs, reduceCtorEq] at hb)); try (exfalso; omega)))) | ((with_reducible apply o_undef rfl); (case hb => (simp (disch := first | assumption | omega | rfl | decide) only [go_sem, Nat.reduceBEq, ↓reduceIte, Nat.reduceEqDiff, Nat.reduceAdd, Nat.reduceMul, Int.reduceToNat, Int.reduceAdd, Int.reduceMul, Int.reduceSub, tys]))))
            refine k_round (L - (j + 1)) (by omega) ⟨j + 1, _, rfl, by omega, (by first | (simp (disch := first | assumption | omega | rfl | decide) only [go_sem, Nat.reduceBEq, ↓reduceIte, Nat.reduceEqDiff, Nat.reduceAdd, Nat.reduceMul, Int.reduceToNat, Int.reduceAdd, Int.reduceMul, Int.reduceSub, tys]; done) | (simp (disch := first | assumption | omega | rfl | decide) only [go_sem, Nat.reduceBEq, ↓reduceIte, Nat.reduceEqDiff, Nat.reduceAdd, Nat.reduceMul, Int.reduceToNat, Int.reduceAdd, Int.reduceMul, Int.reduceSub, tys]; exact rfl)), by rw [hacc, hgj]; exact hO3, hK.trans ((Keeps.rfl_.new (Nat.le_refl _) _ (by omega)).trans hK3)⟩
          · obtain rfl : j = L := by omega
            (repeat' first | (with_reducible first | apply x_seq | apply k_then | apply x_block | apply x_skip | apply x_ret | apply x_exit | apply x_label | apply k_pass | apply k_hit | apply k_miss rfl | apply k_out | apply k_turned | refine x_text fun K' hK => ?_) | ((with_reducible apply o_nil); refine hK _ _ _ ?_; clear hK) | fail | ((first | ((with_reducible apply o_pure w_none); (case hp => exact rfl); (case' he => intro h n)) | (with_reducible first | apply o_eff w_none | apply o_guard rfl | apply x_cond | apply k_e1 rfl | apply k_e2 rfl | apply k_e0 rfl | apply k_e3 rfl | apply k_e4 rfl)); (case he => (simp (disch := first | assumption | omega | rfl | decide) only [go_sem, Nat.reduceBEq, ↓reduceIte, Nat.reduceEqDiff, Nat.reduceAdd, Nat.reduceMul, Int.reduceToNat, Int.reduceAdd, Int.reduceMul, Int.reduceSub, tys] <;> rfl)); (try (case hok => first | exact rfl | exact ok_w (by omega) rfl)); all_goals (try (intro hb; (try (simp only [hbs, reduceCtorEq] at hb)); try (exfalso; omega)))) | ((with_reducible apply o_undef rfl); (case hb => (simp (disch := first | assumption | omega | rfl | decide) only [go_sem, Nat.reduceBEq, ↓reduceIte, Nat.reduceEqDiff, Nat.reduceAdd, Nat.reduceMul, Int.reduceToNat, Int.reduceAdd, Int.reduceMul, Int.reduceSub, tys]))))
            rw [hce]
            exact ⟨hO2, (((Keeps.rfl_.new (Nat.le_refl _) _ (by omega)).new (by omega) _ (by omega)).new (by omega) _ (by omega)).trans hK⟩
      · rw [if_neg h6, if_neg h5] at hce
        rcases hO with ⟨hp, rfl⟩ | ⟨hp, id, k1, k2, rfl, q4⟩
        · (repeat' first | (with_reducible first | apply x_seq | apply k_then | apply x_block | apply x_skip | apply x_ret | apply x_exit | apply x_label | apply k_pass | apply k_hit | apply k_miss rfl | apply k_out | apply k_turned | refine x_text fun K' hK => ?_) | ((with_reducible apply o_nil); refine hK _ _ _ ?_; clear hK) | ((with_reducible apply o_ap0 (t := 44) apT44 w_none); (case hs => (first | (simp (disch := first | assumption | omega | rfl | decide) only [go_sem, Nat.reduceBEq, ↓reduceIte, Nat.reduceEqDiff, Nat.reduceAdd, Nat.reduceMul, Int.reduceToNat, Int.reduceAdd, Int.reduceMul, Int.reduceSub, tys]; done) | (simp (disch := first | assumption | omega | rfl | decide) only [go_sem, Nat.reduceBEq, ↓reduceIte, Nat.reduceEqDiff, Nat.reduceAdd, Nat.reduceMul, Int.reduceToNat, Int.reduceAdd, Int.reduceMul, Int.reduceSub, tys]; exact rfl))); (case hy => (simp (disch := first | assumption | omega | rfl | decide) only [go_sem, Nat.reduceBEq, ↓reduceIte, Nat.reduceEqDiff, Nat.reduceAdd, Nat.reduceMul, Int.reduceToNat, Int.reduceAdd, Int.reduceMul, Int.reduceSub, tys]; exact rfl)); (case hsrc => exact src_row (rowOf_same _ _ _ _ _) rfl); (case hc => exact rfl); (case hm => omega); (case h0 => omega)) | ((first | ((with_reducible apply o_pure w_none); (case hp => exact rfl); (case' he => intro h n)) | (with_reducible first | apply o_eff w_none | apply o_guard rfl | apply x_cond | apply k_e1 rfl | apply k_e2 rfl | apply k_e0 rfl | apply k_e3 rfl | apply k_e4 rfl)); (case he => (simp (disch := first | assumption | omega | rfl | decide) only [go_sem, Nat.reduceBEq, ↓reduceIte, Nat.reduceEqDiff, Nat.reduceAdd, Nat.reduceMul, Int.reduceToNat, Int.reduceAdd, Int.reduceMul, Int.reduceSub, tys, ht4] <;> rfl)); (try (case hok => first | exact rfl | exact ok_w (by omega) rfl)); all_goals (try (intro hb; (try (simp only [hbs, reduceCtorEq] at hb)); try (exfalso; omega)))) | ((with_reducible apply o_undef rfl); (case hb => (simp (disch := first | assumption | omega | rfl | decide) only [go_sem, Nat.reduceBEq, ↓reduceIte, Nat.reduceEqDiff, Nat.reduceAdd, Nat.reduceMul, Int.reduceToNat, Int.reduceAdd, Int.reduceMul, Int.reduceSub, tys]))))
          rw [hce, hp]
          exact ⟨.inr ⟨by simp, n + 1 + 1, by omega, by omega, rfl, rowOf_same _ _ _ _ _⟩, Keeps.val (Keeps.new (Keeps.new (Keeps.new Keeps.rfl_ (Nat.le_refl _) _ (by omega)) (by omega) _ (by omega)) (by omega) _ (by omega)) fun b hb => blk_new (by omega)⟩
        · have w4 := rwOf_row q4
          have htk : (pv acc).take (acc.length * 2) = pv acc := List.take_of_length_le (by rw [pv_length]; omega)
          (repeat' first | (with_reducible first | apply x_seq | apply k_then | apply x_block | apply x_skip | apply x_ret | apply x_exit | apply x_label | apply k_pass | apply k_hit | apply k_miss rfl | apply k_out | apply k_turned | refine x_text fun K' hK => ?_) | ((with_reducible apply o_nil); refine hK _ _ _ ?_; clear hK) | ((with_reducible apply o_apR (t := 44) apT44 w_none); (case hs => (simp (disch := first | assumption | omega | rfl | decide) only [go_sem, Nat.reduceBEq, ↓reduceIte, Nat.reduceEqDiff, Nat.reduceAdd, Nat.reduceMul, Int.reduceToNat, Int.reduceAdd, Int.reduceMul, Int.reduceSub, tys, w4]; exact rfl)); (case hy => (simp (disch := first | assumption | omega | rfl | decide) only [go_sem, Nat.reduceBEq, ↓reduceIte, Nat.reduceEqDiff, Nat.reduceAdd, Nat.reduceMul, Int.reduceToNat, Int.reduceAdd, Int.reduceMul, Int.reduceSub, tys, w4]; exact rfl)); (case hsrc => exact src_row (rowOf_same _ _ _ _ _) rfl); (case hr => (simp (disch := first | assumption | omega | rfl | decide) only [go_sem, Nat.reduceBEq, ↓reduceIte, Nat.reduceEqDiff, Nat.reduceAdd, Nat.reduceMul, Int.reduceToNat, Int.reduceAdd, Int.reduceMul, Int.reduceSub, tys, w4]; exact rfl)); (case hc => exact rfl); (case hm => omega); (case hli => omega); (case hln => omega); (case hcs => rw [pv_length]; omega)) | ((first | ((with_reducible apply o_pure w_none); (case hp => exact rfl); (case' he => intro h n)) | (with_reducible first | apply o_eff w_none | apply o_guard rfl | apply x_cond | apply k_e1 rfl | apply k_e2 rfl | apply k_e0 rfl | apply k_e3 rfl | apply k_e4 rfl)); (case he => (simp (disch := first | assumption | omega | rfl | decide) only [go_sem, Nat.reduceBEq, ↓reduceIte, Nat.reduceEqDiff, Nat.reduceAdd, Nat.reduceMul, Int.reduceToNat, Int.reduceAdd, Int.reduceMul, Int.reduceSub, tys, ht4, w4] <;> rfl)); (try (case hok => first | exact rfl | exact ok_w (by omega) rfl)); all_goals (try (intro hb; (try (simp only [hbs, reduceCtorEq] at hb)); try (exfalso; omega)))) | ((with_reducible apply o_undef rfl); (case hb => (simp (disch := first | assumption | omega | rfl | decide) only [go_sem, Nat.reduceBEq, ↓reduceIte, Nat.reduceEqDiff, Nat.reduceAdd, Nat.reduceMul, Int.reduceToNat, Int.reduceAdd, Int.reduceMul, Int.reduceSub, tys]))))
          rw [hce, htk]
          exact ⟨.inr ⟨by simp, n + 1 + 1, by omega, by omega, by rw [List.length_append]; rfl, by rw [pv_app]; exact rowOf_same _ _ _ _ _⟩, Keeps.val (Keeps.new (Keeps.kill (Keeps.new (Keeps.new Keeps.rfl_ (Nat.le_refl _) _ (by omega)) (by omega) _ (by omega)) _) (by omega) _ (by omega)) fun b hb => blk_new (by omega)⟩
end Go.Proofs.Ytgdokjfjmcleeaa.Ce
