/- Lists of cells under way. -/
import Derived.Test.YtgdokjfjmcleeaaNb
namespace Go.Proofs.Ytgdokjfjmcleeaa.Ce
open Go.RowKit
set_option linter.unusedVariables false
set_option linter.unusedSimpArgs false
attribute [local go_sem ↓] lv_tmp fput_some fput_none fputs_cons fputs_nil mix_in mix_out finit_zero finit_succ cellAt_same cellAt_ne cellsAt_same cellsAt_ne rwOf_same rwOf_ne' rowOf_same rowOf_ne
attribute [local go_sem] a_move a_assign a_pick a_alloc a_box a_build a_buildSlice bif_cok a_load a_store a_bin a_un a_convert a_func a_makeMap a_makeSlice a_slice a_fieldAddr a_indexAddr a_index a_extract a_len a_append a_copy a_max a_min lv_int lv_bool lv_str lv_func lv_nil b_add b_sub b_mul b_eql b_neq b_lss b_leq b_gtr b_geq b_quo b_rem b_shl8 b_or8 b_shr u_not p_pick m_max m_min x_tuple mVO_some lget_zero lget_succ ltake_zero ltake_cons ldrop_zero ldrop_cons overAt_zero overAt_cons over_nil over_cons Hp.set_set fill_nil fill_cons c_int1 c_bool1 c_str1 c_ptr1 c_sli1 c_map1 c_agg c_agg' cok_int cok_bool cok_str cok_ptr cok_sli cok_map List.length_cons List.length_nil List.all_cons List.all_nil Bool.and_true Bool.true_and Bool.and_self beq_self_eq_true wrap_i64 wrap_u64 wrap_u8 tdiv_pos tmod_pos Nat.zero_add Nat.add_zero Nat.mul_one Nat.zero_mul List.take_zero List.take_nil Option.bind_some Option.map_some Option.map_none cond_true cond_false List.map_cons List.map_nil List.cons_append List.nil_append Int.toNat_natCast Int.zero_add Int.add_zero Int.mul_zero Int.mul_one Bool.not_true Bool.not_false r_tmp r_cell
set_option maxRecDepth 100000
set_option maxHeartbeats 2000000

theorem d_apE {P : Program} {F : CallE} {lim : Nat} {h : Hp} {n : Nat} {f : Fm} {ops l : List Oper} {dst : Option Tmp} {ty : TypeId} {pos : String} {af : Array Edge} {gd : Option (Nat × Bool)} {KO : Fm → Hp → Nat → Prop} {x y : Operand} {t : TypeId} {e s : Nat} {v : Value} {news : List Value}
    {us : List (Nat × Nat)} {i : Nat} {acc : List Fp} (hT : ApT P t e s) (hw : wantsF ops gd f = some true) (hs : lv f x = .slice none 0 0) (hy : lv f y = v) (hsrc : SrcIs s h v 0 news) (hc : news.all cok = true)
    (hx : XD P F lim us ops l (i + 1) (fput f dst (.slice none 0 0)) h n (⟨[], [], false, n, n⟩ :: acc) KO) : XD P F lim us ops (⟨dst, .call ⟨.builtin .append, #[x, y], #[t, t]⟩, ty, pos, af, gd⟩ :: l) i f h n acc KO := by
  obtain ⟨rd, hsrc⟩ := hsrc
  obtain ⟨h1, ⟨z, h2, h3⟩, h4, h5, h6⟩ := hT
  exact d_eff hw rfl (by rw [a_append, hs, hy]; exact m_apE h1 h2 h4 h3 h5 h6 hsrc hc) (by simp) hx
/-- a list of cells: nothing, or a row of its own -/
def CellsV (ps : List (Int × Int)) (h : Hp) (n : Nat) (v : Value) (h' : Hp) (n' : Nat) : Prop :=
  (ps = [] ∧ v = .slice none 0 0 ∧ h' = h ∧ n' = n) ∨ (ps ≠ [] ∧ v = .slice (some ⟨n, 0, none⟩) ps.length ps.length ∧ h' = h.set n (.row 57 false (pv ps)) ∧ n' = n + 1)
/-- a list of cells under way -/
def OwnC (ps : List (Int × Int)) (O : Value) (h' : Hp) (lo n' : Nat) : Prop :=
  (ps = [] ∧ O = .slice none 0 0) ∨ (ps ≠ [] ∧ ∃ id, lo ≤ id ∧ id < n' ∧ O = .slice (some ⟨id, 0, none⟩) ps.length ps.length ∧ rowOf h' id = some (57, false, pv ps))
end Go.Proofs.Ytgdokjfjmcleeaa.Ce
