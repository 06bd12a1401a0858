/- Lists of numbers, rows of truth values: what calls leave. -/
import Derived.Test.YtgdokjfjmcleeaaKp
namespace Go.Proofs.Ytgdokjfjmcleeaa.Ce
open Go.RowKit
set_option linter.unusedVariables false
set_option linter.unusedSimpArgs false
attribute [local go_sem ↓] lv_tmp fput_some fput_none fputs_cons fputs_nil mix_in mix_out finit_zero finit_succ cellAt_same cellAt_ne cellsAt_same cellsAt_ne rwOf_same rwOf_ne' rowOf_same rowOf_ne
attribute [local go_sem] a_move a_assign a_pick a_alloc a_box a_build a_buildSlice bif_cok a_load a_store a_bin a_un a_convert a_func a_makeMap a_makeSlice a_slice a_fieldAddr a_indexAddr a_index a_extract a_len a_append a_copy a_max a_min lv_int lv_bool lv_str lv_func lv_nil b_add b_sub b_mul b_eql b_neq b_lss b_leq b_gtr b_geq b_quo b_rem b_shl8 b_or8 b_shr u_not p_pick m_max m_min x_tuple mVO_some lget_zero lget_succ ltake_zero ltake_cons ldrop_zero ldrop_cons overAt_zero overAt_cons over_nil over_cons Hp.set_set fill_nil fill_cons c_int1 c_bool1 c_str1 c_ptr1 c_sli1 c_map1 c_agg c_agg' cok_int cok_bool cok_str cok_ptr cok_sli cok_map List.length_cons List.length_nil List.all_cons List.all_nil Bool.and_true Bool.true_and Bool.and_self beq_self_eq_true wrap_i64 wrap_u64 wrap_u8 tdiv_pos tmod_pos Nat.zero_add Nat.add_zero Nat.mul_one Nat.zero_mul List.take_zero List.take_nil Option.bind_some Option.map_some Option.map_none cond_true cond_false List.map_cons List.map_nil List.cons_append List.nil_append Int.toNat_natCast Int.zero_add Int.add_zero Int.mul_zero Int.mul_one Bool.not_true Bool.not_false r_tmp r_cell
set_option maxHeartbeats 1000000

/-- a block that is not the list's own -/
def Blk (O : Value) (b : Nat) : Prop := ∀ len c, O ≠ .slice (some ⟨b, 0, none⟩) len c
theorem blk_new {b m len c : Nat} (h : b < m) : Blk (.slice (some ⟨m, 0, none⟩) len c) b := by
  intro len2 c2 hh
  injection hh with hh
  injection hh with hh
  injection hh with hh
  omega
/-- a list of numbers: nothing, or a row of its own -/
def IntsV (l : List Int) (h : Hp) (n : Nat) (v : Value) (h' : Hp) (n' : Nat) : Prop :=
  (l = [] ∧ v = .slice none 0 0 ∧ h' = h ∧ n' = n) ∨ (l ≠ [] ∧ v = .slice (some ⟨n, 0, none⟩) l.length l.length ∧ h' = h.set n (.row 3 false (iv l)) ∧ n' = n + 1)
/-- a list of numbers under way -/
def OwnI (l : List Int) (O : Value) (h' : Hp) (lo n' : Nat) : Prop :=
  (l = [] ∧ O = .slice none 0 0) ∨ (l ≠ [] ∧ ∃ id, lo ≤ id ∧ id < n' ∧ O = .slice (some ⟨id, 0, none⟩) l.length l.length ∧ rowOf h' id = some (3, false, iv l))
theorem iv_app1 (l : List Int) (x : Int) : iv (l ++ [x]) = iv l ++ [.int .i64 x] := by simp [iv]
/-- a row of truth values -/
def bw (l : List Bool) : List Value := l.map Value.bool
theorem bw_length (l : List Bool) : (bw l).length = l.length := by simp [bw]
theorem mk_falses (m : Nat) : (List.replicate m [Value.bool false]).flatten = bw (List.replicate m false) := by unfold bw; rw [List.map_replicate]; induction m with | zero => rfl | succ m ih => rw [List.replicate_succ, List.flatten_cons, ih, List.replicate_succ]; rfl
theorem bw_lget {l : List Bool} {i : Nat} {b : Bool} (hi : l[i]? = some b) : lget (bw l) i = some (.bool b) := by rw [lget_eq]; unfold bw; rw [List.getElem?_map, hi]; rfl
theorem bw_set {l : List Bool} {i : Nat} (hi : i < l.length) : overAt i [Value.bool true] (bw l) = some (bw (l.set i true)) := by
  rw [overAt_one (by rw [bw_length]; exact hi)]
  unfold bw
  rw [List.map_set]
theorem IntsV.nil {l : List Int} {h h' : Hp} {n n' : Nat} {v : Value} (hl : l = []) (hh : ∃ V, v = .tuple ⟨[V, .int .i64 0]⟩ ∧ IntsV l h n V h' n') : v = .tuple ⟨[.slice none 0 0, .int .i64 0]⟩ ∧ h' = h ∧ n' = n := by
  obtain ⟨V, rfl, ⟨-, rfl, rfl, rfl⟩ | ⟨hn, -⟩⟩ := hh
  · exact ⟨rfl, rfl, rfl⟩
  · exact absurd hl hn
theorem IntsV.row {l : List Int} {h h' : Hp} {n n' : Nat} {v : Value} (hl : l ≠ []) (hh : ∃ V, v = .tuple ⟨[V, .int .i64 0]⟩ ∧ IntsV l h n V h' n') : v = .tuple ⟨[.slice (some ⟨n, 0, none⟩) l.length l.length, .int .i64 0]⟩ ∧ h' = h.set n (.row 3 false (iv l)) ∧ n' = n + 1 := by
  obtain ⟨V, rfl, ⟨hn, -⟩ | ⟨-, rfl, rfl, rfl⟩⟩ := hh
  · exact absurd hn hl
  · exact ⟨rfl, rfl, rfl⟩
theorem sp_fix {P : Program} {F : CallE} {cl n : Nat} {g : FuncId} {ar : List Value} {h : Hp} {Φ : Value → Hp → Nat → Prop} (hs : Sp P F cl g ar h n Φ) : ∃ v h' n', Φ v h' n' ∧ Sp P F cl g ar h n fun v2 h2 n2 => v2 = v ∧ h2 = h' ∧ n2 = n' := by
  obtain ⟨hg, v, h', n', hr, hp⟩ := hs
  exact ⟨v, h', n', hp, hg, v, h', n', hr, rfl, rfl, rfl⟩
end Go.Proofs.Ytgdokjfjmcleeaa.Ce
