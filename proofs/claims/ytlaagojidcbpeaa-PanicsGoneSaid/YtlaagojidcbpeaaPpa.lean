/- Words of a heap by symbolic runs. -/
import Derived.Test.YtlaagojidcbpeaaPh
import Derived.Test.YtlaagojidcbpeaaSm
namespace Go.Proofs.Ytlaagojidcbpeaa
def rdW (xs : List UInt8) (p j : Nat) : Int := wordV xs (p + 8 * j) 8
theorem rdW_ge (xs : List UInt8) (p j : Nat) : 0 ≤ rdW xs p j := le_nonneg _
theorem rdW_lt (xs : List UInt8) (p j : Nat) : rdW xs p j < 18446744073709551616 := by
  have h := le_lt ((xs.drop (p + 8 * j)).take 8)
  have hl : ((xs.drop (p + 8 * j)).take 8).length ≤ 8 := List.length_take_le 8 _
  have h2 : ∀ q : Nat, q ≤ 8 → (256 : Int) ^ q ≤ 18446744073709551616 := by
    intro q hq
    have : q = 0 ∨ q = 1 ∨ q = 2 ∨ q = 3 ∨ q = 4 ∨ q = 5 ∨ q = 6 ∨ q = 7 ∨ q = 8 := by omega
    rcases this with rfl | rfl | rfl | rfl | rfl | rfl | rfl | rfl | rfl <;> decide +kernel
  have h3 := h2 _ hl
  unfold rdW wordV
  omega
end Go.Proofs.Ytlaagojidcbpeaa
namespace Go.Proofs.Ytlaagojidcbpeaa.Ce
open Go.RowKit
set_option linter.unusedVariables false
set_option linter.unusedSimpArgs false
attribute [local go_sem ↓] lv_tmp fput_some fput_none fputs_cons fputs_nil mix_in mix_out finit_zero finit_succ cellAt_same cellAt_ne cellsAt_same cellsAt_ne rwOf_same rwOf_ne' rowOf_same rowOf_ne
attribute [local go_sem] a_move a_assign a_pick a_alloc a_box a_build a_buildSlice bif_cok a_load a_store a_bin a_un a_convert a_func a_makeMap a_makeSlice a_slice a_fieldAddr a_indexAddr a_index a_extract a_len a_append a_copy a_max a_min lv_int lv_bool lv_str lv_func lv_nil b_add b_sub b_mul b_eql b_neq b_lss b_leq b_gtr b_geq b_quo b_rem b_shl8 b_or8 b_shr u_not p_pick m_max m_min x_tuple mVO_some lget_zero lget_succ ltake_zero ltake_cons ldrop_zero ldrop_cons overAt_zero overAt_cons over_nil over_cons Hp.set_set fill_nil fill_cons c_int1 c_bool1 c_str1 c_ptr1 c_sli1 c_map1 c_agg c_agg' cok_int cok_bool cok_str cok_ptr cok_sli cok_map List.length_cons List.length_nil List.all_cons List.all_nil Bool.and_true Bool.true_and Bool.and_self beq_self_eq_true wrap_i64 wrap_u64 wrap_u8 tdiv_pos tmod_pos Nat.zero_add Nat.add_zero Nat.mul_one Nat.zero_mul List.take_zero List.take_nil Option.bind_some Option.map_some Option.map_none cond_true cond_false List.map_cons List.map_nil List.cons_append List.nil_append Int.toNat_natCast Int.zero_add Int.add_zero Int.mul_zero Int.mul_one Bool.not_true Bool.not_false r_tmp r_cell
set_option maxRecDepth 100000
set_option maxHeartbeats 2000000

variable (k d cl : Nat) (h : Hp) (n : Nat)
theorem loadw_ev (hk : 30000 ≤ k) (A : Option Addr) (xs : List UInt8) (c : Nat) (a : Int) (p j : Nat) (hr : RdH h n A (bv xs)) (hl : xs.length ≤ 16384) (ha : a = 65536 + (p + 8 * j : Nat)) (hp : p + 8 * j + 8 ≤ xs.length) :
    Sp Try.prog (acall Try.prog WW k (d + 4)) cl 28 [.agg ⟨[.int .u64 65536, .slice A xs.length c]⟩, .int .u64 a, .int .i64 8] h n fun v h' n' => v = .tuple ⟨[.int .u64 (rdW xs p j), .int .i64 0]⟩ ∧ h' = h ∧ n' = n := by
  have hw : wordE 65536 xs.length a 8 = 0 := by
    unfold wordE; rw [if_pos (chkB_R hl), if_pos (.inr rfl), if_pos (inb_iff.2 (by omega))]
  refine (load_ev k d cl h n hk 65536 A xs c a 8 hr (by omega) (by omega) (by omega) (by omega) (by omega) (by omega) (by omega)).mono fun v h' n' ⟨e1, e2, e3⟩ => ⟨?_, e2, e3⟩
  have he : (a - 65536).toNat = p + 8 * j := by omega
  rw [e1]; unfold loadS; rw [if_pos hw, he]; rfl
end Go.Proofs.Ytlaagojidcbpeaa.Ce
