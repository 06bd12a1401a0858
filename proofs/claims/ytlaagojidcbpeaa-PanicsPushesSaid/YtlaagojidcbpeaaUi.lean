/- The law PanicsPushes by symbolic runs. -/
import Derived.Test.YtlaagojidcbpeaaUg
import Derived.Test.YtlaagojidcbpeaaUh
namespace Go.Proofs.Ytlaagojidcbpeaa.Ce
open Go.RowKit
set_option linter.unusedVariables false
set_option linter.unusedSimpArgs false
attribute [local go_sem ↓] lv_tmp fput_some fput_none fputs_cons fputs_nil mix_in mix_out finit_zero finit_succ cellAt_same cellAt_ne cellsAt_same cellsAt_ne rwOf_same rwOf_ne' rowOf_same rowOf_ne
attribute [local go_sem] a_move a_assign a_pick a_alloc a_box a_build a_buildSlice bif_cok a_load a_store a_bin a_un a_convert a_func a_makeMap a_makeSlice a_slice a_fieldAddr a_indexAddr a_index a_extract a_len a_append a_copy a_max a_min lv_int lv_bool lv_str lv_func lv_nil b_add b_sub b_mul b_eql b_neq b_lss b_leq b_gtr b_geq b_quo b_rem b_shl8 b_or8 b_shr u_not p_pick m_max m_min x_tuple mVO_some lget_zero lget_succ ltake_zero ltake_cons ldrop_zero ldrop_cons overAt_zero overAt_cons over_nil over_cons Hp.set_set fill_nil fill_cons c_int1 c_bool1 c_str1 c_ptr1 c_sli1 c_map1 c_agg c_agg' cok_int cok_bool cok_str cok_ptr cok_sli cok_map List.length_cons List.length_nil List.all_cons List.all_nil Bool.and_true Bool.true_and Bool.and_self beq_self_eq_true wrap_i64 wrap_u64 wrap_u8 tdiv_pos tmod_pos Nat.zero_add Nat.add_zero Nat.mul_one Nat.zero_mul List.take_zero List.take_nil Option.bind_some Option.map_some Option.map_none cond_true cond_false List.map_cons List.map_nil List.cons_append List.nil_append Int.toNat_natCast Int.zero_add Int.add_zero Int.mul_zero Int.mul_one Bool.not_true Bool.not_false r_tmp r_cell
set_option maxRecDepth 100000
set_option maxHeartbeats 4000000

variable (k d cl : Nat) (h : Hp) (n : Nat)
theorem panicsPushes_ev (hk : 30000 ≤ k) (b : Int) (A : Option Addr) (xs : List UInt8) (c : Nat) (nx tg x y fl ca fr lim a : Int) (hr : RdH h n A (bv xs)) (hA : A = none → c = 0) (hd : PnOk ⟨nx, tg, x, y, fl, ca, fr⟩) (ha : 0 ≤ a ∧ a < 18446744073709551616) (hm : xs.length ≤ 9223372036854775807) :
    Sp Try.prog (acall Try.prog WW k (d + 8)) cl 3 [.agg ⟨[.int .u64 b, .slice A xs.length c]⟩, .agg ⟨[.int .u64 nx, .int .u64 tg, .int .u64 x, .int .u64 y, .int .u64 fl, .int .u64 ca, .int .u64 fr]⟩, .int .i64 lim, .int .u64 a] h n fun v h' n' => v = .bool true := by
  by_cases hg : greatB xs.length = true
  · exact ppG k d cl h n hk b A xs c nx tg x y fl ca fr lim a hr hA hd ha hm hg
  · have hg' : greatB xs.length = false := by simpa using hg
    by_cases he : pushN b xs.length ⟨nx, tg, x, y, fl, ca, fr⟩ lim = 0
    · have hv : validP tg x y fl ca fr = true := by unfold pushN validN at he; grind
      by_cases ht : thereE b xs.length a = 0
      · exact ppA k d cl h n hk b A xs c nx tg x y fl ca fr lim a hr hA hd ha hm hg' he ht hv
      · exact ppB k d cl h n hk b A xs c nx tg x y fl ca fr lim a hr hA hd ha hm hg' he ht
    · by_cases ht : thereE b xs.length a = 0
      · cases hv : validP tg x y fl ca fr
        · exact ppD k d cl h n hk b A xs c nx tg x y fl ca fr lim a hr hA hd ha hm hg' he ht hv
        · exact ppC k d cl h n hk b A xs c nx tg x y fl ca fr lim a hr hA hd ha hm hg' he ht hv
      · exact ppE k d cl h n hk b A xs c nx tg x y fl ca fr lim a hr hA hd ha hm hg' he ht
end Go.Proofs.Ytlaagojidcbpeaa.Ce
