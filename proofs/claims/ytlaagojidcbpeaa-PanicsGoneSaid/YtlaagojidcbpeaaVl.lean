/- The law PanicsGone by symbolic runs. -/
import Derived.Test.YtlaagojidcbpeaaVj
import Derived.Test.YtlaagojidcbpeaaVk
import Derived.Test.YtlaagojidcbpeaaEAlive187
namespace Go.Proofs.Ytlaagojidcbpeaa.Ce
open Go.RowKit
set_option linter.unusedVariables false
set_option linter.unusedSimpArgs false
attribute [local go_sem ↓] lv_tmp fput_some fput_none fputs_cons fputs_nil mix_in mix_out finit_zero finit_succ cellAt_same cellAt_ne cellsAt_same cellsAt_ne rwOf_same rwOf_ne' rowOf_same rowOf_ne
attribute [local go_sem] a_move a_assign a_pick a_alloc a_box a_build a_buildSlice bif_cok a_load a_store a_bin a_un a_convert a_func a_makeMap a_makeSlice a_slice a_fieldAddr a_indexAddr a_index a_extract a_len a_append a_copy a_max a_min lv_int lv_bool lv_str lv_func lv_nil b_add b_sub b_mul b_eql b_neq b_lss b_leq b_gtr b_geq b_quo b_rem b_shl8 b_or8 b_shr u_not p_pick m_max m_min x_tuple mVO_some lget_zero lget_succ ltake_zero ltake_cons ldrop_zero ldrop_cons overAt_zero overAt_cons over_nil over_cons Hp.set_set fill_nil fill_cons c_int1 c_bool1 c_str1 c_ptr1 c_sli1 c_map1 c_agg c_agg' cok_int cok_bool cok_str cok_ptr cok_sli cok_map List.length_cons List.length_nil List.all_cons List.all_nil Bool.and_true Bool.true_and Bool.and_self beq_self_eq_true wrap_i64 wrap_u64 wrap_u8 tdiv_pos tmod_pos Nat.zero_add Nat.add_zero Nat.mul_one Nat.zero_mul List.take_zero List.take_nil Option.bind_some Option.map_some Option.map_none cond_true cond_false List.map_cons List.map_nil List.cons_append List.nil_append Int.toNat_natCast Int.zero_add Int.add_zero Int.mul_zero Int.mul_one Bool.not_true Bool.not_false r_tmp r_cell
set_option maxRecDepth 100000
set_option maxHeartbeats 4000000

variable (k d cl : Nat) (h : Hp) (n : Nat)
theorem tb18_ok : ∀ x ∈ tb18, flatT x.2 = true ∧ ∃ (W0 : FuncId → Bool) (k0 d0 : Nat) (h0 : Hp) (n0 : Nat), acall Try.prog W0 k0 d0 0 x.1 [] [] 0 = some (x.2, h0, n0) := by
  intro x hx
  unfold tb18 at hx
  simp only [List.mem_cons, List.not_mem_nil, or_false] at hx
  subst hx
  obtain ⟨h1, h0, n0, h2⟩ := alive18Parts.eval
  exact ⟨h1, _, _, _, h0, n0, h2⟩
theorem split_p (p : Int → Bool) : ∀ t : List Int, ∃ u r, u ++ r = t ∧ (∀ b ∈ u, p b = true) ∧ (r = [] ∨ ∃ b r', r = b :: r' ∧ p b = false)
  | [] => ⟨[], [], rfl, by simp, .inl rfl⟩
  | b :: t => by
    cases hp : p b with
    | false => exact ⟨[], b :: t, rfl, by simp, .inr ⟨b, t, rfl, hp⟩⟩
    | true =>
      obtain ⟨u, r, h1, h2, h3⟩ := split_p p t
      exact ⟨b :: u, r, by rw [List.cons_append, h1], by simpa [hp] using h2, h3⟩
theorem panicsGone_ev (hk : 30000 ≤ k) (b : Int) (A : Option Addr) (xs : List UInt8) (c : Nat) (a : Int) (hr : RdH h n A (bv xs)) (ha : 0 ≤ a ∧ a < 18446744073709551616) (hm : xs.length ≤ 9223372036854775807) :
    Sp Try.prog (afunc Try.prog (tab (acall Try.prog WW k (d + 7)) tb18) WW k) cl 4 [.agg ⟨[.int .u64 b, .slice A xs.length c]⟩, .int .u64 a] h n fun v h' n' => v = .bool true := by
  obtain ⟨v, h2, n2, ⟨B, rfl, hB, rfl, rfl⟩, hS⟩ := Sp.fix (right_ev k (d + 2) n (h.set n (.row 25 false [.int .u64 b, .slice A xs.length c])) (n + 1) hk b A xs c a ((hr.set (Nat.le_refl _) _).more (by omega)) ha.1 ha.2 hm)
  cases B with
  | false => exact pgA k d cl h n b A xs c a hS
  | true =>
    obtain ⟨rfl, hb8, L, hL⟩ := hB rfl
    rcases L with _ | ⟨x, t⟩
    · obtain rfl : a = 0 := by cases hL; rfl
      exact pgB k d cl h n hk A xs c hr hb8 hS
    · obtain ⟨rfl, -⟩ := hL.tail
      cases hrc : rc xs a with
      | false => exact pgC k d cl h n hk A xs c a t hr hb8 hL hrc hS
      | true =>
        obtain ⟨u, r, rfl, hu, hre⟩ := split_p (ab xs) t
        cases hfx : fx xs u with
        | none =>
          rcases hre with rfl | ⟨b, r', rfl, hab⟩
          · exact pgD0 k d cl h n hk A xs c a u hr hb8 hL hrc hu hfx hS
          · exact pgD1 k d cl h n hk A xs c a u r' b hr hb8 hL hrc hu hab hfx hS
        | some s => exact pgE k d cl h n hk A xs c a s u r hr hb8 hL hrc hu hre hfx hS
end Go.Proofs.Ytlaagojidcbpeaa.Ce
