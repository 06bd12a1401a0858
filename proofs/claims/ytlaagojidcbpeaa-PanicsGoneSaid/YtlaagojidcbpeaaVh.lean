/- Calls without arguments that are known, in a law with arguments; List in two cases. -/
import Derived.Test.YtlaagojidcbpeaaVe
import Derived.Test.YtlaagojidcbpeaaCut
namespace Go.Proofs.Ytlaagojidcbpeaa.Ce
open Go.RowKit
set_option linter.unusedVariables false
set_option linter.unusedSimpArgs false

section
variable {P : Program} {F : CallE}
theorem tab_both2 {l : List (FuncId × Value)} (hl : ∀ x ∈ l, flatT x.2 = true ∧ ∃ F0 h0 n0, SoundF P F0 ∧ F0 0 x.1 [] [] 0 = some (x.2, h0, n0)) (hF : SoundF P F) (hF2 : StatF F) : SoundF P (tab F l) ∧ StatF (tab F l) := by
  constructor
  · intro cl g ar h n v h' n' he hg hcl φ w S cargs hv m
    cases ar with
    | cons a ar => exact hF cl g (a :: ar) h n v h' n' he hg hcl φ w S cargs hv m
    | nil =>
      change (Option.rec (F cl g [] h n) (fun v => some (v, h, n)) (tabGet l g) : Option (Value × Hp × Nat)) = _ at he
      cases hb : tabGet l g with
      | none => rw [hb] at he; exact hF cl g [] h n v h' n' he hg hcl φ w S cargs hv m
      | some u =>
        rw [hb] at he
        injection he with he
        injection he with e1 he
        injection he with e2 e3
        subst e1; subst e2; subst e3
        obtain ⟨hfl, F0, h0, n0, hF0, hr⟩ := hl _ (tabGet_some hb)
        have hca : cargs = [] := by
          cases cargs with
          | nil => rfl
          | cons _ _ => exact hv.elim
        subst hca
        refine Calls.mono (hF0 0 g [] [] 0 _ h0 n0 hr hg (Nat.le_refl _) (fun _ => none) w w.heap.size [] trivial ⟨fun _ _ => rfl, fun id g c hp => (by cases hp), fun id id' g c c' _ hp => (by cases hp), fun id _ => (by unfold Hp.get; rw [lget_eq]; simp), Nat.le_refl _⟩) fun e w' hh => ?_
        obtain ⟨v', φ', rfl, h1, f, m0⟩ := hh
        obtain rfl := flatT_eq hfl h1
        have hold : ∀ g, g < w.heap.size → w'.heap[g]? = w.heap[g]? := fun g hg => f.fr g hg fun id c h2 => by omega
        have fr : Fr φ φ h h n n (fun id => cl ≤ id) w w' := ⟨fun _ _ => rfl, fun g hg _ => hold g hg, fun _ _ _ => rfl, fun id g c h1 h2 => by omega, fun id id' g c c' h1 h2 => by omega, fun _ _ hd => hd, fun _ _ _ => rfl, Nat.le_refl _, f.sz, f.os, f.tape, f.output⟩
        refine ⟨_, φ, rfl, flatT_refl hfl, fr, m.step fr m.hb fun id g c _ hp => ?_⟩
        obtain ⟨o1, o2, o3⟩ := m.obj id g c hp
        exact ⟨o1.mono (le_.refl _) (hold g o3), o2, Nat.lt_of_lt_of_le o3 f.sz⟩
  · intro cl g ar h n v h' n' he hcl hb
    cases ar with
    | cons a ar => exact hF2 cl g (a :: ar) h n v h' n' he hcl hb
    | nil =>
      change (Option.rec (F cl g [] h n) (fun v => some (v, h, n)) (tabGet l g) : Option (Value × Hp × Nat)) = _ at he
      cases hb' : tabGet l g with
      | none => rw [hb'] at he; exact hF2 cl g [] h n v h' n' he hcl hb
      | some u =>
        rw [hb'] at he
        injection he with he
        injection he with e1 he
        injection he with e2 e3
        subst e1; subst e2; subst e3
        exact Stat.same hb
variable {cl : Nat} {g : FuncId} {a : Value} {ar : List Value} {h : Hp} {n k d : Nat} {W : FuncId → Bool} {Φ : Value → Hp → Nat → Prop} {l : List (FuncId × Value)}
theorem Sp.tab (hs : Sp P F cl g (a :: ar) h n Φ) : Sp P (Ce.tab F l) cl g (a :: ar) h n Φ := hs
theorem Sp.known {v : Value} (hg : (goodF P g).isSome = true) (ht : tabGet l g = some v) : Sp P (Ce.tab F l) cl g [] h n fun v' h' n' => v' = v ∧ h' = h ∧ n' = n := by
  refine ⟨hg, v, h, n, ?_, rfl, rfl, rfl⟩
  show (Option.rec (F cl g [] h n) (fun v => some (v, h, n)) (tabGet l g) : Option (Value × Hp × Nat)) = _
  rw [ht]
/-- THE LAW: what a symbolic run of a law with known calls shows, the machine does -/
theorem calls_tabA (hm : P.follows .mixedOrders = true) {l : List (FuncId × Value)} (hl : ∀ x ∈ l, flatT x.2 = true ∧ ∃ (W0 : FuncId → Bool) (k0 d0 : Nat) (h0 : Hp) (n0 : Nat), acall P W0 k0 d0 0 x.1 [] [] 0 = some (x.2, h0, n0)) {args vs : List Value} {w : World} (ha : args.map (visV w.heap.size) = vs)
    (hs : Sp P (afunc P (Ce.tab (acall P W k d) l) W k) w.heap.size g vs (absW w) w.heap.size fun v _ _ => v = .bool true) : Calls P g ⟨args⟩ w fun e w' => e = .returned (.bool true) ∧ Below w.heap.size w w' := by
  subst ha
  obtain ⟨hg, v, h', n', hr, rfl⟩ := hs
  have both := acall_both (P := P) hm W k d
  have bt := tab_both2 (l := l) (fun x hx => by
    obtain ⟨h1, W0, k0, d0, h0, n0, h2⟩ := hl x hx
    exact ⟨h1, _, h0, n0, (acall_both (P := P) hm W0 k0 d0).1, h2⟩) both.1 both.2
  refine Calls.mono (afunc_sound hm bt.1 bt.2 W k w.heap.size g _ _ _ _ h' n' hr (fun h0 => by rw [h0] at hg; cases hg) (Nat.le_refl _) (here w.heap.size) w 0 args (VL.visV _ _) (absW_mem P w)) fun e w' hh => ?_
  obtain ⟨v', φ', rfl, h1, f, m⟩ := hh
  obtain rfl := h1.bool
  exact ⟨rfl, f.os, f.tape, f.output, f.sz, fun g hg => f.fr g hg fun id c h1 h2 => by omega⟩
/-- a result that is known is fixed ahead -/
theorem Sp.fix (hs : Sp P F cl g ar h n Φ) : ∃ v h' n', Φ v h' n' ∧ Sp P F cl g ar h n fun v2 h2 n2 => v2 = v ∧ h2 = h' ∧ n2 = n' := by
  obtain ⟨hg, v, h', n', hr, hp⟩ := hs
  exact ⟨v, h', n', hp, hg, v, h', n', hr, rfl, rfl, rfl⟩
end
end Go.Proofs.Ytlaagojidcbpeaa.Ce
namespace Go.Proofs.Ytlaagojidcbpeaa.Ce
open Go.RowKit
set_option linter.unusedVariables false
set_option linter.unusedSimpArgs false
attribute [local go_sem ↓] lv_tmp fput_some fput_none fputs_cons fputs_nil mix_in mix_out finit_zero finit_succ cellAt_same cellAt_ne cellsAt_same cellsAt_ne rwOf_same rwOf_ne' rowOf_same rowOf_ne
attribute [local go_sem] a_move a_assign a_pick a_alloc a_box a_build a_buildSlice bif_cok a_load a_store a_bin a_un a_convert a_func a_makeMap a_makeSlice a_slice a_fieldAddr a_indexAddr a_index a_extract a_len a_append a_copy a_max a_min lv_int lv_bool lv_str lv_func lv_nil b_add b_sub b_mul b_eql b_neq b_lss b_leq b_gtr b_geq b_quo b_rem b_shl8 b_or8 b_shr u_not p_pick m_max m_min x_tuple mVO_some lget_zero lget_succ ltake_zero ltake_cons ldrop_zero ldrop_cons overAt_zero overAt_cons over_nil over_cons Hp.set_set fill_nil fill_cons c_int1 c_bool1 c_str1 c_ptr1 c_sli1 c_map1 c_agg c_agg' cok_int cok_bool cok_str cok_ptr cok_sli cok_map List.length_cons List.length_nil List.all_cons List.all_nil Bool.and_true Bool.true_and Bool.and_self beq_self_eq_true wrap_i64 wrap_u64 wrap_u8 tdiv_pos tmod_pos Nat.zero_add Nat.add_zero Nat.mul_one Nat.zero_mul List.take_zero List.take_nil Option.bind_some Option.map_some Option.map_none cond_true cond_false List.map_cons List.map_nil List.cons_append List.nil_append Int.toNat_natCast Int.zero_add Int.add_zero Int.mul_zero Int.mul_one Bool.not_true Bool.not_false r_tmp r_cell
set_option maxRecDepth 100000
set_option maxHeartbeats 4000000

variable (k d cl : Nat) (h : Hp) (n : Nat)
theorem plist_nil (hk : 30000 ≤ k) (A : Option Addr) (xs : List UInt8) (c : Nat) (hr : RdH h n A (bv xs)) (hb8 : chkB 65536 xs.length 0 = 0) :
    Sp Try.prog (acall Try.prog WW k (d + 6)) cl 16 [.agg ⟨[.int .u64 65536, .slice A xs.length c]⟩, .int .u64 0] h n fun v h' n' => v = .tuple ⟨[.slice none 0 0, .int .i64 0]⟩ ∧ h' = h ∧ n' = n :=
  (plist_ev k d cl h n hk A xs c 0 [] hr .nil hb8).mono fun v h' n' hh => by
    rcases hh with ⟨_, e⟩ | ⟨e, _⟩
    · exact e
    · exact absurd rfl e
theorem plist_cons (hk : 30000 ≤ k) (A : Option Addr) (xs : List UInt8) (c : Nat) (a : Int) (t : List Int) (hr : RdH h n A (bv xs)) (hc : Chn xs a (a :: t)) (hb8 : chkB 65536 xs.length 0 = 0) :
    Sp Try.prog (acall Try.prog WW k (d + 6)) cl 16 [.agg ⟨[.int .u64 65536, .slice A xs.length c]⟩, .int .u64 a] h n fun v h' n' => v = .tuple ⟨[.slice (some ⟨n, 0, none⟩) (t.length + 1) (t.length + 1), .int .i64 0]⟩ ∧ h' = h.set n (.row 27 false (nv xs (a :: t))) ∧ n' = n + 1 :=
  (plist_ev k d cl h n hk A xs c a (a :: t) hr hc hb8).mono fun v h' n' hh => by
    rcases hh with ⟨e, _⟩ | ⟨_, e⟩
    · cases e
    · exact e
end Go.Proofs.Ytlaagojidcbpeaa.Ce
