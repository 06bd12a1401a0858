/- The law PanicsGone holds for every input: it returns true, and its arguments read as before. No condition. -/
import Derived.Test.YtlaagojidcbpeaaRows
import Derived.Test.YtlaagojidcbpeaaVl
import Derived.Test.YtlaagojidcbpeaaOp
namespace Go.Proofs.Ytlaagojidcbpeaa.panicsGoneDone
open Go.Proofs.Ytlaagojidcbpeaa Go.Proofs.Ytlaagojidcbpeaa.Ce
open Go.ChangeShapes Go.WideShapes Go.ChangeAt Go.RowKit
set_option linter.unusedVariables false
set_option linter.unusedSimpArgs false

theorem own : ownKnob Try.prog.godebug = none := by kernel_rfl
theorem laidOut : laidOutB Try.prog = true := by kernel_rfl

set_option maxRecDepth 100000 in
theorem lifted (os : Os) (started : os.Started) (H : Type) (enc : TypeId × Value → H) :
    ReturnsInHanded {} Try.checked os 4 .any (Rows.panicsGoneSpec.pre6 enc Try.prog Try.f4 Rows.panicsGoneRow.domain false) (Rows.panicsGoneSpec.post enc Try.prog Try.f4 false true false false) := by
  refine returnsInHanded_of_change (C := Try.checked) own started (by kernel_rfl) Try.func4
    (ChangeSpec.witness6 (enc := enc) (C := Try.checked) false ⟨#[], #[.agg #[.int .u64 0, .slice none 0 0], .int .u64 0], []⟩ 8 (by kernel_rfl) (by kernel_rfl) (by kernel_rfl) (by kernel_rfl)) ?_
  intro W base args ds gs before hval0 hW hcnd _
  have hval : ∀ (j : Nat) t v, Try.f4.params[j]? = some t → args[j]? = some v → Value.okWide Try.prog W .any base t v := hval0
  have hW' := hW
  obtain ⟨p, q, hA0, hV, rfl, hfz, hnd⟩ := hW
  have hA : DataW.TrodAll enc Try.prog W 0 (fun _ => true) true Try.f4.params.toList args.toList ds p := hA0
  rw [Try.params4] at hA hval
  obtain ⟨v0, vs0, d0, ds0, p0, q0, hargs, rfl, rfl, h0, r0⟩ := trodAll_cons hA
  obtain ⟨v1, vs1, d1, ds1, p1, q1, rfl, rfl, rfl, h1, r1⟩ := trodAll_cons r0
  obtain ⟨rfl, rfl, rfl⟩ := trodAll_nil r1
  obtain rfl : args = #[v0, v1] := by cases args; simp_all
  obtain ⟨rfl, rfl⟩ := trodVars_none hV
  have k0 := h0
  have lt0 : ∀ x ∈ p0, x.block < W.heap.size := by obtain ⟨m, hm⟩ := k0; exact DataW.trod_lt m _ _ _ hm
  have k1 := h1
  have lt1 : ∀ x ∈ p1, x.block < W.heap.size := by obtain ⟨m, hm⟩ := k1; exact DataW.trod_lt m _ _ _ hm
  obtain ⟨b0, A0, xs0, c0, rfl, hr0, hb0, hB0, hl0, hc0, hn0⟩ := open_region Try.underlying25 (by kernel_rfl) (by kernel_rfl) rfl rfl Try.underlying22 Try.underlying23 Try.underlying5 (by kernel_rfl) (hval 0 25 v0 rfl rfl) h0
  obtain ⟨A'0, c'0, e0, g0, n0⟩ := bytes_here hr0 hl0 hc0 hn0
  obtain ⟨a1, rfl, _, _, wf1⟩ := open_int Try.underlying22 (hval 1 22 v1 rfl rfl) h1
  have w1 := bounds_u64 wf1
  clear hA0 hval0
  refine (calls_tabA (l := tb18) (hl := tb18_ok) (P := Try.prog) (W := WW) (k := 30000) (d := 7) (by kernel_rfl) (vs := [.agg ⟨[.int .u64 b0, .slice A'0 xs0.length c'0]⟩, .int .u64 a1]) (by rw [← e0]; rfl) (panicsGone_ev _ _ _ _ _ (by omega) _ _ _ _ _ g0 (by omega) (by omega))).mono fun e W' ⟨he, bel⟩ => ?_
  subst he
  exact ⟨_, rfl, _, _, _, [], _, [], hW', trodAll_mk1 (shut_bool Try.underlying4 _), (trodAll_cons_mk (Below.trod laidOut (by kernel_rfl) (of_decide_eq_true (by kernel_rfl)) k0 bel lt0) (trodAll_cons_mk (Below.trod laidOut (by kernel_rfl) (of_decide_eq_true (by kernel_rfl)) k1 bel lt1) trodAll_mk0)), rfl, bel.frame _, fun h => by cases h⟩

theorem and2 {a b : Bool} (h : a = true) (k : b = true) : (a && b) = true := by rw [h, k]; rfl

set_option maxHeartbeats 2000000 in
theorem facts : joinedFacts Try.prog 4 Try.f4 Rows.panicsGoneSpec Rows.panicsGoneRow = true := by
  unfold joinedFacts
  refine and2 (and2 (and2 (and2 (and2 (and2 (and2 (and2 (and2 (and2 (and2 (and2 (and2 (and2 (and2 (and2 (and2 (and2 (and2 (and2 (and2 (and2 (and2 (and2 (and2 (and2 (and2 (and2 (and2 (and2 (and2 ?_ ?_) ?_) ?_) ?_) ?_) ?_) ?_) ?_) ?_) ?_) ?_) ?_) ?_) ?_) ?_) ?_) ?_) ?_) ?_) ?_) ?_) ?_) ?_) ?_) ?_) ?_) ?_) ?_) ?_) ?_) ?_
  all_goals (as_aux_lemma => kernel_rfl)

theorem over : Rows.panicsGoneRow.holds Try.pinned (OpenSpec.ofChange Rows.panicsGoneSpec) :=
  OpenClaim.holds_of_wide 4 Try.f4 rfl rfl rfl rfl rfl rfl rfl ⟨rfl, rfl, rfl, rfl, rfl⟩ rfl rfl rfl rfl rfl (by as_aux_lemma => kernel_rfl) Try.func4 facts
    (by as_aux_lemma => exact of_decide_eq_true (by kernel_rfl)) (by as_aux_lemma => (unfold Func.isWrapper; first | (rw [if_pos (by decide +kernel)]; kernel_rfl) | (rw [if_neg (by decide +kernel)]; exact ⟨rfl, rfl⟩)))
    (fun os started H enc _ => lifted os started H enc)

/-- THE STATEMENT -/
theorem proved : Rows.PanicsGoneSaid := over
#print axioms proved
end Go.Proofs.Ytlaagojidcbpeaa.panicsGoneDone
