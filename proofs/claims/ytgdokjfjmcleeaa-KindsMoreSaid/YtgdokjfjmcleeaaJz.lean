/- One more type at the end of a table, in plain Lean. -/
import Derived.Test.YtgdokjfjmcleeaaJx
namespace Go.Proofs.Ytgdokjfjmcleeaa.Ce
open Go.RowKit
set_option linter.unusedVariables false
set_option linter.unusedSimpArgs false
set_option maxHeartbeats 1000000

/-- types that say the same -/
structure Dat (t u : Tp) : Prop where
  kd : t.kd = u.kd
  el : t.el = u.el
  ln : t.ln = u.ln
  fs : t.fs = u.fs
theorem Dat.leads {far : Bool} {t u : Tp} (h : Dat t u) : leadsT far t = leadsT far u := by unfold leadsT; rw [h.kd, h.el, h.fs]
theorem Dat.shp {t u t' u' : Tp} (h : Dat t u) (h' : Dat t' u') (hs : Shp u u') : Shp t t' := ⟨by rw [h.kd, h'.kd]; exact hs.1, by rw [h.ln, h'.ln]; exact hs.2.1, by rw [h.fs, h'.fs]; exact hs.2.2⟩
theorem Dat.symm {t u : Tp} (h : Dat t u) : Dat u t := ⟨h.kd.symm, h.el.symm, h.ln.symm, h.fs.symm⟩
theorem Dat.pairs {t u t' u' : Tp} (h : Dat t u) (h' : Dat t' u') : pairsT t t' = pairsT u u' := by unfold pairsT; rw [h.leads, h'.leads]
/-- a table and one with one more type at its end, the one with an index -/
structure More (T V : List Tp) (i : Nat) : Prop where
  len : V.length = T.length + 1
  hi : i < T.length
  pre : ∀ x (hx : x < T.length) (hv : x < V.length), Dat V[x] T[x]
  last : ∀ (hx : i < T.length) (hv : T.length < V.length), Dat V[T.length] T[i]
variable {T V : List Tp} {i : Nat}
theorem fine_mono {m i m' i' : Nat} {t u : Tp} (h : fineB m i t = true) (hd : Dat u t) (hm : m ≤ m') (hi : i ≤ i') : fineB m' i' u = true := by
  have hk : 1 ≤ t.kd ∧ t.kd ≤ 7 := by
    rcases Classical.em (1 ≤ t.kd ∧ t.kd ≤ 7) with h1 | h1
    · exact h1
    · rw [fineB_no h1] at h; cases h
  have d1 := hd.kd
  by_cases h1 : t.kd = 1 ∨ t.kd = 2 ∨ t.kd = 3
  · rw [fineB_123 h1] at h
    rw [fineB_123 (by rw [d1]; exact h1), hd.el, hd.ln, hd.fs]
    exact h
  · by_cases h4 : t.kd = 4 ∨ t.kd = 7
    · rw [fineB_47 h4] at h
      rw [fineB_47 (by rw [d1]; exact h4), hd.el, hd.ln, hd.fs]
      rw [decide_eq_true_eq] at h ⊢
      omega
    · by_cases h6 : t.kd = 6
      · rw [fineB_6 h6] at h
        rw [fineB_6 (by rw [d1]; exact h6), hd.el, hd.ln, hd.fs]
        rw [decide_eq_true_eq] at h ⊢
        omega
      · have h5 : t.kd = 5 := by omega
        rw [fineB_5 h5] at h
        rw [fineB_5 (by rw [d1]; exact h5), hd.el, hd.ln, hd.fs]
        rw [Bool.and_eq_true] at h ⊢
        refine ⟨?_, h.2⟩
        have hf := h.1
        unfold fldsB at hf ⊢
        rw [Bool.and_eq_true, List.all_eq_true] at hf ⊢
        refine ⟨fun x hx => ?_, hf.2⟩
        have := hf.1 x hx
        unfold fldB at this ⊢
        rw [Bool.and_eq_true, decide_eq_true_eq] at this ⊢
        exact ⟨this.1, this.2.1, by omega⟩
theorem More.fine (h : More T V i) (hF : Fine T) : Fine V := fun x hx => by
  have hl := h.len
  by_cases hxT : x < T.length
  · exact fine_mono (hF x hxT) (h.pre x hxT hx) (by omega) (Nat.le_refl _)
  · obtain rfl : x = T.length := by omega
    exact fine_mono (hF i h.hi) (h.last h.hi hx) (by omega) (Nat.le_of_lt h.hi)
theorem More.rch (h : More T V i) (hF : Fine T) {far : Bool} {a x : Nat} (ha : a < T.length) : Rch V far a x ↔ Rch T far a x := by
  have hl := h.len
  constructor
  · intro hr
    induction hr with
    | refl => exact .refl
    | @step x y hr hx hy ih =>
      have hxT := ih.lt hF ha
      exact .step ih hxT (by rw [← (h.pre x hxT hx).leads]; exact hy)
  · intro hr
    induction hr with
    | refl => exact .refl
    | @step x y hr hx hy ih => exact .step ih (by omega) (by rw [(h.pre x hx (by omega)).leads]; exact hy)
theorem More.holds (h : More T V i) (hF : Fine T) {a b : Nat} (ha : a < T.length) (hb : b < T.length) : holdsB V a b = holdsB T a b := by
  have hl := h.len
  rw [Bool.eq_iff_iff, holdsB_iff (by omega), holdsB_iff hb, h.rch hF ha]
theorem More.reach (h : More T V i) (hF : Fine T) {a : Nat} (ha : a < T.length) : reachL V a = reachL T a := by
  have hl := h.len
  have key : ∀ (U : List Tp) (x : Nat) (hx : x < U.length), (rchF U true a).getD x false = true ↔ Rch U true a x := fun U x hx => by
    rw [← rchF_get hx, List.getD_eq_getElem?_getD, List.getElem?_eq_getElem (by rw [rchF_length]; exact hx)]
    simp
  unfold reachL
  rw [hl, List.range_succ, List.filter_append]
  have e1 : [T.length].filter (fun x => (rchF V true a).getD x false) = [] := by
    rw [List.filter_cons_of_neg (p := fun x => (rchF V true a).getD x false) (by
      rw [key V T.length (by omega), h.rch hF ha]
      exact fun hr => absurd (hr.lt hF ha) (by omega))]
    rfl
  rw [e1, List.append_nil]
  congr 1
  refine List.filter_congr fun x hx => ?_
  have hx := List.mem_range.1 hx
  rw [Bool.eq_iff_iff, key V x (by omega), key T x hx, h.rch hF ha]
theorem More.alike (h : More T V i) (hF : Fine T) {a b : Nat} (ha : a < T.length) (hb : b < T.length) : Alike V a b ↔ Alike T a b := by
  have hl := h.len
  constructor
  · intro hal
    refine alike_of (R := fun a b => Alike V a b) (fun x y hx hy hR => ?_) hal
    have d1 := h.pre x hx (by omega)
    have d2 := h.pre y hy (by omega)
    exact ⟨d1.symm.shp d2.symm (hR.shp (by omega) (by omega)), fun u v hp => hR.sub (by omega) (by omega) (by rw [d1.pairs d2]; exact hp)⟩
  · intro hal
    refine alike_of (R := fun a b => a < T.length ∧ b < T.length ∧ Alike T a b) (fun x y hx hy hR => ?_) ⟨ha, hb, hal⟩
    obtain ⟨h1, h2, hR⟩ := hR
    have d1 := h.pre x h1 hx
    have d2 := h.pre y h2 hy
    refine ⟨d1.shp d2 (hR.shp h1 h2), fun u v hp => ?_⟩
    rw [d1.pairs d2] at hp
    obtain ⟨u', v', e, h3, h4⟩ := pairsT_in hF h1 h2 hp
    obtain ⟨rfl, rfl⟩ := pr_inj e
    exact ⟨h3, h4, hR.sub h1 h2 hp⟩
theorem pairs_self {t : Tp} {x y : Nat} (hp : pr x y ∈ pairsT t t) : x = y := by
  unfold pairsT at hp
  obtain ⟨q, hq, e⟩ := List.getElem_of_mem hp
  rw [List.getElem_zip] at e
  unfold pr at e
  injection e with e1 e2
  rw [e1] at e2
  omega
theorem More.twin (h : More T V i) : Alike V T.length i := by
  have hl := h.len
  refine alike_of (R := fun a b => a = b ∨ (a = T.length ∧ b = i)) (fun x y hx hy hR => ?_) (.inr ⟨rfl, rfl⟩)
  rcases hR with rfl | ⟨rfl, rfl⟩
  · exact ⟨Shp.refl _, fun u v hp => .inl (pairs_self hp)⟩
  · have d1 := h.last h.hi hx
    have d2 := h.pre y h.hi hy
    refine ⟨d1.shp d2 (Shp.refl _), fun u v hp => .inl ?_⟩
    rw [d1.pairs d2] at hp
    exact pairs_self hp
theorem More.alikeB (h : More T V i) (hF : Fine T) {a b : Nat} (ha : a < T.length) (hb : b < T.length) : Ce.alikeB V a b = Ce.alikeB T a b := by
  rw [Bool.eq_iff_iff, alikeB_iff, alikeB_iff, h.alike hF ha hb]
theorem More.alikeL (h : More T V i) (hF : Fine T) {b : Nat} (hb : b < T.length) : Ce.alikeB V b T.length = Ce.alikeB T i b := by
  have hl := h.len
  have hFV := h.fine hF
  have hi := h.hi
  rw [Bool.eq_iff_iff, alikeB_iff, alikeB_iff, ← h.alike hF h.hi hb]
  exact ⟨fun hh => (hh.trans hFV (by omega) h.twin).symm, fun hh => hh.symm.trans hFV (by omega) h.twin.symm⟩
theorem wOne_ext {bl bl' now now' : List Int} {t u : Tp} {m i : Nat} (hf : fineB m i t = true) (hd : Dat u t) (h1 : ∀ x, x < m → bl'.getD x 0 = bl.getD x 0) (h2 : ∀ x, x < i → now'.getD x 0 = now.getD x 0) : wOne bl' now' u = wOne bl now t := by
  unfold wOne
  have e1 : wHead bl' now' u = wHead bl now t := by
    unfold wHead
    rw [hd.kd, hd.el, hd.ln]
    by_cases h4 : t.kd = 4
    · have := fine_el hf (.inl h4)
      rw [if_pos h4, if_pos h4, h1 _ (by omega)]
    · rw [if_neg h4, if_neg h4]
      by_cases h7 : t.kd = 7
      · have := fine_el hf (.inr h7)
        rw [if_pos h7, if_pos h7, h1 _ (by omega)]
      · rw [if_neg h7, if_neg h7]
        by_cases h6 : t.kd = 6
        · have := fine_arr hf h6
          rw [if_pos h6, if_pos h6, h2 _ (by omega)]
        · rw [if_neg h6, if_neg h6]
  have e2 : sumF now' u.fs = sumF now t.fs := by
    rw [hd.fs, sumF_sec, sumF_sec]
    refine sum_same _ 0 fun x hx => ?_
    obtain ⟨f, hff, rfl⟩ := List.mem_map.1 hx
    obtain ⟨q, hq, rfl⟩ := List.getElem_of_mem hff
    have := fine_fld hf hq
    exact h2 _ (by omega)
  rw [e1, e2]
theorem More.row (h : More T V i) (hF : Fine T) {bl bl' : List Int} (hbl : ∀ x, x < T.length → bl'.getD x 0 = bl.getD x 0) : ∀ m x : Nat, x < m → x < T.length → (wRow bl' V).getD x 0 = (wRow bl T).getD x 0
  | 0, _, h, _ => absurd h (by omega)
  | m + 1, x, hm, hx => by
    have hl := h.len
    rw [wRow_at (h.fine hF) (show x < V.length by omega), wRow_at hF hx]
    exact wOne_ext (hF x hx) (h.pre x hx (by omega)) hbl fun y hy => More.row h hF hbl m y (by omega) (by omega)
theorem More.wid (h : More T V i) (hF : Fine T) : ∀ r x : Nat, x < T.length → (wD V r).getD x 0 = (wD T r).getD x 0
  | 0, x, hx => h.row hF (fun x hx => by
      have hl := h.len
      unfold zeros
      rw [List.getD_eq_getElem?_getD, List.getD_eq_getElem?_getD, List.getElem?_replicate, List.getElem?_replicate, if_pos hx, if_pos (by omega)]) (x + 1) x (by omega) hx
  | r + 1, x, hx => h.row hF (fun y hy => More.wid h hF r y hy) (x + 1) x (by omega) hx
theorem More.widL (h : More T V i) (hF : Fine T) (bl : List Int) : (wRow bl V).getD T.length 0 = (wRow bl V).getD i 0 := by
  have hl := h.len
  have hi := h.hi
  rw [wRow_at (h.fine hF) (show T.length < V.length by omega), wRow_at (h.fine hF) (show i < V.length by omega)]
  have d1 := h.last h.hi (by omega)
  have d2 := h.pre i h.hi (by omega)
  rw [wOne_ext (bl' := bl) (bl := bl) (now' := wRow bl V) (now := wRow bl V) (hF i h.hi) d1 (fun _ _ => rfl) (fun _ _ => rfl), wOne_ext (bl' := bl) (bl := bl) (now' := wRow bl V) (now := wRow bl V) (hF i h.hi) d2 (fun _ _ => rfl) (fun _ _ => rfl)]
theorem More.chk (h : More T V i) (hC : ChkT T) (hl : T.length < 32) : ChkT V := by
  have hF := hC.2.1
  have hl2 := h.len
  have hi := h.hi
  refine ⟨by omega, h.fine hF, fun w hw => ?_⟩
  have key : ∀ x, x < T.length → (wD V 3).getD x 0 ≤ 5000 := fun x hx => by
    rw [h.wid hF 3 x hx, List.getD_eq_getElem?_getD, List.getElem?_eq_getElem (by rw [wD_length]; exact hx)]
    exact hC.2.2 _ (List.getElem_mem _)
  obtain ⟨x, hx, rfl⟩ := List.getElem_of_mem hw
  have hx2 := hx
  rw [wD_length] at hx2
  have e : (wD V 3)[x] = (wD V 3).getD x 0 := by rw [List.getD_eq_getElem?_getD, List.getElem?_eq_getElem hx]; rfl
  rw [e]
  by_cases hxT : x < T.length
  · exact key x hxT
  · obtain rfl : x = T.length := by omega
    have := h.widL hF (wD V 2)
    rw [show wD V 3 = wRow (wD V 2) V from rfl, this]
    exact key i hi
end Go.Proofs.Ytgdokjfjmcleeaa.Ce
