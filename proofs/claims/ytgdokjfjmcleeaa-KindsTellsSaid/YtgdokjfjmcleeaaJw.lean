/- Alike types: an equivalence; the same depth, the same width; in plain Lean. -/
import Derived.Test.YtgdokjfjmcleeaaJwa
import Derived.Test.YtgdokjfjmcleeaaJv
import Derived.Test.YtgdokjfjmcleeaaJf
import Derived.Test.YtgdokjfjmcleeaaKw
namespace Go.Proofs.Ytgdokjfjmcleeaa.Ce
open Go.RowKit
set_option linter.unusedVariables false
set_option linter.unusedSimpArgs false
set_option maxHeartbeats 1000000

theorem max_ext {f : Int → Int} : ∀ (l l' : List Int) (m : Int), l.length = l'.length → (∀ q (h1 : q < l.length) (h2 : q < l'.length), f l[q] = f l'[q]) → l.foldl (fun m x => max m (f x)) m = l'.foldl (fun m x => max m (f x)) m
  | [], [], m, _, _ => rfl
  | [], _ :: _, _, h, _ => by cases h
  | _ :: _, [], _, h, _ => by cases h
  | x :: l, y :: l', m, h, hq => by
    have h0 : f x = f y := hq 0 (Nat.zero_lt_succ _) (Nat.zero_lt_succ _)
    rw [List.foldl_cons, List.foldl_cons, h0]
    exact max_ext l l' _ (by simpa using h) fun q h1 h2 => hq (q + 1) (by simpa using h1) (by simpa using h2)
theorem alike_dep {T : List Tp} (hF : Fine T) : ∀ m a b : Nat, a < m → a < T.length → b < T.length → Alike T a b → depT T a = depT T b
  | 0, _, _, h, _, _, _ => absurd h (by omega)
  | m + 1, a, b, hm, ha, hb, h => by
    obtain ⟨hl, hq⟩ := alike_near hF ha hb h
    rw [depT_eq hF ha, depT_eq hF hb]
    congr 1
    refine max_ext (f := fun x => depT T x.toNat) _ _ 0 hl fun q h1 h2 => ?_
    have n1 := leadsT_near (hF a ha) _ (List.getElem_mem h1)
    have n2 := leadsT_near (hF b hb) _ (List.getElem_mem h2)
    exact alike_dep hF m _ _ (by omega) (by omega) (by omega) (hq q h1 h2)
theorem sum_ext {f : Int → Int} : ∀ (l l' : List Int) (m : Int), l.length = l'.length → (∀ q (h1 : q < l.length) (h2 : q < l'.length), f l[q] = f l'[q]) → l.foldl (fun m x => m + f x) m = l'.foldl (fun m x => m + f x) m
  | [], [], m, _, _ => rfl
  | [], _ :: _, _, h, _ => by cases h
  | _ :: _, [], _, h, _ => by cases h
  | x :: l, y :: l', m, h, hq => by
    have h0 : f x = f y := hq 0 (Nat.zero_lt_succ _) (Nat.zero_lt_succ _)
    rw [List.foldl_cons, List.foldl_cons, h0]
    exact sum_ext l l' _ (by simpa using h) fun q h1 h2 => hq (q + 1) (by simpa using h1) (by simpa using h2)
theorem sum_same {f f' : Int → Int} : ∀ (l : List Int) (m : Int), (∀ x ∈ l, f x = f' x) → l.foldl (fun m x => m + f x) m = l.foldl (fun m x => m + f' x) m
  | [], _, _ => rfl
  | x :: l, m, h => by
    rw [List.foldl_cons, List.foldl_cons, h x (List.mem_cons_self ..)]
    exact sum_same l _ fun y hy => h y (List.mem_cons_of_mem _ hy)
theorem max_sum {f g : Int → Int} : ∀ (l : List Int) (m s : Int), (∀ x ∈ l, 0 ≤ g x ∧ f x ≤ g x) → m ≤ s → 0 ≤ s → l.foldl (fun m x => max m (f x)) m ≤ l.foldl (fun m x => m + g x) s ∧ 0 ≤ l.foldl (fun m x => m + g x) s
  | [], m, s, _, h, h0 => ⟨h, h0⟩
  | x :: l, m, s, hx, h, h0 => by
    have h1 := hx x (List.mem_cons_self ..)
    rw [List.foldl_cons, List.foldl_cons]
    exact max_sum l _ _ (fun y hy => hx y (List.mem_cons_of_mem _ hy)) (by omega) (by omega)
theorem sumF_sec (now : List Int) (fs : List (List UInt8 × Int)) : sumF now fs = (fs.map (·.2)).foldl (fun a x => a + now.getD x.toNat 0) 0 := by unfold sumF; rw [List.foldl_map]
theorem wRow_pre {b : List Int} {T : List Tp} {i j : Nat} (hj : j < i) : ∀ m, i + m ≤ T.length → (wRow b (T.take (i + m))).getD j 0 = (wRow b (T.take i)).getD j 0
  | 0, _ => rfl
  | m + 1, h => by
    rw [← Nat.add_assoc, wRow_take b (by omega), List.getD_eq_getElem?_getD, List.getElem?_append_left (by rw [wRow_tlen b (by omega)]; omega), ← List.getD_eq_getElem?_getD]
    exact wRow_pre hj m (by omega)
theorem wRow_all {b : List Int} {T : List Tp} {i j : Nat} (hj : j < i) (hi : i ≤ T.length) : (wRow b (T.take i)).getD j 0 = (wRow b T).getD j 0 := by
  have := wRow_pre (b := b) (T := T) hj (T.length - i) (by omega)
  rw [show i + (T.length - i) = T.length from by omega, List.take_length] at this
  exact this.symm
theorem wRow_at {b : List Int} {T : List Tp} (hF : Fine T) {i : Nat} (hi : i < T.length) : (wRow b T).getD i 0 = wOne b (wRow b T) T[i] := by
  have hfi := hF i hi
  rw [← wRow_all (show i < i + 1 by omega) (by omega), wRow_take b hi, List.getD_eq_getElem?_getD, List.getElem?_append_right (by rw [wRow_tlen b (by omega)]; omega), wRow_tlen b (by omega), Nat.sub_self]
  show wOne b (wRow b (T.take i)) T[i] = _
  unfold wOne
  have e1 : wHead b (wRow b (T.take i)) T[i] = wHead b (wRow b T) T[i] := by
    unfold wHead
    by_cases h6 : (T[i]).kd = 6
    · have ha := fine_arr hfi h6
      rw [if_neg (by omega), if_neg (by omega), if_pos h6, if_neg (by omega), if_neg (by omega), if_pos h6, wRow_all (show (T[i]).el.toNat < i by omega) (by omega)]
    · by_cases h4 : (T[i]).kd = 4
      · rw [if_pos h4, if_pos h4]
      · rw [if_neg h4, if_neg h4, if_neg h6, if_neg h6]
  have e2 : sumF (wRow b (T.take i)) (T[i]).fs = sumF (wRow b T) (T[i]).fs := by
    rw [sumF_sec, sumF_sec]
    refine sum_same _ 0 fun x hx => ?_
    obtain ⟨f, hf, rfl⟩ := List.mem_map.1 hx
    obtain ⟨q, hq, rfl⟩ := List.getElem_of_mem hf
    have := fine_fld hfi hq
    exact wRow_all (by omega) (by omega)
  rw [e1, e2]
theorem alike_row {T : List Tp} (hF : Fine T) {bl : List Int} (hbl : ∀ a b, a < T.length → b < T.length → Alike T a b → bl.getD a 0 = bl.getD b 0) : ∀ m a b : Nat, a < m → a < T.length → b < T.length → Alike T a b → (wRow bl T).getD a 0 = (wRow bl T).getD b 0
  | 0, _, _, h, _, _, _ => absurd h (by omega)
  | m + 1, a, b, hm, ha, hb, h => by
    have hs := h.shp ha hb
    rw [wRow_at hF ha, wRow_at hF hb]
    unfold wOne
    have e1 : wHead bl (wRow bl T) T[a] = wHead bl (wRow bl T) T[b] := by
      unfold wHead
      rw [← hs.1, ← hs.2.1]
      by_cases h4 : (T[a]).kd = 4
      · obtain ⟨h1, h2, h3, h5, h6⟩ := alike_el hF ha hb h (by omega)
        rw [if_pos h4, if_pos h4, hbl _ _ (by omega) (by omega) h1]
      · rw [if_neg h4, if_neg h4]
        by_cases h7 : (T[a]).kd = 7
        · obtain ⟨h1, h2, h3, h5, h6⟩ := alike_el hF ha hb h (by omega)
          rw [if_pos h7, if_pos h7, hbl _ _ (by omega) (by omega) h1]
        · rw [if_neg h7, if_neg h7]
          by_cases h6 : (T[a]).kd = 6
          · obtain ⟨h1, h2, h3, h5, h8⟩ := alike_el hF ha hb h (by omega)
            have hra := fine_arr (hF a ha) h6
            rw [if_pos h6, if_pos h6, alike_row hF hbl m _ _ (by omega) (by omega) (by omega) h1]
          · rw [if_neg h6, if_neg h6]
    have e2 : sumF (wRow bl T) (T[a]).fs = sumF (wRow bl T) (T[b]).fs := by
      by_cases h5 : (T[a]).kd = 5
      · have l1 : leadsT false T[a] = (T[a]).fs.map (·.2) := by unfold leadsT; rw [if_neg (by simp; omega)]
        have l2 : leadsT false T[b] = (T[b]).fs.map (·.2) := by unfold leadsT; rw [if_neg (by rw [← hs.1]; simp; omega)]
        obtain ⟨hl, hq⟩ := alike_near hF ha hb h
        rw [sumF_sec, sumF_sec, ← l1, ← l2]
        refine sum_ext (f := fun x => (wRow bl T).getD x.toNat 0) _ _ 0 hl fun q h1 h2 => ?_
        have n1 := leadsT_near (hF a ha) _ (List.getElem_mem h1)
        have n2 := leadsT_near (hF b hb) _ (List.getElem_mem h2)
        exact alike_row hF hbl m _ _ (by omega) (by omega) (by omega) (hq q h1 h2)
      · rw [fine_nofs (hF a ha) h5, fine_nofs (hF b hb) (by rw [← hs.1]; exact h5)]
    rw [e1, e2]
theorem alike_wid {T : List Tp} (hF : Fine T) : ∀ r a b : Nat, a < T.length → b < T.length → Alike T a b → (wD T r).getD a 0 = (wD T r).getD b 0
  | 0, a, b, ha, hb, h => alike_row hF (fun a b ha hb _ => by
      unfold zeros
      rw [List.getD_eq_getElem?_getD, List.getD_eq_getElem?_getD, List.getElem?_replicate, List.getElem?_replicate, if_pos ha, if_pos hb]) (a + 1) a b (by omega) ha hb h
  | r + 1, a, b, ha, hb, h => alike_row hF (alike_wid hF r) (a + 1) a b (by omega) ha hb h
theorem wid_dep {T : List Tp} (hF : Fine T) (hl : T.length ≤ 32) {bl : List Int} (hbl : Bnd bl) : ∀ m a : Nat, a < m → a < T.length → depT T a ≤ (wRow bl T).getD a 0
  | 0, _, h, _ => absurd h (by omega)
  | m + 1, a, hm, ha => by
    have hfa := hF a ha
    have hd := depT_bnd hF ha
    have hb2 := wRow_bnd' hbl hF
    have ih := fun (x : Int) (hx : x ∈ leadsT false T[a]) => by
      have n1 := leadsT_near hfa x hx
      exact wid_dep hF hl hbl m x.toNat (by omega) (by omega)
    rw [wRow_at hF ha]
    unfold wOne
    have hde := depT_eq hF ha
    by_cases h6 : (T[a]).kd = 6
    · have hra := fine_arr hfa h6
      have l1 : leadsT false T[a] = [(T[a]).el] := by unfold leadsT; rw [if_pos (.inl h6)]
      rw [l1] at hde ih
      have h1 := ih (T[a]).el (List.mem_singleton.2 rfl)
      have h3 := depT_bnd hF (i := (T[a]).el.toNat) (by omega)
      have h4 : (wRow bl T).getD (T[a]).el.toNat 0 ≤ (T[a]).ln * (wRow bl T).getD (T[a]).el.toNat 0 := by
        have := Int.mul_le_mul_of_nonneg_right (show 1 ≤ (T[a]).ln by omega) (show 0 ≤ (wRow bl T).getD (T[a]).el.toNat 0 by omega)
        rwa [Int.one_mul] at this
      have hwh : wHead bl (wRow bl T) T[a] = 1 + (T[a]).ln * (wRow bl T).getD (T[a]).el.toNat 0 := by unfold wHead; rw [if_neg (by omega), if_neg (by omega), if_pos h6]
      have hsm : sumF (wRow bl T) (T[a]).fs = 0 := by rw [fine_nofs hfa (by omega)]; rfl
      rw [hwh, hsm]
      simp only [List.foldl_cons, List.foldl_nil] at hde
      omega
    · have l1 : leadsT false T[a] = (T[a]).fs.map (·.2) := by unfold leadsT; rw [if_neg (by simp; exact h6)]
      rw [l1] at hde ih
      have hsum := max_sum (f := fun x => depT T x.toNat) (g := fun x => (wRow bl T).getD x.toNat 0) ((T[a]).fs.map (·.2)) 0 0 (fun x hx => ⟨(hb2.getD x.toNat).1, ih x hx⟩) (Int.le_refl _) (Int.le_refl _)
      rw [← sumF_sec] at hsum
      have hwh : 1 ≤ wHead bl (wRow bl T) T[a] := by
        unfold wHead
        have g1 := (hbl.getD (T[a]).el.toNat).1
        split
        · omega
        · split
          · omega
          · first | omega | (rw [if_neg h6]; omega)
      omega
end Go.Proofs.Ytgdokjfjmcleeaa.Ce
