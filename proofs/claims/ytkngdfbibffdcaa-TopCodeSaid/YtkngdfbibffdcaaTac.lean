/- Parts of the proof of TopCode: Cq. No condition of its own. -/
import Derived.Test.YtkngdfbibffdcaaTab
set_option linter.unusedVariables false
set_option linter.unusedSimpArgs false
set_option maxRecDepth 100000
set_option maxHeartbeats 4000000
namespace Go.Proofs.Ytkngdfbibffdcaa.Ce
open Go.RowKit
section
variable {P : Program} {φ : Mp} {h : Hp} {n : Nat} {w : World} {S : Nat} {e : Ef}
theorem made_flat {v : Value} {s : Nat} (hs : v.cells.size = s) (h0 : 0 < s) (len : Nat) : (madeCells v.cells (len * s)).toList = (List.replicate len v.cells.toList).flatten := by
  have hf : (List.replicate len v.cells.toList).flatten = (List.replicate len v).flatMap fun v => v.cells.toList := by
    rw [List.flatMap_def, List.map_replicate]
  rw [hf]
  apply List.ext_getElem?
  intro k
  rw [Go.Great.flat_get h0 (List.replicate len v) (fun x hx => by rw [List.eq_of_mem_replicate hx, hs]) k]
  by_cases hk : k < len * s
  · have h1 : k / s < len := Nat.div_lt_of_lt_mul (by rw [Nat.mul_comm]; exact hk)
    have h2 : k % s < v.cells.size := by rw [hs]; exact Nat.mod_lt _ h0
    simp [madeCells, hk, h1, hs]
    have h3 : k % s < v.cells.size := h2
    simp [h3, getElem!_pos]
  · have h1 : ¬ k / s < len := by
      intro hh
      exact hk (by have := Nat.lt_mul_of_div_lt hh h0; omega)
    simp [madeCells, hk, h1]
theorem mMakeSlice_ok {t : TypeId} {l l' c c' : Value} (hl : VC φ l l') (hc : VC φ c c') (he : mMakeSlice P t l c h n = some e) (hb : HB h n) (hφ : n < e.n → φ n = none) (hS : S ≤ w.heap.size) : Good P φ h n w S e ((Instr.makeSlice t l' c').run P w) := by
  unfold mMakeSlice at he
  cases hel : tyElem P t with
  | none => rw [hel] at he; cases he
  | some el =>
    rw [hel] at he
    simp only [Option.bind_some] at he
    split at he
    · rename_i kl k kc k2 i z hi hz
      obtain rfl := hl.int
      obtain rfl := hc.int
      simp only [cond_eq_ite, Bool.and_eq_true] at he
      split at he
      · rename_i hcond
        obtain ⟨⟨⟨⟨h1, h2⟩, h3⟩, h4⟩, h5⟩ := hcond
        rw [Nat.beq_eq] at h1 h4
        rw [Nat.ble_eq] at h2 h3
        rw [Nat.blt_eq] at h5
        subst h1
        injection he with he
        subst he
        replace hφ := hφ (Nat.lt_succ_self n)
        obtain ⟨i', v, hi', hiz, hvz, hf⟩ := zero_of hz
        obtain rfl : i' = i := by rw [hi] at hi'; injection hi' with hi'; exact hi'.symm
        have hu := elem_of hel
        have hvs : v.cells.size = i'.size := by rw [← h4, ← hvz]; simp
        have hbytes : (i'.bytes : Int) * ((k : Nat) : Int) ≤ 281474976710656 := by
          have : i'.bytes * k ≤ 100000 * 100000 := Nat.mul_le_mul h3 h2
          have h6 : ((i'.bytes * k : Nat) : Int) ≤ ((100000 * 100000 : Nat) : Int) := Int.ofNat_le.2 this
          rw [Int.natCast_mul] at h6
          omega
        have hrun := run_make (P := P) w t el i' v hu hi hiz kl kc (k : Int) (k : Int) (by omega) (Int.le_refl _) hbytes (by omega)
        simp only [Int.toNat_natCast] at hrun
        refine ⟨_, _, upd φ n (w.heap.size, k), hrun, ⟨w.heap.size, k, 0, k, upd_same _ _ _, rfl, Nat.le_refl _, by unfold maxLen; omega, .inl rfl, fun _ _ _ => ⟨rfl, rfl⟩, fun h0 h1 => absurd h1 (by omega)⟩,
          PO.fresh (by simp) hφ (fun k hk => Below.heap_alloc _ _ _ hk) (by simp) rfl rfl rfl hS ⟨_, (0, 0), heap_alloc_new _ _, ?_, fun _ => ⟨by unfold maxLen; omega, rfl, i'.size, by unfold tySize; rw [hi]; rfl, size_madeCells _ _⟩⟩, hb.new⟩
        have hm := made_flat hvs h5 k
        rw [hvz] at hm
        have hfl : ((List.replicate k z).flatten).all flat1 = true := by
          simp only [List.all_eq_true] at hf ⊢
          intro x hx
          obtain ⟨l, hl, hxl⟩ := List.mem_flatten.1 hx
          rw [List.eq_of_mem_replicate hl] at hxl
          exact hf x hxl
        rw [List.take_of_length_le (by rw [hm]; exact Nat.le_refl _), hm]
        exact VL.flat_refl hfl
      · cases he
    · cases he
theorem mBuildSlice_ok {t : TypeId} {len : Nat} {ps : List (Nat × Value)} {ps' : Array (Nat × Value)} (hp : PL φ ps ps'.toList) (he : mBuildSlice P t len ps h n = some e) (hb : HB h n) (hφ : n < e.n → φ n = none) (hS : S ≤ w.heap.size) :
    Good P φ h n w S e ((Instr.buildSlice t len ps').run P w) := by
  unfold mBuildSlice at he
  cases hel : tyElem P t with
  | none => rw [hel] at he; cases he
  | some el =>
    rw [hel] at he
    simp only [Option.bind_some] at he
    cases hs : tySize P el with
    | none => rw [hs] at he; cases he
    | some size =>
      cases hz : tyZero P el with
      | none => rw [hs, hz] at he; cases he
      | some z =>
        rw [hs, hz] at he
        simp only [cond_eq_ite, Bool.and_eq_true] at he
        split at he
        · rename_i hcond
          obtain ⟨⟨h1, h2⟩, h3⟩ := hcond
          rw [Nat.beq_eq] at h1
          rw [Nat.ble_eq] at h2
          rw [Nat.blt_eq] at h3
          obtain ⟨i, v, hi, hiz, hvz, hf⟩ := zero_of hz
          obtain ⟨i', hi', hsz⟩ := size_of hs
          obtain rfl : i' = i := by rw [hi] at hi'; injection hi' with hi'; exact hi'.symm
          have hu := elem_of hel
          have hvs : v.cells.size = size := by rw [← h1, ← hvz]; simp
          have hfl : ((List.replicate len z).flatten).all flat1 = true := by
            simp only [List.all_eq_true] at hf ⊢
            intro x hx
            obtain ⟨l, hl, hxl⟩ := List.mem_flatten.1 hx
            rw [List.eq_of_mem_replicate hl] at hxl
            exact hf x hxl
          have hm := made_flat hvs h3 len
          rw [hvz] at hm
          cases hfill : fillL (fun i => some (i * size, size)) (List.replicate len z).flatten ps with
          | none => rw [hfill] at he; cases he
          | some cells =>
            rw [hfill] at he
            simp only [Option.bind_some] at he
            split at he
            · rename_i hcok
              injection he with he
              subst he
              replace hφ := hφ (Nat.lt_succ_self n)
              obtain ⟨cells', h4, h5⟩ := fill_ok hp (cells := madeCells v.cells (len * size)) (by rw [hm]; exact VL.flat_refl hfl) hfill
              by_cases hl0 : len = 0
              · subst hl0
                have hps : ps' = #[] ∧ cells' = #[] := by
                  have hme : (madeCells v.cells (0 * size)) = #[] := by simp [madeCells]
                  rw [hme] at h4
                  cases hpl : ps'.toList with
                  | nil =>
                    rw [hpl] at h4
                    simp only [Instr.fill] at h4
                    injection h4 with h4
                    exact ⟨by simpa using hpl, h4.symm⟩
                  | cons a l =>
                    rw [hpl] at h4
                    simp only [Instr.fill] at h4
                    split at h4
                    · cases h4
                    · rename_i hne
                      simp only [Bool.or_eq_true, decide_eq_true_eq, bne_iff_ne, ne_eq, not_or, Decidable.not_not] at hne
                      exfalso
                      have h9 := hne.2
                      rw [show (#[] : Array Value).size = 0 from rfl] at h9
                      omega
                obtain ⟨rfl, rfl⟩ := hps
                have hrun : (Instr.buildSlice t 0 #[]).run P w = .ok (.slice (some ⟨w.heap.size, 0, none⟩) 0 0) (w.alloc (.cells #[] el)) := by
                  simp [Instr.buildSlice, run_underlying hu, sizeOf, typeInfo, hi, Instr.fill, newRow, Array.range_zero']
                refine ⟨_, _, upd φ n (w.heap.size, 0), hrun, ⟨w.heap.size, 0, 0, 0, upd_same _ _ _, rfl, Nat.le_refl _, by simp [maxLen], .inl rfl, fun _ _ _ => ⟨rfl, rfl⟩, fun _ h1 => absurd h1 (by omega)⟩,
                  PO.fresh (by simp) hφ (fun k hk => Below.heap_alloc _ _ _ hk) (by simp) rfl rfl rfl hS ⟨_, (0, 0), heap_alloc_new _ _, ?_, fun _ => ⟨by simp [maxLen], rfl, size, hs, by simp⟩⟩, hb.new⟩
                have hcl := h5.len
                rw [List.take_of_length_le (by omega)]
                exact h5.imp_ fun _ _ => VA.mono (upd_le _ hφ)
              · have hpos : ¬ len * i'.size = 0 := by
                  rw [hsz]
                  have := Nat.mul_pos (Nat.pos_of_ne_zero hl0) h3
                  omega
                have hfill' : Instr.fill (fun i => some (i * i'.size, i'.size)) ((Array.range (len * i'.size)).map (v.cells[· % v.cells.size]!)) ps'.toList = some cells' := by
                  rw [hsz]; exact h4
                have hrun := run_buildSlice (P := P) w t el len ps' cells' i' v hu hi hiz (by rw [hsz]; omega) hpos hfill'
                have hcl := h5.len
                have hcs : cells'.size = len * size := by
                  have h6 : cells.length = ((List.replicate len z).flatten).length := by
                    have hfl2 : ∀ {ps : List (Nat × Value)} {us us' : List Value}, fillL (fun i => some (i * size, size)) us ps = some us' → us'.length = us.length := by
                      intro ps
                      induction ps with
                      | nil => intro us us' hx; injection hx with hx; rw [hx]
                      | cons a ps ih =>
                        intro us us' hx
                        obtain ⟨i, u⟩ := a
                        simp only [fillL, cond_eq_ite, Bool.and_eq_true] at hx
                        split at hx
                        · cases hov : overAt (i * size) u.cells.toList us with
                          | none => rw [hov] at hx; cases hx
                          | some us1 =>
                            rw [hov] at hx
                            simp only [Option.bind_some] at hx
                            obtain ⟨h7, h8⟩ := overAt_some _ _ hov
                            rw [ih hx, h8]
                            simp
                            simp at h7
                            omega
                        · cases hx
                    exact hfl2 hfill
                  have h9 : ((List.replicate len z).flatten).length = len * size := by rw [← hm]; simp [size_madeCells]
                  have : cells'.toList.length = cells'.size := by simp
                  omega
                refine ⟨_, _, upd φ n (w.heap.size, len), hrun, ⟨w.heap.size, len, 0, len, upd_same _ _ _, rfl, Nat.le_refl _, ?_, .inl rfl, fun _ _ _ => ⟨rfl, rfl⟩, fun _ _ => rfl⟩,
                  PO.fresh (by simp) hφ (fun k hk => Below.heap_alloc _ _ _ hk) (by simp) rfl rfl rfl hS ⟨_, (0, 0), heap_alloc_new _ _, ?_, fun _ => ⟨?_, rfl, size, hs, hcs⟩⟩, hb.new⟩
                · have : len * 1 ≤ len * size := Nat.mul_le_mul_left _ h3
                  unfold maxLen; omega
                · rw [List.take_of_length_le (by omega)]
                  exact h5.imp_ fun _ _ => VA.mono (upd_le _ hφ)
                · have : len * 1 ≤ len * size := Nat.mul_le_mul_left _ h3
                  unfold maxLen; omega
            · cases he
        · cases he
theorem src_of {sz : Nat} {x x' : Value} {m : Nat} {cs : List Value} {rd : List Nat} (hx : VC φ x x') (hs : srcOf sz h x = some (m, cs, rd)) (ht : ∀ id g c, id ∈ rd → φ id = some (g, c) → ObjR P φ (h.get id) w g c) :
    ((∃ B c', x' = .slice B 0 c') ∧ m = 0 ∧ cs = []) ∨ ∃ (g j c' : Nat) (ds : List Value), x' = .slice (some ⟨g, j, none⟩) m c' ∧ VL (VA φ) cs ds ∧ ds.length = m * sz ∧ ∀ (k : Nat) (v : Value), ds[k]? = some v → w.cell? ⟨g, j + k, none⟩ = some v := by
  unfold srcOf at hs
  split at hs
  · injection hs with hs
    injection hs with h1 h2
    injection h2 with h2 h3
    exact .inl ⟨⟨none, 0, hx.2⟩, h1.symm, h2.symm⟩
  · injection hs with hs
    injection hs with h1 h2
    injection h2 with h2 h3
    obtain ⟨a', c', hx⟩ := VC.empty hx
    exact .inl ⟨⟨some a', c', hx⟩, h1.symm, h2.symm⟩
  · rename_i id off m' c0 hne
    obtain ⟨cs', h1, h2⟩ := map_some hs
    injection h2 with h2 h3
    injection h3 with h3 h4
    subst h2; subst h3; subst h4
    obtain ⟨g, c, j', c', hp, rfl, hn, hm, hj, hz⟩ := hx
    have ho := ht id g c (by simp) hp
    obtain ⟨ds, hv, hl, hcell⟩ := cells_read h1 ho
    refine .inr ⟨g, j', c', ds, rfl, hv, hl, ?_⟩
    rcases hj with rfl | ⟨h0, -⟩
    · exact hcell
    · intro k v hk
      rw [h0] at hl
      have : ds = [] := List.eq_nil_of_length_eq_zero (by rw [hl]; simp)
      rw [this] at hk
      simp at hk
  · cases hs
theorem run_append_nothing {t ty el : TypeId} (hu : P.underlying t = some (.slice el)) {i : TypeInfo} (hi : P.info? el = some i) (A : Option Addr) (len c : Nat) (hle : len ≤ c) (m : Nat) (x : Value) (hx : (x = .slice none 0 0 ∧ m = 0) ∨ ∃ B c', x = .slice B m c' ∧ m = 0) :
    (Builtin.append_ #[t, t] ty #[.slice A len c, x]).run P w = .ok (.slice A len c) w := by
  have hx' : ∃ B c', x = .slice B 0 c' := by
    rcases hx with ⟨rfl, rfl⟩ | ⟨B, c', rfl, rfl⟩
    · exact ⟨none, 0, rfl⟩
    · exact ⟨B, c', rfl⟩
  obtain ⟨B, c', rfl⟩ := hx'
  cases A <;> cases B <;> simp [Builtin.append_, run_underlying hu, sizeOf, typeInfo, hi, Builtin.lenOf, Builtin.firstCells, loadCells, loadCellsFrom, storeCells, hle]
theorem own_ex {base el size len : Nat} {v : Value} {xs : List Value} {w : World} (ho : w.ownsRow base el size v len xs) (hne : v ≠ .slice none 0 0) :
    ∃ g cap cur, v = .slice (some ⟨g, 0, none⟩) len cap ∧ base ≤ g ∧ w.heap[g]? = some (.cells cur el (0, 0)) ∧ len ≤ cap ∧ cap ≤ maxLen ∧ cur.size = cap * size ∧ cur.toList.take (len * size) = xs := by
  rcases ho.2 with ⟨h1, -⟩ | hx
  · exact absurd h1 hne
  · exact hx
theorem mAppend0_ok {lim : Nat} {t t2 ty : TypeId} {s s' x x' : Value} (hs : VC φ s s') (hx : VC φ x x') (he : mAppend0 P lim t t2 s x h n = some e) (ht : Tou P φ h w S e) (hb : HB h n) (hφ : n < e.n → φ n = none) (hS : S ≤ w.heap.size) :
    Good P φ h n w S e ((Builtin.append_ #[t, t2] ty #[s', x']).run P w) := by
  unfold mAppend0 at he
  cases hel : tyElem P t with
  | none => rw [hel] at he; cases he
  | some el =>
    rw [hel] at he
    simp only [Option.bind_some] at he
    cases hi : P.info? el with
    | none => rw [hi] at he; simp at he
    | some i =>
      cases hz : tyZero P el with
      | none => rw [hi, hz] at he; simp at he
      | some z =>
        rw [hi, hz] at he
        simp only [cond_eq_ite, Bool.and_eq_true] at he
        split at he
        · rename_i hcond
          obtain ⟨⟨⟨h1, h2⟩, h3⟩, h4⟩ := hcond
          rw [Nat.beq_eq] at h1 h3
          rw [Nat.blt_eq] at h2
          rw [Nat.ble_eq] at h4
          subst h1
          obtain ⟨i', v, hi', hiz, hvz, hf⟩ := zero_of hz
          obtain rfl : i' = i := by rw [hi] at hi'; injection hi' with hi'; exact hi'.symm
          have hu := elem_of hel
          have hvs : v.cells.size = i'.size := by rw [← h3, ← hvz]; simp
          have htsz : tySize P el = some i'.size := by unfold tySize; rw [hi]; rfl
          cases hsrc : srcOf i'.size h x with
          | none => rw [hsrc] at he; cases he
          | some src =>
            obtain ⟨m, news, rd⟩ := src
            rw [hsrc] at he
            simp only [Option.bind_some] at he
            split at he
            · rename_i hc2
              obtain ⟨hcok, hm6⟩ := hc2
              rw [Nat.ble_eq] at hm6
              unfold mAppendTo at he
              split at he
              · -- onto nil
                obtain rfl : s' = .slice none 0 0 := hs.2
                simp only [cond_eq_ite] at he
                split at he
                · rename_i hm0
                  rw [Nat.beq_eq] at hm0
                  subst hm0
                  have hrd : ∀ id g c, id ∈ rd → φ id = some (g, c) → ∃ B c', x' = .slice B 0 c' := by
                    intro id g c _ _
                    unfold srcOf at hsrc
                    split at hsrc
                    · exact ⟨none, 0, hx.2⟩
                    · obtain ⟨a', c', hx⟩ := VC.empty hx
                      exact ⟨some a', c', hx⟩
                    · obtain ⟨_, _, h2⟩ := map_some hsrc
                      injection h2 with h2 h3
                      subst h2
                      obtain ⟨g, c, j', c', hp, rfl, _⟩ := hx
                      exact ⟨_, _, rfl⟩
                    · cases hsrc
                  have hxx : ∃ B c', x' = .slice B 0 c' := by
                    unfold srcOf at hsrc
                    split at hsrc
                    · exact ⟨none, 0, hx.2⟩
                    · obtain ⟨a', c', hx⟩ := VC.empty hx
                      exact ⟨some a', c', hx⟩
                    · obtain ⟨_, _, h2⟩ := map_some hsrc
                      injection h2 with h2 h3
                      subst h2
                      obtain ⟨g, c, j', c', hp, rfl, _⟩ := hx
                      exact ⟨_, _, rfl⟩
                    · cases hsrc
                  obtain ⟨B, c', rfl⟩ := hxx
                  rw [run_append_nothing hu hi none 0 0 (Nat.le_refl _) 0 _ (.inr ⟨B, c', rfl, rfl⟩)]
                  exact mV_ok (VB.vc (VA.vb (VA.flat rfl))) he hb
                · rename_i hm0
                  injection he with he
                  subst he
                  replace hφ := hφ (Nat.lt_succ_self n)
                  have hm0' : m ≠ 0 := by intro hh; exact hm0 (by rw [Nat.beq_eq]; exact hh)
                  rcases src_of (w := w) hx hsrc (fun id g c hid hp => (ht id g c (.inl hid) hp).1) with ⟨-, h0, -⟩ | ⟨g, j, c', ds, rfl, hv, hl, hcell⟩
                  · exact absurd h0 hm0'
                  · obtain ⟨v', w', hrun, hown, hgr, hnil, hat⟩ := run_append_own_at (P := P) w S t2 ty el i' v i'.size i'.bytes hu hi hiz rfl rfl hvs h2 (.slice none 0 0) 0 [] (World.ownsRow_nil w S el i'.size) ⟨g, j, none⟩ m c' ds hl (fun k u hk => by rw [add_none]; exact hcell k u hk) (hv.one_cells hcok)
                      (by unfold maxLen; omega) (by have : (0 + m) * i'.bytes ≤ 1000000 * 1000 := Nat.mul_le_mul (by omega) h4
                                                    omega) hS
                    simp only [Nat.zero_add, List.nil_append] at hown
                    have hne : v' ≠ .slice none 0 0 := fun hh => hm0' (hnil.1 hh).2
                    obtain ⟨g', cap, cur, rfl, hSg, hg', hmc, hcm, hcs, htk⟩ := own_ex hown hne
                    have hgg : g' = w.heap.size := by
                      rcases hat with hat | hat
                      · simp [Value.ownBlock] at hat
                      · simpa [Value.ownBlock] using hat
                    have hlt' : g' < w'.heap.size := by
                      rcases Nat.lt_or_ge g' w'.heap.size with hlt | hge
                      · exact hlt
                      · rw [Array.getElem?_eq_none hge] at hg'; cases hg'
                    unfold Good
                    dsimp only
                    refine ⟨_, w', upd φ n (g', cap), hrun, ⟨g', cap, 0, cap, upd_same _ _ _, rfl, hmc, hcm, .inl rfl, fun _ _ _ => ⟨rfl, rfl⟩, fun h0 h1 => absurd h1 (by omega)⟩, ⟨fun id hid => upd_ne _ _ (by omega), fun k hk _ => hgr.block k hk (by simp [Value.ownBlock]), fun id hid _ => Hp.get_ne _ _ (by omega), ?_, ?_, ?_, fun id hid hd => (by rw [Hp.get_ne _ _ (by omega)]; exact hd), fun id hid _ => Hp.get_ne _ _ (by omega), by omega, hgr.size, hgr.os, hgr.tape, hgr.output⟩, hb.new⟩
                    · intro id k c hh hp
                      rcases hh with ⟨_, hh⟩ | ⟨hh1, hh2⟩
                      · simp at hh
                      · obtain rfl : id = n := by omega
                        rw [upd_same] at hp
                        injection hp with hp
                        injection hp with hp1 hp2
                        subst hp1; subst hp2
                        rw [Hp.get_same]
                        refine ⟨⟨cur, (0, 0), hg', ?_, fun _ => ⟨hcm, rfl, i'.size, htsz, hcs⟩⟩, hSg, hlt'⟩
                        have hll := hv.len
                        rw [hll, hl, htk]
                        exact hv.imp_ fun _ _ => VA.mono (upd_le _ hφ)
                    · intro id k c h1 h2 hp
                      obtain rfl : id = n := by omega
                      rw [upd_same] at hp
                      injection hp with hp
                      injection hp with hp1 hp2
                      exact .inl (by omega)
                    · intro id id' k c c' h1 h2 h3; omega
              · -- onto a row
                rename_i id len cap0
                obtain ⟨g, c, j', c', hp, rfl, hn, hm, hj, hz0⟩ := hs
                simp only [cond_eq_ite, Bool.and_eq_true] at he
                split at he
                · rename_i hc3
                  obtain ⟨⟨hlim, hlen6⟩, hcap0⟩ := hc3
                  rw [Nat.ble_eq] at hlen6
                  cases hr : rwOf h id with
                  | none => rw [hr] at he; cases he
                  | some r =>
                    rw [hr] at he
                    simp only [Option.bind_some] at he
                    split at he
                    · rename_i hre
                      rw [Nat.beq_eq] at hre
                      cases htk0 : ltake (len * i'.size) r.2 with
                      | none => rw [htk0] at he; cases he
                      | some cs =>
                        rw [htk0] at he
                        injection he with he
                        subst he
                        replace hφ := hφ (Nat.lt_succ_self n)
                        obtain ⟨hcl, rfl⟩ := ltake_some _ htk0
                        obtain ⟨ho, hSg0, hgs0⟩ := ht id g c (.inr (by simp)) hp
                        rw [rwOf_some hr] at ho
                        obtain ⟨ds0, fz, hg0, hv0, hrw⟩ := ho
                        obtain ⟨hcm0, rfl, sz, hsz, hds0⟩ := hrw rfl
                        obtain ⟨rfl, rfl⟩ := hz0.1 rfl (by rwa [Nat.ble_eq] at hcap0) hcm0
                        rw [hre, htsz] at hsz
                        injection hsz with hsz
                        subst hsz
                        have hal : h.get id ≠ none := by rw [rwOf_some hr]; simp
                        have hid : id < n := hb.lt hal
                        have hl0 := hv0.len
                        rw [List.length_take, Array.length_toList] at hl0
                        have hle0 : len * i'.size ≤ ds0.size := by omega
                        have hvt : VL (VA φ) (r.2.take (len * i'.size)) (ds0.toList.take (len * i'.size)) := by
                          have := hv0.take_ (len * i'.size)
                          rwa [List.take_take, Nat.min_eq_left hcl] at this
                        have hown0 : w.ownsRow S el i'.size (.slice (some ⟨g, 0, none⟩) len c') len (ds0.toList.take (len * i'.size)) :=
                          ⟨by simp; omega, .inr ⟨g, c', ds0, rfl, hSg0, by rw [← hre]; exact hg0, hn, hm, hds0, rfl⟩⟩
                        -- both sources
                        have key : ∃ (v' : Value) (w' : World) (ds : List Value), (Builtin.append_ #[t2, t2] ty #[.slice (some ⟨g, 0, none⟩) len c', x']).run P w = .ok v' w' ∧ VL (VA φ) news ds ∧ ds.length = m * i'.size ∧ w'.ownsRow S el i'.size v' (len + m) (ds0.toList.take (len * i'.size) ++ ds) ∧ w.grownBy w' (some g) ∧ v' ≠ .slice none 0 0 ∧ (v'.ownBlock = some g ∨ v'.ownBlock = some w.heap.size) := by
                          rcases src_of (w := w) hx hsrc (fun id g c hid hp => (ht id g c (.inl hid) hp).1) with ⟨⟨B1, c1, rfl⟩, rfl, rfl⟩ | ⟨g1, j1, c1, ds, rfl, hv, hl, hcell⟩
                          · exact ⟨_, w, [], run_append_nothing hu hi (some ⟨g, 0, none⟩) len c' hn 0 _ (.inr ⟨B1, c1, rfl, rfl⟩), trivial, by simp, by simpa using hown0, World.grownBy.refl w _, by simp, .inl rfl⟩
                          · obtain ⟨v', w', hrun, hown, hgr, hnil, hat⟩ := run_append_own_at (P := P) w S t2 ty el i' v i'.size i'.bytes hu hi hiz rfl rfl hvs h2 _ len _ hown0 ⟨g1, j1, none⟩ m c1 ds hl (fun k u hk => by rw [add_none]; exact hcell k u hk) (hv.one_cells hcok)
                              (by unfold maxLen; omega) (by have : (len + m) * i'.bytes ≤ 2000000 * 1000 := Nat.mul_le_mul (by omega) h4
                                                            omega) hS
                            exact ⟨v', w', ds, hrun, hv, hl, hown, hgr, fun hh => (by have := (hnil.1 hh).1; cases this), hat⟩
                        obtain ⟨v', w', ds, hrun, hv, hl, hown, hgr, hne, hat⟩ := key
                        obtain ⟨g', cap, cur, rfl, hSg, hg', hmc, hcm, hcs, htk⟩ := own_ex hown hne
                        have hgg : g' = g ∨ g' = w.heap.size := by simpa [Value.ownBlock] using hat
                        have hlt' : g' < w'.heap.size := by
                          rcases Nat.lt_or_ge g' w'.heap.size with hlt | hge
                          · exact hlt
                          · rw [Array.getElem?_eq_none hge] at hg'; cases hg'
                        have hids : id ≠ n := by omega
                        unfold Good
                        dsimp only
                        refine ⟨_, w', upd φ n (g', cap), hrun, ⟨g', cap, 0, cap, upd_same _ _ _, rfl, hmc, hcm, .inl rfl, fun _ _ _ => ⟨rfl, rfl⟩, fun h0 h1 => absurd h1 (by omega)⟩, ⟨fun k hk => upd_ne _ _ (by omega), fun k hk hh => hgr.block k hk (fun hk2 => ?_), fun k hk hne => ?_, ?_, ?_, ?_, fun k hk hd => ?_, fun k hk hn => ?_, by omega, hgr.size, hgr.os, hgr.tape, hgr.output⟩, fun k hk => ?_⟩
                        · injection hk2 with hk2
                          subst hk2
                          exact hh id c' hid (by simp) hal hp
                        · rw [Hp.get_ne _ _ (by omega), Hp.get_ne _ _ (fun hk2 => hne (by simp [hk2]))]
                        · intro k g2 c2 hh hp2
                          rcases hh with ⟨hk, hh⟩ | ⟨hh1, hh2⟩
                          · obtain rfl : k = id := by simpa using hh
                            rw [upd_ne _ _ hids, hp] at hp2
                            injection hp2 with hp2
                            injection hp2 with hp3 hp4
                            subst hp3; subst hp4
                            rw [Hp.get_ne _ _ hids, Hp.get_same]
                            exact ⟨trivial, hSg0, Nat.lt_of_lt_of_le hgs0 hgr.size⟩
                          · obtain rfl : k = n := by omega
                            rw [upd_same] at hp2
                            injection hp2 with hp2
                            injection hp2 with hp3 hp4
                            subst hp3; subst hp4
                            rw [Hp.get_same]
                            refine ⟨⟨cur, (0, 0), hg', ?_, fun _ => ⟨hcm, rfl, i'.size, htsz, hcs⟩⟩, hSg, hlt'⟩
                            have hll := (hvt.app hv).len
                            have hsum : (ds0.toList.take (len * i'.size) ++ ds).length = (len + m) * i'.size := hown.1
                            rw [hll, hsum, htk]
                            exact (hvt.app hv).imp_ fun _ _ => VA.mono (upd_le _ hφ)
                        · intro k g2 c2 h1 h2 hp2
                          obtain rfl : k = n := by omega
                          rw [upd_same] at hp2
                          injection hp2 with hp2
                          injection hp2 with hp3 hp4
                          rcases hgg with hgg | hgg
                          · refine .inr ⟨id, c', hid, by simp, by rw [hp, ← hp3, hgg], hal, ?_⟩
                            rw [Hp.get_ne _ _ hids, Hp.get_same]
                          · exact .inl (by omega)
                        · intro k k' g2 c2 c3 h1 h2 h3; omega
                        · have hkid : k ≠ id := fun e => hal (by rw [← e]; exact hd)
                          rw [Hp.get_ne _ _ (by omega), Hp.get_ne _ _ hkid]
                          exact hd
                        · have hkid : k ≠ id := fun e => by rw [e, hp] at hn; cases hn
                          rw [Hp.get_ne _ _ (by omega), Hp.get_ne _ _ hkid]
                        · have hk' : n + 1 ≤ k := hk
                          rw [Hp.get_ne _ _ (by omega), Hp.get_ne _ _ (by omega)]
                          exact hb k (by omega)
                    · cases he
                · cases he
              · cases he
            · cases he
        · cases he
theorem run_append_str_at (w : World) (base : Nat) (t u ty e : TypeId) (i : TypeInfo) (ht : P.underlying t = some (.slice e)) (hu : P.underlying u = some .string) (hi : P.info? e = some i) (hz : i.zero = some (.int .u8 0))
    (hsize : i.size = 1) (hby : i.bytes = 1) (v : Value) (len : Nat) (xs : List Value) (hown : w.ownsRow base e 1 v len xs) (s : ByteArray) (hm : len + s.size ≤ 2000000) (hbase : base ≤ w.heap.size) :
    ∃ v' w', (Builtin.append_ #[t, u] ty #[v, .string s]).run P w = .ok v' w' ∧ w'.ownsRow base e 1 v' (len + s.size) (xs ++ bvals s) ∧ w.grownBy w' v.ownBlock ∧
      (v' = .slice none 0 0 ↔ v = .slice none 0 0 ∧ s.size = 0) ∧ (v'.ownBlock = v.ownBlock ∨ v'.ownBlock = some w.heap.size) := by
  obtain ⟨v', w', hr, h2, h3, h4⟩ := Go.Lib.run_append_own_string (P := P) w base t u ty e i ht hu hi hz hsize hby v len xs hown s (by unfold maxLen; omega) (by omega) hbase
  refine ⟨v', w', hr, h2, h3, h4, ?_⟩
  rcases hown.2 with ⟨rfl, rfl⟩ | ⟨g, cap, cur, rfl, hbg, hg, hnc, hcm, hcs, htake⟩
  · by_cases h0 : s.size = 0
    · rw [h4.2 ⟨rfl, h0⟩]; exact .inl rfl
    · have hx := run_append_nil_string (P := P) w t u ty e i (.int .u8 0) ht hu hi hz s (by omega) (by omega) (by rw [hby]; omega)
      rw [hr] at hx
      injection hx with hx hx2
      rw [hx]
      exact .inr rfl
  · by_cases hroom : len + s.size ≤ cap
    · have hx := Go.Lib.run_append_room_string (P := P) w t u ty e i ht hu hi hsize g len cap cur hg s hroom (by omega)
      rw [hr] at hx
      injection hx with hx hx2
      rw [hx]
      exact .inl rfl
    · have hx := Go.Lib.run_append_grow_string (P := P) w t u ty e i (.int .u8 0) ht hu hi hz ⟨g, 0, none⟩ len cap xs (by rw [hsize]; simpa using hown.1) (hown.cells (g := g) rfl) s (by omega) (by omega) (by rw [hby]; exact growslice_fits (by omega) (by omega))
      rw [hr] at hx
      injection hx with hx hx2
      rw [hx]
      exact .inr rfl
theorem mAppendS_ok {lim : Nat} {t t2 ty : TypeId} {s s' x x' : Value} (h2s : tyStr P t2 = true) (hs : VC φ s s') (hx : VC φ x x') (he : mAppendS P lim t s x h n = some e) (ht : Tou P φ h w S e) (hb : HB h n) (hφ : n < e.n → φ n = none) (hS : S ≤ w.heap.size) :
    Good P φ h n w S e ((Builtin.append_ #[t, t2] ty #[s', x']).run P w) := by
  unfold mAppendS at he
  split at he
  · rename_i b
    obtain rfl := hx.str
    have hu2 := str_of h2s
    cases hel : tyElem P t with
    | none => rw [hel] at he; cases he
    | some el =>
      rw [hel] at he
      simp only [Option.bind_some] at he
      cases hi : P.info? el with
      | none => rw [hi] at he; simp at he
      | some i' =>
        rw [hi] at he
        simp only [Option.bind_some] at he
        split at he
        · rename_i hz
          have hz : i'.zero = some (.int .u8 0) := hz
          simp only [cond_eq_ite, Bool.and_eq_true] at he
          split at he
          · rename_i hc2
            obtain ⟨⟨hi1, hi2⟩, hm6⟩ := hc2
            rw [Nat.beq_eq] at hi1 hi2
            rw [Nat.ble_eq] at hm6
            have hu := elem_of hel
            have htsz : tySize P el = some 1 := by unfold tySize; rw [hi]; exact congrArg some hi1
            obtain ⟨m, hm⟩ : ∃ m, b.size = m := ⟨_, rfl⟩
            obtain ⟨news, hnews⟩ : ∃ m, bvals b = m := ⟨_, rfl⟩
            have hnl : news.length = m := by rw [← hnews, ← hm]; exact Go.Lib.strCells_length b
            have hv : VL (VA φ) news news := by
              refine VL.flat_refl ?_
              rw [← hnews]
              unfold bvals
              rw [List.all_eq_true]
              intro y hy
              obtain ⟨b1, -, rfl⟩ := List.mem_map.1 hy
              rfl
            rw [hm, hnews] at he
            unfold mAppendTo at he
            split at he
            · -- onto nil
              obtain rfl : s' = .slice none 0 0 := hs.2
              simp only [cond_eq_ite] at he
              obtain ⟨v', w', hrun, hown, hgr, hnil, hat⟩ := run_append_str_at (P := P) w S t t2 ty el i' hu hu2 hi hz hi1 hi2 (.slice none 0 0) 0 [] (World.ownsRow_nil w S el 1) b (by omega) hS
              split at he
              · rename_i hm0
                rw [Nat.beq_eq] at hm0
                subst hm0
                have hrun : (Builtin.append_ #[t, t2] ty #[.slice none 0 0, .string b]).run P w = .ok (.slice none 0 0) w := by
                  have hf : (Builtin.firstCells 1 b.size (.string b)).run P w = .ok (Go.Lib.strCells b).toArray w := Go.Lib.run_firstCells_string (P := P) w 1 b
                  have hn : Go.Lib.strCells b = [] := List.eq_nil_of_length_eq_zero (by rw [Go.Lib.strCells_length]; exact hm)
                  rw [hm] at hf
                  simp [Builtin.append_, run_underlying hu, run_underlying hu2, sizeOf, typeInfo, hi, hi1, Builtin.lenOf, hm, hf]
                rw [hrun]
                exact mV_ok (VB.vc (VA.vb (VA.flat rfl))) he hb
              · rename_i hm0
                injection he with he
                subst he
                replace hφ := hφ (Nat.lt_succ_self n)
                have hm0' : m ≠ 0 := by intro hh; exact hm0 (by rw [Nat.beq_eq]; exact hh)
                rw [hm, hnews, Nat.zero_add, List.nil_append] at hown
                have hne : v' ≠ .slice none 0 0 := fun hh => hm0' (by rw [← hm]; exact (hnil.1 hh).2)
                obtain ⟨g', cap, cur, rfl, hSg, hg', hmc, hcm, hcs, htk⟩ := own_ex hown hne
                have hgg : g' = w.heap.size := by
                  rcases hat with hat | hat
                  · simp [Value.ownBlock] at hat
                  · simpa [Value.ownBlock] using hat
                have hlt' : g' < w'.heap.size := by
                  rcases Nat.lt_or_ge g' w'.heap.size with hlt | hge
                  · exact hlt
                  · rw [Array.getElem?_eq_none hge] at hg'; cases hg'
                unfold Good
                dsimp only
                refine ⟨_, w', upd φ n (g', cap), hrun, ⟨g', cap, 0, cap, upd_same _ _ _, rfl, hmc, hcm, .inl rfl, fun _ _ _ => ⟨rfl, rfl⟩, fun h0 h1 => absurd h1 (by omega)⟩, ⟨fun id hid => upd_ne _ _ (by omega), fun k hk _ => hgr.block k hk (by simp [Value.ownBlock]), fun id hid _ => Hp.get_ne _ _ (by omega), ?_, ?_, ?_, fun id hid hd => (by rw [Hp.get_ne _ _ (by omega)]; exact hd), fun id hid _ => Hp.get_ne _ _ (by omega), by omega, hgr.size, hgr.os, hgr.tape, hgr.output⟩, hb.new⟩
                · intro id k c hh hp
                  rcases hh with ⟨_, hh⟩ | ⟨hh1, hh2⟩
                  · simp at hh
                  · obtain rfl : id = n := by omega
                    rw [upd_same] at hp
                    injection hp with hp
                    injection hp with hp1 hp2
                    subst hp1; subst hp2
                    rw [Hp.get_same]
                    refine ⟨⟨cur, (0, 0), hg', ?_, fun _ => ⟨hcm, rfl, 1, htsz, hcs⟩⟩, hSg, hlt'⟩
                    rw [show news.length = m * 1 from by omega, htk]
                    exact hv.imp_ fun _ _ => VA.mono (upd_le _ hφ)
                · intro id k c h1 h2 hp
                  obtain rfl : id = n := by omega
                  rw [upd_same] at hp
                  injection hp with hp
                  injection hp with hp1 hp2
                  exact .inl (by omega)
                · intro id id' k c c' h1 h2 h3; omega
            · -- onto a row
              rename_i id len cap0
              obtain ⟨g, c, j', c', hp, rfl, hn, hmm, hj, hz0⟩ := hs
              simp only [cond_eq_ite, Bool.and_eq_true] at he
              split at he
              · rename_i hc3
                obtain ⟨⟨hlim, hlen6⟩, hcap0⟩ := hc3
                rw [Nat.ble_eq] at hlen6
                cases hr : rwOf h id with
                | none => rw [hr] at he; cases he
                | some r =>
                  rw [hr] at he
                  simp only [Option.bind_some] at he
                  split at he
                  · rename_i hre
                    rw [Nat.beq_eq] at hre
                    cases htk0 : ltake (len * 1) r.2 with
                    | none => rw [htk0] at he; cases he
                    | some cs =>
                      rw [htk0] at he
                      injection he with he
                      subst he
                      replace hφ := hφ (Nat.lt_succ_self n)
                      obtain ⟨hcl, rfl⟩ := ltake_some _ htk0
                      obtain ⟨ho, hSg0, hgs0⟩ := ht id g c (.inr (by simp)) hp
                      rw [rwOf_some hr] at ho
                      obtain ⟨ds0, fz, hg0, hv0, hrw⟩ := ho
                      obtain ⟨hcm0, rfl, sz, hsz, hds0⟩ := hrw rfl
                      obtain ⟨rfl, rfl⟩ := hz0.1 rfl (by rwa [Nat.ble_eq] at hcap0) hcm0
                      rw [hre, htsz] at hsz
                      injection hsz with hsz
                      subst hsz
                      have hal : h.get id ≠ none := by rw [rwOf_some hr]; simp
                      have hid : id < n := hb.lt hal
                      have hl0 := hv0.len
                      rw [List.length_take, Array.length_toList] at hl0
                      have hle0 : len * 1 ≤ ds0.size := by omega
                      have hvt : VL (VA φ) (r.2.take (len * 1)) (ds0.toList.take (len * 1)) := by
                        have := hv0.take_ (len * 1)
                        rwa [List.take_take, Nat.min_eq_left hcl] at this
                      have hown0 : w.ownsRow S el 1 (.slice (some ⟨g, 0, none⟩) len c') len (ds0.toList.take (len * 1)) :=
                        ⟨by simp; omega, .inr ⟨g, c', ds0, rfl, hSg0, by rw [← hre]; exact hg0, hn, hmm, hds0, rfl⟩⟩
                      obtain ⟨v', w', hrun, hown, hgr, hnil, hat⟩ := run_append_str_at (P := P) w S t t2 ty el i' hu hu2 hi hz hi1 hi2 _ len _ hown0 b (by omega) hS
                      have hne : v' ≠ .slice none 0 0 := fun hh => by have := (hnil.1 hh).1; cases this
                      rw [hm, hnews] at hown
                      obtain ⟨ds, hds⟩ : ∃ ds, news = ds := ⟨_, rfl⟩
                      have hl : ds.length = m * 1 := by rw [← hds, hnl, Nat.mul_one]
                      rw [hds] at hown
                      have hv : VL (VA φ) news ds := by rw [← hds]; exact hv
                      obtain ⟨g', cap, cur, rfl, hSg, hg', hmc, hcm, hcs, htk⟩ := own_ex hown hne
                      have hgg : g' = g ∨ g' = w.heap.size := by simpa [Value.ownBlock] using hat
                      have hlt' : g' < w'.heap.size := by
                        rcases Nat.lt_or_ge g' w'.heap.size with hlt | hge
                        · exact hlt
                        · rw [Array.getElem?_eq_none hge] at hg'; cases hg'
                      have hids : id ≠ n := by omega
                      unfold Good
                      dsimp only
                      refine ⟨_, w', upd φ n (g', cap), hrun, ⟨g', cap, 0, cap, upd_same _ _ _, rfl, hmc, hcm, .inl rfl, fun _ _ _ => ⟨rfl, rfl⟩, fun h0 h1 => absurd h1 (by omega)⟩, ⟨fun k hk => upd_ne _ _ (by omega), fun k hk hh => hgr.block k hk (fun hk2 => ?_), fun k hk hne => ?_, ?_, ?_, ?_, fun k hk hd => ?_, fun k hk hn => ?_, by omega, hgr.size, hgr.os, hgr.tape, hgr.output⟩, fun k hk => ?_⟩
                      · injection hk2 with hk2
                        subst hk2
                        exact hh id c' hid (by simp) hal hp
                      · rw [Hp.get_ne _ _ (by omega), Hp.get_ne _ _ (fun hk2 => hne (by simp [hk2]))]
                      · intro k g2 c2 hh hp2
                        rcases hh with ⟨hk, hh⟩ | ⟨hh1, hh2⟩
                        · obtain rfl : k = id := by simpa using hh
                          rw [upd_ne _ _ hids, hp] at hp2
                          injection hp2 with hp2
                          injection hp2 with hp3 hp4
                          subst hp3; subst hp4
                          rw [Hp.get_ne _ _ hids, Hp.get_same]
                          exact ⟨trivial, hSg0, Nat.lt_of_lt_of_le hgs0 hgr.size⟩
                        · obtain rfl : k = n := by omega
                          rw [upd_same] at hp2
                          injection hp2 with hp2
                          injection hp2 with hp3 hp4
                          subst hp3; subst hp4
                          rw [Hp.get_same]
                          refine ⟨⟨cur, (0, 0), hg', ?_, fun _ => ⟨hcm, rfl, 1, htsz, hcs⟩⟩, hSg, hlt'⟩
                          have hll := (hvt.app hv).len
                          have hsum : (ds0.toList.take (len * 1) ++ ds).length = (len + m) * 1 := hown.1
                          rw [hll, hsum, htk]
                          exact (hvt.app hv).imp_ fun _ _ => VA.mono (upd_le _ hφ)
                      · intro k g2 c2 h1 h2 hp2
                        obtain rfl : k = n := by omega
                        rw [upd_same] at hp2
                        injection hp2 with hp2
                        injection hp2 with hp3 hp4
                        rcases hgg with hgg | hgg
                        · refine .inr ⟨id, c', hid, by simp, by rw [hp, ← hp3, hgg], hal, ?_⟩
                          rw [Hp.get_ne _ _ hids, Hp.get_same]
                        · exact .inl (by omega)
                      · intro k k' g2 c2 c3 h1 h2 h3; omega
                      · have hkid : k ≠ id := fun e => hal (by rw [← e]; exact hd)
                        rw [Hp.get_ne _ _ (by omega), Hp.get_ne _ _ hkid]
                        exact hd
                      · have hkid : k ≠ id := fun e => by rw [e, hp] at hn; cases hn
                        rw [Hp.get_ne _ _ (by omega), Hp.get_ne _ _ hkid]
                      · have hk' : n + 1 ≤ k := hk
                        rw [Hp.get_ne _ _ (by omega), Hp.get_ne _ _ (by omega)]
                        exact hb k (by omega)
                  · cases he
              · cases he
            · cases he
          · cases he
        · cases he
  · cases he
theorem mAppendR_ok {t t2 ty : TypeId} {s s' x x' : Value} (hs : VC φ s s') (hx : VC φ x x') (he : mAppendR P t t2 s x h n = some e) (ht : Tou P φ h w S e) (hb : HB h n) (hφ : n < e.n → φ n = none) (hS : S ≤ w.heap.size) :
    Good P φ h n w S e ((Builtin.append_ #[t, t2] ty #[s', x']).run P w) := by
  unfold mAppendR at he
  split at he
  · rename_i id len cap0
    obtain ⟨g, c, j', c', hp, rfl, hn, hmm, hj, hz0⟩ := hs
    cases hr : rowOf h id with
    | none => rw [hr] at he; cases he
    | some r =>
      obtain ⟨re, rro, rcs⟩ := r
      rw [hr] at he
      simp only [Option.bind_some, cond_eq_ite, Bool.and_eq_true] at he
      split at he
      · rename_i hc1
        obtain ⟨⟨⟨⟨hro, hcp0⟩, hl0⟩, hlm⟩, htt⟩ := hc1
        rw [Nat.beq_eq] at hcp0
        subst hcp0
        rw [Nat.blt_eq] at hl0
        rw [Nat.ble_eq] at hlm
        rw [Nat.beq_eq] at htt
        subst htt
        obtain ⟨el, hel, he⟩ := Option.bind_eq_some_iff.1 he
        obtain ⟨i', hi, he⟩ := Option.bind_eq_some_iff.1 he
        have hu := elem_of hel
        split at he
        · rename_i hz
          have hz : i'.zero = some (.int .u8 0) := hz
          split at he
          · rename_i hc2
            obtain ⟨hi1, hi2⟩ := hc2
            rw [Nat.beq_eq] at hi1 hi2
            have htsz : tySize P el = some 1 := by unfold tySize; rw [hi]; exact congrArg some hi1
            obtain ⟨src, hsrc, he⟩ := Option.bind_eq_some_iff.1 he
            obtain ⟨m, news, rd⟩ := src
            split at he
            · rename_i hc3
              obtain ⟨⟨hm0, hm6⟩, hcok⟩ := hc3
              rw [Nat.blt_eq] at hm0
              rw [Nat.ble_eq] at hm6
              obtain ⟨cs, htk0, he⟩ := Option.bind_eq_some_iff.1 he
              injection he with he
              subst he
              replace hφ := hφ (Nat.lt_succ_self n)
              obtain ⟨hcl, rfl⟩ := ltake_some _ htk0
              obtain ⟨ho, hSg, hgs⟩ := ht id g c (.inl (by simp)) hp
              rw [rowOf_some hr] at ho
              obtain ⟨ds0, fz, hg0, hv0, -⟩ := ho
              obtain rfl : c' = len := hz0.2 rfl hl0
              have hj0 : j' = 0 := by
                rcases hj with hj | ⟨hj, -⟩
                · exact hj
                · omega
              subst hj0
              rcases src_of (w := w) hx hsrc (fun id2 g2 c2 hid hp2 => (ht id2 g2 c2 (.inl (by simp [hid])) hp2).1) with ⟨-, h0, -⟩ | ⟨g1, j1, c1, ds, rfl, hv, hl, hcell⟩
              · omega
              · have hvt : VL (VA φ) (rcs.take c') (ds0.toList.take c') := by
                  have := hv0.take_ c'
                  rwa [List.take_take, Nat.min_eq_left hcl] at this
                have hol : (ds0.toList.take c').length = c' * i'.size := by
                  have := hvt.len
                  rw [List.length_take] at this
                  rw [hi1]; omega
                have holds : ∀ j u, (ds0.toList.take c')[j]? = some u → w.cell? ((⟨g, 0, none⟩ : Addr).add j) = some u := by
                  intro j u hj
                  rw [add_none, Nat.zero_add, cell_of_row w g j ds0 re fz hg0]
                  rw [List.getElem?_take] at hj
                  split at hj
                  · simpa using hj
                  · cases hj
                have hrun := run_append_grow (P := P) w t2 ty el i' (.int .u8 0) hu hi hz ⟨g, 0, none⟩ c' c' _ hol holds ⟨g1, j1, none⟩ m c1 ds (by rw [hl, hi1]) (fun k u hk => by rw [add_none]; exact hcell k u hk) (by omega) (by omega) (by rw [hi2]; exact growslice_fits (by omega) (by omega))
                have hge := grownCap_ge w (c' + m) c' el
                have hcm := grownCap_le_maxLen w (c' + m) c' el (by unfold maxLen; omega)
                refine ⟨_, _, upd φ n (w.heap.size, grownCap w (c' + m) c' el), hrun, ⟨w.heap.size, _, 0, _, upd_same _ _ _, rfl, hge, hcm, .inl rfl, fun _ _ _ => ⟨rfl, rfl⟩, fun h0 h1 => absurd h1 (by omega)⟩,
                  PO.fresh (by simp) hφ (fun k hk => Below.heap_alloc w.drew _ _ hk) (by simp) rfl rfl rfl hS ⟨_, (0, 0), heap_alloc_new w.drew _, ?_, fun _ => ⟨hcm, rfl, 1, htsz, ?_⟩⟩, hb.new⟩
                · have hall := (hvt.app hv).len
                  have hds : ds.length = m := by rw [hl]; omega
                  rw [hi1, Nat.mul_one] at hol
                  have hT : ∀ Z : Array Value, ((ds0.toList.take c').toArray ++ ds.toArray ++ Z).toList.take ((rcs.take c' ++ news).length) = ds0.toList.take c' ++ ds := by
                    intro Z
                    rw [hall, Array.toList_append, Array.toList_append]
                    exact List.take_left
                  rw [hT]
                  exact (hvt.app hv).imp_ fun _ _ => VA.mono (upd_le _ hφ)
                · have hz1 : (Value.int IntKind.u8 0).cells.size = 1 := rfl
                  have hds : ds.length = m := by rw [hl]; omega
                  rw [hi1, Nat.mul_one] at hol
                  simp only [Array.size_append, List.size_toArray, size_zeroCells, hz1, hol, hds]
                  omega
            · cases he
          · cases he
        · cases he
      · cases he
  · cases he
theorem mAppend_ok {lim : Nat} {t t2 ty : TypeId} {s s' x x' : Value} (hs : VC φ s s') (hx : VC φ x x') (he : mAppend P lim t t2 s x h n = some e) (ht : Tou P φ h w S e) (hb : HB h n) (hφ : n < e.n → φ n = none) (hS : S ≤ w.heap.size) :
    Good P φ h n w S e ((Builtin.append_ #[t, t2] ty #[s', x']).run P w) := by
  unfold mAppend at he
  cases h2 : tyStr P t2 with
  | true => rw [h2] at he; exact mAppendS_ok h2 hs hx he ht hb hφ hS
  | false =>
    rw [h2, cond_false] at he
    cases hR : mAppendR P t t2 s x h n with
    | none => rw [hR] at he; exact mAppend0_ok hs hx he ht hb hφ hS
    | some r =>
      rw [hR] at he
      have he : r = e := by injection he
      subst he
      exact mAppendR_ok hs hx hR ht hb hφ hS
theorem run_copy_zero {t t2 ty el : TypeId} (hu : P.underlying t = some (.slice el)) {i : TypeInfo} (hi : P.info? el = some i) (a : Addr) (dl dc : Nat) (x : Value) (m : Nat) (hx : ∃ B c', x = .slice B m c') (hz : Nat.min m dl = 0) :
    (Builtin.copy_ #[t, t2] ty #[.slice (some a) dl dc, x]).run P w = .ok (goInt 0) w := by
  obtain ⟨B, c', rfl⟩ := hx
  cases B <;> simp [Builtin.copy_, run_underlying hu, sizeOf, typeInfo, hi, Builtin.lenOf, Builtin.firstCells, hz, loadCells, loadCellsFrom, storeCells]
theorem mCopy_ok {lim : Nat} {t t2 ty : TypeId} {d d' s s' : Value} (hd : VC φ d d') (hs : VC φ s s') (he : mCopy P lim t d s h n = some e) (ht : Tou P φ h w S e) (hb : HB h n) :
    Good P φ h n w S e ((Builtin.copy_ #[t, t2] ty #[d', s']).run P w) := by
  unfold mCopy at he
  split at he
  · rename_i id off dl dc
    obtain ⟨g, c, j', c', hp, rfl, hn, hm, hj, hz0⟩ := hd
    cases hel : tyElem P t with
    | none => rw [hel] at he; cases he
    | some el =>
      rw [hel] at he
      simp only [Option.bind_some] at he
      cases hsz : tySize P el with
      | none => rw [hsz] at he; cases he
      | some size =>
        rw [hsz] at he
        simp only [Option.bind_some, cond_eq_ite, Bool.and_eq_true] at he
        split at he
        · rename_i hcond
          obtain ⟨hlim, h1⟩ := hcond
          rw [Nat.beq_eq] at h1
          subst h1
          obtain ⟨i, hi, his⟩ := size_of hsz
          have hu := elem_of hel
          cases hsrc : srcOf 1 h s with
          | none => rw [hsrc] at he; cases he
          | some src =>
            obtain ⟨m, cs, rd⟩ := src
            rw [hsrc] at he
            simp only [Option.bind_some] at he
            cases hr : rwOf h id with
            | none => rw [hr] at he; cases he
            | some r =>
              rw [hr] at he
              simp only [Option.bind_some] at he
              cases htk : ltake (Nat.min m dl) cs with
              | none => rw [htk] at he; cases he
              | some new =>
                rw [htk] at he
                simp only [Option.bind_some] at he
                split at he
                · rename_i hcok
                  cases hov : overAt off new r.2 with
                  | none => rw [hov] at he; cases he
                  | some cur' =>
                    rw [hov] at he
                    injection he with he
                    subst he
                    obtain ⟨hlen, rfl⟩ := ltake_some _ htk
                    obtain ⟨ho, hSg, hgs⟩ := ht id g c (.inr (by simp)) hp
                    have hal : h.get id ≠ none := by rw [rwOf_some hr]; simp
                    have hid : id < n := hb.lt hal
                    have hsrc' := src_of (w := w) hs hsrc (fun id g c hid hp => (ht id g c (.inl hid) hp).1)
                    by_cases hk0 : Nat.min m dl = 0
                    · have hxx : ∃ B c', s' = .slice B m c' := by
                        rcases hsrc' with ⟨⟨B1, c1, rfl⟩, rfl, -⟩ | ⟨g1, j1, c1, ds, rfl, -⟩
                        · exact ⟨_, _, rfl⟩
                        · exact ⟨_, _, rfl⟩
                      rw [run_copy_zero hu hi _ dl c' s' m hxx hk0]
                      refine ⟨_, w, φ, rfl, ?_, PO.write (g := g) (c := c) hid hal (by simp) hp (fun _ _ => rfl) rfl rfl rfl rfl hSg hgs ?_, hb.set_ hid⟩
                      · show VC φ (goInt (Nat.min m dl)) (goInt 0)
                        rw [hk0]; exact VB.vc (VA.vb (VA.flat rfl))
                      · obtain ⟨h2, h3⟩ := overAt_some _ _ hov
                        have hcur : cur' = r.2 := by rw [h3, hk0]; simp
                        rw [hcur]
                        rw [rwOf_some hr] at ho
                        exact ho
                    · rcases hsrc' with ⟨-, rfl, -⟩ | ⟨g1, j1, c1, ds, rfl, hv, hl, hcell⟩
                      · exact absurd (Nat.zero_min dl) hk0
                      · have hjj : j' = off := by
                          rcases hj with hj | ⟨hj, -⟩
                          · exact hj
                          · exfalso; apply hk0; rw [hj]; exact Nat.min_zero _
                        subst hjj
                        have hvt := hv.take_ (Nat.min m dl)
                        obtain ⟨cur, hg, hle, hnew⟩ := row_put hr ho hov hvt
                        have hlt : (ds.take (Nat.min m dl)).length = Nat.min m dl := by
                          rw [List.length_take, hl]
                          have : Nat.min m dl ≤ m := Nat.min_le_left _ _
                          omega
                        have hrun := run_copy_row (P := P) w t t2 ty el g j' dl c' ⟨g1, j1, none⟩ m c1 cur r.1 (ds.take (Nat.min m dl)) hu hsz hg hlt (fun k v hk => by
                          rw [add_none]
                          refine hcell k v ?_
                          rw [List.getElem?_take] at hk
                          split at hk
                          · exact hk
                          · cases hk) hle (hvt.one_cells hcok)
                        rw [hrun]
                        refine ⟨_, _, φ, rfl, ?_, PO.write (g := g) (c := c) hid hal (by simp) hp (fun k hk => setRow_other w g k _ hk) (by simp) rfl rfl rfl hSg hgs (hnew _ (setRow_heap w g cur _ r.1 _ hg)), hb.set_ hid⟩
                        show VC φ (goInt (Nat.min m dl)) _
                        rw [hlt]; exact VB.vc (VA.vb (VA.flat rfl))
                · cases he
        · cases he
  · cases he
theorem mMakeMap_ok {t : TypeId} (he : mMakeMap h n = some e) (hb : HB h n) (hφ : n < e.n → φ n = none) (hS : S ≤ w.heap.size) : Good P φ h n w S e ((Instr.makeMap t none).run P w) := by
  injection he with he
  subst he
  replace hφ := hφ (Nat.lt_succ_self n)
  have hrun : (Instr.makeMap t none).run P w = .ok (.map (some w.heap.size)) (w.alloc (.map #[] 0)) := by simp [Instr.makeMap]
  exact ⟨_, _, upd φ n (w.heap.size, 0), hrun, ⟨w.heap.size, 0, upd_same _ _ _, rfl⟩, PO.fresh (by simp) hφ (fun k hk => Below.heap_alloc _ _ _ hk) (by simp) rfl rfl rfl hS (heap_alloc_new _ _), hb.new⟩
theorem map_of {t : TypeId} {q : Nat × Nat} (h : tyMap P t = some q) : P.underlying t = some (.map q.1 q.2) := by
  unfold tyMap at h
  split at h
  · rename_i k e' hu; injection h with h; rw [hu, ← h]
  · cases h
theorem getObj_map {g : Nat} {es : Array MapEntry} {ck : Nat} (hg : w.heap[g]? = some (.map es ck)) : (getObj g).run P w = .ok (.map es ck) w := by
  simp only [getObj, Sem.run, hg]
theorem prun_bind {α β : Type} {f : α → Sem β} {r : β} : ∀ {s : Sem α}, prun P (s >>= f) = some r → ∃ a, prun P s = some a ∧ prun P (f a) = some r := by
  intro s
  induction s with
  | pure a => intro hh; exact ⟨a, rfl, hh⟩
  | program k ih => intro hh; exact ih P hh
  | mark m k ih => intro hh; exact ih hh
  | _ => intro hh; cases hh
theorem mLookup_ok {t : TypeId} {m m' k k' : Value} {ok : Bool} (hm : VC φ m m') (hk : VC φ k k') (he : mLookup P t m k ok h n = some e) (ht : Tou P φ h w S e) (hb : HB h n) : Good P φ h n w S e ((Instr.lookup t m' k' ok).run P w) := by
  unfold mLookup at he
  split at he
  · rename_i id
    obtain ⟨g, c, hp, rfl⟩ := hm
    cases hr : mapOf h id with
    | none => rw [hr] at he; cases he
    | some r =>
      rw [hr] at he
      simp only [Option.bind_some] at he
      cases hq : tyMap P t with
      | none => rw [hq] at he; cases he
      | some q =>
        rw [hq] at he
        simp only [Option.bind_some, cond_eq_ite] at he
        split at he
        · rename_i hsc
          obtain rfl := hk.scal_eq hsc
          cases hv : prun P (mapGet q.1 q.2 k' r.1) with
          | none => rw [hv] at he; cases he
          | some v =>
            rw [hv] at he
            simp only [Option.bind_some] at he
            split at he
            · rename_i hf
              injection he with he
              subst he
              obtain ⟨ho, -, -⟩ := ht id g c (.inl (by simp)) hp
              rw [mapOf_some hr] at ho
              have hg : w.heap[g]? = some (.map r.1 r.2) := ho
              have hu := map_of hq
              have hget := prun_run hv w
              have hrun : (Instr.lookup t (.map (some g)) k' ok).run P w = .ok (if ok then .tuple #[v.1, .bool v.2] else v.1) w := by
                unfold mapGet at hv
                obtain ⟨_, h1, hv⟩ := prun_bind hv
                obtain ⟨fo, h2, hv⟩ := prun_bind hv
                cases fo with
                | some x =>
                  obtain ⟨j, u⟩ := x
                  injection hv with hv
                  subst hv
                  cases ok <;> simp [Instr.lookup, run_underlying hu, getObj_map hg, prun_run h1, prun_run h2]
                | none =>
                  obtain ⟨z, h3, hv⟩ := prun_bind hv
                  injection hv with hv
                  subst hv
                  cases ok <;> simp [Instr.lookup, run_underlying hu, getObj_map hg, prun_run h1, prun_run h2, prun_run h3]
              rw [hrun]
              refine ⟨_, w, φ, rfl, ?_, PO.same _ (by simp), hb⟩
              cases ok
              · exact VB.vc (VA.vb (VA.flat hf))
              · exact ⟨#[v.1, .bool v.2], rfl, VA.vb (VA.flat hf), VA.vb (VA.flat rfl), trivial⟩
            · cases he
        · cases he
  · cases he
theorem mMapUpdate_ok {lim : Nat} {t : TypeId} {m m' k k' x x' : Value} (hm : VC φ m m') (hk : VC φ k k') (hx : VC φ x x') (he : mMapUpdate P lim t m k x h n = some e) (ht : Tou P φ h w S e) (hb : HB h n) : GoodU P φ h n w S e ((Instr.mapUpdate t m' k' x').run P w) := by
  unfold mMapUpdate at he
  split at he
  · rename_i id
    obtain ⟨g, c, hp, rfl⟩ := hm
    cases hr : mapOf h id with
    | none => rw [hr] at he; cases he
    | some r =>
      rw [hr] at he
      simp only [Option.bind_some] at he
      cases hq : tyMap P t with
      | none => rw [hq] at he; cases he
      | some q =>
        rw [hq] at he
        simp only [Option.bind_some, cond_eq_ite, Bool.and_eq_true] at he
        split at he
        · rename_i hsc
          obtain ⟨⟨hsc, hfx⟩, hlim⟩ := hsc
          obtain rfl := hk.scal_eq hsc
          obtain rfl := hx.flat_eq hfx
          cases hv : prun P (mapPut q.1 k' x' r.1 r.2) with
          | none => rw [hv] at he; cases he
          | some v =>
            rw [hv] at he
            simp only [Option.bind_some] at he
            injection he with he
            subst he
            obtain ⟨ho, hSg, hgs⟩ := ht id g c (.inr (by simp)) hp
            rw [mapOf_some hr] at ho
            have hg : w.heap[g]? = some (.map r.1 r.2) := ho
            have hal : h.get id ≠ none := by rw [mapOf_some hr]; simp
            have hid : id < n := hb.lt hal
            have hu := map_of hq
            have hset : ∀ o, (setObj g o).run P w = .ok () { w with heap := w.heap.setIfInBounds g o } := fun o => by
              simp only [setObj, Sem.run, hg]
            have hrun : (Instr.mapUpdate t (.map (some g)) k' x').run P w = .ok () { w with heap := w.heap.setIfInBounds g (.map v.1 v.2) } := by
              unfold mapPut at hv
              obtain ⟨_, h1, hv⟩ := prun_bind hv
              obtain ⟨fo, h2, hv⟩ := prun_bind hv
              cases fo with
              | some z =>
                obtain ⟨j, u⟩ := z
                obtain ⟨ky, h3, hv⟩ := prun_bind hv
                injection hv with hv
                subst hv
                simp [Instr.mapUpdate, run_underlying hu, getObj_map hg, prun_run h1, prun_run h2]
                rw [prun_run h3]
                simp [hset]
              | none =>
                injection hv with hv
                subst hv
                simp [Instr.mapUpdate, run_underlying hu, getObj_map hg, prun_run h1, prun_run h2, hset]
            rw [hrun]
            refine ⟨_, φ, rfl, rfl, PO.write (g := g) (c := c) hid hal (by simp) hp (fun j hj => ?_) (by simp) rfl rfl rfl hSg hgs ?_, hb.set_ hid⟩
            · simp [Array.getElem?_setIfInBounds, Ne.symm hj]
            · show _ = _
              simp [Array.getElem?_setIfInBounds, hgs]
        · cases he
  · cases he
end
end Go.Proofs.Ytkngdfbibffdcaa.Ce
