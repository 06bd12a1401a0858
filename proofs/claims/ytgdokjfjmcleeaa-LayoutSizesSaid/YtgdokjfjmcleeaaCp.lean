/- The evaluator of closed calls: the operations that make or copy rows. No program in sight. -/
import Derived.Test.YtgdokjfjmcleeaaCo
namespace Go.Proofs.Ytgdokjfjmcleeaa.Ce
open Go.RowKit
set_option linter.unusedVariables false
set_option linter.unusedSimpArgs false

section
variable {P : Program} {φ : Mp} {h : Hp} {n : Nat} {w : World} {S : Nat} {e : Ef}

theorem appendCap_ge (w : World) (need old : Nat) (el : TypeId) (hn : need ≤ 1000000) : ∃ cap w1, (choose (.appendCap need old el)).run P w = .ok cap w1 ∧ need ≤ cap ∧ w1.heap = w.heap ∧ w1.os = w.os ∧ w1.tape = w.tape ∧ w1.output = w.output ∧ cap < 9223372036854775808 := by
  refine ⟨_, _, rfl, ?_, rfl, rfl, rfl, rfl, ?_⟩
  · simp only [Question.cut]; omega
  · have hpos : 0 < 2 ^ 63 - need := by omega
    have := Nat.mod_lt (w.tape w.drawn (.appendCap need old el)) hpos
    simp only [Question.cut]
    omega

/-- []byte(s) -/
theorem run_bytes_of (s : ByteArray) (el : TypeId) (hsz : s.size ≤ 1000000) : ∃ (w2 : World) (cap : Nat) (ds : Array Value) (fz : Nat × Nat), (Conv.stringToBytes el s).run P w = .ok (.slice (some ⟨w.heap.size, 0, none⟩) s.size cap) w2 ∧
    w2.heap[w.heap.size]? = some (.cells ds el fz) ∧ ds.toList.take (bvals s).length = bvals s ∧ s.size ≤ cap ∧ cap ≤ maxLen ∧ (∀ k, k < w.heap.size → w2.heap[k]? = w.heap[k]?) ∧ w2.heap.size = w.heap.size + 1 ∧ w2.os = w.os ∧ w2.tape = w.tape ∧ w2.output = w.output := by
  obtain ⟨cap, w1, hch, hge, hh, hos, htp, hou, hlt⟩ := appendCap_ge (P := P) w s.size 0 el hsz
  have hz : w1.heap.size = w.heap.size := by rw [hh]
  obtain ⟨D, hD⟩ : ∃ D : Array Value, D = (s.data.map fun b : UInt8 => Value.int .u8 (b.toNat : Int)) ++ Array.replicate (cap - s.size) (Value.int .u8 0) := ⟨_, rfl⟩
  have hDs : D.size = cap := by rw [hD]; simp; show s.size + _ = _; omega
  have hnew : (w1.alloc (.cells D el)).heap[w1.heap.size]? = some (.cells D el (0, 0)) := heap_alloc_new _ _
  refine ⟨(w1.alloc (.cells D el)).freeze ⟨w1.heap.size, cap, none⟩ 1, cap, D, (cap, cap + 1), ?_, ?_, ?_, hge, ?_, ?_, ?_, hos, htp, hou⟩
  · have hsh : (w1.alloc (.cells D el)).shape? w1.heap.size = some (el, cap) := by
      unfold World.shape?
      rw [hnew]
      simp [hDs]
    simp only [Conv.stringToBytes, Sem.run_bind, hch, Result.andThen_ok, newRow, run_newObj_alloc, Sem.run_pure, markStringish, shape, Sem.run, freeze, ← hD, hsh]
    rw [hz]
  · rw [← hz]
    unfold World.freeze
    rw [if_neg (by decide)]
    show ((w1.alloc (.cells D el)).heap.modify w1.heap.size _)[w1.heap.size]? = _
    rw [Array.getElem?_modify, if_pos rfl, hnew]
    rfl
  · rw [hD]
    simp [bvals, List.take_append_of_le_length]
  · unfold maxLen; omega
  · intro k hk
    have h1 : (w1.alloc (.cells D el)).heap[k]? = w.heap[k]? := by rw [Below.heap_alloc _ _ _ (by omega), hh]
    have hne : w1.heap.size ≠ k := by omega
    rw [← h1]
    unfold World.freeze
    rw [if_neg (by decide)]
    show ((w1.alloc (.cells D el)).heap.modify w1.heap.size _)[k]? = _
    rw [Array.getElem?_modify, if_neg hne]
  · simp [World.freeze, hz]
theorem mConvert_ok {src dst : TypeId} {x x' : Value} (hx : VC φ x x') (he : mConvert P src dst x h n = some e) (ht : Tou P φ h w S e) (hb : HB h n) (hφ : n < e.n → φ n = none) (hS : S ≤ w.heap.size) :
    Good P φ h n w S e ((convert src dst x').run P w) := by
  unfold mConvert at he
  split at he
  · rename_i k i
    obtain rfl := hx.int
    split at he
    · rename_i d hk hd hkk
      have hu := kind_of hkk
      have hrun : (convert src dst (.int k i)).run P w = (Conv.intToInt hk i).run P w := by
        simp [convert, run_underlying hd, run_underlying hu]
      rw [hrun]
      cases hr : prun P (Conv.intToInt hk i) with
      | none => rw [hr] at he; cases he
      | some v =>
        rw [hr] at he
        rw [prun_run hr w]
        have hv : v = .int hk (hk.wrap i) := by injection hr with hr; exact hr.symm
        subst hv
        exact mV_ok (VB.vc (VA.vb (VA.flat rfl))) he hb
    · rename_i d hd hno hst
      have hu := str_of hst
      have hrun : (convert src dst (.int k i)).run P w = (Conv.intToString i).run P w := by
        simp [convert, run_underlying hd, run_underlying hu]
      rw [hrun]
      cases hr : prun P (Conv.intToString i) with
      | none => rw [hr] at he; cases he
      | some v =>
        rw [hr] at he
        rw [prun_run hr w]
        have hv : v = .string (Utf8.encode i) := by injection hr with hr; exact hr.symm
        subst hv
        exact mV_ok (VB.vc (VA.vb (VA.flat rfl))) he hb
    · cases he
  · rename_i s
    obtain rfl := hx.str
    split at he
    · rename_i d el hd hel
      simp only [cond_eq_ite, Bool.and_eq_true] at he
      split at he
      · rename_i hc
        obtain ⟨h8, hsz⟩ := hc
        rw [Nat.ble_eq] at hsz
        injection he with he
        subst he
        replace hφ := hφ (Nat.lt_succ_self n)
        have hu8 := u8_of h8
        have hu := elem_of hel
        have hconv : (convert src dst (.string s)).run P w = (Conv.stringToBytes el s).run P w := by
          simp [convert, run_underlying hd, run_underlying hu, run_underlying hu8]
        obtain ⟨w2, cap, ds, fz, hrun, hg2, hv, hge, hle, hk2, hs2, ho2, ht2, hu2⟩ := run_bytes_of (P := P) (w := w) s el hsz
        refine ⟨_, w2, upd φ n (w.heap.size, cap), hconv.trans hrun, ⟨w.heap.size, cap, 0, cap, upd_same _ _ _, rfl, hge, hle, .inl rfl, fun _ _ => ⟨rfl, rfl⟩⟩, PO.fresh (by simp) hφ hk2 hs2 ho2 ht2 hu2 hS ⟨ds, fz, hg2, ?_, fun hh => by cases hh⟩, hb.new⟩
        rw [hv]
        exact VL.flat_refl (bv_flat _)
      · cases he
    · cases he
  · obtain ⟨a', c', rfl⟩ := hx.empty
    split at he
    · rename_i h8 hst
      have hd := str_of hst
      obtain ⟨el, hel, hu8⟩ := map_some h8
      have hu := elem_of hel
      have hu8' := u8_of hu8
      have hrun : (convert src dst (.slice (some a') 0 c')).run P w = .ok (.string ⟨#[]⟩) w := by
        rw [run_convert_bytes_string w src dst el _ _ _ hu hu8' hd]
        simp [Conv.bytesToString, Builtin.firstCells, loadCells, loadCellsFrom]
        rfl
      rw [hrun]
      exact mV_ok (flat_str _) he hb
    · cases he
  · rename_i id off len cap hne
    obtain ⟨g, c, j', c', hp, rfl, hn, hm, hj, hz⟩ := hx
    split at he
    · rename_i h8 hst
      dsimp only at he
      have hd := str_of hst
      obtain ⟨el, hel, hu8⟩ := map_some h8
      have hu := elem_of hel
      have hu8' := u8_of hu8
      cases hc : cellsAt h id off len with
      | none => rw [hc] at he; cases he
      | some cs =>
        rw [hc] at he
        simp only [Option.bind_some] at he
        cases hl : bytesOf cs with
        | none => rw [hl] at he; cases he
        | some l =>
          rw [hl] at he
          injection he with he
          subst he
          obtain ⟨ho, -, -⟩ := ht id g c (.inl (by simp)) hp
          obtain ⟨ds, hv, hlen, hcell⟩ := cells_read hc ho
          obtain rfl := bytesOf_some hl
          obtain rfl := VL.flat_eq (bv_flat l) hv
          rw [bv_length] at hlen
          subst hlen
          by_cases hl0 : l.length = 0
          · have : l = [] := List.eq_nil_of_length_eq_zero hl0
            subst this
            have hrun : (convert src dst (.slice (some ⟨g, j', none⟩) 0 c')).run P w = .ok (.string ⟨#[]⟩) w := by
              have := run_string_at (P := P) (w := w) src dst el hu hu8' hd g j' [] c' (fun j v hj => by simp [bv] at hj)
              exact this
            exact ⟨_, w, φ, hrun, flat_str _, PO.same _ (by simp), hb⟩
          · have hjj : j' = off := by
              rcases hj with hj | ⟨hj, -⟩
              · exact hj
              · omega
            subst hjj
            exact ⟨_, w, φ, run_string_at src dst el hu hu8' hd g j' l c' hcell, flat_str _, PO.same _ (by simp), hb⟩
    · cases he
  · obtain rfl : x' = .slice none 0 0 := hx.2
    split at he
    · rename_i h8 hst
      have hd := str_of hst
      obtain ⟨el, hel, hu8⟩ := map_some h8
      have hu := elem_of hel
      have hu8' := u8_of hu8
      have hrun : (convert src dst (.slice none 0 0)).run P w = .ok (.string ⟨#[]⟩) w := by
        rw [run_convert_bytes_string w src dst el _ _ _ hu hu8' hd]
        simp [Conv.bytesToString]
        rfl
      rw [hrun]
      exact mV_ok (flat_str _) he hb
    · cases he
  · cases he

theorem mIndex_ok {t : TypeId} {x x' ix ix' : Value} (hx : VC φ x x') (hi : VC φ ix ix') (he : mIndex P t x ix h n = some e) (hb : HB h n) : Good P φ h n w S e ((Instr.index t x' ix').run P w) := by
  unfold mIndex at he
  split at he
  · rename_i s k i
    obtain rfl := hx.str
    obtain rfl := hi.int
    simp only [cond_eq_ite] at he
    split at he
    · rename_i hst
      have hu := str_of hst
      rw [lget_eq] at he
      cases hg : s.data.toList[i]? with
      | none => rw [hg] at he; cases he
      | some b =>
        rw [hg] at he
        have hlt : i < s.data.toList.length := by
          rcases Nat.lt_or_ge i s.data.toList.length with hlt | hge
          · exact hlt
          · rw [List.getElem?_eq_none hge] at hg; cases hg
        have hsz : i < s.size := by simpa using hlt
        have hb' : s[i]? = some b := by
          have h1 : s.data[i]? = some b := by simpa using hg
          have h2 : i < s.data.size := by simpa using hlt
          have h3 : s[i]? = some (s.data[i]) := by simp [getElem?_pos, hsz]; rfl
          rw [h3, ← h1]
          simp [h2]
        have hrun : (Instr.index t (.string s) (.int k (.ofNat i))).run P w = .ok (.int .u8 b.toNat) w := by
          have h0 : (0 : Int) ≤ (i : Int) := by omega
          simp [Instr.index, asIntOf, run_underlying hu, h0, hb']
        rw [hrun]
        exact mV_ok (VB.vc (VA.vb (VA.flat rfl))) he hb
    · cases he
  · rename_i cs k i
    obtain rfl := hi.int
    obtain ⟨ds, rfl, hv⟩ := hx
    cases hf : tyArr P t with
    | none => rw [hf] at he; cases he
    | some p =>
      rw [hf] at he
      simp only [Option.bind_some, cond_eq_ite, Bool.and_eq_true] at he
      split at he
      · rename_i hc
        obtain ⟨h1, hlt⟩ := hc
        rw [Nat.beq_eq] at h1
        rw [Nat.blt_eq] at hlt
        obtain ⟨el, hu, hs⟩ := arr_of hf
        obtain ⟨inf, hinf, hsz⟩ := size_of hs
        rw [hu] at he
        simp only at he
        split at he
        · rename_i hag
          rw [lget_eq] at he
          cases hg : cs.toList[i]? with
          | none => rw [hg] at he; cases he
          | some v =>
            rw [hg] at he
            obtain ⟨v', h2, h3⟩ := hv.at_ hg
            have hd : ds[i]? = some v' := by simpa using h2
            have hagr : (isAgg el).run P w = .ok false w := by
              unfold tyAgg at hag
              cases hue : P.underlying el with
              | none => rw [hue] at hag; cases hag
              | some d =>
                rw [hue] at hag
                cases d <;> first
                  | (simp at hag; done)
                  | (simp [isAgg, run_underlying hue]; done)
            have hrun : (Instr.index t (.agg ds) (.int k (.ofNat i))).run P w = .ok v' w := by
              have h0 : (0 : Int) ≤ (i : Int) ∧ (i : Int) < (p.1 : Int) := by omega
              have h4 : ¬ p.1 ≤ i := by omega
              simp [Instr.index, asIntOf, run_underlying hu, hlt, h4, sizeOf, typeInfo, hinf, hsz, h1, part, hagr, hd]
            rw [hrun]
            exact mV_ok h3.vb.vc he hb
        · cases he
      · cases he
  · cases he

theorem set_run (off : Nat) : ∀ (l : List Value) (k : Nat) (cells : Array Value), off + k + l.length ≤ cells.size →
    ((l.zipIdx k).foldl (fun cs p => cs.setIfInBounds (off + p.2) p.1) cells).toList = cells.toList.take (off + k) ++ (l ++ cells.toList.drop (off + k + l.length))
  | [], k, cells, hl => by simp
  | v :: l, k, cells, hl => by
    rw [List.zipIdx_cons, List.foldl_cons, set_run off l (k + 1) _ (by simp at hl ⊢; omega)]
    simp only [Array.toList_setIfInBounds]
    simp at hl
    apply List.ext_getElem?
    intro i
    simp only [List.getElem?_append, List.getElem?_take, List.getElem?_drop, List.getElem?_set, List.length_take, List.length_set, Array.length_toList, List.length_cons, List.getElem?_cons]
    grind

/-- a list of parts -/
def PL (φ : Mp) : List (Nat × Value) → List (Nat × Value) → Prop
  | [], [] => True
  | a :: l, b :: m => (a.1 = b.1 ∧ VC φ a.2 b.2) ∧ PL φ l m
  | _, _ => False
theorem fill_ok {place : Nat → Option (Nat × Nat)} : ∀ {ps ps' : List (Nat × Value)} {us us' : List Value} {cells : Array Value}, PL φ ps ps' → VL (VA φ) us cells.toList → fillL place us ps = some us' →
    ∃ cells', Instr.fill place cells ps' = some cells' ∧ VL (VA φ) us' cells'.toList
  | [], [], us, us', cells, _, hv, hf => by injection hf with hf; subst hf; exact ⟨cells, rfl, hv⟩
  | (i, u) :: ps, (i', v) :: ps', us, us', cells, hp, hv, hf => by
    obtain ⟨⟨hi, huv⟩, hrest⟩ := hp
    simp only at hi huv
    subst hi
    simp only [fillL] at hf
    cases hpl : place i with
    | none => rw [hpl] at hf; cases hf
    | some p =>
      obtain ⟨off, size⟩ := p
      rw [hpl] at hf
      simp only [cond_eq_ite, Bool.and_eq_true] at hf
      split at hf
      · rename_i hc
        obtain ⟨h1, hcok⟩ := hc
        rw [Nat.beq_eq] at h1
        have hcells := huv.cells hcok
        cases hov : overAt off u.cells.toList us with
        | none => rw [hov] at hf; cases hf
        | some us1 =>
          rw [hov] at hf
          simp only [Option.bind_some] at hf
          obtain ⟨h2, h3⟩ := overAt_some _ _ hov
          have hl1 := hcells.len
          have hl2 := hv.len
          have hsz : off + v.cells.toList.length ≤ cells.size := by simp at hl2; omega
          have hrun := set_run off v.cells.toList 0 cells (by simpa using hsz)
          have hv1 : VL (VA φ) us1 (v.cells.zipIdx.foldl (fun cs p => cs.setIfInBounds (off + p.2) p.1) cells).toList := by
            rw [← Array.foldl_toList, Array.toList_zipIdx, hrun, h3, hl1]
            simp only [Nat.add_zero]
            exact (hv.take_ off).app (hcells.app (hv.drop_ _))
          obtain ⟨cells', h4, h5⟩ := fill_ok hrest hv1 hf
          refine ⟨cells', ?_, h5⟩
          simp only [Instr.fill, hpl]
          have hx1 : v.cells.toList.length = v.cells.size := by simp
          have hA : v.cells.size = size := by omega
          have hB : ¬ off + v.cells.size > cells.size := by omega
          rw [if_neg (by simp [hA]; simp at hB; omega)]
          exact h4
      · cases hf
  | [], _ :: _, _, _, _, h, _, _ => h.elim
  | _ :: _, [], _, _, _, h, _, _ => h.elim

theorem PL.mk {ρ ρ' : Operand → Value} : ∀ {l : List (Nat × Operand)}, (∀ x ∈ l, VC φ (ρ x.2) (ρ' x.2)) → PL φ (l.map fun p => (p.1, ρ p.2)) (l.map fun p => (p.1, ρ' p.2))
  | [], _ => trivial
  | x :: l, hx => ⟨⟨rfl, hx x (by simp)⟩, PL.mk fun y hy => hx y (by simp [hy])⟩

theorem mBuild_ok {t : TypeId} {ps : List (Nat × Value)} {ps' : Array (Nat × Value)} (hp : PL φ ps ps'.toList) (he : mBuild P t ps h n = some e) (hb : HB h n) : Good P φ h n w S e ((Instr.build t ps').run P w) := by
  unfold mBuild at he
  have fin : ∀ {z us' : List Value} {cells' : Array Value}, P.built t ps'.toList = some cells' → VL (VA φ) us' cells'.toList → mV (.agg ⟨us'⟩) h n = some e → Good P φ h n w S e ((Instr.build t ps').run P w) := by
    intro z us' cells' h1 h2 h3
    rw [run_build w t ps' cells' h1]
    exact mV_ok (show VC φ (.agg ⟨us'⟩) (.agg cells') from ⟨cells', rfl, h2⟩) h3 hb
  cases hz : tyZero P t with
  | none => rw [hz] at he; simp at he
  | some z =>
    obtain ⟨i, v, hi, hiz, hvz, hf⟩ := zero_of hz
    cases hpl : tyFields P t with
    | some places =>
      rw [hz, hpl] at he
      simp only at he
      obtain ⟨fields, hu, hm⟩ := fields_of hpl
      cases hfl : fillL (lget places) z ps with
      | none => rw [hfl] at he; cases he
      | some us' =>
        rw [hfl] at he
        have hpl' : (lget places : Nat → Option (Nat × Nat)) = (places.toArray[·]?) := by funext i; rw [lget_eq]; simp
        rw [hpl'] at hfl
        obtain ⟨cells', h1, h2⟩ := fill_ok hp (cells := v.cells) (by rw [hvz]; exact VL.flat_refl hf) hfl
        refine fin (z := z) ?_ h2 he
        unfold Program.built
        rw [hi, hu]
        simp only [hiz]
        have hm' : (fields.toList.mapM fun f => (P.info? f.type).map fun i => (f.offset, i.size)) = some places := by
          rw [← hm]
          congr 1
          funext f
          unfold tySize
          cases P.info? f.type <;> rfl
        rw [hm']
        exact h1
    | none =>
      cases harr : tyArr P t with
      | none => rw [hz, hpl, harr] at he; simp at he
      | some p =>
        obtain ⟨a, size⟩ := p
        rw [hz, hpl, harr] at he
        simp only at he
        obtain ⟨el, hu, hs⟩ := arr_of harr
        obtain ⟨inf, hinf, hsz⟩ := size_of hs
        simp only at hsz
        cases hfl : fillL (fun i => some (i * size, size)) z ps with
        | none => rw [hfl] at he; cases he
        | some us' =>
          rw [hfl] at he
          obtain ⟨cells', h1, h2⟩ := fill_ok hp (cells := v.cells) (by rw [hvz]; exact VL.flat_refl hf) hfl
          refine fin (z := z) ?_ h2 he
          unfold Program.built
          rw [hi, hu]
          simp only [hiz, hinf, hsz]
          exact h1
end
end Go.Proofs.Ytgdokjfjmcleeaa.Ce
