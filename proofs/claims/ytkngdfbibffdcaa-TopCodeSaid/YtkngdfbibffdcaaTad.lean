/- Parts of the proof of TopCode: Cs. No condition of its own. -/
import Derived.Below
import Derived.Laws.Externs
import Derived.Test.YtkngdfbibffdcaaTac
set_option linter.unusedVariables false
set_option linter.unusedSimpArgs false
set_option maxRecDepth 100000
set_option maxHeartbeats 4000000
namespace Go.Proofs.Ytkngdfbibffdcaa.Ce
open Go.RowKit
def Done (P : Program) (φ : Mp) (h : Hp) (n : Nat) (w : World) (S : Nat) (e : Ef) (r : Result Next) : Prop :=
  ∃ w' φ', ((∃ v', r = .ok (.value v') w' ∧ VC φ' e.v v') ∨ (r = .ok .skip w' ∧ e.v = undef)) ∧ PO P φ φ' h e.h n e.n (· ∈ e.wr) w w' S ∧ HB e.h e.n
section
variable {P : Program} {φ : Mp} {h : Hp} {n : Nat} {w : World} {S : Nat} {e : Ef}
theorem Good.done {s : Sem Value} (hg : Good P φ h n w S e (s.run P w)) : Done P φ h n w S e ((do pure (Next.value (← s)) : Sem Next).run P w) := by
  obtain ⟨v', w', φ', h1, h2, h3, h4⟩ := hg
  exact ⟨w', φ', .inl ⟨v', by rw [Sem.run_bind, h1]; rfl, h2⟩, h3, h4⟩
theorem GoodU.done {s : Sem Unit} (hg : GoodU P φ h n w S e (s.run P w)) : Done P φ h n w S e ((do s; pure Next.skip : Sem Next).run P w) := by
  obtain ⟨w', φ', h1, h2, h3, h4⟩ := hg
  exact ⟨w', φ', .inr ⟨by rw [Sem.run_bind, h1]; rfl, h2⟩, h3, h4⟩
theorem Good.pure_ {v : Value} (hg : Good P φ h n w S e (.ok v w)) : Done P φ h n w S e ((pure (Next.value v) : Sem Next).run P w) := by
  obtain ⟨v', w', φ', h1, h2, h3, h4⟩ := hg
  injection h1 with h1 h5
  subst h1; subst h5
  exact ⟨w, φ', .inl ⟨v, rfl, h2⟩, h3, h4⟩
theorem cells_of {t : TypeId} {x x' : Value} (hx : VC φ x x') (he : mNew P t x.cells.toList h n = some e) : x.cells.toList.all cok = true := by
  unfold mNew at he
  simp only [cond_eq_ite, Bool.and_eq_true] at he
  split at he
  · rename_i hc; exact hc.1
  · cases he
theorem opt_ok {ρ ρ' : Operand → Value} {o : Option Operand} (ho : ∀ x, o = some x → VC φ (ρ x) (ρ' x)) : (∀ v, o.map ρ = some v → ∃ v', o.map ρ' = some v' ∧ VC φ v v') ∧ (o.map ρ = none → o.map ρ' = none) := by
  cases o with
  | none => exact ⟨fun v hv => (by cases hv), fun _ => rfl⟩
  | some x => exact ⟨fun v hv => (by injection hv with hv; subst hv; exact ⟨_, rfl, ho x rfl⟩), fun hv => (by cases hv)⟩
theorem VB_of {u v : Value} (hf : vbk u = true) (hv : VC φ u v) : VB φ u v := by
  cases u <;> first | exact hv | (simp [vbk] at hf; done)
theorem VL_of {ρ ρ' : Operand → Value} : ∀ {l : List Operand}, (l.map ρ).all vbk = true → (∀ x ∈ l, VC φ (ρ x) (ρ' x)) → VL (VB φ) (l.map ρ) (l.map ρ')
  | [], _, _ => trivial
  | a :: l, hf, hv => by
    simp only [List.map_cons, List.all_cons, Bool.and_eq_true] at hf
    exact ⟨VB_of hf.1 (hv a (by simp)), VL_of hf.2 fun x hx => hv x (by simp [hx])⟩
theorem builtin_ok {lim cl : Nat} {F : CallE} {b : Builtin} {l : List Operand} {ts : List TypeId} {ρ ρ' : Operand → Value} {type : TypeId} {consts : Array Bool}
    (hev : ∀ x ∈ l, VC φ (ρ x) (ρ' x)) (he : mBuiltin P lim b (l.map ρ) ts h n = some e) (ht : Tou P φ h w S e) (hb : HB h n) (hφ : n < e.n → φ n = none) (hS : S ≤ w.heap.size) :
    Done P φ h n w S e ((builtin b ⟨ts⟩ type consts ⟨l.map ρ'⟩).run P w) := by
  unfold mBuiltin at he
  generalize hl : l.map ρ = lv at he
  split at he
  · rename_i x t
    obtain ⟨a, rfl⟩ : ∃ a, l = [a] := by
      cases l with
      | nil => simp at hl
      | cons a l => cases l with
        | nil => exact ⟨a, rfl⟩
        | cons b l => simp at hl
    simp at hl
    subst hl
    exact (mLen_ok (ty := type) (hev a (by simp)) he hb).done
  · rename_i s x t t2
    obtain ⟨a, b, rfl⟩ : ∃ a b, l = [a, b] := by
      cases l with
      | nil => simp at hl
      | cons a l => cases l with
        | nil => simp at hl
        | cons b l => cases l with
          | nil => exact ⟨a, b, rfl⟩
          | cons c l => simp at hl
    simp at hl
    obtain ⟨rfl, rfl⟩ := hl
    exact (mAppend_ok (ty := type) (hev a (by simp)) (hev b (by simp)) he ht hb hφ hS).done
  · rename_i s x t t2
    obtain ⟨a, b, rfl⟩ : ∃ a b, l = [a, b] := by
      cases l with
      | nil => simp at hl
      | cons a l => cases l with
        | nil => simp at hl
        | cons b l => cases l with
          | nil => exact ⟨a, b, rfl⟩
          | cons c l => simp at hl
    simp at hl
    obtain ⟨rfl, rfl⟩ := hl
    exact (mCopy_ok (ty := type) (hev a (by simp)) (hev b (by simp)) he ht hb).done
  · rename_i x y
    obtain ⟨a, b, rfl⟩ : ∃ a b, l = [a, b] := by
      cases l with
      | nil => simp at hl
      | cons a l => cases l with
        | nil => simp at hl
        | cons b l => cases l with
          | nil => exact ⟨a, b, rfl⟩
          | cons c l => simp at hl
    simp at hl
    obtain ⟨rfl, rfl⟩ := hl
    have := (mMax_ok (P := P) (w := w) (S := S) (b := true) (t := 0) (ty := type) (ts := ⟨ts⟩) (hev a (by simp)) (hev b (by simp)) he hb)
    exact Good.done (s := Builtin.max_ ⟨ts⟩ type #[ρ' a, ρ' b]) this
  · rename_i x y
    obtain ⟨a, b, rfl⟩ : ∃ a b, l = [a, b] := by
      cases l with
      | nil => simp at hl
      | cons a l => cases l with
        | nil => simp at hl
        | cons b l => cases l with
          | nil => exact ⟨a, b, rfl⟩
          | cons c l => simp at hl
    simp at hl
    obtain ⟨rfl, rfl⟩ := hl
    have := (mMax_ok (P := P) (w := w) (S := S) (b := false) (t := 0) (ty := type) (ts := ⟨ts⟩) (hev a (by simp)) (hev b (by simp)) he hb)
    exact Good.done (s := Builtin.min_ ⟨ts⟩ type #[ρ' a, ρ' b]) this
  · cases he
theorem aop_ok {F : CallE} {lim cl : Nat} {o : Oper} {ρ ρ' : Operand → Value} (hnc : isCall o.op = false) (hev : ∀ x ∈ o.op.operands, VC φ (ρ x) (ρ' x)) (he : aop o.op P F lim cl ρ h n = some e)
    (ht : Tou P φ h w S e) (hb : HB h n) (hφ : n < e.n → φ n = none) (hS : S ≤ w.heap.size) : Done P φ h n w S e ((execOp ρ' o).run P w) := by
  obtain ⟨dst, op, type, pos, after, guard⟩ := o
  simp only at hnc hev he
  cases op with
  | move x => exact (mV_ok (hev x (by simp [Op.operands])) he hb).pure_
  | assign x => exact (mV_ok (hev x (by simp [Op.operands])) he hb).pure_
  | pick c a b =>
    obtain ⟨t, h1, h2⟩ := mPick_ok (P := P) (w := w) (S := S) (hev c (by simp [Op.operands])) (hev a (by simp [Op.operands])) (hev b (by simp [Op.operands])) he hb
    have hrun : (execOp ρ' { dst := dst, op := .pick c a b, type := type, pos := pos, after := after, guard := guard }).run P w = (pure (Next.value (if t then ρ' a else ρ' b)) : Sem Next).run P w := by
      simp [execOp, h1, asBool]
    rw [hrun]
    exact h2.pure_
  | alloc t => exact (mAlloc_ok he hb hφ hS).done
  | box t x =>
    have hx := hev x (by simp [Op.operands])
    have := mNew_ok (P := P) (w := w) (S := S) (hx.cells (cells_of hx he)) he hb hφ hS
    have hrun := run_box (P := P) (w := w) (t := t) (v := ρ' x)
    refine Good.done (s := Instr.box t (ρ' x)) ?_
    rw [hrun]
    exact this
  | build t parts =>
    have hp : PL φ (parts.toList.map fun p => (p.1, ρ p.2)) (parts.map fun (i, x) => (i, ρ' x)).toList := by
      rw [Array.toList_map]
      exact PL.mk fun x hx => hev x.2 (by simp only [Op.operands]; simp; exact ⟨x.1, by simpa using hx⟩)
    exact (mBuild_ok hp he hb).done
  | buildSlice t len parts =>
    have hp : PL φ (parts.toList.map fun p => (p.1, ρ p.2)) (parts.map fun (i, x) => (i, ρ' x)).toList := by
      rw [Array.toList_map]
      exact PL.mk fun x hx => hev x.2 (by simp only [Op.operands]; simp; exact ⟨x.1, by simpa using hx⟩)
    exact (mBuildSlice_ok hp he hb hφ hS).done
  | load t x => exact (mLoad_ok (hev x (by simp [Op.operands])) he ht hb).done
  | store t x y => exact (mStore_ok (hev x (by simp [Op.operands])) (hev y (by simp [Op.operands])) he ht hb).done
  | binOp op t x y yt => exact (mBin_ok (hev x (by simp [Op.operands])) (hev y (by simp [Op.operands])) he hb).done
  | unOp op t x => exact (mUn_ok (hev x (by simp [Op.operands])) he hb).done
  | convert src dst x => exact (mConvert_ok (hev x (by simp [Op.operands])) he ht hb hφ hS).done
  | makeMap t r =>
    cases r with
    | none => exact (mMakeMap_ok he hb hφ hS).done
    | some r => cases he
  | makeSlice t l c => exact (mMakeSlice_ok (hev l (by simp [Op.operands])) (hev c (by simp [Op.operands])) he hb hφ hS).done
  | slice t x lo hi mx =>
    cases mx with
    | some m => cases he
    | none =>
      obtain ⟨l1, l2⟩ := opt_ok (φ := φ) (ρ := ρ) (ρ' := ρ') (o := lo) (fun y hy => hev y (by subst hy; simp [Op.operands]))
      obtain ⟨h1, h2⟩ := opt_ok (φ := φ) (ρ := ρ) (ρ' := ρ') (o := hi) (fun y hy => hev y (by subst hy; simp [Op.operands]))
      exact (mSlice_ok (hev x (by simp [Op.operands])) l1 l2 h1 h2 he hb).done
  | fieldAddr s x f => exact (mFieldAddr_ok (hev x (by simp [Op.operands])) he hb).done
  | indexAddr t x ix => exact (mIndexAddr_ok (hev x (by simp [Op.operands])) (hev ix (by simp [Op.operands])) he hb).done
  | index t x ix => exact (mIndex_ok (hev x (by simp [Op.operands])) (hev ix (by simp [Op.operands])) he hb).done
  | lookup t m k ok => exact (mLookup_ok (hev m (by simp [Op.operands])) (hev k (by simp [Op.operands])) he ht hb).done
  | mapUpdate t m k x => exact (mMapUpdate_ok (hev m (by simp [Op.operands])) (hev k (by simp [Op.operands])) (hev x (by simp [Op.operands])) he ht hb).done
  | extract x i => exact (mExtract_ok (hev x (by simp [Op.operands])) he hb).done
  | makeFunc fn first captured =>
    change mFunc fn (first.toList.map ρ) (captured.toList.map ρ) h n = some e at he
    unfold mFunc at he
    simp only [cond_eq_ite, Bool.and_eq_true] at he
    split at he
    · rename_i hc
      have h1 := VL_of (φ := φ) (ρ' := ρ') hc.1 fun x hx => hev x (by simp [Op.operands]; left; simpa using hx)
      have h2 := VL_of (φ := φ) (ρ' := ρ') hc.2 fun x hx => hev x (by simp [Op.operands]; right; simpa using hx)
      refine (mV_ok (v' := .func fn (first.map ρ') (captured.map ρ')) ?_ he hb).pure_
      exact ⟨_, _, rfl, by rw [Array.toList_map]; exact h1, by rw [Array.toList_map]; exact h2⟩
    · cases he
  | call c =>
    obtain ⟨callee, ⟨args⟩, ⟨ts⟩⟩ := c
    cases callee with
    | value f => simp [isCall] at hnc
    | invoke r m => cases he
    | builtin b =>
      have hrun : (execOp ρ' { dst := dst, op := .call { callee := .builtin b, args := ⟨args⟩, argTypes := ⟨ts⟩ }, type := type, pos := pos, after := after, guard := guard }).run P w =
          (builtin b ⟨ts⟩ type ((⟨args⟩ : Array Operand).map fun | .const _ => true | _ => false) ⟨args.map ρ'⟩).run P w := by
        simp [execOp, resolve, invoke]
        rfl
      rw [hrun]
      exact builtin_ok (lim := lim) (cl := cl) (F := F) (fun x hx => hev x (by simp [Op.operands, Call.operands]; exact hx)) he ht hb hφ hS
  | _ => cases he
end
end Go.Proofs.Ytkngdfbibffdcaa.Ce
namespace Go.Proofs.Ytkngdfbibffdcaa.Ce
open Go.RowKit
structure MemR (P : Program) (φ : Mp) (h : Hp) (n : Nat) (w : World) (S : Nat) : Prop where
  fn : ∀ id, n ≤ id → φ id = none
  obj : ∀ id g c, φ id = some (g, c) → ObjR P φ (h.get id) w g c ∧ S ≤ g ∧ g < w.heap.size
  inj : ∀ id id' g c c', id < id' → φ id = some (g, c) → φ id' = some (g, c') → h.get id = none
  hb : HB h n
  hS : S ≤ w.heap.size
structure Fr (φ φ' : Mp) (h h' : Hp) (n n' : Nat) (Wr : Nat → Prop) (w w' : World) : Prop where
  ext : ∀ id, (id < n ∨ n' ≤ id) → φ' id = φ id
  fr : ∀ g, g < w.heap.size → (∀ id c, id < n → Wr id → h.get id ≠ none → φ id ≠ some (g, c)) → w'.heap[g]? = w.heap[g]?
  keep : ∀ id, id < n → ¬ Wr id → h'.get id = h.get id
  new : ∀ id g c, n ≤ id → id < n' → φ' id = some (g, c) → w.heap.size ≤ g ∨ ∃ id0 c0, id0 < n ∧ Wr id0 ∧ φ id0 = some (g, c0) ∧ h.get id0 ≠ none ∧ h'.get id0 = none
  injn : ∀ id id' g c c', n ≤ id → id < id' → id' < n' → φ' id = some (g, c) → φ' id' = some (g, c') → h'.get id = none
  dd : ∀ id, id < n → h.get id = none → h'.get id = none
  un : ∀ id, id < n → φ id = none → h'.get id = h.get id
  nle : n ≤ n'
  sz : w.heap.size ≤ w'.heap.size
  os : w'.os = w.os
  tape : w'.tape = w.tape
  output : w'.output = w.output
section
variable {P : Program} {φ φ' φ2 : Mp} {h h' h2 : Hp} {n n' n2 : Nat} {w w' w2 : World} {S : Nat} {Wr Wr' : Nat → Prop}
theorem PO.toFr (p : PO P φ φ' h h' n n' Wr w w' S) : Fr φ φ' h h' n n' Wr w w' :=
  ⟨p.ext, p.fr, p.keep, p.new, p.injn, p.dd, p.un, p.nle, p.sz, p.os, p.tape, p.output⟩
theorem Fr.weaken (p : Fr φ φ' h h' n n' Wr w w') (hw : ∀ id, id < n → Wr id → Wr' id) : Fr φ φ' h h' n n' Wr' w w' :=
  ⟨p.ext, fun g hg hh => p.fr g hg fun id c h1 h2 h3 => hh id c h1 (hw id h1 h2) h3, fun id h1 h2 => p.keep id h1 fun h3 => h2 (hw id h1 h3),
    fun id g c h1 h2 h3 => (p.new id g c h1 h2 h3).imp_right fun ⟨id0, c0, a, b, r⟩ => ⟨id0, c0, a, hw _ a b, r⟩, p.injn, p.dd, p.un, p.nle, p.sz, p.os, p.tape, p.output⟩
theorem Fr.refl (φ : Mp) (h : Hp) (n : Nat) (w : World) : Fr φ φ h h n n Wr w w :=
  ⟨fun _ _ => rfl, fun _ _ _ => rfl, fun _ _ _ => rfl, fun id g c h1 h2 => by omega, fun id id' g c c' h1 h2 => by omega, fun _ _ hd => hd, fun _ _ _ => rfl, Nat.le_refl _, Nat.le_refl _, rfl, rfl, rfl⟩
theorem Fr.le (p : Fr φ φ' h h' n n' Wr w w') (hf : ∀ id, n ≤ id → φ id = none) : le_ φ φ' := fun id q hq => by
  rcases Nat.lt_or_ge id n with h1 | h1
  · rw [p.ext id (.inl h1)]; exact hq
  · rw [hf id h1] at hq; cases hq
theorem Fr.trans (p : Fr φ φ' h h' n n' Wr w w') (q : Fr φ' φ2 h' h2 n' n2 Wr' w' w2) (hw : ∀ id, id < n → Wr' id → Wr id) (m : MemR P φ' h' n' w' S) : Fr φ φ2 h h2 n n2 Wr w w2 := by
  have hn := p.nle
  have hn2 := q.nle
  have hal : ∀ id, id < n → h'.get id ≠ none → h.get id ≠ none := fun id h1 h2 h3 => h2 (p.dd id h1 h3)
  -- a block of the middle that is in the old heap is an old one that was written, or not written now
  refine ⟨fun id hid => ?_, fun g hg1 hh => ?_, fun id h1 h2 => ?_, fun id g c h1 h2 h3 => ?_, fun id id' g c c' h1 h2 h3 h4 h5 => ?_, fun id h1 h2 => ?_, fun id h1 h2 => ?_, by omega, Nat.le_trans p.sz q.sz, q.os.trans p.os, q.tape.trans p.tape, q.output.trans p.output⟩
  · rcases hid with h1 | h1
    · rw [q.ext id (.inl (by omega)), p.ext id (.inl h1)]
    · rw [q.ext id (.inr h1), p.ext id (.inr (by omega))]
  · have e1 := p.fr g hg1 hh
    rw [← e1]
    refine q.fr g (Nat.lt_of_lt_of_le hg1 p.sz) fun id c h1 h2 h3 h4 => ?_
    rcases Nat.lt_or_ge id n with h5 | h5
    · rw [p.ext id (.inl h5)] at h4
      exact hh id c h5 (hw id h5 h2) (hal id h5 h3) h4
    · rcases p.new id g c h5 h1 h4 with h6 | ⟨id0, c0, a, b, r, s, t⟩
      · omega
      · exact hh id0 c0 a b s r
  · rw [q.keep id (by omega) fun h3 => h2 (hw id h1 h3), p.keep id h1 h2]
  · rcases Nat.lt_or_ge id n' with h4 | h4
    · rw [q.ext id (.inl h4)] at h3
      rcases p.new id g c h1 h4 h3 with h6 | ⟨id0, c0, a, b, r, s, t⟩
      · exact .inl h6
      · exact .inr ⟨id0, c0, a, b, r, s, q.dd id0 (by omega) t⟩
    · rcases q.new id g c h4 h2 h3 with h6 | ⟨id0, c0, a, b, r, s, t⟩
      · exact .inl (Nat.le_trans p.sz h6)
      · rcases Nat.lt_or_ge id0 n with h5 | h5
        · rw [p.ext id0 (.inl h5)] at r
          exact .inr ⟨id0, c0, h5, hw _ h5 b, r, hal id0 h5 s, t⟩
        · rcases p.new id0 g c0 h5 a r with h6 | ⟨id1, c1, a1, b1, r1, s1, t1⟩
          · exact .inl h6
          · exact .inr ⟨id1, c1, a1, b1, r1, s1, q.dd id1 (by omega) t1⟩
  · rcases Nat.lt_or_ge id' n' with h6 | h6
    · rw [q.ext id (.inl (by omega))] at h4
      rw [q.ext id' (.inl h6)] at h5
      exact q.dd id (by omega) (p.injn id id' g c c' h1 h2 h6 h4 h5)
    · rcases Nat.lt_or_ge id n' with h7 | h7
      · rw [q.ext id (.inl h7)] at h4
        -- id of the middle, id' of the last
        rcases q.new id' g c' h6 h3 h5 with h8 | ⟨id0, c0, a, b, r, s, t⟩
        · have := (m.obj id g c h4).2.2
          omega
        · rcases Nat.lt_trichotomy id id0 with h9 | h9 | h9
          · exact q.dd id h7 (m.inj id id0 g c c0 h9 h4 r)
          · rw [h9]; exact t
          · exact absurd (m.inj id0 id g c0 c h9 r h4) s
      · exact q.injn id id' g c c' h7 h2 h3 h4 h5
  · exact q.dd id (by omega) (p.dd id h1 h2)
  · rw [q.un id (by omega) (by rw [p.ext id (.inl h1)]; exact h2), p.un id h1 h2]
theorem MemR.step (m : MemR P φ h n w S) (p : Fr φ φ' h h' n n' Wr w w') (hb : HB h' n')
    (ho : ∀ id g c, (id < n ∧ Wr id ∨ n ≤ id ∧ id < n') → φ' id = some (g, c) → ObjR P φ' (h'.get id) w' g c ∧ S ≤ g ∧ g < w'.heap.size) : MemR P φ' h' n' w' S := by
  have hle := p.le m.fn
  refine ⟨fun id h1 => ?_, fun id g c h1 => ?_, fun id id' g c c' h1 h2 h3 => ?_, hb, Nat.le_trans m.hS p.sz⟩
  · rw [p.ext id (.inr h1)]
    exact m.fn id (Nat.le_trans p.nle h1)
  · rcases Nat.lt_or_ge id n' with h2 | h2
    · by_cases h3 : id < n ∧ ¬ Wr id
      · have h4 : φ id = some (g, c) := by rw [← p.ext id (.inl h3.1)]; exact h1
        obtain ⟨h5, h6, h7⟩ := m.obj id g c h4
        refine ⟨?_, h6, Nat.lt_of_lt_of_le h7 p.sz⟩
        rw [p.keep id h3.1 h3.2]
        by_cases hd : h.get id = none
        · rw [hd]; trivial
        · refine h5.mono hle (p.fr g h7 fun id0 c0 a b r hp => ?_)
          rcases Nat.lt_trichotomy id id0 with h9 | h9 | h9
          · exact hd (m.inj id id0 g c c0 h9 h4 hp)
          · exact h3.2 (h9 ▸ b)
          · exact r (m.inj id0 id g c0 c h9 hp h4)
      · refine ho id g c ?_ h1
        rcases Nat.lt_or_ge id n with h4 | h4
        · exact .inl ⟨h4, Classical.not_not.1 fun h5 => h3 ⟨h4, h5⟩⟩
        · exact .inr ⟨h4, h2⟩
    · rw [p.ext id (.inr h2), m.fn id (Nat.le_trans p.nle h2)] at h1
      cases h1
  · rcases Nat.lt_or_ge id' n with h4 | h4
    · rw [p.ext id (.inl (by omega))] at h2
      rw [p.ext id' (.inl h4)] at h3
      exact p.dd id (by omega) (m.inj id id' g c c' h1 h2 h3)
    · rcases Nat.lt_or_ge id' n' with h5 | h5
      · rcases Nat.lt_or_ge id n with h6 | h6
        · rw [p.ext id (.inl h6)] at h2
          rcases p.new id' g c' h4 h5 h3 with h8 | ⟨id0, c0, a, b, r, s, t⟩
          · have := (m.obj id g c h2).2.2
            omega
          · rcases Nat.lt_trichotomy id id0 with h9 | h9 | h9
            · exact p.dd id h6 (m.inj id id0 g c c0 h9 h2 r)
            · rw [h9]; exact t
            · exact absurd (m.inj id0 id g c0 c h9 r h2) s
        · exact p.injn id id' g c c' h6 h1 h5 h2 h3
      · rw [p.ext id' (.inr h5), m.fn id' h4] at h3
        cases h3
theorem MemR.po (m : MemR P φ h n w S) (p : PO P φ φ' h h' n n' Wr w w' S) (hb : HB h' n') : MemR P φ' h' n' w' S := m.step p.toFr hb p.objn
theorem MemR.tou {e : Ef} (m : MemR P φ h n w S) : Tou P φ h w S e := fun id g c _ h1 => m.obj id g c h1
def SoundF (P : Program) (F : CallE) : Prop :=
  ∀ cl g args h n v h' n', F cl g args h n = some (v, h', n') → goodF P g ≠ none → cl ≤ n → ∀ φ w S (cargs : List Value), VL (VC φ) args cargs → MemR P φ h n w S →
    Calls P g ⟨cargs⟩ w fun e w' => ∃ v' φ', e = .returned v' ∧ VC φ' v v' ∧ Fr φ φ' h h' n n' (fun id => cl ≤ id) w w' ∧ MemR P φ' h' n' w' S
def TR (φ : Mp) (a : List Value) (t : Array Value) : Prop := a.length = t.size ∧ ∀ k, VC φ ((lget a k).getD undef) (t.getD k undef)
theorem TR.mono {a : List Value} {t : Array Value} (hle : le_ φ φ') (ht : TR φ a t) : TR φ' a t := ⟨ht.1, fun k => (ht.2 k).mono hle⟩
theorem lev_ok {a : List Value} {b : Act} {x : Operand} (ht : ∀ k, x = .tmp k → VC φ ((lget a k).getD undef) (b.tmps.getD k undef)) : VC φ (lev a x) (b.eval x) := by
  cases x with
  | tmp t => exact ht t rfl
  | const v =>
    show VC φ (bif scal v then v else wild) v
    cases hs : scal v with
    | false => exact VC.wild _
    | true =>
      show VC φ v v
      cases v with
      | agg cs => exact ⟨cs, rfl, VL.flat_refl hs⟩
      | _ => exact VB.vc (VA.vb (VA.flat hs))
  | global g => exact VC.wild _
  | func f => exact ⟨_, _, rfl, trivial, trivial⟩
theorem TR.lev {a : List Value} {b : Act} (ht : TR φ a b.tmps) (x : Operand) : VC φ (lev a x) (b.eval x) := lev_ok fun k _ => ht.2 k
theorem put_len (a : List Value) (d : Option Tmp) (v : Value) : (put a d v).length = a.length := by
  cases d with
  | none => rfl
  | some d => show (lset v d a).length = _; rw [lset_eq]; simp
theorem put_ne {a : List Value} {d : Option Tmp} {t : Tmp} (v : Value) (h : d ≠ some t) : lget (put a d v) t = lget a t := by
  cases d with
  | none => rfl
  | some d =>
    show lget (lset v d a) t = _
    rw [lset_eq, lget_eq, lget_eq, List.getElem?_set_ne (fun e => h (by rw [e]))]
theorem Act.put_ne {b : Act} {d : Option Tmp} {t : Tmp} (v : Value) (h : d ≠ some t) : (b.put d v).tmps.getD t undef = b.tmps.getD t undef := by
  cases d with
  | none => rfl
  | some d => simp [Act.put, Array.getElem?_setIfInBounds_ne (fun e => h (by rw [e]) : d ≠ t)]
theorem Act.put_size (b : Act) (d : Option Tmp) (v : Value) : (b.put d v).tmps.size = b.tmps.size := by cases d <;> simp [Act.put]
theorem put_eq {a : List Value} {b : Act} {t : Tmp} {v v' : Value} (hlen : a.length = b.tmps.size) (hv : VC φ v v') : VC φ ((lget (Ce.put a (some t) v) t).getD undef) ((b.put (some t) v').tmps.getD t undef) := by
  show VC φ ((lget (lset v t a) t).getD undef) ((b.tmps.setIfInBounds t v').getD t undef)
  rw [lset_eq, lget_eq, List.getElem?_set]
  by_cases hlt : t < a.length
  · have hlt' : t < b.tmps.size := Nat.lt_of_lt_of_eq hlt hlen
    simp [hlt, hlt']
    exact hv
  · have hlt' : ¬ t < b.tmps.size := fun h => hlt (Nat.lt_of_lt_of_eq h hlen.symm)
    simp [hlt, hlt']
    exact VC.undef_
theorem TR.put {a : List Value} {b : Act} {v v' : Value} (ht : TR φ a b.tmps) (dst : Option Tmp) (hv : VC φ v v') : TR φ (put a dst v) (b.put dst v').tmps := by
  cases dst with
  | none => exact ht
  | some d =>
    show TR φ (lset v d a) (b.tmps.setIfInBounds d v')
    rw [lset_eq]
    refine ⟨by simp [ht.1], fun k => ?_⟩
    have h1 := ht.2 k
    rw [lget_eq] at h1 ⊢
    rw [List.getElem?_set]
    by_cases hk : d = k
    · subst hk
      have hsz := ht.1
      by_cases hlt : d < a.length
      · have hlt' : d < b.tmps.size := Nat.lt_of_lt_of_eq hlt hsz
        simp [hlt, hlt']
        exact hv
      · have hlt' : ¬ d < b.tmps.size := fun h => hlt (Nat.lt_of_lt_of_eq h hsz.symm)
        simp [hlt, hlt']
        exact VC.undef_
    · simpa [hk, Array.getElem?_setIfInBounds_ne hk] using h1
theorem wants_ok {a : List Value} {b : Act} {ops : Array Oper} {o : Oper} {t : Bool} (hlen : a.length = b.tmps.size) (ht : ∀ g want d, o.guard = some (g, want) → (ops[g]?).bind (·.dst) = some d → VC φ ((lget a d).getD undef) (b.tmps.getD d undef))
    (hw : wants ops.toList o a = some t) : Region.wanted o (yielded ops b.tmps) = t := by
  unfold Ce.wants at hw
  unfold Region.wanted
  cases hg : o.guard with
  | none => rw [hg] at hw; injection hw
  | some gw =>
    obtain ⟨g, want⟩ := gw
    rw [hg] at hw
    simp only [lget_eq, Array.getElem?_toList] at hw
    show (yielded ops b.tmps g == some want) = t
    unfold yielded
    cases hd : (ops[g]?).bind (·.dst) with
    | none => rw [hd] at hw; injection hw with hw
    | some d =>
      rw [hd] at hw
      dsimp only at hw
      have h1 := ht g want d hg hd
      rw [lget_eq] at h1
      simp only [Option.bind_some]
      cases ha : a[d]? with
      | none =>
        rw [ha] at hw
        injection hw with hw
        subst hw
        have : b.tmps[d]? = none := by
          have := hlen
          rw [List.getElem?_eq_none_iff] at ha
          exact Array.getElem?_eq_none (by omega)
        rw [this]
        simp
      | some u =>
        rw [ha] at hw h1
        obtain ⟨u', hu'⟩ : ∃ u', b.tmps[d]? = some u' := by
          have := hlen
          have h2 := (List.getElem?_eq_some_iff.1 ha).1
          exact ⟨b.tmps[d], Array.getElem?_eq_getElem (by omega)⟩
        rw [hu']
        have h1 : VC φ u u' := by simpa [hu'] using h1
        cases u' with
        | bool c =>
          rcases h1.of_bool with rfl | ⟨c, rfl⟩
          · injection hw with hw
          · cases hw
        | _ =>
          have hnb : ∀ c, u ≠ .bool c := fun c hc => by subst hc; cases h1.bool
          cases u with
          | bool c => exact absurd rfl (hnb c)
          | chan c => cases hw
          | _ => injection hw
theorem TR.wants {a : List Value} {b : Act} {ops : Array Oper} {o : Oper} {t : Bool} (ht : TR φ a b.tmps) (hw : wants ops.toList o a = some t) : Region.wanted o (yielded ops b.tmps) = t :=
  wants_ok ht.1 (fun _ _ d _ _ => ht.2 d) hw
end
end Go.Proofs.Ytkngdfbibffdcaa.Ce
namespace Go.Proofs.Ytkngdfbibffdcaa.Ce
open Go.RowKit
section
variable {P : Program} {F : CallE} {φ : Mp} {h : Hp} {n : Nat} {w : World} {S : Nat} {e : Ef}
theorem goodF_some {g : FuncId} {x : Code × Nat × List ResultVar} (hg : goodF P g = some x) : ∃ fn, P.funcs[g]? = some fn ∧ (fn.name == "runtime.NumGoroutine") = false ∧ fn.body = some x.1 ∧ fn.ntmps = x.2.1 ∧ fn.results.toList = x.2.2 := by
  unfold goodF at hg
  cases hf : P.funcs[g]? with
  | none => rw [hf] at hg; cases hg
  | some fn =>
    rw [hf] at hg
    dsimp only at hg
    split at hg
    · rename_i hn
      obtain ⟨c, h1, h2⟩ := map_some hg
      subst h2
      exact ⟨fn, rfl, by simpa [bne] using hn, h1, rfl, rfl⟩
    · cases hg
theorem run_callFunc {g : FuncId} {x : Code × Nat × List ResultVar} (hg : goodF P g = some x) (args : Array Value) : (callFunc g args).run P w = .ok (.enter g args) w := by
  obtain ⟨fn, h1, h2, h3, -, -⟩ := goodF_some hg
  have hp : (program).run P w = .ok P w := rfl
  have h2' : ¬ fn.name = "runtime.NumGoroutine" := by simpa using h2
  simp [callFunc, hp, h1, h2', h3]
theorem isIB_some {g : FuncId} (hg : isIB P g = true) : ∃ fn, P.funcs[g]? = some fn ∧ fn.name = "internal/bytealg.IndexByteString" ∧ fn.body.isNone = true ∧ Extern.findNext fn = none := by
  unfold isIB at hg
  split at hg
  · rename_i fn hf
    simp only [Bool.and_eq_true, beq_iff_eq, Option.isNone_iff_eq_none] at hg
    exact ⟨fn, hf, hg.1.1, by rw [hg.1.2]; rfl, hg.2⟩
  · cases hg
theorem run_IB {g : FuncId} (hg : isIB P g = true) (b : ByteArray) (c : Int) (w : World) : (callFunc g #[.string b, .int .u8 c]).run P w = .ok (.value (.int .i64 (Go.Lib.indexByte b.data.toList c.toNat.toUInt8))) w := by
  obtain ⟨fn, hf, hn, hb, hx⟩ := isIB_some hg
  have he : Extern.find fn = some Extern.BytealgIndexByte.indexByte := by
    unfold Extern.find
    rw [hn]
    kernel_rfl
  rw [run_callFunc_extern hf (by rw [hn]; kernel_rfl) hb hx he, Go.Lib.run_indexByteString]
  rfl
theorem callF_some {cl : Nat} {u : Value} {args : List Value} (he : callF P F cl u args h n = some e) :
    ∃ g first cap, u = .func (.func g) first cap ∧ first.toList = [] ∧ ((∃ x v h' n', goodF P g = some x ∧ F cl g (args ++ cap.toList) h n = some (v, h', n') ∧ e = ⟨v, h', n', [], []⟩) ∨
      ∃ b c, isIB P g = true ∧ args ++ cap.toList = [.string b, .int .u8 c] ∧ e = ⟨.int .i64 (Go.Lib.indexByte b.data.toList c.toNat.toUInt8), h, n, [], []⟩) := by
  cases u with
  | func fn first cap =>
    cases fn with
    | func g =>
      unfold callF at he
      dsimp only at he
      cases hfst : first.toList with
      | cons y ys => rw [hfst] at he; cases he
      | nil =>
        rw [hfst] at he
        dsimp only at he
        refine ⟨g, first, cap, rfl, hfst, ?_⟩
        obtain ⟨ar, har⟩ : ∃ ar, args ++ cap.toList = ar := ⟨_, rfl⟩
        rw [har] at he ⊢
        cases hg : goodF P g with
        | none =>
          rw [hg] at he
          dsimp only at he
          cases hib : isIB P g with
          | false => rw [hib] at he; cases he
          | true =>
            rw [hib, cond_true] at he
            unfold mIB at he
            split at he
            · rename_i b c
              injection he with he
              exact .inr ⟨b, c, rfl, rfl, he.symm⟩
            · cases he
        | some x =>
          rw [hg] at he
          dsimp only at he
          cases hr : F cl g ar h n with
          | none => rw [hr] at he; cases he
          | some r =>
            rw [hr] at he
            injection he with he
            exact .inl ⟨x, r.1, r.2.1, r.2.2, rfl, rfl, he.symm⟩
    | _ => cases he
  | _ => cases he
theorem aop_wp (hF : SoundF P F) {lim cl : Nat} {o : Oper} {a : Act} {ρ : Operand → Value} {K : Act → World → Prop} {Q : Exit → Act → World → Prop}
    (he : aop o.op P F lim cl ρ h n = some e) (hcl : cl ≤ n) (hev : ∀ x ∈ o.op.operands, VC φ (ρ x) (a.eval x)) (ht : Tou P φ h w S e) (hmem : isCall o.op = true → MemR P φ h n w S)
    (hb : HB h n) (hfr : ∀ id, n ≤ id → φ id = none) (hS : S ≤ w.heap.size)
    (hK : ∀ v' w' φ', VC φ' e.v v' → PO P φ φ' h e.h n e.n (fun id => id ∈ e.wr ∨ isCall o.op = true ∧ cl ≤ id) w w' S → HB e.h e.n → K (a.put o.dst v') w') : o.wp P a w K Q := by
  unfold Oper.wp
  cases hc : isCall o.op with
  | false =>
    have hWr : (fun id => id ∈ e.wr ∨ isCall o.op = true ∧ cl ≤ id) = (· ∈ e.wr) := by funext id; simp [hc]
    rw [hWr] at hK
    obtain ⟨w', φ', h1, h2, h3⟩ := aop_ok (F := F) (lim := lim) (cl := cl) hc hev he ht hb (fun _ => hfr n (Nat.le_refl _)) hS
    rcases h1 with ⟨v', hr, hv⟩ | ⟨hr, hv⟩
    · rw [hr]; exact hK v' w' φ' hv h2 h3
    · rw [hr]; exact hK undef w' φ' (by rw [hv]; exact VC.undef_) h2 h3
  | true =>
    obtain ⟨dst, op, type, pos, after, guard⟩ := o
    simp only at hc hev he hmem hK ⊢
    cases op with
    | call c =>
      obtain ⟨callee, ⟨args⟩, ⟨ts⟩⟩ := c
      cases callee with
      | value f =>
        change callF P F cl (ρ f) (args.map ρ) h n = some e at he
        obtain ⟨g, first, cap, hf, hfst, hcase⟩ := callF_some he
        have hvf := hev f (by simp [Op.operands, Call.operands])
        rw [hf] at hvf
        obtain ⟨a', b', hvf, hv1, hv2⟩ := hvf
        have ha' : a' = #[] := by
          rw [hfst] at hv1
          have := hv1.len
          simpa using this.symm
        subst ha'
        have hargs : VL (VC φ) (args.map ρ ++ cap.toList) (args.map a.eval ++ b'.toList) := by
          refine VL.app (VL.map_ fun x hx => hev x (by simp [Op.operands, Call.operands]; exact .inr hx)) (hv2.imp_ fun _ _ hh => hh.vc)
        have hex : ∀ nx, (callFunc g (((⟨args⟩ : Array Operand).map a.eval) ++ b')).run P w = .ok nx w → (execOp a.eval { dst := dst, op := .call { callee := .value f, args := ⟨args⟩, argTypes := ⟨ts⟩ }, type := type, pos := pos, after := after, guard := guard }).run P w = .ok nx w := by
          intro nx hcf
          simp [execOp, resolve, invoke, Deferred.ofValue, hvf]
          simp at hcf
          rw [hcf]
        rcases hcase with ⟨x, v, h', n', hg, hr, he⟩ | ⟨sb, sc, hib, hvals, he⟩
        case inr =>
          subst he
          rw [hvals] at hargs
          have hcv : args.map a.eval ++ b'.toList = [.string sb, .int .u8 sc] := by
            generalize args.map a.eval ++ b'.toList = cv at hargs
            match cv, hargs with
            | [y, z], hargs =>
              have h1 : y = .string sb := VC.str hargs.1
              have h2 : z = .int .u8 sc := VC.int hargs.2.1
              rw [h1, h2]
          have hrun := hex _ (by
            rw [show ((⟨args⟩ : Array Operand).map a.eval) ++ b' = #[.string sb, .int .u8 sc] from by
              apply Array.ext'
              simpa using hcv]
            exact run_IB hib sb sc w)
          rw [hrun]
          exact hK _ w φ (VB.vc (VA.vb (VA.flat rfl))) ⟨fun _ _ => rfl, fun _ _ _ => rfl, fun _ _ _ => rfl, fun id g c _ hp => (hmem rfl).obj id g c hp, fun id g c h1 h2 => absurd h2 (Nat.not_lt.2 h1), fun id id' g c c' h1 h2 h3 => absurd h3 (Nat.not_lt.2 (Nat.le_trans h1 (Nat.le_of_lt h2))), fun _ _ hh => hh, fun _ _ _ => rfl, Nat.le_refl _, Nat.le_refl _, rfl, rfl, rfl⟩ hb
        subst he
        have hrun : (execOp a.eval { dst := dst, op := .call { callee := .value f, args := ⟨args⟩, argTypes := ⟨ts⟩ }, type := type, pos := pos, after := after, guard := guard }).run P w =
            .ok (.enter g ⟨args.map a.eval ++ b'.toList⟩) w := by
          have hcf := run_callFunc (w := w) hg (((⟨args⟩ : Array Operand).map a.eval) ++ b')
          simp [execOp, resolve, invoke, Deferred.ofValue, hvf]
          simp at hcf
          rw [hcf]
          simp
        rw [hrun]
        rw [Oper.upon_enter]
        refine Calls.mono (hF cl g _ h n v h' n' hr (by rw [hg]; simp) hcl φ w S _ hargs (hmem rfl)) fun e w' hh => ?_
        obtain ⟨v', φ', rfl, h1, h2, h3⟩ := hh
        refine hK v' w' φ' h1 ?_ h3.hb
        have hWr : (fun id => id ∈ ([] : List Nat) ∨ true = true ∧ cl ≤ id) = fun id => cl ≤ id := by funext id; simp
        show PO P φ φ' h h' n n' (fun id => id ∈ ([] : List Nat) ∨ true = true ∧ cl ≤ id) w w' S
        rw [hWr]
        exact ⟨h2.ext, h2.fr, h2.keep, fun id g c _ hp => h3.obj id g c hp, h2.new, h2.injn, h2.dd, h2.un, h2.nle, h2.sz, h2.os, h2.tape, h2.output⟩
      | _ => simp [isCall] at hc
    | _ => simp [isCall] at hc
end
end Go.Proofs.Ytkngdfbibffdcaa.Ce
