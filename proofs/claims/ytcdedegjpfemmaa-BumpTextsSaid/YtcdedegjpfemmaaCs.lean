/- The evaluator of closed calls: each operation but calls of functions. No program in sight. -/
import Derived.Test.YtcdedegjpfemmaaCq
namespace Go.Proofs.Ytcdedegjpfemmaa.Ce
open Go.RowKit
set_option linter.unusedVariables false
set_option linter.unusedSimpArgs false

def Done (P : Program) (φ : Mp) (h : Hp) (n : Nat) (w : World) (S : Nat) (e : Ef) (r : Result Next) : Prop :=
  ∃ w' φ', ((∃ v', r = .ok (.value v') w' ∧ VC φ' e.v v') ∨ (r = .ok .skip w' ∧ e.v = undef)) ∧ PO P φ φ' h e.h n e.n (· ∈ e.wr) w w' S ∧ HB e.h e.n

section
variable {P : Program} {φ : Mp} {h : Hp} {n : Nat} {w : World} {S : Nat} {e : Ef}
theorem Good.done {s : Sem Value} (hg : Good P φ h n w S e (s.run P w)) : Done P φ h n w S e ((do pure (Next.value (← s)) : Sem Next).run P w) := by
  obtain ⟨v', w', φ', h1, h2, h3, h4⟩ := hg
  exact ⟨w', φ', .inl ⟨v', by rw [Sem.run_bind, h1]; rfl, h2⟩, h3, h4⟩
theorem GoodU.done {s : Sem Unit} (hg : GoodU P φ h n w S e (s.run P w)) : Done P φ h n w S e ((do s; pure Next.skip : Sem Next).run P w) := by
  obtain ⟨w', φ', h1, h2, h3, h4⟩ := hg
  exact ⟨w', φ', .inr ⟨by rw [Sem.run_bind, h1]; rfl, h2⟩, h3, h4⟩
theorem Good.pure_ {v : Value} (hg : Good P φ h n w S e (.ok v w)) : Done P φ h n w S e ((pure (Next.value v) : Sem Next).run P w) := by
  obtain ⟨v', w', φ', h1, h2, h3, h4⟩ := hg
  injection h1 with h1 h5
  subst h1; subst h5
  exact ⟨w, φ', .inl ⟨v, rfl, h2⟩, h3, h4⟩

theorem cells_of {t : TypeId} {x x' : Value} (hx : VC φ x x') (he : mNew P t x.cells.toList h n = some e) : x.cells.toList.all cok = true := by
  unfold mNew at he
  simp only [cond_eq_ite, Bool.and_eq_true] at he
  split at he
  · rename_i hc; exact hc.1
  · cases he

theorem opt_ok {ρ ρ' : Operand → Value} {o : Option Operand} (ho : ∀ x, o = some x → VC φ (ρ x) (ρ' x)) : (∀ v, o.map ρ = some v → ∃ v', o.map ρ' = some v' ∧ VC φ v v') ∧ (o.map ρ = none → o.map ρ' = none) := by
  cases o with
  | none => exact ⟨fun v hv => (by cases hv), fun _ => rfl⟩
  | some x => exact ⟨fun v hv => (by injection hv with hv; subst hv; exact ⟨_, rfl, ho x rfl⟩), fun hv => (by cases hv)⟩

theorem VB_of {u v : Value} (hf : vbk u = true) (hv : VC φ u v) : VB φ u v := by
  cases u <;> first | exact hv | (simp [vbk] at hf; done)
theorem VL_of {ρ ρ' : Operand → Value} : ∀ {l : List Operand}, (l.map ρ).all vbk = true → (∀ x ∈ l, VC φ (ρ x) (ρ' x)) → VL (VB φ) (l.map ρ) (l.map ρ')
  | [], _, _ => trivial
  | a :: l, hf, hv => by
    simp only [List.map_cons, List.all_cons, Bool.and_eq_true] at hf
    exact ⟨VB_of hf.1 (hv a (by simp)), VL_of hf.2 fun x hx => hv x (by simp [hx])⟩

theorem builtin_ok {lim cl : Nat} {F : CallE} {b : Builtin} {l : List Operand} {ts : List TypeId} {ρ ρ' : Operand → Value} {type : TypeId} {consts : Array Bool}
    (hev : ∀ x ∈ l, VC φ (ρ x) (ρ' x)) (he : mBuiltin P lim b (l.map ρ) ts h n = some e) (ht : Tou P φ h w S e) (hb : HB h n) (hφ : n < e.n → φ n = none) (hS : S ≤ w.heap.size) :
    Done P φ h n w S e ((builtin b ⟨ts⟩ type consts ⟨l.map ρ'⟩).run P w) := by
  unfold mBuiltin at he
  generalize hl : l.map ρ = lv at he
  split at he
  · rename_i x t
    obtain ⟨a, rfl⟩ : ∃ a, l = [a] := by
      cases l with
      | nil => simp at hl
      | cons a l => cases l with
        | nil => exact ⟨a, rfl⟩
        | cons b l => simp at hl
    simp at hl
    subst hl
    exact (mLen_ok (ty := type) (hev a (by simp)) he hb).done
  · rename_i s x t t2
    obtain ⟨a, b, rfl⟩ : ∃ a b, l = [a, b] := by
      cases l with
      | nil => simp at hl
      | cons a l => cases l with
        | nil => simp at hl
        | cons b l => cases l with
          | nil => exact ⟨a, b, rfl⟩
          | cons c l => simp at hl
    simp at hl
    obtain ⟨rfl, rfl⟩ := hl
    exact (mAppend_ok (ty := type) (hev a (by simp)) (hev b (by simp)) he ht hb hφ hS).done
  · rename_i s x t t2
    obtain ⟨a, b, rfl⟩ : ∃ a b, l = [a, b] := by
      cases l with
      | nil => simp at hl
      | cons a l => cases l with
        | nil => simp at hl
        | cons b l => cases l with
          | nil => exact ⟨a, b, rfl⟩
          | cons c l => simp at hl
    simp at hl
    obtain ⟨rfl, rfl⟩ := hl
    exact (mCopy_ok (ty := type) (hev a (by simp)) (hev b (by simp)) he ht hb).done
  · rename_i x y
    obtain ⟨a, b, rfl⟩ : ∃ a b, l = [a, b] := by
      cases l with
      | nil => simp at hl
      | cons a l => cases l with
        | nil => simp at hl
        | cons b l => cases l with
          | nil => exact ⟨a, b, rfl⟩
          | cons c l => simp at hl
    simp at hl
    obtain ⟨rfl, rfl⟩ := hl
    have := (mMax_ok (P := P) (w := w) (S := S) (b := true) (t := 0) (ty := type) (ts := ⟨ts⟩) (hev a (by simp)) (hev b (by simp)) he hb)
    exact Good.done (s := Builtin.max_ ⟨ts⟩ type #[ρ' a, ρ' b]) this
  · rename_i x y
    obtain ⟨a, b, rfl⟩ : ∃ a b, l = [a, b] := by
      cases l with
      | nil => simp at hl
      | cons a l => cases l with
        | nil => simp at hl
        | cons b l => cases l with
          | nil => exact ⟨a, b, rfl⟩
          | cons c l => simp at hl
    simp at hl
    obtain ⟨rfl, rfl⟩ := hl
    have := (mMax_ok (P := P) (w := w) (S := S) (b := false) (t := 0) (ty := type) (ts := ⟨ts⟩) (hev a (by simp)) (hev b (by simp)) he hb)
    exact Good.done (s := Builtin.min_ ⟨ts⟩ type #[ρ' a, ρ' b]) this
  · cases he

/-- Any operation but a call of a function. -/
theorem aop_ok {F : CallE} {lim cl : Nat} {o : Oper} {ρ ρ' : Operand → Value} (hnc : isCall o.op = false) (hev : ∀ x ∈ o.op.operands, VC φ (ρ x) (ρ' x)) (he : aop o.op P F lim cl ρ h n = some e)
    (ht : Tou P φ h w S e) (hb : HB h n) (hφ : n < e.n → φ n = none) (hS : S ≤ w.heap.size) : Done P φ h n w S e ((execOp ρ' o).run P w) := by
  obtain ⟨dst, op, type, pos, after, guard⟩ := o
  simp only at hnc hev he
  cases op with
  | move x => exact (mV_ok (hev x (by simp [Op.operands])) he hb).pure_
  | assign x => exact (mV_ok (hev x (by simp [Op.operands])) he hb).pure_
  | pick c a b =>
    obtain ⟨t, h1, h2⟩ := mPick_ok (P := P) (w := w) (S := S) (hev c (by simp [Op.operands])) (hev a (by simp [Op.operands])) (hev b (by simp [Op.operands])) he hb
    have hrun : (execOp ρ' { dst := dst, op := .pick c a b, type := type, pos := pos, after := after, guard := guard }).run P w = (pure (Next.value (if t then ρ' a else ρ' b)) : Sem Next).run P w := by
      simp [execOp, h1, asBool]
    rw [hrun]
    exact h2.pure_
  | alloc t => exact (mAlloc_ok he hb hφ hS).done
  | box t x =>
    have hx := hev x (by simp [Op.operands])
    have := mNew_ok (P := P) (w := w) (S := S) (hx.cells (cells_of hx he)) he hb hφ hS
    have hrun := run_box (P := P) (w := w) (t := t) (v := ρ' x)
    refine Good.done (s := Instr.box t (ρ' x)) ?_
    rw [hrun]
    exact this
  | build t parts =>
    have hp : PL φ (parts.toList.map fun p => (p.1, ρ p.2)) (parts.map fun (i, x) => (i, ρ' x)).toList := by
      rw [Array.toList_map]
      exact PL.mk fun x hx => hev x.2 (by simp only [Op.operands]; simp; exact ⟨x.1, by simpa using hx⟩)
    exact (mBuild_ok hp he hb).done
  | buildSlice t len parts =>
    have hp : PL φ (parts.toList.map fun p => (p.1, ρ p.2)) (parts.map fun (i, x) => (i, ρ' x)).toList := by
      rw [Array.toList_map]
      exact PL.mk fun x hx => hev x.2 (by simp only [Op.operands]; simp; exact ⟨x.1, by simpa using hx⟩)
    exact (mBuildSlice_ok hp he hb hφ hS).done
  | load t x => exact (mLoad_ok (hev x (by simp [Op.operands])) he ht hb).done
  | store t x y => exact (mStore_ok (hev x (by simp [Op.operands])) (hev y (by simp [Op.operands])) he ht hb).done
  | binOp op t x y yt => exact (mBin_ok (hev x (by simp [Op.operands])) (hev y (by simp [Op.operands])) he hb).done
  | unOp op t x => exact (mUn_ok (hev x (by simp [Op.operands])) he hb).done
  | convert src dst x => exact (mConvert_ok (hev x (by simp [Op.operands])) he ht hb hφ hS).done
  | makeMap t r =>
    cases r with
    | none => exact (mMakeMap_ok he hb hφ hS).done
    | some r => cases he
  | makeSlice t l c => exact (mMakeSlice_ok (hev l (by simp [Op.operands])) (hev c (by simp [Op.operands])) he hb hφ hS).done
  | slice t x lo hi mx =>
    cases mx with
    | some m => cases he
    | none =>
      obtain ⟨l1, l2⟩ := opt_ok (φ := φ) (ρ := ρ) (ρ' := ρ') (o := lo) (fun y hy => hev y (by subst hy; simp [Op.operands]))
      obtain ⟨h1, h2⟩ := opt_ok (φ := φ) (ρ := ρ) (ρ' := ρ') (o := hi) (fun y hy => hev y (by subst hy; simp [Op.operands]))
      exact (mSlice_ok (hev x (by simp [Op.operands])) l1 l2 h1 h2 he hb).done
  | fieldAddr s x f => exact (mFieldAddr_ok (hev x (by simp [Op.operands])) he hb).done
  | indexAddr t x ix => exact (mIndexAddr_ok (hev x (by simp [Op.operands])) (hev ix (by simp [Op.operands])) he hb).done
  | index t x ix => exact (mIndex_ok (hev x (by simp [Op.operands])) (hev ix (by simp [Op.operands])) he hb).done
  | lookup t m k ok => exact (mLookup_ok (hev m (by simp [Op.operands])) (hev k (by simp [Op.operands])) he ht hb).done
  | mapUpdate t m k x => exact (mMapUpdate_ok (hev m (by simp [Op.operands])) (hev k (by simp [Op.operands])) (hev x (by simp [Op.operands])) he ht hb).done
  | extract x i => exact (mExtract_ok (hev x (by simp [Op.operands])) he hb).done
  | makeFunc fn first captured =>
    change mFunc fn (first.toList.map ρ) (captured.toList.map ρ) h n = some e at he
    unfold mFunc at he
    simp only [cond_eq_ite, Bool.and_eq_true] at he
    split at he
    · rename_i hc
      have h1 := VL_of (φ := φ) (ρ' := ρ') hc.1 fun x hx => hev x (by simp [Op.operands]; left; simpa using hx)
      have h2 := VL_of (φ := φ) (ρ' := ρ') hc.2 fun x hx => hev x (by simp [Op.operands]; right; simpa using hx)
      refine (mV_ok (v' := .func fn (first.map ρ') (captured.map ρ')) ?_ he hb).pure_
      exact ⟨_, _, rfl, by rw [Array.toList_map]; exact h1, by rw [Array.toList_map]; exact h2⟩
    · cases he
  | call c =>
    obtain ⟨callee, ⟨args⟩, ⟨ts⟩⟩ := c
    cases callee with
    | value f => simp [isCall] at hnc
    | invoke r m => cases he
    | builtin b =>
      have hrun : (execOp ρ' { dst := dst, op := .call { callee := .builtin b, args := ⟨args⟩, argTypes := ⟨ts⟩ }, type := type, pos := pos, after := after, guard := guard }).run P w =
          (builtin b ⟨ts⟩ type ((⟨args⟩ : Array Operand).map fun | .const _ => true | _ => false) ⟨args.map ρ'⟩).run P w := by
        simp [execOp, resolve, invoke]
        rfl
      rw [hrun]
      exact builtin_ok (lim := lim) (cl := cl) (F := F) (fun x hx => hev x (by simp [Op.operands, Call.operands]; exact hx)) he ht hb hφ hS
  | _ => cases he
end
end Go.Proofs.Ytcdedegjpfemmaa.Ce
