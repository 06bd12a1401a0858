/- Parts of the proof of TopCode: Sn. No condition of its own. -/
import Derived.Test.YtkngdfbibffdcaaTah
set_option linter.unusedVariables false
set_option linter.unusedSimpArgs false
set_option maxRecDepth 100000
set_option maxHeartbeats 4000000
namespace Go.Proofs.Ytkngdfbibffdcaa.Ce
open Go.RowKit
section
variable {P : Program} {F : CallE} {lim cl : Nat} {ρ : Operand → Value} {h : Hp} {n : Nat}
-- an operation's word
theorem a_move (x : Operand) : aop (.move x) P F lim cl ρ h n = some ⟨ρ x, h, n, [], []⟩ := rfl
theorem a_assign (x : Operand) : aop (.assign x) P F lim cl ρ h n = some ⟨ρ x, h, n, [], []⟩ := rfl
theorem a_pick (c a b : Operand) : aop (.pick c a b) P F lim cl ρ h n = mPick (ρ c) (ρ a) (ρ b) h n := rfl
theorem a_alloc (e : TypeId) : aop (.alloc e) P F lim cl ρ h n = mAlloc P e h n := rfl
theorem a_box (e : TypeId) (x : Operand) : aop (.box e x) P F lim cl ρ h n = mNew P e (ρ x).cells.toList h n := rfl
theorem a_build (t : TypeId) (l : List (Nat × Operand)) : aop (.build t l.toArray) P F lim cl ρ h n = mBuild P t (l.map fun p => (p.1, ρ p.2)) h n := rfl
theorem a_buildSlice (t : TypeId) (len : Nat) (l : List (Nat × Operand)) : aop (.buildSlice t len l.toArray) P F lim cl ρ h n = mBuildSlice P t len (l.map fun p => (p.1, ρ p.2)) h n := rfl
theorem a_load (t : TypeId) (x : Operand) : aop (.load t x) P F lim cl ρ h n = mLoad P t (ρ x) h n := rfl
theorem a_store (t : TypeId) (x y : Operand) : aop (.store t x y) P F lim cl ρ h n = mStore P lim t (ρ x) (ρ y) h n := rfl
theorem a_bin (op : BinOp) (t : TypeId) (x y : Operand) (t2 : TypeId) : aop (.binOp op t x y t2) P F lim cl ρ h n = mBin P op t (ρ x) (ρ y) h n := rfl
theorem a_un (op : UnOp) (t : TypeId) (x : Operand) : aop (.unOp op t x) P F lim cl ρ h n = mUn P op (ρ x) h n := rfl
theorem a_convert (s t : TypeId) (x : Operand) : aop (.convert s t x) P F lim cl ρ h n = mConvert P s t (ρ x) h n := rfl
theorem a_func (fn : Fn) (a b : List Operand) : aop (.makeFunc fn a.toArray b.toArray) P F lim cl ρ h n = mFunc fn (a.map ρ) (b.map ρ) h n := rfl
theorem a_makeMap (t : TypeId) : aop (.makeMap t none) P F lim cl ρ h n = mMakeMap h n := rfl
theorem a_makeSlice (t : TypeId) (x y : Operand) : aop (.makeSlice t x y) P F lim cl ρ h n = mMakeSlice P t (ρ x) (ρ y) h n := rfl
theorem a_slice (t : TypeId) (x : Operand) (lo hi : Option Operand) : aop (.slice t x lo hi none) P F lim cl ρ h n = mSlice P t (ρ x) (lo.map ρ) (hi.map ρ) h n := rfl
theorem a_fieldAddr (t : TypeId) (x : Operand) (i : Nat) : aop (.fieldAddr t x i) P F lim cl ρ h n = mFieldAddr P t (ρ x) i h n := rfl
theorem a_indexAddr (t : TypeId) (x y : Operand) : aop (.indexAddr t x y) P F lim cl ρ h n = mIndexAddr P t (ρ x) (ρ y) h n := rfl
theorem a_index (t : TypeId) (x y : Operand) : aop (.index t x y) P F lim cl ρ h n = mIndex P t (ρ x) (ρ y) h n := rfl
theorem a_lookup (t : TypeId) (x y : Operand) (ok : Bool) : aop (.lookup t x y ok) P F lim cl ρ h n = mLookup P t (ρ x) (ρ y) ok h n := rfl
theorem a_mapUpdate (t : TypeId) (x y z : Operand) : aop (.mapUpdate t x y z) P F lim cl ρ h n = mMapUpdate P lim t (ρ x) (ρ y) (ρ z) h n := rfl
theorem a_extract (x : Operand) (i : Nat) : aop (.extract x i) P F lim cl ρ h n = mExtract (ρ x) i h n := rfl
theorem a_len (x : Operand) (t : TypeId) : aop (.call ⟨.builtin .len, #[x], #[t]⟩) P F lim cl ρ h n = mLen P t (ρ x) h n := rfl
theorem a_append (s x : Operand) (t t2 : TypeId) : aop (.call ⟨.builtin .append, #[s, x], #[t, t2]⟩) P F lim cl ρ h n = mAppend P lim t t2 (ρ s) (ρ x) h n := rfl
theorem a_copy (s x : Operand) (t t2 : TypeId) : aop (.call ⟨.builtin .copy, #[s, x], #[t, t2]⟩) P F lim cl ρ h n = mCopy P lim t (ρ s) (ρ x) h n := rfl
theorem a_max (s x : Operand) (ts : Array TypeId) : aop (.call ⟨.builtin .max, #[s, x], ts⟩) P F lim cl ρ h n = mMax true (ρ s) (ρ x) h n := by
  obtain ⟨l⟩ := ts
  match l with
  | [] => rfl
  | [_] => rfl
  | [_, _] => rfl
  | _ :: _ :: _ :: _ => rfl
theorem a_min (s x : Operand) (ts : Array TypeId) : aop (.call ⟨.builtin .min, #[s, x], ts⟩) P F lim cl ρ h n = mMax false (ρ s) (ρ x) h n := by
  obtain ⟨l⟩ := ts
  match l with
  | [] => rfl
  | [_] => rfl
  | [_, _] => rfl
  | _ :: _ :: _ :: _ => rfl
-- numbers
variable {t : TypeId} {k : IntKind} {a b : Int}
theorem b_add : mBin P .add t (.int k a) (.int k b) h n = some ⟨.int k (k.wrap (a + b)), h, n, [], []⟩ := by cases k <;> rfl
theorem b_sub : mBin P .sub t (.int k a) (.int k b) h n = some ⟨.int k (k.wrap (a - b)), h, n, [], []⟩ := by cases k <;> rfl
theorem b_mul : mBin P .mul t (.int k a) (.int k b) h n = some ⟨.int k (k.wrap (a * b)), h, n, [], []⟩ := by cases k <;> rfl
theorem b_eql : mBin P .eql t (.int k a) (.int k b) h n = some ⟨.bool (a == b), h, n, [], []⟩ := by cases k <;> rfl
theorem b_neq : mBin P .neq t (.int k a) (.int k b) h n = some ⟨.bool (a != b), h, n, [], []⟩ := by cases k <;> rfl
theorem b_lss : mBin P .lss t (.int k a) (.int k b) h n = some ⟨.bool (decide (a < b)), h, n, [], []⟩ := by cases k <;> rfl
theorem b_leq : mBin P .leq t (.int k a) (.int k b) h n = some ⟨.bool (decide (a ≤ b)), h, n, [], []⟩ := by cases k <;> rfl
theorem b_gtr : mBin P .gtr t (.int k a) (.int k b) h n = some ⟨.bool (decide (a > b)), h, n, [], []⟩ := by cases k <;> rfl
theorem b_geq : mBin P .geq t (.int k a) (.int k b) h n = some ⟨.bool (decide (a ≥ b)), h, n, [], []⟩ := by cases k <;> rfl
theorem b_quo (hb : b ≠ 0) : mBin P .quo t (.int k a) (.int k b) h n = some ⟨.int k (k.wrap (a.tdiv b)), h, n, [], []⟩ := by
  have e : prun P (Op.intDiv .quo k a b) = some (.int k (k.wrap (a.tdiv b))) := by unfold Op.intDiv; rw [if_neg hb]; rfl
  cases k <;> (show (prun P (Op.intDiv .quo _ a b)).bind _ = _; rw [e]; rfl)
theorem b_rem (hb : b ≠ 0) : mBin P .rem t (.int k a) (.int k b) h n = some ⟨.int k (a.tmod b), h, n, [], []⟩ := by
  have e : prun P (Op.intDiv .rem k a b) = some (.int k (a.tmod b)) := by unfold Op.intDiv; rw [if_neg hb]; rfl
  cases k <;> (show (prun P (Op.intDiv .rem _ a b)).bind _ = _; rw [e]; rfl)
theorem b_shl {k2 : IntKind} (hb : 0 ≤ b) : mBin P .shl t (.int k a) (.int k2 b) h n = some ⟨.int k (k.wrap (a * 2 ^ (min b.toNat k.bits))), h, n, [], []⟩ := by
  have e : prun P (Op.shift .shl k a k2 b) = some (.int k (k.wrap (a * 2 ^ (min b.toNat k.bits)))) := by unfold Op.shift; rw [if_neg (by omega)]; rfl
  show (prun P (Op.shift .shl k a k2 b)).bind _ = _; rw [e]; rfl
theorem b_shr {k2 : IntKind} (hb : 0 ≤ b) : mBin P .shr t (.int k a) (.int k2 b) h n = some ⟨.int k (a.fdiv (2 ^ (min b.toNat k.bits))), h, n, [], []⟩ := by
  have e : prun P (Op.shift .shr k a k2 b) = some (.int k (a.fdiv (2 ^ (min b.toNat k.bits)))) := by unfold Op.shift; rw [if_neg (by omega)]; rfl
  show (prun P (Op.shift .shr k a k2 b)).bind _ = _; rw [e]; rfl
theorem b_shl8 {k2 : IntKind} : mBin P .shl t (.int .u64 a) (.int k2 8) h n = some ⟨.int .u64 (IntKind.wrap .u64 (a * 256)), h, n, [], []⟩ := by
  rw [b_shl (by decide)]; rfl
theorem b_or8 (h0 : 0 ≤ a) (h1 : a < 72057594037927936) (h2 : 0 ≤ b) (h3 : b < 256) : mBin P .or t (.int .u64 (a * 256)) (.int .u64 b) h n = some ⟨.int .u64 (a * 256 + b), h, n, [], []⟩ := by
  obtain ⟨x, rfl⟩ := Int.eq_ofNat_of_zero_le h0
  obtain ⟨y, rfl⟩ := Int.eq_ofNat_of_zero_le h2
  have e : ibits P .or Nat.lor .u64 (.ofNat (x * 256)) (.ofNat y) = some (.int .u64 (.ofNat (Nat.lor (x * 256) y))) := by
    show (bif Nat.blt (x * 256) 18446744073709551616 && Nat.blt y 18446744073709551616 then some (Value.int .u64 (.ofNat (Nat.lor (x * 256) y))) else none) = _
    have b1 : Nat.blt (x * 256) 18446744073709551616 = true := by rw [Nat.blt_eq]; omega
    have b2 : Nat.blt y 18446744073709551616 = true := by rw [Nat.blt_eq]; omega
    rw [b1, b2]; rfl
  have e2 : Nat.lor (x * 256) y = x * 256 + y := by
    have := Nat.two_pow_add_eq_or_of_lt (i := 8) (b := y) (by omega) x
    rw [show (x * 256 : Nat) = 2 ^ 8 * x from by omega]
    exact this.symm
  have e3 : ((x : Int) * 256) = .ofNat (x * 256) := by simp
  rw [e3]
  show (ibits P .or Nat.lor .u64 (.ofNat (x * 256)) (.ofNat y)).bind _ = _
  rw [e, e2]
  show some _ = some _
  congr 1
theorem b_strEql {s u : ByteArray} : mBin P .eql t (.string s) (.string u) h n = some ⟨.bool (s.toList == u.toList), h, n, [], []⟩ := rfl
theorem b_strNeq {s u : ByteArray} : mBin P .neq t (.string s) (.string u) h n = some ⟨.bool !(s.toList == u.toList), h, n, [], []⟩ := rfl
theorem u_not {c : Bool} : mUn P .not (.bool c) h n = some ⟨.bool !c, h, n, [], []⟩ := by cases c <;> rfl
theorem p_pick {c : Bool} {x y : Value} : mPick (.bool c) x y h n = some ⟨bif c then x else y, h, n, [], []⟩ := rfl
theorem m_max : mMax true (.int k a) (.int k b) h n = some ⟨.int k (if b > a then b else a), h, n, [], []⟩ := rfl
theorem m_min : mMax false (.int k a) (.int k b) h n = some ⟨.int k (if b < a then b else a), h, n, [], []⟩ := rfl
theorem c_int {s t : TypeId} {k k2 : IntKind} (hs : (P.underlying s).isSome = true) (ht : tyInt P t = some k) : mConvert P s t (.int k2 a) h n = some ⟨.int k (k.wrap a), h, n, [], []⟩ := by
  obtain ⟨u, hu⟩ := Option.isSome_iff_exists.1 hs
  unfold mConvert
  dsimp only
  rw [hu, ht]
  rfl
theorem x_tuple {vs : List Value} {i : Nat} : mExtract (.tuple ⟨vs⟩) i h n = mVO (lget vs i) h n := rfl
theorem mVO_some {v : Value} : mVO (some v) h n = some ⟨v, h, n, [], []⟩ := rfl
theorem lget_zero {α : Type} (x : α) (l : List α) : lget (x :: l) 0 = some x := rfl
theorem lget_succ {α : Type} (x : α) (l : List α) (i : Nat) : lget (x :: l) (i + 1) = lget l i := rfl
-- memory
theorem rowOf_same (h : Hp) (id e : Nat) (ro : Bool) (cs : List Value) : rowOf (h.set id (.row e ro cs)) id = some (e, ro, cs) := by unfold rowOf; rw [Hp.get_same]; rfl
theorem rowOf_ne (h : Hp) {id id' : Nat} (x : AObj) (e : id' ≠ id) : rowOf (h.set id x) id' = rowOf h id' := by unfold rowOf; rw [Hp.get_ne _ _ e]
theorem rwOf_row {id e : Nat} {cs : List Value} (hr : rowOf h id = some (e, false, cs)) : rwOf h id = some (e, cs) := by unfold rwOf; rw [hr]; rfl
theorem cellAt_row {id off e : Nat} {ro : Bool} {cs : List Value} (hr : rowOf h id = some (e, ro, cs)) : cellAt h id off = lget cs off := by unfold cellAt; rw [hr]; rfl
theorem cellsAt_row {id off e k : Nat} {ro : Bool} {cs : List Value} (hr : rowOf h id = some (e, ro, cs)) : cellsAt h id off k = ltake k (ldrop off cs) := by unfold cellsAt; rw [hr]; rfl
theorem cellAt_same (h : Hp) (id off e : Nat) (ro : Bool) (cs : List Value) : cellAt (h.set id (.row e ro cs)) id off = lget cs off := cellAt_row (rowOf_same _ _ _ _ _)
theorem cellAt_ne (h : Hp) {id id' : Nat} (off : Nat) (x : AObj) (e : id' ≠ id) : cellAt (h.set id x) id' off = cellAt h id' off := by unfold cellAt; rw [rowOf_ne h x e]
theorem cellsAt_same (h : Hp) (id off k e : Nat) (ro : Bool) (cs : List Value) : cellsAt (h.set id (.row e ro cs)) id off k = ltake k (ldrop off cs) := cellsAt_row (rowOf_same _ _ _ _ _)
theorem cellsAt_ne (h : Hp) {id id' : Nat} (off k : Nat) (x : AObj) (e : id' ≠ id) : cellsAt (h.set id x) id' off k = cellsAt h id' off k := by unfold cellsAt; rw [rowOf_ne h x e]
theorem rwOf_same (h : Hp) (id e : Nat) (cs : List Value) : rwOf (h.set id (.row e false cs)) id = some (e, cs) := rwOf_row (rowOf_same _ _ _ _ _)
theorem rwOf_ne' (h : Hp) {id id' : Nat} (x : AObj) (e : id' ≠ id) : rwOf (h.set id x) id' = rwOf h id' := by unfold rwOf; rw [rowOf_ne h x e]
theorem ltake_zero {α : Type} (l : List α) : ltake 0 l = some [] := by cases l <;> rfl
theorem ltake_cons {α : Type} (m : Nat) (x : α) (l : List α) : ltake (m + 1) (x :: l) = (ltake m l).map (x :: ·) := by
  show (Option.rec none (fun r => some (x :: r)) (ltake m l) : Option (List α)) = _
  cases ltake m l <;> rfl
theorem ldrop_zero {α : Type} (l : List α) : ldrop 0 l = l := by cases l <;> rfl
theorem ldrop_cons {α : Type} (m : Nat) (x : α) (l : List α) : ldrop (m + 1) (x :: l) = ldrop m l := rfl
theorem ltake_of {α : Type} {k : Nat} : ∀ {l : List α}, k ≤ l.length → ltake k l = some (l.take k) := by
  induction k with
  | zero => intro l _; rw [ltake_zero]; rfl
  | succ k ih =>
    intro l hl
    cases l with
    | nil => simp at hl
    | cons x l => rw [ltake_cons, ih (by simpa using hl)]; rfl
theorem over_of {α : Type} : ∀ {vs l : List α}, vs.length ≤ l.length → over vs l = some (vs ++ l.drop vs.length)
  | [], l, _ => rfl
  | v :: vs, [], hl => by simp at hl
  | v :: vs, x :: l, hl => by
    show (Option.rec none (fun r => some (v :: r)) (over vs l) : Option (List α)) = _
    rw [over_of (by simpa using hl)]
    rfl
theorem overAt_of {α : Type} {vs : List α} : ∀ {off : Nat} {l : List α}, off + vs.length ≤ l.length → overAt off vs l = some (l.take off ++ (vs ++ l.drop (off + vs.length)))
  | 0, [], hl => by
    show over vs [] = _
    rw [over_of (by simpa using hl)]; simp
  | 0, x :: l, hl => by
    show over vs (x :: l) = _
    rw [over_of (by simpa using hl)]; simp
  | off + 1, [], hl => by simp at hl
  | off + 1, x :: l, hl => by
    show (Option.rec none (fun r => some (x :: r)) (overAt off vs l) : Option (List α)) = _
    rw [overAt_of (off := off) (l := l) (by simp at hl; omega)]
    simp [Nat.add_right_comm off 1 vs.length]
theorem overAt_one {α : Type} {v : α} {off : Nat} {l : List α} (hl : off < l.length) : overAt off [v] l = some (l.set off v) := by
  rw [overAt_of (by simp; omega), List.set_eq_take_append_cons_drop, if_pos hl]
  simp
theorem Hp.set_set (h : Hp) (id : Nat) (x y : AObj) : (h.set id x).set id y = h.set id y := by
  unfold Hp.set
  have key : ∀ (h : Hp) (id : Nat), pset none y id (pset none x id h) = pset none y id h := by
    intro h
    induction h with
    | nil =>
      intro id
      induction id with
      | zero => rfl
      | succ id ih => exact congrArg (none :: ·) ih
    | cons a h ih => intro id; cases id with
      | zero => rfl
      | succ id => exact congrArg (a :: ·) (ih id)
  exact key h id
theorem m_new {e m : Nat} {cs : List Value} (hs : tySize P e = some m) (hl : cs.length = m) (hc : cs.all cok = true) : mNew P e cs h n = some ⟨.pointer (some ⟨n, 0, none⟩), h.set n (.row e false cs), n + 1, [], []⟩ := by
  unfold mNew
  rw [hc, hs, hl]
  simp
theorem m_alloc {z : List Value} (hz : tyZero P t = some z) (hc : z.all cok = true) (hs : tySize P t = some z.length) : mAlloc P t h n = some ⟨.pointer (some ⟨n, 0, none⟩), h.set n (.row t false z), n + 1, [], []⟩ := by
  unfold mAlloc
  rw [hz]
  exact m_new hs rfl hc
theorem m_load1 {id off : Nat} (ht : tyAgg P t = some false) : mLoad P t (.pointer (some ⟨id, off, none⟩)) h n = (cellAt h id off).bind fun v => some ⟨v, h, n, [id], []⟩ := by
  unfold mLoad
  dsimp only
  rw [ht]
theorem m_loadA {id off k : Nat} (ht : tyAgg P t = some true) (hs : tySize P t = some k) : mLoad P t (.pointer (some ⟨id, off, none⟩)) h n = (cellsAt h id off k).bind fun cs => some ⟨.agg ⟨cs⟩, h, n, [id], []⟩ := by
  unfold mLoad
  dsimp only
  rw [ht, hs]
  rfl
theorem m_field {id off i p s : Nat} {fs : List (Nat × Nat)} (ht : tyFields P t = some fs) (hp : lget fs i = some (p, s)) (hs : Nat.blt 0 s = true) : mFieldAddr P t (.pointer (some ⟨id, off, none⟩)) i h n = some ⟨.pointer (some ⟨id, off + p, none⟩), h, n, [], []⟩ := by
  unfold mFieldAddr
  dsimp only
  rw [ht]
  simp only [Option.bind_some, hp, hs, cond_true]
  rfl
theorem wrap_i64 {x : Int} (h1 : -9223372036854775808 ≤ x) (h2 : x ≤ 9223372036854775807) : IntKind.wrap .i64 x = x := by rw [IntKind.wrap_i64]; omega
theorem wrap_u64 {x : Int} (h1 : 0 ≤ x) (h2 : x ≤ 18446744073709551615) : IntKind.wrap .u64 x = x := by rw [IntKind.wrap_u64]; omega
theorem wrap_u8 {x : Int} (h1 : 0 ≤ x) (h2 : x ≤ 255) : IntKind.wrap .u8 x = x := by rw [IntKind.wrap_u8]; omega
theorem tdiv_pos {a b : Int} (h : 0 ≤ a) : a.tdiv b = a / b := Int.tdiv_eq_ediv_of_nonneg h
theorem tmod_pos {a b : Int} (h : 0 ≤ a) : a.tmod b = a % b := Int.tmod_eq_emod_of_nonneg h
theorem c_int1 (k : IntKind) (i : Int) : (Value.int k i).cells.toList = [.int k i] := rfl
theorem c_bool1 (b : Bool) : (Value.bool b).cells.toList = [.bool b] := rfl
theorem c_str1 (s : ByteArray) : (Value.string s).cells.toList = [.string s] := rfl
theorem c_ptr1 (a : Option Addr) : (Value.pointer a).cells.toList = [.pointer a] := rfl
theorem c_sli1 (a : Option Addr) (m c : Nat) : (Value.slice a m c).cells.toList = [.slice a m c] := rfl
theorem c_map1 (a : Option Nat) : (Value.map a).cells.toList = [.map a] := rfl
theorem c_agg (l : List Value) : (Value.agg ⟨l⟩).cells.toList = l := rfl
theorem c_agg' (l : List Value) : (Value.agg l.toArray).cells.toList = l := rfl
theorem m_newq {e m : Nat} (hs : tySize P e = some m) {cs : List Value} : mNew P e cs h n = bif (cs.length == m) && cs.all cok then some ⟨.pointer (some ⟨n, 0, none⟩), h.set n (.row e false cs), n + 1, [], []⟩ else none := by
  unfold mNew
  rw [hs]
  have : (some m == some cs.length) = (cs.length == m) := by
    show (m == cs.length) = _
    rw [Bool.eq_iff_iff]; simp; omega
  rw [this, Bool.and_comm]
theorem m_st1 (hs : tySize P t = some 1) {id off : Nat} {y : Value} (hl : lim ≤ id) (hy : y.cells.toList = [y]) (hc : cok y = true) :
    mStore P lim t (.pointer (some ⟨id, off, none⟩)) y h n = (rwOf h id).bind fun r => (overAt off [y] r.2).bind fun cs' => some ⟨undef, h.set id (.row r.1 false cs'), n, [], [id]⟩ := by
  unfold mStore
  dsimp only
  have hl' : Nat.ble lim id = true := by rw [Nat.ble_eq]; exact hl
  rw [hs, hy, hl']
  simp [hc]
theorem m_stA {m : Nat} (hs : tySize P t = some m) {id off : Nat} {ys : List Value} (hl : lim ≤ id) :
    mStore P lim t (.pointer (some ⟨id, off, none⟩)) (.agg ⟨ys⟩) h n = bif (ys.length == m) && ys.all cok then (rwOf h id).bind fun r => (overAt off ys r.2).bind fun cs' => some ⟨undef, h.set id (.row r.1 false cs'), n, [], [id]⟩ else none := by
  unfold mStore
  dsimp only
  have hl' : Nat.ble lim id = true := by rw [Nat.ble_eq]; exact hl
  have e0 : (Value.agg ⟨ys⟩).cells.toList = ys := rfl
  have : (some m == some ys.length) = (ys.length == m) := by
    show (m == ys.length) = _
    rw [Bool.eq_iff_iff]; simp; omega
  rw [e0, hs, hl', this, Bool.true_and]
theorem cok_int (k : IntKind) (i : Int) : cok (.int k i) = true := rfl
theorem cok_bool (b : Bool) : cok (.bool b) = true := rfl
theorem cok_str (s : ByteArray) : cok (.string s) = true := rfl
theorem cok_ptr (a : Option Addr) : cok (.pointer a) = true := rfl
theorem cok_sli (a : Option Addr) (m c : Nat) : cok (.slice a m c) = true := rfl
theorem cok_map (a : Option Nat) : cok (.map a) = true := rfl
theorem overAt_zero (vs l : List Value) : overAt 0 vs l = over vs l := by cases l <;> rfl
theorem overAt_cons (k : Nat) (vs : List Value) (x : Value) (l : List Value) : overAt (k + 1) vs (x :: l) = (overAt k vs l).map (x :: ·) := by
  show (Option.rec none (fun r => some (x :: r)) (overAt k vs l) : Option (List Value)) = _
  cases overAt k vs l <;> rfl
theorem over_nil (l : List Value) : over [] l = some l := rfl
theorem over_cons (v x : Value) (vs l : List Value) : over (v :: vs) (x :: l) = (over vs l).map (v :: ·) := by
  show (Option.rec none (fun r => some (v :: r)) (over vs l) : Option (List Value)) = _
  cases over vs l <;> rfl
theorem m_ixArr {len s : Nat} (ht : tyArr P t = some (len, s)) {id off : Nat} {i : Int} (h0 : 0 ≤ i) (h1 : i < len) : mIndexAddr P t (.pointer (some ⟨id, off, none⟩)) (.int k i) h n = some ⟨.pointer (some ⟨id, off + i.toNat * s, none⟩), h, n, [], []⟩ := by
  obtain ⟨j, rfl⟩ := Int.eq_ofNat_of_zero_le h0
  have hb : Nat.blt j len = true := by rw [Nat.blt_eq]; omega
  show ((tyArr P t).bind fun p => bif Nat.blt j p.1 then mV (.pointer (some ⟨id, off + j * p.2, none⟩)) h n else none) = _
  rw [ht]
  simp only [Option.bind_some, hb, cond_true, Int.toNat_natCast]
  rfl
theorem m_ix {e s : Nat} (ht : tyElem P t = some e) (hs : tySize P e = some s) {id off len c : Nat} {i : Int} (h0 : 0 ≤ i) (h1 : i < len) : mIndexAddr P t (.slice (some ⟨id, off, none⟩) len c) (.int k i) h n = some ⟨.pointer (some ⟨id, off + i.toNat * s, none⟩), h, n, [], []⟩ := by
  obtain ⟨j, rfl⟩ := Int.eq_ofNat_of_zero_le h0
  have hb : Nat.blt j len = true := by rw [Nat.blt_eq]; omega
  show (((tyElem P t).bind (tySize P)).bind fun size => bif Nat.blt j len then mV (.pointer (some ⟨id, off + j * size, none⟩)) h n else none) = _
  rw [ht]
  simp only [Option.bind_some, hs, hb, cond_true, Int.toNat_natCast]
  rfl
def arrFlat (P : Program) (t : TypeId) : Bool := match P.underlying t with
  | some (.array _ e) => (match tyAgg P e with
    | some false => true
    | _ => false)
  | _ => false
theorem m_build {z : List Value} {fs : List (Nat × Nat)} (hz : tyZero P t = some z) (hf : tyFields P t = some fs) (parts : List (Nat × Value)) : mBuild P t parts h n = (fillL (lget fs) z parts).bind fun cells => mV (.agg ⟨cells⟩) h n := by
  unfold mBuild
  rw [hz, hf]
theorem m_buildArr {z : List Value} {len s : Nat} (hz : tyZero P t = some z) (hf : tyFields P t = none) (ha : tyArr P t = some (len, s)) (parts : List (Nat × Value)) : mBuild P t parts h n = (fillL (fun i => some (i * s, s)) z parts).bind fun cells => mV (.agg ⟨cells⟩) h n := by
  unfold mBuild
  rw [hz, hf, ha]
theorem fill_nil (place : Nat → Option (Nat × Nat)) (cells : List Value) : fillL place cells [] = some cells := rfl
theorem fill_cons {place : Nat → Option (Nat × Nat)} {cells : List Value} {i : Nat} {v : Value} {rest : List (Nat × Value)} :
    fillL place cells ((i, v) :: rest) = (place i).bind fun p => bif (v.cells.toList.length == p.2) && v.cells.toList.all cok then (overAt p.1 v.cells.toList cells).bind fun cs => fillL place cs rest else none := by
  show (match place i with
    | none => none
    | some (off, size) => bif Nat.beq v.cells.toList.length size && v.cells.toList.all cok then (overAt off v.cells.toList cells).bind fun cs => fillL place cs rest else none) = _
  have e : ∀ a b : Nat, (a == b) = Nat.beq a b := fun a b => by rw [Bool.eq_iff_iff, Nat.beq_eq]; simp
  cases place i with
  | none => rfl
  | some p => simp only [Option.bind_some, e]
theorem m_mk {e s : Nat} {z : List Value} (ht : tyElem P t = some e) (hz : tyZero P e = some z) (hs : tySize P e = some s) (hl : z.length = s) (hp : Nat.blt 0 s = true) (hby : Nat.ble (P.bytesOf e) 100000 = true) {k1 k2 : IntKind} {i : Int} (h0 : 0 ≤ i) (h1 : i ≤ 100000) :
    mMakeSlice P t (.int k1 i) (.int k2 i) h n = some ⟨.slice (some ⟨n, 0, none⟩) i.toNat i.toNat, h.set n (.row e false (List.replicate i.toNat z).flatten), n + 1, [], []⟩ := by
  obtain ⟨j, rfl⟩ := Int.eq_ofNat_of_zero_le h0
  obtain ⟨inf, hi, hsz⟩ := size_of hs
  have hj : Nat.ble j 100000 = true := by rw [Nat.ble_eq]; omega
  have hby' : Nat.ble inf.bytes 100000 = true := by
    have : P.bytesOf e = inf.bytes := by unfold Program.bytesOf; rw [hi]; rfl
    rw [← this]; exact hby
  change mMakeSlice P t (.int k1 (.ofNat j)) (.int k2 (.ofNat j)) h n = _
  unfold mMakeSlice
  rw [ht]
  dsimp only [Option.bind_some]
  rw [hi, hz]
  simp only [Nat.beq_refl, hj, hby', hl, hsz, hp, Bool.and_self, cond_true, Int.toNat_natCast]
def aid (A : Option Addr) : Nat := match A with | some a => a.block | none => 0
theorem str_no {e : Nat} (ht : tyElem P t = some e) : tyStr P t = false := by
  unfold tyElem at ht
  unfold tyStr
  split at ht
  · rename_i u hu; rw [hu]
  · cases ht
theorem app0n {e : Nat} (ht : tyElem P t = some e) {x : Value} : mAppend P lim t t (.slice none 0 0) x h n = mAppend0 P lim t t (.slice none 0 0) x h n := by
  unfold mAppend
  rw [str_no ht]
  rfl
theorem rwOf_row2 {id e : Nat} {cs : List Value} (hr : rwOf h id = some (e, cs)) : rowOf h id = some (e, false, cs) := by
  have h1 := rwOf_some hr
  unfold rowOf
  rw [h1]
  rfl
theorem app0r {e : Nat} (ht : tyElem P t = some e) {x : Value} {id len c e2 : Nat} {cs : List Value} (hr : rwOf h id = some (e2, cs)) : mAppend P lim t t (.slice (some ⟨id, 0, none⟩) len c) x h n = mAppend0 P lim t t (.slice (some ⟨id, 0, none⟩) len c) x h n := by
  have hR : mAppendR P t t (.slice (some ⟨id, 0, none⟩) len c) x h n = none := by
    show (rowOf h id).bind _ = _
    rw [rwOf_row2 hr]
    rfl
  unfold mAppend
  rw [str_no ht, cond_false, hR]
theorem m_ap0 {e s : Nat} {z : List Value} (ht : tyElem P t = some e) (hz : tyZero P e = some z) (hs : tySize P e = some s) (hl : z.length = s) (hp : Nat.blt 0 s = true) (hby : Nat.ble (P.bytesOf e) 1000 = true) {x : Value} {m : Nat} {news : List Value} {rd : List Nat}
    (hx : srcOf s h x = some (m, news, rd)) (hc : news.all cok = true) (hm : m ≤ 1000000) (h0 : m ≠ 0) : mAppend P lim t t (.slice none 0 0) x h n = some ⟨.slice (some ⟨n, 0, none⟩) m m, h.set n (.row e false news), n + 1, rd, []⟩ := by
  obtain ⟨inf, hi, hsz⟩ := size_of hs
  have hby' : Nat.ble inf.bytes 1000 = true := by
    have : P.bytesOf e = inf.bytes := by unfold Program.bytesOf; rw [hi]; rfl
    rw [← this]; exact hby
  have hm' : Nat.ble m 1000000 = true := by rw [Nat.ble_eq]; exact hm
  have h0' : Nat.beq m 0 = false := by rw [Bool.eq_false_iff]; intro hh; exact h0 (Nat.eq_of_beq_eq_true hh)
  rw [app0n ht]
  unfold mAppend0
  rw [ht]
  simp only [Option.bind_some, hi, hz, Nat.beq_refl, hsz, hp, hl, hby', Bool.and_self, cond_true, hx, hc, hm']
  show (bif Nat.beq m 0 then mV (.slice none 0 0) h n else _) = _
  rw [h0']
  rfl
theorem m_ap {e s : Nat} {z : List Value} (ht : tyElem P t = some e) (hz : tyZero P e = some z) (hs : tySize P e = some s) (hl : z.length = s) (hp : Nat.blt 0 s = true) (hby : Nat.ble (P.bytesOf e) 1000 = true) {x : Value} {m : Nat} {news : List Value} {rd : List Nat} {id len : Nat} {cs : List Value}
    (hx : srcOf s h x = some (m, news, rd)) (hc : news.all cok = true) (hm : m ≤ 1000000) (hli : lim ≤ id) (hln : len ≤ 1000000) (hr : rwOf h id = some (e, cs)) (hcs : len * s ≤ cs.length) :
    mAppend P lim t t (.slice (some ⟨id, 0, none⟩) len len) x h n = some ⟨.slice (some ⟨n, 0, none⟩) (len + m) (len + m), (h.set id none).set n (.row e false (cs.take (len * s) ++ news)), n + 1, rd, [id]⟩ := by
  obtain ⟨inf, hi, hsz⟩ := size_of hs
  have hby' : Nat.ble inf.bytes 1000 = true := by
    have : P.bytesOf e = inf.bytes := by unfold Program.bytesOf; rw [hi]; rfl
    rw [← this]; exact hby
  have hm' : Nat.ble m 1000000 = true := by rw [Nat.ble_eq]; exact hm
  have hln' : Nat.ble len 1000000 = true := by rw [Nat.ble_eq]; exact hln
  have hli' : Nat.ble lim id = true := by rw [Nat.ble_eq]; exact hli
  rw [app0r ht hr]
  unfold mAppend0
  rw [ht]
  simp only [Option.bind_some, hi, hz, Nat.beq_refl, hsz, hp, hl, hby', Bool.and_self, cond_true, hx, hc, hm']
  show (bif Nat.ble lim id && Nat.ble len 1000000 && Nat.ble len len then
      (rwOf h id).bind fun r => bif Nat.beq r.1 e then (ltake (len * s) r.2).bind fun cs =>
        some (Ef.mk (.slice (some ⟨n, 0, none⟩) (len + m) (len + m)) ((h.set id none).set n (.row e false (cs ++ news))) (n + 1) rd [id]) else none
    else none) = _
  rw [hli', hln', hr, show Nat.ble len len = true from by rw [Nat.ble_eq]; exact Nat.le_refl _]
  simp only [Option.bind_some, Bool.and_self, cond_true, Nat.beq_refl, ltake_of hcs]
theorem m_bs {e s : Nat} {z : List Value} (ht : tyElem P t = some e) (hz : tyZero P e = some z) (hs : tySize P e = some s) (hl : z.length = s) (hp : Nat.blt 0 s = true) {u : Bool} (hu : tyU8 P e = u) (len : Nat) (hb : Nat.ble (len * s) 100000 = true) (parts : List (Nat × Value)) :
    mBuildSlice P t len parts h n = (fillL (fun i => some (i * s, s)) (List.replicate len z).flatten parts).bind fun cells => bif cells.all cok then some ⟨.slice (some ⟨n, 0, none⟩) len (bif u then 0 else len), h.set n (.row e false cells), n + 1, [], []⟩ else none := by
  unfold mBuildSlice
  rw [ht]
  dsimp only [Option.bind_some]
  rw [hs, hz]
  dsimp only
  rw [hl, hb, hp, hu]
  simp only [Nat.beq_refl, Bool.and_self, cond_true]
theorem bif_cok {α : Type} {cs : List Value} {x y : α} (hc : cs.all cok = true) : (bif cs.all cok then x else y) = x := by rw [hc]; rfl
theorem m_slLH {e s : Nat} (ht : tyElem P t = some e) (hs : tySize P e = some s) (hp : Nat.blt 0 s = true) {id off len : Nat} {k1 k2 : IntKind} {lo hi : Int} (h0 : 0 ≤ lo) (h1 : lo ≤ hi) (h2 : hi ≤ len) :
    mSlice P t (.slice (some ⟨id, off, none⟩) len len) (some (.int k1 lo)) (some (.int k2 hi)) h n = some ⟨.slice (some ⟨id, off + lo.toNat * s, none⟩) (hi.toNat - lo.toNat) (hi.toNat - lo.toNat), h, n, [], []⟩ := by
  obtain ⟨a, rfl⟩ := Int.eq_ofNat_of_zero_le h0
  obtain ⟨b, rfl⟩ := Int.eq_ofNat_of_zero_le (show 0 ≤ hi by omega)
  have e1 : Nat.ble a b = true := by rw [Nat.ble_eq]; omega
  have e2 : Nat.ble b len = true := by rw [Nat.ble_eq]; omega
  unfold mSlice
  dsimp only
  rw [ht]
  show (match sliceB (some (.int k1 (.ofNat a))) 0, sliceB (some (.int k2 (.ofNat b))) len, tySize P e with
    | some l, some k, some size =>
      bif Nat.ble l k && Nat.ble k len && Nat.blt 0 size then mV (.slice (some ⟨id, off + l * size, none⟩) (k - l) ((k - l) + (len - len))) h n
      else none
    | _, _, _ => none) = _
  rw [hs]
  simp only [sliceB, e1, e2, hp, Bool.and_self, cond_true, Int.toNat_natCast, Nat.sub_self, Nat.add_zero]
  rfl
theorem m_slL {e s : Nat} (ht : tyElem P t = some e) (hs : tySize P e = some s) (hp : Nat.blt 0 s = true) {id off len : Nat} {k1 : IntKind} {lo : Int} (h0 : 0 ≤ lo) (h1 : lo ≤ len) :
    mSlice P t (.slice (some ⟨id, off, none⟩) len len) (some (.int k1 lo)) none h n = some ⟨.slice (some ⟨id, off + lo.toNat * s, none⟩) (len - lo.toNat) (len - lo.toNat), h, n, [], []⟩ := by
  have := m_slLH (h := h) (n := n) ht hs hp (id := id) (off := off) (len := len) (k1 := k1) (k2 := .i64) h0 h1 (Int.le_refl _)
  rw [Int.toNat_natCast] at this
  rw [← this]
  rfl
theorem m_slH {e s : Nat} (ht : tyElem P t = some e) (hs : tySize P e = some s) (hp : Nat.blt 0 s = true) {id off len : Nat} {k2 : IntKind} {hi : Int} (h1 : 0 ≤ hi) (h2 : hi ≤ len) :
    mSlice P t (.slice (some ⟨id, off, none⟩) len len) none (some (.int k2 hi)) h n = some ⟨.slice (some ⟨id, off, none⟩) hi.toNat hi.toNat, h, n, [], []⟩ := by
  have := m_slLH (h := h) (n := n) ht hs hp (id := id) (off := off) (len := len) (k1 := .i64) (k2 := k2) (Int.le_refl 0) h1 h2
  simp only [Int.toNat_zero, Nat.zero_mul, Nat.add_zero, Nat.sub_zero] at this
  rw [← this]
  rfl
theorem m_slP {m s : Nat} (ha : tyArr P t = some (m, s)) {id off : Nat} {lo' hi' : Option Value} {lo hi : Nat} (hlo : sliceB lo' 0 = some lo) (hhi : sliceB hi' m = some hi) (h1 : lo ≤ hi) (h2 : hi ≤ m) (h3 : m ≤ 1000000) :
    mSlice P t (.pointer (some ⟨id, off, none⟩)) lo' hi' h n = some ⟨.slice (some ⟨id, off + lo * s, none⟩) (hi - lo) (hi - lo + 1), h, n, [], []⟩ := by
  have e1 : Nat.ble lo hi = true := by rw [Nat.ble_eq]; exact h1
  have e2 : Nat.ble hi m = true := by rw [Nat.ble_eq]; exact h2
  have e3 : Nat.ble m 1000000 = true := by rw [Nat.ble_eq]; exact h3
  unfold mSlice
  dsimp only
  rw [ha]
  dsimp only [Option.bind_some]
  rw [hlo, hhi]
  dsimp only
  rw [e1, e2, e3]
  rfl
theorem m_slPL {m s : Nat} (ha : tyArr P t = some (m, s)) (h3 : m ≤ 1000000) {id off : Nat} {k1 : IntKind} {lo : Int} (h0 : 0 ≤ lo) (h1 : lo ≤ m) :
    mSlice P t (.pointer (some ⟨id, off, none⟩)) (some (.int k1 lo)) none h n = some ⟨.slice (some ⟨id, off + lo.toNat * s, none⟩) (m - lo.toNat) (m - lo.toNat + 1), h, n, [], []⟩ := by
  obtain ⟨a, rfl⟩ := Int.eq_ofNat_of_zero_le h0
  exact m_slP ha rfl rfl (by omega) (Nat.le_refl _) h3
theorem m_slPH {m s : Nat} (ha : tyArr P t = some (m, s)) (h3 : m ≤ 1000000) {id off : Nat} {k1 : IntKind} {hi : Int} (h0 : 0 ≤ hi) (h1 : hi ≤ m) :
    mSlice P t (.pointer (some ⟨id, off, none⟩)) none (some (.int k1 hi)) h n = some ⟨.slice (some ⟨id, off, none⟩) hi.toNat (hi.toNat + 1), h, n, [], []⟩ := by
  obtain ⟨a, rfl⟩ := Int.eq_ofNat_of_zero_le h0
  have := m_slP (h := h) (n := n) ha (id := id) (off := off) (lo' := none) (hi' := some (.int k1 (Int.ofNat a))) (lo := 0) (hi := a) rfl rfl (Nat.zero_le _) (by omega) h3
  simpa using this
theorem m_self {e : Nat} (ht : tyElem P t = some e) (hu : tyU8 P e = true) (hs : tyStr P t = false) {id len : Nat} : mConvert P t t (.slice (some ⟨id, 0, none⟩) (len + 1) 0) h n = (rwOf h id).bind fun r => some ⟨.slice (some ⟨n, 0, none⟩) (len + 1) 0, (h.set id none).set n (.row r.1 true r.2), n + 1, [id], [id]⟩ := by
  unfold mConvert
  rw [ht, hs]
  dsimp only [Option.map_some]
  rw [hu, Nat.beq_refl]
  rfl
theorem m_s2b {s : TypeId} {e : Nat} (hs : (P.underlying s).isSome = true) (ht : tyElem P t = some e) (hu : tyU8 P e = true) {x : ByteArray} (hx : x.size ≤ 1000000) : mConvert P s t (.string x) h n = some ⟨.slice (some ⟨n, 0, none⟩) x.size x.size, h.set n (.row e true (bvals x)), n + 1, [], []⟩ := by
  obtain ⟨u, hu'⟩ := Option.isSome_iff_exists.1 hs
  have hx' : Nat.ble x.size 1000000 = true := by rw [Nat.ble_eq]; exact hx
  unfold mConvert
  dsimp only
  rw [hu', ht]
  dsimp only
  rw [hu, hx']
  rfl
theorem bytesOf_bv : ∀ xs : List UInt8, bytesOf (bv xs) = some xs
  | [] => rfl
  | x :: xs => by
    show (bif Nat.blt x.toNat 256 then (bytesOf (bv xs)).map (UInt8.ofNat x.toNat :: ·) else none) = _
    have hb : Nat.blt x.toNat 256 = true := by rw [Nat.blt_eq]; exact UInt8.toNat_lt x
    rw [hb, bytesOf_bv xs]
    simp
theorem cellsAt_of : ∀ {id off : Nat} {vs : List Value}, (∀ k v, vs[k]? = some v → cellAt h id (off + k) = some v) → vs ≠ [] → cellsAt h id off vs.length = some vs := by
  intro id off vs hc hne
  have h0 : 0 < vs.length := List.length_pos_iff.2 hne
  cases hr : rowOf h id with
  | none =>
    have := hc 0 _ (List.getElem?_eq_getElem h0)
    unfold cellAt at this
    rw [hr] at this
    cases this
  | some r =>
    obtain ⟨e, ro, cs⟩ := r
    have hcell : ∀ k v, vs[k]? = some v → cs[off + k]? = some v := fun k v hk => by
      have := hc k v hk
      rw [cellAt_row hr, lget_eq] at this
      exact this
    rw [cellsAt_row hr, ldrop_eq]
    have hlen : off + vs.length ≤ cs.length := by
      have := hcell (vs.length - 1) _ (List.getElem?_eq_getElem (by omega))
      have := (List.getElem?_eq_some_iff.1 this).1
      omega
    rw [ltake_of (by rw [List.length_drop]; omega)]
    congr 1
    apply List.ext_getElem?
    intro k
    rw [List.getElem?_take, List.getElem?_drop]
    split
    · rename_i hk
      rw [hcell k _ (List.getElem?_eq_getElem hk), List.getElem?_eq_getElem hk]
    · rename_i hk
      rw [List.getElem?_eq_none (by omega)]
theorem m_b2s {s : TypeId} {e B : Nat} (hs : tyElem P s = some e) (hu : tyU8 P e = true) (ht : tyStr P t = true) {A : Option Addr} {xs : List UInt8} {c : Nat} (hr : RdH h B A (bv xs)) (h0 : A = none → c = 0) :
    ∃ rd, mConvert P s t (.slice A xs.length c) h n = some ⟨.string ⟨⟨xs⟩⟩, h, n, rd, []⟩ := by
  rcases A with _ | ⟨id, off, sp⟩
  · obtain rfl := h0 rfl
    have hx : bv xs = [] := by
      rcases hr.2 with h1 | ⟨id, j, h1, _⟩
      · exact h1
      · cases h1
    have hx' : xs = [] := List.eq_nil_of_length_eq_zero (by rw [← bv_length, hx]; rfl)
    subst hx'
    refine ⟨[], ?_⟩
    unfold mConvert
    dsimp only [List.length_nil]
    rw [hs, ht]
    simp only [Option.map_some, hu]
    rfl
  · rcases xs with _ | ⟨x, xs⟩
    · refine ⟨[], ?_⟩
      unfold mConvert
      dsimp only [List.length_nil]
      rw [hs, ht]
      simp only [Option.map_some, hu]
      rfl
    · have hcs : sp = none ∧ cellsAt h id off (x :: xs).length = some (bv (x :: xs)) := by
        rcases hr.2 with h1 | ⟨id', j, h1, hc⟩
        · exact absurd (congrArg List.length h1) (by simp [bv])
        · injection h1 with h1
          injection h1 with e1 e2 e3
          subst e1; subst e2; subst e3
          have := cellsAt_of hc (fun hh => absurd (congrArg List.length hh) (by simp [bv]))
          rw [bv_length] at this
          exact ⟨rfl, this⟩
      obtain ⟨rfl, hcs⟩ := hcs
      refine ⟨[id], ?_⟩
      show (match (tyElem P s).map (tyU8 P), tyStr P t with
        | some true, true => ((cellsAt h id off (x :: xs).length).bind bytesOf).bind fun l => some (Ef.mk (.string ⟨⟨l⟩⟩) h n [id] [])
        | some true, false => bif Nat.beq s t && Nat.beq off 0 && Nat.beq c 0 then (rwOf h id).bind fun r => some (Ef.mk (.slice (some ⟨n, 0, none⟩) (x :: xs).length 0) ((h.set id none).set n (.row r.1 true r.2)) (n + 1) [id] [id]) else none
        | _, _ => none) = _
      rw [hs, ht, hcs]
      simp only [Option.map_some, hu, Option.bind_some, bytesOf_bv]
def SrcIs (sz : Nat) (h : Hp) (v : Value) (m : Nat) (news : List Value) : Prop := ∃ rd, srcOf sz h v = some (m, news, rd)
theorem src_rd {s B : Nat} {A : Option Addr} {m c : Nat} {vs : List Value} (hr : RdH h B A vs) (h0 : A = none → c = 0) (hl : vs.length = m * s) (hs : 0 < s) : SrcIs s h (.slice A m c) m vs := by
  rcases m with _ | m
  · have hv : vs = [] := List.eq_nil_of_length_eq_zero (by omega)
    subst hv
    rcases A with _ | a
    · obtain rfl := h0 rfl
      exact ⟨[], rfl⟩
    · exact ⟨[], rfl⟩
  · have hp : 0 < vs.length := by rw [hl]; exact Nat.mul_pos (Nat.succ_pos m) hs
    rcases hr.2 with h1 | ⟨id, j, rfl, hc⟩
    · rw [h1] at hp; simp at hp
    · have := cellsAt_of hc (List.ne_nil_of_length_pos hp)
      rw [hl] at this
      exact ⟨[id], by
        show (cellsAt h id j ((m + 1) * s)).map _ = _
        rw [this]
        rfl⟩
theorem src_row {id e len c : Nat} {ro : Bool} {cs : List Value} {s : Nat} (hr : rowOf h id = some (e, ro, cs)) (hl : cs.length = len * s) : SrcIs s h (.slice (some ⟨id, 0, none⟩) len c) len cs := by
  rcases len with _ | len
  · have hv : cs = [] := List.eq_nil_of_length_eq_zero (by omega)
    subst hv
    exact ⟨[], rfl⟩
  · exact ⟨[id], by
      show (cellsAt h id 0 ((len + 1) * s)).map _ = _
      rw [cellsAt_row hr, ldrop_zero, ltake_of (by omega), List.take_of_length_le (by omega)]
      rfl⟩
def ApT (P : Program) (t e s : Nat) : Prop := tyElem P t = some e ∧ (∃ z, tyZero P e = some z ∧ z.length = s) ∧ tySize P e = some s ∧ Nat.blt 0 s = true ∧ Nat.ble (P.bytesOf e) 1000 = true
theorem apT_of {e s : Nat} {z : List Value} (ht : tyElem P t = some e) (hz : tyZero P e = some z) (hs : tySize P e = some s) (hl : z.length = s) (hp : Nat.blt 0 s = true) (hby : Nat.ble (P.bytesOf e) 1000 = true) : ApT P t e s := ⟨ht, ⟨z, hz, hl⟩, hs, hp, hby⟩
def ApS (P : Program) (t e t2 : Nat) : Prop := tyStr P t2 = true ∧ tyElem P t = some e ∧ ∃ i, P.info? e = some i ∧ i.zero = some (.int .u8 0) ∧ i.size = 1 ∧ i.bytes = 1
theorem m_apS {e t2 : Nat} (hT : ApS P t e t2) {b : ByteArray} {id len : Nat} {cs : List Value} (hm : b.size ≤ 1000000) (hli : lim ≤ id) (hln : len ≤ 1000000) (hr : rwOf h id = some (e, cs)) (hcs : len ≤ cs.length) :
    mAppend P lim t t2 (.slice (some ⟨id, 0, none⟩) len len) (.string b) h n = some ⟨.slice (some ⟨n, 0, none⟩) (len + b.size) (len + b.size), (h.set id none).set n (.row e false (cs.take len ++ bvals b)), n + 1, [], [id]⟩ := by
  obtain ⟨h1, h2, i, h3, h4, h5, h6⟩ := hT
  have hm' : Nat.ble b.size 1000000 = true := by rw [Nat.ble_eq]; exact hm
  have hln' : Nat.ble len 1000000 = true := by rw [Nat.ble_eq]; exact hln
  have hli' : Nat.ble lim id = true := by rw [Nat.ble_eq]; exact hli
  unfold mAppend
  rw [h1, cond_true]
  unfold mAppendS
  dsimp only
  rw [h2]
  dsimp only [Option.bind_some]
  rw [h3]
  dsimp only [Option.bind_some]
  rw [h4]
  show (bif Nat.beq i.size 1 && Nat.beq i.bytes 1 && Nat.ble b.size 1000000 then (bif Nat.ble lim id && Nat.ble len 1000000 && Nat.ble len len then
      (rwOf h id).bind fun r => bif Nat.beq r.1 e then (ltake (len * 1) r.2).bind fun cs =>
        some (Ef.mk (.slice (some ⟨n, 0, none⟩) (len + b.size) (len + b.size)) ((h.set id none).set n (.row e false (cs ++ bvals b))) (n + 1) [] [id]) else none
    else none) else none) = _
  rw [h5, h6, hm', hli', hln', hr, show Nat.ble len len = true from by rw [Nat.ble_eq]; exact Nat.le_refl _, Nat.mul_one]
  simp only [Option.bind_some, Bool.and_self, cond_true, Nat.beq_refl, ltake_of hcs]
theorem m_apR {e e2 t2 : Nat} (hT : ApS P t e t2) (h2 : tyU8 P e = true) {x : Value} {id len m : Nat} {cs news : List Value} {rd : List Nat} (hr : rowOf h id = some (e2, true, cs)) (hx : srcOf 1 h x = some (m, news, rd)) (hc : news.all cok = true) (h0 : 0 < len) (hln : len ≤ 1000000) (hm0 : 0 < m) (hm : m ≤ 1000000) (hcs : len ≤ cs.length) :
    mAppend P lim t t (.slice (some ⟨id, 0, none⟩) len 0) x h n = some ⟨.slice (some ⟨n, 0, none⟩) (len + m) (len + m), h.set n (.row e false (cs.take len ++ news)), n + 1, id :: rd, []⟩ := by
  obtain ⟨-, h2, i, h3, h4, h5, h6⟩ := hT
  have e1 : Nat.blt 0 len = true := by rw [Nat.blt_eq]; exact h0
  have e2 : Nat.ble len 1000000 = true := by rw [Nat.ble_eq]; exact hln
  have e3 : Nat.blt 0 m = true := by rw [Nat.blt_eq]; exact hm0
  have e4 : Nat.ble m 1000000 = true := by rw [Nat.ble_eq]; exact hm
  have hR : mAppendR P t t (.slice (some ⟨id, 0, none⟩) len 0) x h n = some ⟨.slice (some ⟨n, 0, none⟩) (len + m) (len + m), h.set n (.row e false (cs.take len ++ news)), n + 1, id :: rd, []⟩ := by
    show ((rowOf h id).bind fun r => bif r.2.1 && Nat.beq 0 0 && Nat.blt 0 len && Nat.ble len 1000000 && Nat.beq t t then
      (tyElem P t).bind fun e => (P.info? e).bind fun i => match i.zero with
      | some (.int .u8 (.ofNat 0)) => bif Nat.beq i.size 1 && Nat.beq i.bytes 1 then
          (srcOf 1 h x).bind fun src => bif Nat.blt 0 src.1 && Nat.ble src.1 1000000 && src.2.1.all cok then
            (ltake len r.2.2).bind fun cs => some (Ef.mk (.slice (some ⟨n, 0, none⟩) (len + src.1) (len + src.1)) (h.set n (.row e false (cs ++ src.2.1))) (n + 1) (id :: src.2.2) []) else none
        else none
      | _ => none
    else none) = _
    rw [hr]
    simp only [Option.bind_some, e1, e2, Nat.beq_refl, Bool.and_self, cond_true]
    rw [h2]
    dsimp only [Option.bind_some]
    rw [h3]
    dsimp only [Option.bind_some]
    rw [h4]
    show (bif Nat.beq i.size 1 && Nat.beq i.bytes 1 then _ else none) = _
    rw [h5, h6]
    simp only [Nat.beq_refl, Bool.and_self, cond_true]
    rw [hx]
    simp only [Option.bind_some, e3, e4, hc, Bool.and_self, cond_true, ltake_of hcs]
  unfold mAppend
  rw [str_no h2, cond_false, hR]
section ap
variable {f : Fm} {K : Ex → Fm → Hp → Nat → Prop} {ops l : List Oper} {dst : Option Tmp} {ty : TypeId} {pos : String} {af : Array Edge} {gd : Option (Nat × Bool)} {KO : Fm → Hp → Nat → Prop} {x y : Operand} {e s m : Nat} {v : Value} {news : List Value}
theorem o_ap0 (hT : ApT P t e s) (hw : wantsF ops gd f = some true) (hs : lv f x = .slice none 0 0) (hy : lv f y = v) (hsrc : SrcIs s h v m news) (hc : news.all cok = true) (hm : m ≤ 1000000) (h0 : m ≠ 0)
    (hx : XO P F lim ops l (fput f dst (.slice (some ⟨n, 0, none⟩) m m)) (h.set n (.row e false news)) (n + 1) KO) : XO P F lim ops (⟨dst, .call ⟨.builtin .append, #[x, y], #[t, t]⟩, ty, pos, af, gd⟩ :: l) f h n KO := by
  obtain ⟨rd, hsrc⟩ := hsrc
  obtain ⟨h1, ⟨z, h2, h3⟩, h4, h5, h6⟩ := hT
  exact o_eff hw (by rw [a_append, hs, hy]; exact m_ap0 h1 h2 h4 h3 h5 h6 hsrc hc hm h0) (by simp [memOp]) hx
theorem o_apR {id len : Nat} {cs : List Value} (hT : ApT P t e s) (hw : wantsF ops gd f = some true) (hs : lv f x = .slice (some ⟨id, 0, none⟩) len len) (hy : lv f y = v) (hsrc : SrcIs s h v m news) (hr : rwOf h id = some (e, cs)) (hc : news.all cok = true) (hm : m ≤ 1000000) (hli : lim ≤ id) (hln : len ≤ 1000000) (hcs : len * s ≤ cs.length)
    (hx : XO P F lim ops l (fput f dst (.slice (some ⟨n, 0, none⟩) (len + m) (len + m))) ((h.set id none).set n (.row e false (cs.take (len * s) ++ news))) (n + 1) KO) : XO P F lim ops (⟨dst, .call ⟨.builtin .append, #[x, y], #[t, t]⟩, ty, pos, af, gd⟩ :: l) f h n KO := by
  obtain ⟨rd, hsrc⟩ := hsrc
  obtain ⟨h1, ⟨z, h2, h3⟩, h4, h5, h6⟩ := hT
  exact o_eff hw (by rw [a_append, hs, hy]; exact m_ap h1 h2 h4 h3 h5 h6 hsrc hc hm hli hln hr hcs) (ok_w hli rfl) hx
theorem o_apX {t2 id len e2 : Nat} {cs : List Value} (hT : ApS P t e t2 ∧ tyU8 P e = true) (hw : wantsF ops gd f = some true) (hs : lv f x = .slice (some ⟨id, 0, none⟩) len 0) (hy : lv f y = v) (hsrc : SrcIs 1 h v m news) (hr : rowOf h id = some (e2, true, cs)) (hc : news.all cok = true) (h0 : 0 < len) (hln : len ≤ 1000000) (hm0 : 0 < m) (hm : m ≤ 1000000) (hcs : len ≤ cs.length)
    (hx : XO P F lim ops l (fput f dst (.slice (some ⟨n, 0, none⟩) (len + m) (len + m))) (h.set n (.row e false (cs.take len ++ news))) (n + 1) KO) : XO P F lim ops (⟨dst, .call ⟨.builtin .append, #[x, y], #[t, t]⟩, ty, pos, af, gd⟩ :: l) f h n KO := by
  obtain ⟨rd, hsrc⟩ := hsrc
  exact o_eff hw (by rw [a_append, hs, hy]; exact m_apR hT.1 hT.2 hr hsrc hc h0 hln hm0 hm hcs) (by simp [memOp]) hx
theorem o_apSR {t2 id len : Nat} {b : ByteArray} {cs : List Value} (hT : ApS P t e t2) (hw : wantsF ops gd f = some true) (hs : lv f x = .slice (some ⟨id, 0, none⟩) len len) (hy : lv f y = .string b) (hr : rwOf h id = some (e, cs)) (hm : b.size ≤ 1000000) (hli : lim ≤ id) (hln : len ≤ 1000000) (hcs : len ≤ cs.length)
    (hx : XO P F lim ops l (fput f dst (.slice (some ⟨n, 0, none⟩) (len + b.size) (len + b.size))) ((h.set id none).set n (.row e false (cs.take len ++ bvals b))) (n + 1) KO) : XO P F lim ops (⟨dst, .call ⟨.builtin .append, #[x, y], #[t, t2]⟩, ty, pos, af, gd⟩ :: l) f h n KO :=
  o_eff hw (by rw [a_append, hs, hy]; exact m_apS hT hm hli hln hr hcs) (ok_w hli rfl) hx
theorem o_b2s {s1 t1 B c : Nat} {A : Option Addr} {xs : List UInt8} (hT : (∃ e, tyElem P s1 = some e ∧ tyU8 P e = true) ∧ tyStr P t1 = true) (hw : wantsF ops gd f = some true) (hy : lv f y = .slice A xs.length c) (hr : RdH h B A (bv xs)) (h0 : A = none → c = 0)
    (hx : XO P F lim ops l (fput f dst (.string ⟨⟨xs⟩⟩)) h n KO) : XO P F lim ops (⟨dst, .convert s1 t1 y, ty, pos, af, gd⟩ :: l) f h n KO := by
  obtain ⟨⟨e, h1, h2⟩, h3⟩ := hT
  obtain ⟨rd, hrd⟩ := m_b2s (P := P) (h := h) (n := n) h1 h2 h3 hr h0
  exact o_eff hw (by rw [a_convert, hy]; exact hrd) (by simp [memOp]) hx
variable {us : List (Nat × Nat)} {i : Nat} {acc : List Fp}
theorem d_apR {id len : Nat} {cs : List Value} (hT : ApT P t e s) (hw : wantsF ops gd f = some true) (hs : lv f x = .slice (some ⟨id, 0, none⟩) len len) (hy : lv f y = v) (hsrc : SrcIs s h v m news) (hr : rwOf h id = some (e, cs)) (hc : news.all cok = true) (hm : m ≤ 1000000) (hli : lim ≤ id) (hln : len ≤ 1000000) (hcs : len * s ≤ cs.length)
    (hx : ∀ rd, XD P F lim us ops l (i + 1) (fput f dst (.slice (some ⟨n, 0, none⟩) (len + m) (len + m))) ((h.set id none).set n (.row e false (cs.take (len * s) ++ news))) (n + 1) (⟨rd, [id], false, n, n + 1⟩ :: acc) KO) : XD P F lim us ops (⟨dst, .call ⟨.builtin .append, #[x, y], #[t, t]⟩, ty, pos, af, gd⟩ :: l) i f h n acc KO := by
  obtain ⟨rd, hsrc⟩ := hsrc
  obtain ⟨h1, ⟨z, h2, h3⟩, h4, h5, h6⟩ := hT
  exact d_eff hw rfl (by rw [a_append, hs, hy]; exact m_ap h1 h2 h4 h3 h5 h6 hsrc hc hm hli hln hr hcs) (ok_w hli rfl) (hx rd)
end ap
theorem made_mm (r w : List Nat) (c : Bool) (m b : Nat) : made ⟨r, w, c, m, m⟩ b = false := made_f (by simp; omega)
theorem made_lt {r w : List Nat} {c : Bool} {m q b : Nat} (h : b < m) : made ⟨r, w, c, m, q⟩ b = false := made_f (.inl h)
theorem made_ge {r w : List Nat} {c : Bool} {m q b : Nat} (h : q ≤ b) : made ⟨r, w, c, m, q⟩ b = false := made_f (.inr h)
theorem all_true {α : Type} (l : List α) : (l.all fun _ => true) = true := by simp
theorem m_len {e : Nat} {A : Option Addr} {m c : Nat} (ht : tyElem P t = some e) : mLen P t (.slice A m c) h n = some ⟨.int .i64 m, h, n, [], []⟩ := by
  unfold mLen
  dsimp only
  rw [ht]
  rfl
theorem m_lenS {s : ByteArray} (ht : tyStr P t = true) : mLen P t (.string s) h n = some ⟨.int .i64 s.size, h, n, [], []⟩ := by
  unfold mLen
  dsimp only
  rw [ht]
  rfl
end
theorem hbs : (∀ {p : Prop} [Decidable p], (decide p = true) = p) ∧ (∀ {p : Prop} {x : Decidable p}, decide p = false ↔ ¬p) ∧ (∀ {α : Type} [BEq α] [LawfulBEq α] {a b : α}, (a == b) = true ↔ a = b) ∧ (∀ {α : Type} [BEq α] [LawfulBEq α] {a b : α}, (a != b) = true ↔ a ≠ b) ∧
    (∀ {α : Type} [BEq α] [LawfulBEq α] {a b : α}, (a == b) = false ↔ a ≠ b) ∧ (∀ {α : Type} [BEq α] [LawfulBEq α] {a b : α}, (a != b) = false ↔ a = b) ∧ (∀ b : Bool, ((!b) = true) = (b = false)) ∧ (∀ b : Bool, ((!b) = false) = (b = true)) ∧ (∀ b : Bool, (¬b = true) = (b = false)) ∧ (!true) = false ∧ (!false) = true ∧
    (true = false) = False ∧ (false = true) = False ∧ (∀ {α : Type} [LT α] {x y : α}, x > y ↔ y < x) ∧ (∀ {α : Type} [LE α] {x y : α}, x ≥ y ↔ y ≤ x) ∧ (∀ {a b : Int}, ¬a < b ↔ b ≤ a) ∧ (∀ {a b : Int}, ¬a ≤ b ↔ b < a) ∧ (∀ {α : Type} (a b : α), (a ≠ b) = ¬a = b) ∧ (¬True) = False ∧ (¬False) = True ∧ ∀ {p : Prop} [Decidable p], ¬¬p ↔ p :=
  ⟨@decide_eq_true_eq, @decide_eq_false_iff_not, @beq_iff_eq, @bne_iff_ne, @beq_eq_false_iff_ne, @bne_eq_false_iff_eq, Bool.not_eq_true', Bool.not_eq_false', Bool.not_eq_true, Bool.not_true, Bool.not_false, Bool.true_eq_false, Bool.false_eq_true, @gt_iff_lt, @ge_iff_le, @Int.not_lt, @Int.not_le, @ne_eq, not_true_eq_false, not_false_eq_true, @Decidable.not_not⟩
attribute [go_sem ↓] lv_tmp fput_some fput_none fputs_cons fputs_nil mix_in mix_out finit_zero finit_succ cellAt_same cellAt_ne cellsAt_same cellsAt_ne rwOf_same rwOf_ne' rowOf_same rowOf_ne
attribute [go_sem] m_slPL m_slPH a_move a_assign a_pick a_alloc a_box a_build a_buildSlice bif_cok a_load a_store a_bin a_un a_convert a_func a_makeMap a_makeSlice a_slice a_fieldAddr a_indexAddr a_index a_extract a_len a_append a_copy a_max a_min lv_int lv_bool lv_str lv_func lv_nil b_add b_sub b_mul b_eql b_neq b_lss b_leq b_gtr b_geq b_quo b_rem b_shl8 b_or8 b_shr u_not p_pick m_max m_min x_tuple mVO_some lget_zero lget_succ ltake_zero ltake_cons ldrop_zero ldrop_cons overAt_zero overAt_cons over_nil over_cons Hp.set_set fill_nil fill_cons c_int1 c_bool1 c_str1 c_ptr1 c_sli1 c_map1 c_agg c_agg' cok_int cok_bool cok_str cok_ptr cok_sli cok_map List.length_cons List.length_nil List.all_cons List.all_nil Bool.and_true Bool.true_and Bool.and_self beq_self_eq_true wrap_i64 wrap_u64 wrap_u8 tdiv_pos tmod_pos Nat.zero_add Nat.add_zero Nat.mul_one Nat.zero_mul List.take_zero List.take_nil Option.bind_some Option.map_some Option.map_none cond_true cond_false List.map_cons List.map_nil List.cons_append List.nil_append Int.toNat_natCast Int.zero_add Int.add_zero Int.mul_zero Int.mul_one Bool.not_true Bool.not_false r_tmp r_cell
end Go.Proofs.Ytkngdfbibffdcaa.Ce
