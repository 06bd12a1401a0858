/- Memory that is handed in, behind writes. No program in sight. Tables of types in memory, handed in or of the call's own. No program in sight. -/
import Derived.Test.YtgdokjfjmcleeaaSn
namespace Go.Proofs.Ytgdokjfjmcleeaa.Ce
open Go.RowKit
set_option linter.unusedVariables false
set_option linter.unusedSimpArgs false
theorem RdH.at_ {h : Hp} {B : Nat} {A : Option Addr} {vs : List Value} (hr : RdH h B A vs) (hl : 0 < vs.length) : ∃ id off, A = some ⟨id, off, none⟩ ∧ id < B ∧ ∀ k v, vs[k]? = some v → cellAt h id (off + k) = some v := by
  rcases hr.2 with e | ⟨id, off, e, hc⟩
  · rw [e] at hl; simp at hl
  · exact ⟨id, off, e, hr.1 id off e, hc⟩
theorem RdH.set {h : Hp} {B id : Nat} {A : Option Addr} {vs : List Value} (hr : RdH h B A vs) (hB : B ≤ id) (x : AObj) : RdH (h.set id x) B A vs := by
  refine ⟨hr.1, ?_⟩
  rcases hr.2 with e | ⟨i, off, e, hc⟩
  · exact .inl e
  · have := hr.1 i off e
    exact .inr ⟨i, off, e, fun k v hk => by rw [cellAt_ne _ _ _ (by omega)]; exact hc k v hk⟩
theorem RdH.more {h : Hp} {B B' : Nat} {A : Option Addr} {vs : List Value} (hr : RdH h B A vs) (hB : B ≤ B') : RdH h B' A vs := ⟨fun id j e => Nat.lt_of_lt_of_le (hr.1 id j e) hB, hr.2⟩
theorem RdH.row {h : Hp} {B id e : Nat} {ro : Bool} {vs : List Value} (hB : id < B) : RdH (h.set id (.row e ro vs)) B (some ⟨id, 0, none⟩) vs :=
  ⟨fun i j e => by injection e with e; injection e with e1; omega, .inr ⟨id, 0, rfl, fun k v hk => by rw [cellAt_same, lget_eq, Nat.zero_add]; exact hk⟩⟩
theorem RdH.nil {h : Hp} {B : Nat} : RdH h B none [] := ⟨fun _ _ h => (by cases h), .inl rfl⟩
theorem RdH.ne {h : Hp} {B id i off : Nat} {vs : List Value} (hr : RdH h B (some ⟨i, off, none⟩) vs) (hi : i ≠ id) (x : AObj) : RdH (h.set id x) B (some ⟨i, off, none⟩) vs := by
  refine ⟨hr.1, ?_⟩
  rcases hr.2 with e | ⟨i', off', e, hc⟩
  · exact .inl e
  · injection e with e
    injection e with e1 e2
    subst e1; subst e2
    exact .inr ⟨i, off, rfl, fun k v hk => by rw [cellAt_ne _ _ _ hi]; exact hc k v hk⟩
theorem RdH.ofRow {h : Hp} {B id e : Nat} {ro : Bool} {vs : List Value} (hr : rowOf h id = some (e, ro, vs)) (hB : id < B) : RdH h B (some ⟨id, 0, none⟩) vs :=
  ⟨fun i j e => by injection e with e; injection e with e1; omega, .inr ⟨id, 0, rfl, fun k v hk => by rw [cellAt_row hr, Nat.zero_add, lget_eq]; exact hk⟩⟩
section
variable {P : Program} {F : CallE} {lim : Nat} {ops l : List Oper} {f : Fm} {h : Hp} {n : Nat} {dst : Option Tmp} {ty : TypeId} {pos : String} {af : Array Edge} {KO : Fm → Hp → Nat → Prop} {Φ : Value → Hp → Nat → Prop}
theorem o_callV {gd : Option (Nat × Bool)} {x : Operand} {args : List Operand} {ts : Array TypeId} {g : FuncId} {vs : List Value} (hw : wantsF ops gd f = some true) (hx : lv f x = .func (.func g) ⟨[]⟩ ⟨[]⟩) (ha : args.map (lv f) = vs)
    (hs : Sp P F lim g vs h n Φ) (hk : ∀ v h' n', Φ v h' n' → XO P F lim ops l (fput f dst v) h' n' KO) : XO P F lim ops (⟨dst, .call ⟨.value x, args.toArray, ts⟩, ty, pos, af, gd⟩ :: l) f h n KO :=
  o_call (g := g) (cap := ⟨[]⟩) hw hx (by simp [ha]) hs hk
end
end Go.Proofs.Ytgdokjfjmcleeaa.Ce
namespace Go.Proofs.Ytgdokjfjmcleeaa.Ce
open Go.RowKit
set_option linter.unusedVariables false
set_option linter.unusedSimpArgs false
set_option maxHeartbeats 1000000

/-- a type: its kind, element, length, fields; where the fields lie -/
structure Tp where
  kd : Int
  el : Int
  ln : Int
  fs : List (List UInt8 × Int)
  A : Option Addr
  c : Nat
def fcell (f : List UInt8 × Int) : List Value := [.string ⟨⟨f.1⟩⟩, .int .i64 f.2]
def fv (fs : List (List UInt8 × Int)) : List Value := fs.flatMap fcell
def Tp.v (t : Tp) : List Value := [.int .u8 t.kd, .int .i64 t.el, .int .i64 t.ln, .slice t.A t.fs.length t.c]
def tv (T : List Tp) : List Value := T.flatMap Tp.v
def iv (l : List Int) : List Value := l.map (.int .i64 ·)

theorem rows_length {α : Type} (f : α → List Value) {w : Nat} (hw : ∀ a, (f a).length = w) (l : List α) : (l.flatMap f).length = l.length * w := by
  induction l with
  | nil => simp
  | cons a l ih => rw [List.flatMap_cons, List.length_append, ih, hw, List.length_cons, Nat.add_mul]; omega
theorem rows_split {α : Type} (f : α → List Value) {w : Nat} (hw : ∀ a, (f a).length = w) {l : List α} {i : Nat} (hi : i < l.length) : (l.flatMap f).drop (i * w) = f l[i] ++ (l.drop (i + 1)).flatMap f := by
  have e : l = l.take i ++ (l[i] :: l.drop (i + 1)) := by rw [List.getElem_cons_drop, List.take_append_drop]
  conv => lhs; rw [e]
  rw [List.flatMap_append, List.drop_left' (by rw [rows_length f hw, List.length_take]; congr 1; omega), List.flatMap_cons]
theorem rows_get {α : Type} (f : α → List Value) {w : Nat} (hw : ∀ a, (f a).length = w) {l : List α} {i j : Nat} (hi : i < l.length) (hj : j < w) : (l.flatMap f)[i * w + j]? = (f l[i])[j]? := by
  rw [← List.getElem?_drop, rows_split f hw hi, List.getElem?_append_left (by rw [hw]; exact hj)]
theorem fcell_length (f : List UInt8 × Int) : (fcell f).length = 2 := rfl
theorem Tp.v_length (t : Tp) : t.v.length = 4 := rfl
theorem fv_length (fs : List (List UInt8 × Int)) : (fv fs).length = fs.length * 2 := rows_length fcell fcell_length fs
theorem tv_length (T : List Tp) : (tv T).length = T.length * 4 := rows_length Tp.v Tp.v_length T
theorem iv_length (l : List Int) : (iv l).length = l.length := by simp [iv]
theorem iv_get {l : List Int} {i : Nat} (hi : i < l.length) : (iv l)[i]? = some (.int .i64 l[i]) := by simp [iv, hi]
theorem iv_app (l m : List Int) : iv (l ++ m) = iv l ++ iv m := by simp [iv]
theorem iv_cok (l : List Int) : (iv l).all cok = true := by simp [iv, cok]
theorem iv_idA (n : Nat) (l : List Int) : ∀ v ∈ iv l, idA n v = [] := by
  intro v hv
  obtain ⟨a, -, rfl⟩ := List.mem_map.1 hv
  rfl
theorem fv_idA (n : Nat) (fs : List (List UInt8 × Int)) : ∀ v ∈ fv fs, idA n v = [] := by
  intro v hv
  obtain ⟨a, -, h⟩ := List.mem_flatMap.1 hv
  unfold fcell at h
  simp only [List.mem_cons, List.not_mem_nil, or_false] at h
  rcases h with rfl | rfl <;> rfl
theorem fv_cok (fs : List (List UInt8 × Int)) : (fv fs).all cok = true := by
  rw [List.all_eq_true]
  intro v hv
  obtain ⟨a, -, h⟩ := List.mem_flatMap.1 hv
  unfold fcell at h
  simp only [List.mem_cons, List.not_mem_nil, or_false] at h
  rcases h with rfl | rfl <;> rfl
theorem tv_cok (T : List Tp) : (tv T).all cok = true := by
  rw [List.all_eq_true]
  intro v hv
  obtain ⟨a, -, h⟩ := List.mem_flatMap.1 hv
  unfold Tp.v at h
  simp only [List.mem_cons, List.not_mem_nil, or_false] at h
  rcases h with rfl | rfl | rfl | rfl <;> rfl

/-- cells, one by one -/
theorem cellsAt_all {h : Hp} {id off : Nat} {vs : List Value} (h0 : vs ≠ []) (hc : ∀ j v, vs[j]? = some v → cellAt h id (off + j) = some v) : cellsAt h id off vs.length = some vs := by
  unfold cellsAt
  unfold cellAt at hc
  cases hr : rowOf h id with
  | none =>
    obtain ⟨v, l, rfl⟩ := List.exists_cons_of_ne_nil h0
    have := hc 0 v rfl
    rw [hr] at this
    cases this
  | some r =>
    rw [hr] at hc
    simp only [Option.bind_some] at hc ⊢
    rw [ldrop_eq]
    have hd : ∀ j v, vs[j]? = some v → (r.2.2.drop off)[j]? = some v := fun j v hv => by
      have := hc j v hv
      rw [lget_eq] at this
      rw [List.getElem?_drop]
      exact this
    generalize r.2.2.drop off = l at hd
    clear hc h0
    induction vs generalizing l with
    | nil => exact ltake_zero l
    | cons v vs ih =>
      have h1 := hd 0 v rfl
      cases l with
      | nil => simp at h1
      | cons x l =>
        have h1' : x = v := by simpa using h1
        subst h1'
        rw [List.length_cons, ltake_cons, ih l fun j u hu => by simpa using hd (j + 1) u (by simpa using hu)]
        rfl
theorem RdH.rows {α : Type} {f : α → List Value} {w : Nat} (hw : ∀ a, (f a).length = w) (h0 : 0 < w) {h : Hp} {B : Nat} {A : Option Addr} {l : List α} (hr : RdH h B A (l.flatMap f)) (hl : 0 < l.length) :
    ∃ id off, A = some ⟨id, off, none⟩ ∧ id < B ∧ (∀ i (hi : i < l.length), cellsAt h id (off + i * w) w = some (f l[i])) ∧ ∀ i j (hi : i < l.length), j < w → cellAt h id (off + i * w + j) = (f l[i])[j]? := by
  have hlen := rows_length f hw l
  rcases hr.2 with e | ⟨id, off, e, hc⟩
  · have := congrArg List.length e
    rw [hlen] at this
    have : l.length * w ≠ 0 := by
      have := Nat.mul_pos hl h0
      omega
    simp_all
  · have hcell : ∀ i j (hi : i < l.length), j < w → cellAt h id (off + i * w + j) = (f l[i])[j]? := fun i j hi hj => by
      have hv : (f l[i])[j]? = some ((f l[i])[j]'(by rw [hw]; exact hj)) := List.getElem?_eq_getElem _
      rw [hv, Nat.add_assoc]
      exact hc _ _ (by rw [rows_get f hw hi hj, hv])
    refine ⟨id, off, e, hr.1 id off e, fun i hi => ?_, hcell⟩
    have := cellsAt_all (h := h) (id := id) (off := off + i * w) (vs := f l[i]) (by intro h1; have := hw l[i]; rw [h1] at this; simp at this; omega) fun j v hv => by
      have hj : j < w := by
        have := (List.getElem?_eq_some_iff.1 hv).1
        rwa [hw] at this
      rw [hcell i j hi hj, hv]
    rwa [hw] at this
/-- numbers of 64 bits -/
def I64 (x : Int) : Prop := -9223372036854775808 ≤ x ∧ x ≤ 9223372036854775807
def TpOk (t : Tp) : Prop := (0 ≤ t.kd ∧ t.kd < 256) ∧ I64 t.el ∧ I64 t.ln ∧ ∀ f ∈ t.fs, I64 f.2
/-- a table that is handed in -/
structure TabH (h : Hp) (B : Nat) (A : Option Addr) (T : List Tp) : Prop where
  rd : RdH h B A (tv T)
  fd : ∀ t ∈ T, RdH h B t.A (fv t.fs)
  nl : ∀ t ∈ T, t.A = none → t.c = 0
  bd : ∀ t ∈ T, TpOk t
theorem TabH.set {h : Hp} {B id : Nat} {A : Option Addr} {T : List Tp} (hr : TabH h B A T) (hB : B ≤ id) (x : AObj) : TabH (h.set id x) B A T := ⟨hr.rd.set hB x, fun t ht => (hr.fd t ht).set hB x, hr.nl, hr.bd⟩
theorem TabH.more {h : Hp} {B B' : Nat} {A : Option Addr} {T : List Tp} (hr : TabH h B A T) (hB : B ≤ B') : TabH h B' A T := ⟨hr.rd.more hB, fun t ht => (hr.fd t ht).more hB, hr.nl, hr.bd⟩
/-- the type at an index -/
theorem TabH.at_ {h : Hp} {B : Nat} {A : Option Addr} {T : List Tp} (hr : TabH h B A T) {i : Nat} (hi : i < T.length) : ∃ id off, A = some ⟨id, off, none⟩ ∧ id < B ∧ cellsAt h id (off + i * 4) 4 = some [.int .u8 T[i].kd, .int .i64 T[i].el, .int .i64 T[i].ln, .slice T[i].A T[i].fs.length T[i].c] ∧
    cellAt h id (off + i * 4) = some (.int .u8 T[i].kd) ∧ cellAt h id (off + i * 4 + 1) = some (.int .i64 T[i].el) ∧ cellAt h id (off + i * 4 + 2) = some (.int .i64 T[i].ln) ∧ cellAt h id (off + i * 4 + 3) = some (.slice T[i].A T[i].fs.length T[i].c) := by
  obtain ⟨id, off, e, hid, h1, h2⟩ := RdH.rows Tp.v_length (by omega) hr.rd (by omega)
  exact ⟨id, off, e, hid, h1 i hi, h2 i 0 hi (by omega), h2 i 1 hi (by omega), h2 i 2 hi (by omega), h2 i 3 hi (by omega)⟩
/-- the field at an index -/
theorem fld_at {h : Hp} {B : Nat} {A : Option Addr} {fs : List (List UInt8 × Int)} (hr : RdH h B A (fv fs)) {i : Nat} (hi : i < fs.length) : ∃ id off, A = some ⟨id, off, none⟩ ∧ id < B ∧ cellsAt h id (off + i * 2) 2 = some [.string ⟨⟨fs[i].1⟩⟩, .int .i64 fs[i].2] ∧
    cellAt h id (off + i * 2) = some (.string ⟨⟨fs[i].1⟩⟩) ∧ cellAt h id (off + i * 2 + 1) = some (.int .i64 fs[i].2) := by
  obtain ⟨id, off, e, hid, h1, h2⟩ := RdH.rows fcell_length (by omega) hr (by omega)
  exact ⟨id, off, e, hid, h1 i hi, h2 i 0 hi (by omega), h2 i 1 hi (by omega)⟩
/-- the number at an index -/
theorem int_at {h : Hp} {B : Nat} {A : Option Addr} {l : List Int} (hr : RdH h B A (iv l)) {i : Nat} (hi : i < l.length) : ∃ id off, A = some ⟨id, off, none⟩ ∧ id < B ∧ cellAt h id (off + i) = some (.int .i64 l[i]) := by
  obtain ⟨id, off, e, hid, hc⟩ := hr.at_ (by rw [iv_length]; omega)
  exact ⟨id, off, e, hid, hc i _ (iv_get hi)⟩
end Go.Proofs.Ytgdokjfjmcleeaa.Ce
