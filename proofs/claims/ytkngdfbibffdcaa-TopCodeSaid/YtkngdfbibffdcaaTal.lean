/- Parts of the proof of TopCode: Ka, Zf, Zg, Zh. No condition of its own. -/
import Derived.Test.YtkngdfbibffdcaaTai
import Derived.Test.YtkngdfbibffdcaaTaj
import Derived.Test.YtkngdfbibffdcaaTak
set_option linter.unusedVariables false
set_option linter.unusedSimpArgs false
set_option maxRecDepth 100000
set_option maxHeartbeats 4000000
namespace Go.Proofs.Ytkngdfbibffdcaa.Ce
open Go.RowKit
theorem RdH.at_ {h : Hp} {B : Nat} {A : Option Addr} {vs : List Value} (hr : RdH h B A vs) (hl : 0 < vs.length) : ∃ id off, A = some ⟨id, off, none⟩ ∧ id < B ∧ ∀ k v, vs[k]? = some v → cellAt h id (off + k) = some v := by
  rcases hr.2 with e | ⟨id, off, e, hc⟩
  · rw [e] at hl; simp at hl
  · exact ⟨id, off, e, hr.1 id off e, hc⟩
theorem RdH.set {h : Hp} {B id : Nat} {A : Option Addr} {vs : List Value} (hr : RdH h B A vs) (hB : B ≤ id) (x : AObj) : RdH (h.set id x) B A vs := by
  refine ⟨hr.1, ?_⟩
  rcases hr.2 with e | ⟨i, off, e, hc⟩
  · exact .inl e
  · have := hr.1 i off e
    exact .inr ⟨i, off, e, fun k v hk => by rw [cellAt_ne _ _ _ (by omega)]; exact hc k v hk⟩
theorem RdH.more {h : Hp} {B B' : Nat} {A : Option Addr} {vs : List Value} (hr : RdH h B A vs) (hB : B ≤ B') : RdH h B' A vs := ⟨fun id j e => Nat.lt_of_lt_of_le (hr.1 id j e) hB, hr.2⟩
theorem RdH.row {h : Hp} {B id e : Nat} {ro : Bool} {vs : List Value} (hB : id < B) : RdH (h.set id (.row e ro vs)) B (some ⟨id, 0, none⟩) vs :=
  ⟨fun i j e => by injection e with e; injection e with e1; omega, .inr ⟨id, 0, rfl, fun k v hk => by rw [cellAt_same, lget_eq, Nat.zero_add]; exact hk⟩⟩
theorem RdH.nil {h : Hp} {B : Nat} : RdH h B none [] := ⟨fun _ _ h => (by cases h), .inl rfl⟩
theorem RdH.ne {h : Hp} {B id i off : Nat} {vs : List Value} (hr : RdH h B (some ⟨i, off, none⟩) vs) (hi : i ≠ id) (x : AObj) : RdH (h.set id x) B (some ⟨i, off, none⟩) vs := by
  refine ⟨hr.1, ?_⟩
  rcases hr.2 with e | ⟨i', off', e, hc⟩
  · exact .inl e
  · injection e with e
    injection e with e1 e2
    subst e1; subst e2
    exact .inr ⟨i, off, rfl, fun k v hk => by rw [cellAt_ne _ _ _ hi]; exact hc k v hk⟩
theorem RdH.ofRow {h : Hp} {B id e : Nat} {ro : Bool} {vs : List Value} (hr : rowOf h id = some (e, ro, vs)) (hB : id < B) : RdH h B (some ⟨id, 0, none⟩) vs :=
  ⟨fun i j e => by injection e with e; injection e with e1; omega, .inr ⟨id, 0, rfl, fun k v hk => by rw [cellAt_row hr, Nat.zero_add, lget_eq]; exact hk⟩⟩
section
variable {P : Program} {F : CallE} {lim : Nat} {ops l : List Oper} {f : Fm} {h : Hp} {n : Nat} {dst : Option Tmp} {ty : TypeId} {pos : String} {af : Array Edge} {KO : Fm → Hp → Nat → Prop} {Φ : Value → Hp → Nat → Prop}
theorem o_callV {gd : Option (Nat × Bool)} {x : Operand} {args : List Operand} {ts : Array TypeId} {g : FuncId} {vs : List Value} (hw : wantsF ops gd f = some true) (hx : lv f x = .func (.func g) ⟨[]⟩ ⟨[]⟩) (ha : args.map (lv f) = vs)
    (hs : Sp P F lim g vs h n Φ) (hk : ∀ v h' n', Φ v h' n' → XO P F lim ops l (fput f dst v) h' n' KO) : XO P F lim ops (⟨dst, .call ⟨.value x, args.toArray, ts⟩, ty, pos, af, gd⟩ :: l) f h n KO :=
  o_call (g := g) (cap := ⟨[]⟩) hw hx (by simp [ha]) hs hk
end
end Go.Proofs.Ytkngdfbibffdcaa.Ce
namespace Go.Proofs.Ytkngdfbibffdcaa.Ce
open Go.RowKit
structure Tp where
  kd : Int
  el : Int
  ln : Int
  fs : List (List UInt8 × Int)
  A : Option Addr
  c : Nat
def fcell (f : List UInt8 × Int) : List Value := [.string ⟨⟨f.1⟩⟩, .int .i64 f.2]
def fv (fs : List (List UInt8 × Int)) : List Value := fs.flatMap fcell
def Tp.v (t : Tp) : List Value := [.int .u8 t.kd, .int .i64 t.el, .int .i64 t.ln, .slice t.A t.fs.length t.c]
def tv (T : List Tp) : List Value := T.flatMap Tp.v
def iv (l : List Int) : List Value := l.map (.int .i64 ·)
theorem rows_length {α : Type} (f : α → List Value) {w : Nat} (hw : ∀ a, (f a).length = w) (l : List α) : (l.flatMap f).length = l.length * w := by
  induction l with
  | nil => simp
  | cons a l ih => rw [List.flatMap_cons, List.length_append, ih, hw, List.length_cons, Nat.add_mul]; omega
theorem rows_split {α : Type} (f : α → List Value) {w : Nat} (hw : ∀ a, (f a).length = w) {l : List α} {i : Nat} (hi : i < l.length) : (l.flatMap f).drop (i * w) = f l[i] ++ (l.drop (i + 1)).flatMap f := by
  have e : l = l.take i ++ (l[i] :: l.drop (i + 1)) := by rw [List.getElem_cons_drop, List.take_append_drop]
  conv => lhs; rw [e]
  rw [List.flatMap_append, List.drop_left' (by rw [rows_length f hw, List.length_take]; congr 1; omega), List.flatMap_cons]
theorem rows_get {α : Type} (f : α → List Value) {w : Nat} (hw : ∀ a, (f a).length = w) {l : List α} {i j : Nat} (hi : i < l.length) (hj : j < w) : (l.flatMap f)[i * w + j]? = (f l[i])[j]? := by
  rw [← List.getElem?_drop, rows_split f hw hi, List.getElem?_append_left (by rw [hw]; exact hj)]
theorem fcell_length (f : List UInt8 × Int) : (fcell f).length = 2 := rfl
theorem Tp.v_length (t : Tp) : t.v.length = 4 := rfl
theorem fv_length (fs : List (List UInt8 × Int)) : (fv fs).length = fs.length * 2 := rows_length fcell fcell_length fs
theorem tv_length (T : List Tp) : (tv T).length = T.length * 4 := rows_length Tp.v Tp.v_length T
theorem iv_length (l : List Int) : (iv l).length = l.length := by simp [iv]
theorem iv_get {l : List Int} {i : Nat} (hi : i < l.length) : (iv l)[i]? = some (.int .i64 l[i]) := by simp [iv, hi]
theorem iv_app (l m : List Int) : iv (l ++ m) = iv l ++ iv m := by simp [iv]
theorem iv_idA (n : Nat) (l : List Int) : ∀ v ∈ iv l, idA n v = [] := by
  intro v hv
  obtain ⟨a, -, rfl⟩ := List.mem_map.1 hv
  rfl
theorem cellsAt_all {h : Hp} {id off : Nat} {vs : List Value} (h0 : vs ≠ []) (hc : ∀ j v, vs[j]? = some v → cellAt h id (off + j) = some v) : cellsAt h id off vs.length = some vs := by
  unfold cellsAt
  unfold cellAt at hc
  cases hr : rowOf h id with
  | none =>
    obtain ⟨v, l, rfl⟩ := List.exists_cons_of_ne_nil h0
    have := hc 0 v rfl
    rw [hr] at this
    cases this
  | some r =>
    rw [hr] at hc
    simp only [Option.bind_some] at hc ⊢
    rw [ldrop_eq]
    have hd : ∀ j v, vs[j]? = some v → (r.2.2.drop off)[j]? = some v := fun j v hv => by
      have := hc j v hv
      rw [lget_eq] at this
      rw [List.getElem?_drop]
      exact this
    generalize r.2.2.drop off = l at hd
    clear hc h0
    induction vs generalizing l with
    | nil => exact ltake_zero l
    | cons v vs ih =>
      have h1 := hd 0 v rfl
      cases l with
      | nil => simp at h1
      | cons x l =>
        have h1' : x = v := by simpa using h1
        subst h1'
        rw [List.length_cons, ltake_cons, ih l fun j u hu => by simpa using hd (j + 1) u (by simpa using hu)]
        rfl
theorem RdH.rows {α : Type} {f : α → List Value} {w : Nat} (hw : ∀ a, (f a).length = w) (h0 : 0 < w) {h : Hp} {B : Nat} {A : Option Addr} {l : List α} (hr : RdH h B A (l.flatMap f)) (hl : 0 < l.length) :
    ∃ id off, A = some ⟨id, off, none⟩ ∧ id < B ∧ (∀ i (hi : i < l.length), cellsAt h id (off + i * w) w = some (f l[i])) ∧ ∀ i j (hi : i < l.length), j < w → cellAt h id (off + i * w + j) = (f l[i])[j]? := by
  have hlen := rows_length f hw l
  rcases hr.2 with e | ⟨id, off, e, hc⟩
  · have := congrArg List.length e
    rw [hlen] at this
    have : l.length * w ≠ 0 := by
      have := Nat.mul_pos hl h0
      omega
    simp_all
  · have hcell : ∀ i j (hi : i < l.length), j < w → cellAt h id (off + i * w + j) = (f l[i])[j]? := fun i j hi hj => by
      have hv : (f l[i])[j]? = some ((f l[i])[j]'(by rw [hw]; exact hj)) := List.getElem?_eq_getElem _
      rw [hv, Nat.add_assoc]
      exact hc _ _ (by rw [rows_get f hw hi hj, hv])
    refine ⟨id, off, e, hr.1 id off e, fun i hi => ?_, hcell⟩
    have := cellsAt_all (h := h) (id := id) (off := off + i * w) (vs := f l[i]) (by intro h1; have := hw l[i]; rw [h1] at this; simp at this; omega) fun j v hv => by
      have hj : j < w := by
        have := (List.getElem?_eq_some_iff.1 hv).1
        rwa [hw] at this
      rw [hcell i j hi hj, hv]
    rwa [hw] at this
def I64 (x : Int) : Prop := -9223372036854775808 ≤ x ∧ x ≤ 9223372036854775807
def TpOk (t : Tp) : Prop := (0 ≤ t.kd ∧ t.kd < 256) ∧ I64 t.el ∧ I64 t.ln ∧ ∀ f ∈ t.fs, I64 f.2
structure TabH (h : Hp) (B : Nat) (A : Option Addr) (T : List Tp) : Prop where
  rd : RdH h B A (tv T)
  fd : ∀ t ∈ T, RdH h B t.A (fv t.fs)
  nl : ∀ t ∈ T, t.A = none → t.c = 0
  bd : ∀ t ∈ T, TpOk t
theorem TabH.set {h : Hp} {B id : Nat} {A : Option Addr} {T : List Tp} (hr : TabH h B A T) (hB : B ≤ id) (x : AObj) : TabH (h.set id x) B A T := ⟨hr.rd.set hB x, fun t ht => (hr.fd t ht).set hB x, hr.nl, hr.bd⟩
theorem TabH.more {h : Hp} {B B' : Nat} {A : Option Addr} {T : List Tp} (hr : TabH h B A T) (hB : B ≤ B') : TabH h B' A T := ⟨hr.rd.more hB, fun t ht => (hr.fd t ht).more hB, hr.nl, hr.bd⟩
theorem TabH.at_ {h : Hp} {B : Nat} {A : Option Addr} {T : List Tp} (hr : TabH h B A T) {i : Nat} (hi : i < T.length) : ∃ id off, A = some ⟨id, off, none⟩ ∧ id < B ∧ cellsAt h id (off + i * 4) 4 = some [.int .u8 T[i].kd, .int .i64 T[i].el, .int .i64 T[i].ln, .slice T[i].A T[i].fs.length T[i].c] ∧
    cellAt h id (off + i * 4) = some (.int .u8 T[i].kd) ∧ cellAt h id (off + i * 4 + 1) = some (.int .i64 T[i].el) ∧ cellAt h id (off + i * 4 + 2) = some (.int .i64 T[i].ln) ∧ cellAt h id (off + i * 4 + 3) = some (.slice T[i].A T[i].fs.length T[i].c) := by
  obtain ⟨id, off, e, hid, h1, h2⟩ := RdH.rows Tp.v_length (by omega) hr.rd (by omega)
  exact ⟨id, off, e, hid, h1 i hi, h2 i 0 hi (by omega), h2 i 1 hi (by omega), h2 i 2 hi (by omega), h2 i 3 hi (by omega)⟩
theorem fld_at {h : Hp} {B : Nat} {A : Option Addr} {fs : List (List UInt8 × Int)} (hr : RdH h B A (fv fs)) {i : Nat} (hi : i < fs.length) : ∃ id off, A = some ⟨id, off, none⟩ ∧ id < B ∧ cellsAt h id (off + i * 2) 2 = some [.string ⟨⟨fs[i].1⟩⟩, .int .i64 fs[i].2] ∧
    cellAt h id (off + i * 2) = some (.string ⟨⟨fs[i].1⟩⟩) ∧ cellAt h id (off + i * 2 + 1) = some (.int .i64 fs[i].2) := by
  obtain ⟨id, off, e, hid, h1, h2⟩ := RdH.rows fcell_length (by omega) hr (by omega)
  exact ⟨id, off, e, hid, h1 i hi, h2 i 0 hi (by omega), h2 i 1 hi (by omega)⟩
theorem int_at {h : Hp} {B : Nat} {A : Option Addr} {l : List Int} (hr : RdH h B A (iv l)) {i : Nat} (hi : i < l.length) : ∃ id off, A = some ⟨id, off, none⟩ ∧ id < B ∧ cellAt h id (off + i) = some (.int .i64 l[i]) := by
  obtain ⟨id, off, e, hid, hc⟩ := hr.at_ (by rw [iv_length]; omega)
  exact ⟨id, off, e, hid, hc i _ (iv_get hi)⟩
end Go.Proofs.Ytkngdfbibffdcaa.Ce
namespace Go.Proofs.Ytkngdfbibffdcaa.Ce
open Go.RowKit
-- texts
theorem tx_len (t : List UInt8) : ByteArray.size ⟨⟨t⟩⟩ = t.length := rfl
theorem tx_eq (s t : List UInt8) : (ByteArray.toList ⟨⟨s⟩⟩ == ByteArray.toList ⟨⟨t⟩⟩) = decide (s = t) := by
  by_cases e : s = t
  · subst e; rw [beq_self_eq_true, decide_eq_true rfl]
  · rw [decide_eq_false e, beq_eq_false_iff_ne]
    intro h
    exact e (by simpa [ByteArray.toList_eq] using h)
theorem ext_from (s : List UInt8) (k : Nat) : ByteArray.extract ⟨⟨s⟩⟩ k s.length = ⟨⟨s.drop k⟩⟩ := by
  rw [Go.Lib.extract_eq, List.take_of_length_le (by simp)]
theorem ext_upto (s : List UInt8) (k : Nat) : ByteArray.extract ⟨⟨s⟩⟩ 0 k = ⟨⟨s.take k⟩⟩ := by
  rw [Go.Lib.extract_eq]
  simp
theorem ix_s (s : List UInt8) {i : Nat} (hi : i < s.length) (k : IntKind) (h : Hp) (n : Nat) : mIndex Try.prog 9 (.string ⟨⟨s⟩⟩) (.int k (i : Int)) h n = some ⟨.int .u8 (s[i]).toNat, h, n, [], []⟩ := by
  show (bif tyStr Try.prog 9 then (lget s i).bind fun b => mV (.int .u8 b.toNat) h n else none) = _
  rw [show tyStr Try.prog 9 = true from by kernel_rfl, lget_eq, List.getElem?_eq_getElem hi]
  rfl
theorem ix_0 (c : UInt8) (s : List UInt8) (h : Hp) (n : Nat) : mIndex Try.prog 9 (.string ⟨⟨c :: s⟩⟩) (.int .i64 0) h n = some ⟨.int .u8 c.toNat, h, n, [], []⟩ := ix_s (c :: s) (i := 0) (by simp) .i64 h n
theorem ix_1 (c d : UInt8) (s : List UInt8) (h : Hp) (n : Nat) : mIndex Try.prog 9 (.string ⟨⟨c :: d :: s⟩⟩) (.int .i64 1) h n = some ⟨.int .u8 d.toNat, h, n, [], []⟩ := ix_s (c :: d :: s) (i := 1) (by simp) .i64 h n
theorem ix_2 (c d e : UInt8) (s : List UInt8) (h : Hp) (n : Nat) : mIndex Try.prog 9 (.string ⟨⟨c :: d :: e :: s⟩⟩) (.int .i64 2) h n = some ⟨.int .u8 e.toNat, h, n, [], []⟩ := ix_s (c :: d :: e :: s) (i := 2) (by simp) .i64 h n
theorem ss_L (s : List UInt8) {j : Nat} (hj : j ≤ s.length) (h : Hp) (n : Nat) : mSlice Try.prog 9 (.string ⟨⟨s⟩⟩) (some (.int .i64 (j : Int))) none h n = some ⟨.string ⟨⟨s.drop j⟩⟩, h, n, [], []⟩ := by
  show (bif tyStr Try.prog 9 then (bif Nat.ble j s.length && Nat.ble s.length s.length then mV (.string (ByteArray.extract ⟨⟨s⟩⟩ j s.length)) h n else none) else none) = _
  rw [show tyStr Try.prog 9 = true from by kernel_rfl, show Nat.ble j s.length = true from by rw [Nat.ble_eq]; exact hj, show Nat.ble s.length s.length = true from by rw [Nat.ble_eq]; exact Nat.le_refl _, ext_from]
  rfl
theorem ss_H (s : List UInt8) {j : Nat} (hj : j ≤ s.length) (k : IntKind) (h : Hp) (n : Nat) : mSlice Try.prog 9 (.string ⟨⟨s⟩⟩) none (some (.int k (j : Int))) h n = some ⟨.string ⟨⟨s.take j⟩⟩, h, n, [], []⟩ := by
  show (bif tyStr Try.prog 9 then (bif Nat.ble 0 j && Nat.ble j s.length then mV (.string (ByteArray.extract ⟨⟨s⟩⟩ 0 j)) h n else none) else none) = _
  rw [show tyStr Try.prog 9 = true from by kernel_rfl, show Nat.ble j s.length = true from by rw [Nat.ble_eq]; exact hj, ext_upto]
  rfl
theorem b_cat (s t : List UInt8) (hb : s.length + t.length ≤ 1000000) (h : Hp) (n : Nat) : mBin Try.prog .add 9 (.string ⟨⟨s⟩⟩) (.string ⟨⟨t⟩⟩) h n = some ⟨.string ⟨⟨s ++ t⟩⟩, h, n, [], []⟩ := by
  have e : ((⟨⟨s⟩⟩ : ByteArray) ++ ⟨⟨t⟩⟩) = ⟨⟨s ++ t⟩⟩ := by
    apply ByteArray.ext
    apply Array.ext'
    simp
  have hm : IntKind.i64.max = 9223372036854775807 := by decide
  have e0 : prun Try.prog (Op.stringOp .add ⟨⟨s⟩⟩ ⟨⟨t⟩⟩) = some (.string ⟨⟨s ++ t⟩⟩) := by
    show prun _ (if ((s.length + t.length : Nat) : Int) > IntKind.i64.max then _ else (pure (.string ((⟨⟨s⟩⟩ : ByteArray) ++ ⟨⟨t⟩⟩)) : Sem Value)) = _
    rw [if_neg (by omega), e]
    rfl
  show (prun Try.prog (Op.stringOp .add ⟨⟨s⟩⟩ ⟨⟨t⟩⟩)).bind _ = _
  rw [e0]
  rfl
theorem dig_ix {j : Nat} (hj : j < 16) : Go.Lib.indexByte digC (dig j) = (j : Int) := by
  have : ∀ j, j < 16 → Go.Lib.indexByte digC (dig j) = (j : Int) := by decide
  exact this j hj
variable (k d cl : Nat) (h : Hp) (n : Nat)
theorem ib1_ev (s : List UInt8) (c : UInt8) : SQ k (d + 1) cl 69 [.string ⟨⟨s⟩⟩, .int .u8 c.toNat] h n fun v h' n' => v = .int .i64 (Go.Lib.indexByte s c) ∧ h' = h ∧ n' = n := by
  have hc : c.toNat.toUInt8 = c := UInt8.ofNat_toNat
  refine enter Try.func69 (by kernel_rfl) rfl (by kernel_rfl) rfl rfl rfl ?_
  (repeat' first | refine zcd ?_ | intro K' hK | (with_reducible refine zn hK ?_; clear hK) | ((with_reducible apply o_IB (g := 73) (c := (c.toNat : Int)) w_none); (case ha => exact ez0); (case hg => kernel_rfl); (case hi => kernel_rfl)) | ((with_reducible first | apply zo1 | apply zo2 | apply o_guard rfl | apply x_cond | apply k_e1 rfl | apply k_e2 rfl | apply k_e0 rfl | apply k_e3 rfl | apply k_e4 rfl); (case he => exact ez0); (try case hok => exact ezO); all_goals try (intro hb; (try simp only [hbs, reduceCtorEq] at hb); try exact ezX)) | ((with_reducible apply o_undef rfl); (case hb => exact ez0)))
  all_goals exact sw_flat rfl rfl ⟨by rw [hc], rfl, rfl⟩
theorem ib_ev (s : List UInt8) (c : UInt8) : SQ k (d + 2) cl 60 [.string ⟨⟨s⟩⟩, .int .u8 c.toNat] h n fun v h' n' => v = .int .i64 (Go.Lib.indexByte s c) ∧ h' = h ∧ n' = n := by
  refine enter Try.func60 (by kernel_rfl) rfl (by kernel_rfl) rfl rfl rfl ?_
  (repeat' first | refine zcd ?_ | intro K' hK | (with_reducible refine zn hK ?_; clear hK) | ((with_reducible apply o_callF (g := 69) w_none); (case ha => exact ez0); (case hs => exact ib1_ev (d := d) (s := s) (c := c) ..); (case' hk => rintro _ h' n' ⟨rfl, rfl, rfl⟩)) | ((with_reducible first | apply zo1 | apply zo2 | apply o_guard rfl | apply x_cond | apply k_e1 rfl | apply k_e2 rfl | apply k_e0 rfl | apply k_e3 rfl | apply k_e4 rfl); (case he => exact ez0); (try case hok => exact ezO); all_goals try (intro hb; (try simp only [hbs, reduceCtorEq] at hb); try exact ezX)) | ((with_reducible apply o_undef rfl); (case hb => exact ez0)))
  all_goals exact sw_flat rfl rfl ⟨rfl, rfl, rfl⟩
theorem hp_ev (p s : List UInt8) : SQ k (d + 1) cl 68 [.string ⟨⟨p ++ s⟩⟩, .string ⟨⟨p⟩⟩] h n fun v h' n' => v = .bool true ∧ h' = h ∧ n' = n := by
  have e1 := ss_H (p ++ s) (j := p.length) (by rw [List.length_append]; omega) .i64
  rw [List.take_left] at e1
  have e2 := tx_eq p p
  rw [decide_eq_true rfl] at e2
  have e3 : ((p.length : Nat) : Int) ≤ (((p ++ s).length : Nat) : Int) := by rw [List.length_append]; omega
  refine enter Try.func68 (by kernel_rfl) rfl (by kernel_rfl) rfl rfl rfl ?_
  (repeat' first | refine zcd ?_ | intro K' hK | (with_reducible refine zn hK ?_; clear hK) | fail | ((with_reducible first | apply zo1 | apply zo2 | apply o_guard rfl | apply x_cond | apply k_e1 rfl | apply k_e2 rfl | apply k_e0 rfl | apply k_e3 rfl | apply k_e4 rfl); (case he => exact ez4 tx_len e1 @b_strEql e2); (try case hok => exact ezO); all_goals try (intro hb; (try simp only [hbs, reduceCtorEq] at hb); try exact ezX)) | ((with_reducible apply o_undef rfl); (case hb => exact ez0)))
  all_goals exact sw_flat rfl rfl ⟨by first | rfl | (congr 1; simp), rfl, rfl⟩
theorem cut1_ev (p s : List UInt8) : SQ k (d + 2) cl 58 [.string ⟨⟨p ++ s⟩⟩, .string ⟨⟨p⟩⟩] h n fun v h' n' => v = .tuple ⟨[.string ⟨⟨s⟩⟩, .bool true]⟩ ∧ h' = h ∧ n' = n := by
  have e1 := ss_L (p ++ s) (j := p.length) (by rw [List.length_append]; omega)
  rw [List.drop_left] at e1
  refine enter Try.func58 (by kernel_rfl) rfl (by kernel_rfl) rfl rfl rfl ?_
  (repeat' first | refine zcd ?_ | intro K' hK | (with_reducible refine zn hK ?_; clear hK) | ((with_reducible apply o_callF (g := 68) w_none); (case ha => exact ez0); (case hs => exact hp_ev (d := d) (p := p) (s := s) ..); (case' hk => rintro _ h' n' ⟨rfl, rfl, rfl⟩)) | ((with_reducible first | apply zo1 | apply zo2 | apply o_guard rfl | apply x_cond | apply k_e1 rfl | apply k_e2 rfl | apply k_e0 rfl | apply k_e3 rfl | apply k_e4 rfl); (case he => exact ez2 tx_len e1); (try case hok => exact ezO); all_goals try (intro hb; (try simp only [hbs, reduceCtorEq] at hb); try exact ezX)) | ((with_reducible apply o_undef rfl); (case hb => exact ez0)))
  all_goals exact sw_flat rfl rfl ⟨rfl, rfl, rfl⟩
theorem cut_ev (p s : List UInt8) : SQ k (d + 3) cl 39 [.string ⟨⟨p ++ s⟩⟩, .string ⟨⟨p⟩⟩] h n fun v h' n' => v = .tuple ⟨[.string ⟨⟨s⟩⟩, .bool true]⟩ ∧ h' = h ∧ n' = n := by
  refine enter Try.func39 (by kernel_rfl) rfl (by kernel_rfl) rfl rfl rfl ?_
  (repeat' first | refine zcd ?_ | intro K' hK | (with_reducible refine zn hK ?_; clear hK) | ((with_reducible apply o_callF (g := 58) w_none); (case ha => exact ez0); (case hs => exact cut1_ev (d := d) (p := p) (s := s) ..); (case' hk => rintro _ h' n' ⟨rfl, rfl, rfl⟩)) | ((with_reducible first | apply zo1 | apply zo2 | apply o_guard rfl | apply x_cond | apply k_e1 rfl | apply k_e2 rfl | apply k_e0 rfl | apply k_e3 rfl | apply k_e4 rfl); (case he => exact ez0); (try case hok => exact ezO); all_goals try (intro hb; (try simp only [hbs, reduceCtorEq] at hb); try exact ezX)) | ((with_reducible apply o_undef rfl); (case hb => exact ez0)))
  all_goals exact sw_flat rfl rfl ⟨rfl, rfl, rfl⟩
end Go.Proofs.Ytkngdfbibffdcaa.Ce
namespace Go.Proofs.Ytkngdfbibffdcaa.Ce
open Go.RowKit
theorem ix_dig {y : Nat} (hy : y < 16) (k : IntKind) (h : Hp) (n : Nat) : mIndex Try.prog 9 (.string ⟨⟨[48, 49, 50, 51, 52, 53, 54, 55, 56, 57, 97, 98, 99, 100, 101, 102]⟩⟩) (.int k (y : Int)) h n = some ⟨.int .u8 (dig y).toNat, h, n, [], []⟩ := by
  have hl : y < digC.length := hy
  have := ix_s digC hl k h n
  rw [show digC[y] = dig y from by unfold dig; rw [getD_lt hl]] at this
  exact this
theorem b_rem16 {t : TypeId} {y : Nat} (h : Hp) (n : Nat) : mBin Try.prog .rem t (.int .u64 (y : Int)) (.int .u64 16) h n = some ⟨.int .u64 ((y % 16 : Nat) : Int), h, n, [], []⟩ := by
  rw [b_rem (by decide)]
  congr 2
theorem b_quo16 {t : TypeId} {y : Nat} (hy : y < 18446744073709551616) (h : Hp) (n : Nat) : mBin Try.prog .quo t (.int .u64 (y : Int)) (.int .u64 16) h n = some ⟨.int .u64 ((y / 16 : Nat) : Int), h, n, [], []⟩ := by
  rw [b_quo (by decide)]
  have e : (y : Int).tdiv 16 = ((y / 16 : Nat) : Int) := rfl
  rw [e, wrap_u64 (by omega) (by omega)]
variable (k d cl : Nat) (h : Hp) (n : Nat)
theorem in_ev (hk : 30000 ≤ k) (x : Nat) (hx : x < 18446744073709551616) : SQ k (d + 1) cl 36 [.int .u64 (x : Int), .int .u64 16] h n fun v h' n' => ∃ j, HexJ x j ∧ v = .string ⟨⟨hexS x j⟩⟩ ∧ h' = h ∧ n' = n := by
  have sl : ∀ (h : Hp) (n id off : Nat) (k1 : IntKind) (lo : Int) (h0 : 0 ≤ lo) (h1 : lo ≤ 64), mSlice Try.prog 120 (.pointer (some ⟨id, off, none⟩)) (some (.int k1 lo)) none h n = some ⟨.slice (some ⟨id, off + lo.toNat * 1, none⟩) (64 - lo.toNat) (64 - lo.toNat + 1), h, n, [], []⟩ := fun _ _ _ _ _ _ h0 h1 => m_slPL (m := 64) (s := 1) (by kernel_rfl) (by omega) h0 h1
  refine enter Try.func36 (by kernel_rfl) rfl (by kernel_rfl) rfl rfl rfl ?_
  (repeat' first | refine zcd ?_ | intro K' hK | (with_reducible refine zn hK ?_; clear hK) | fail | ((with_reducible first | apply zo1 | apply zo2 | apply o_guard rfl | apply x_cond | apply k_e1 rfl | apply k_e2 rfl | apply k_e0 rfl | apply k_e3 rfl | apply k_e4 rfl); (case he => exact ez0); (try case hok => exact ezO); all_goals try (intro hb; (try simp only [hbs, reduceCtorEq] at hb); try exact ezX)) | ((with_reducible apply o_undef rfl); (case hb => exact ez0)))
  refine x_loopV [0, 4, 6, 7, 8, 9, 10, 11, 12, 13, 14, 15, 16, 17, 18, 19, 20, 21, 22] [0, 6] (fun m vs h' n' => ∃ j A R, j + m = 16 ∧ 1 ≤ m ∧ (j = 0 ∨ 16 ^ j ≤ x) ∧ A + j = 64 ∧ vs = [.int .u64 ((x / 16 ^ j : Nat) : Int), .int .i64 (A : Int)] ∧ R.length = 64 ∧ R.drop A = bv (hexS x j) ∧ h' = h.set n (.row 120 false R) ∧ n' = n + 1) 16 rfl (by omega) ⟨0, 64, List.replicate 64 (.int .u8 0), rfl, by omega, .inl rfl, rfl, by simp (disch := first | assumption | omega | rfl | decide) only [go_sem, seval, tys]; rw [Nat.div_one], List.length_replicate, rfl, rfl, rfl⟩ ?_
  rintro m g _ h1 n1 ⟨j, A, R, hjm, hm1, hjx, hAj, rfl, hRl, hRd, rfl, rfl⟩
  obtain ⟨A, rfl⟩ : ∃ A', A = A' + 1 := ⟨A - 1, by omega⟩
  obtain ⟨y, hy⟩ : ∃ y, x / 16 ^ j = y := ⟨_, rfl⟩
  have hy2 : x / 16 ^ (j + 1) = y / 16 := by rw [Nat.pow_succ, ← Nat.div_div_eq_div_mul, hy]
  have hyx : y ≤ x := by rw [← hy]; exact Nat.div_le_self _ _
  have hA : ((A + 1 : Nat) : Int) - 1 = (A : Int) := by omega
  have hA2 : 64 - A = j + 1 := by omega
  obtain ⟨R', hR'⟩ : ∃ R', R.set A (.int .u8 (dig (y % 16)).toNat) = R' := ⟨_, rfl⟩
  have hov : overAt A [Value.int .u8 (dig (y % 16)).toNat] R = some R' := by rw [overAt_set (by omega), hR']
  have hRl' : R'.length = 64 := by rw [← hR', List.length_set]; exact hRl
  have hRd' : R'.drop A = bv (hexS x (j + 1)) := by
    rw [← hR', List.drop_eq_getElem_cons (by rw [List.length_set]; omega), List.getElem_set_self, List.drop_set_of_lt (by omega), hRd, hexS, hy]
    rfl
  have hxl := hexS_len x (j + 1)
  rw [hy]
  have e1 := b_rem16 (t := 41) (y := y)
  have e2 := b_quo16 (t := 41) (y := y) (by omega)
  have e3 := ix_dig (y := y % 16) (Nat.mod_lt _ (by decide)) .u64
  have hrd : RdH (h.set n (.row 120 false R')) (n + 1) (some ⟨n, A, none⟩) (bv (hexS x (j + 1))) := by
    refine ⟨fun id j e => by injection e with e; injection e with e1; omega, .inr ⟨n, A, rfl, fun q v hq => ?_⟩⟩
    rw [cellAt_same, lget_eq, ← List.getElem?_drop, hRd']
    exact hq
  have hAi : (A : Int) < 64 := by omega
  by_cases hz : y / 16 = 0
  · have hJ : HexJ x (j + 1) := hexJ_stop (by omega) hjx (by rw [hy2]; exact hz)
    have hz2 : ((y / 16 : Nat) : Int) = 0 := by omega
    (repeat' first | refine zcd ?_ | intro K' hK | (with_reducible refine zn hK ?_; clear hK) | ((with_reducible apply o_b2s (xs := hexS x (j + 1)) b2T39_9 w_none); (case hy => exact ez3 sl hxl hA2); (case hr => exact hrd); (case h0 => intro hh; cases hh)) | ((with_reducible first | apply zo1 | apply zo2 | apply o_guard rfl | apply x_cond | apply k_e1 rfl | apply k_e2 rfl | apply k_e0 rfl | apply k_e3 rfl | apply k_e4 rfl); (case he => exact ez6 hA e1 e2 e3 hov sl); (try case hok => exact ezO); all_goals try (intro hb; (try simp only [hbs, reduceCtorEq] at hb); try exact ezX)) | ((with_reducible apply o_undef rfl); (case hb => exact ez0)))
    all_goals exact sw_flat rfl rfl ⟨j + 1, hJ, rfl, rfl, rfl⟩
  · have hgo := hexJ_go (x := x) (j := j) (by rw [hy2]; exact hz)
    have hj15 : j + 1 < 16 := by
      rcases Nat.lt_or_ge (j + 1) 16 with hh | hh
      · exact hh
      · have h16 : 16 ^ 16 ≤ 16 ^ (j + 1) := Nat.pow_le_pow_right (by decide) hh
        have h17 : (16 : Nat) ^ 16 = 18446744073709551616 := rfl
        omega
    have hz2 : ¬ ((y / 16 : Nat) : Int) = 0 := by omega
    (repeat' first | refine zcd ?_ | intro K' hK | (with_reducible refine zn hK ?_; clear hK) | fail | ((with_reducible first | apply zo1 | apply zo2 | apply o_guard rfl | apply x_cond | apply k_e1 rfl | apply k_e2 rfl | apply k_e0 rfl | apply k_e3 rfl | apply k_e4 rfl); (case he => exact ez6 hA e1 e2 e3 hov sl); (try case hok => exact ezO); all_goals try (intro hb; (try simp only [hbs, reduceCtorEq] at hb); try exact ezX)) | ((with_reducible apply o_undef rfl); (case hb => exact ez0)))
    all_goals exact k_round (m - 1) (by omega) ⟨j + 1, A, R', by omega, by omega, .inr hgo, by omega, by simp (disch := first | assumption | omega | rfl | decide) only [go_sem, seval, tys]; rw [hy2], hRl', hRd', rfl, rfl⟩
theorem hex_ev (hk : 30000 ≤ k) (x : Nat) (hx : x < 18446744073709551616) : SQ k (d + 2) cl 14 [.int .u64 (x : Int)] h n fun v h' n' => ∃ j, HexJ x j ∧ v = .string ⟨⟨48 :: 120 :: hexS x j⟩⟩ ∧ h' = h ∧ n' = n := by
  have q := fun (h6 : Hp) (n6 : Nat) => in_ev k d n h6 n6 hk x hx
  have e1 := fun j (hj : HexJ x j) => b_cat [48, 120] (hexS x j) (by rw [hexS_len]; have := hj.2.1; simp; omega)
  refine enter Try.func14 (by kernel_rfl) rfl (by kernel_rfl) rfl rfl rfl ?_
  (repeat' first | refine zcd ?_ | intro K' hK | (with_reducible refine zn hK ?_; clear hK) | ((with_reducible apply o_callF (g := 36) w_none); (case ha => exact ez0); (case hs => (exact q _ _)); (case' hk => rintro _ h' n' ⟨j, hj, rfl, rfl, rfl⟩)) | ((with_reducible first | apply zo1 | apply zo2 | apply o_guard rfl | apply x_cond | apply k_e1 rfl | apply k_e2 rfl | apply k_e0 rfl | apply k_e3 rfl | apply k_e4 rfl); (case he => exact ez0); (try case hok => exact ezO); all_goals try (intro hb; (try simp only [hbs, reduceCtorEq] at hb); try exact ezX)) | ((with_reducible apply o_undef rfl); (case hb => exact ez0)))
  have e2 := e1 j hj
  (repeat' first | refine zcd ?_ | intro K' hK | (with_reducible refine zn hK ?_; clear hK) | fail | ((with_reducible first | apply zo1 | apply zo2 | apply o_guard rfl | apply x_cond | apply k_e1 rfl | apply k_e2 rfl | apply k_e0 rfl | apply k_e3 rfl | apply k_e4 rfl); (case he => exact ez1 e2); (try case hok => exact ezO); all_goals try (intro hb; (try simp only [hbs, reduceCtorEq] at hb); try exact ezX)) | ((with_reducible apply o_undef rfl); (case hb => exact ez0)))
  all_goals exact sw_flat rfl rfl ⟨j, hj, rfl, rfl, rfl⟩
theorem out_ev (hk : 30000 ≤ k) (x : Nat) (hx : x < 18446744073709551616) (j : Nat) (hj : HexJ x j) : SQ k (d + 3) cl 43 [.string ⟨⟨hexS x j⟩⟩, .int .u64 16, .int .u64 18446744073709551615] h n fun v h' n' => v = .tuple ⟨[.int .u64 (x : Int), .int .i64 0]⟩ ∧ h' = h ∧ n' = n := by
  have hsl := hexS_len x j
  have hdl : ∀ h n, mSlice Try.prog 9 (.string ⟨⟨[48, 49, 50, 51, 52, 53, 54, 55, 56, 57, 97, 98, 99, 100, 101, 102]⟩⟩) none (some (.int .u64 16)) h n = some ⟨.string ⟨⟨[48, 49, 50, 51, 52, 53, 54, 55, 56, 57, 97, 98, 99, 100, 101, 102]⟩⟩, h, n, [], []⟩ := fun h n => ss_H digC (j := 16) (Nat.le_refl _) .u64 h n
  have hj1 := hj.1
  have hj2 := hj.2.1
  obtain ⟨s, hs⟩ : ∃ s, hexS x j = s := ⟨_, rfl⟩
  have hget : ∀ i (hi : i < s.length), s[i] = dig (x / 16 ^ (j - 1 - i) % 16) := fun i hi => by
    have := hexS_get x (j := j) (i := i) (by rw [← hsl, hs]; exact hi)
    rwa [hs, getD_lt hi] at this
  have htop : j ≠ 1 → s.getD 0 0 ≠ 48 := fun hh => by rw [← hs]; exact hexJ_top hj hh
  rw [hs] at hsl ⊢
  have hne : decide (s = []) = false := by rw [decide_eq_false_iff_not]; intro hh; rw [hh] at hsl; simp at hsl; omega
  have e0 := tx_eq s []
  rw [hne] at e0
  have e00 : (ByteArray.toList ⟨⟨s⟩⟩ == ByteArray.toList ⟨⟨[]⟩⟩) = false := e0
  refine enter Try.func43 (by kernel_rfl) rfl (by kernel_rfl) rfl rfl rfl ?_
  (repeat' first | refine zcd ?_ | intro K' hK | (with_reducible refine zn hK ?_; clear hK) | fail | ((with_reducible first | apply zo1 | apply zo2 | apply o_guard rfl | apply x_cond | apply k_e1 rfl | apply k_e2 rfl | apply k_e0 rfl | apply k_e3 rfl | apply k_e4 rfl); (case he => exact ez2 tx_len hsl); (try case hok => exact ezO); all_goals try (intro hb; (try simp only [hbs, reduceCtorEq] at hb); try exact ezX)) | ((with_reducible apply o_undef rfl); (case hb => exact ez0)))
  have hj0 : x / 16 ^ j = 0 := Nat.div_eq_of_lt hj.2.2.1
  refine x_loopF [6, 7, 8, 9, 10, 11, 14, 15, 16, 17, 18, 19, 20, 21, 22, 23, 24, 25, 26, 27, 28, 29, 30, 31, 32, 33, 34, 35, 36, 37, 38, 39, 40, 41, 42, 43, 44, 45, 46, 47, 48, 49, 50, 51, 52, 53] [8, 9, 14] (fun m vs => m ≤ j ∧ vs = [.int .u64 ((x / 16 ^ m : Nat) : Int), .bool false, .int .i64 ((j - m : Nat) : Int)]) j rfl (by omega) ⟨Nat.le_refl _, by simp (disch := first | assumption | omega | rfl | decide) only [go_sem, seval, tys]; rw [hj0, Nat.sub_self]; rfl⟩ ?_
  rintro m g _ ⟨hm, rfl⟩
  rcases m with _ | m
  · rw [Nat.pow_zero, Nat.div_one, Nat.sub_zero]
    (repeat' first | refine zcd ?_ | intro K' hK | (with_reducible refine zn hK ?_; clear hK) | fail | ((with_reducible first | apply zo1 | apply zo2 | apply o_guard rfl | apply x_cond | apply k_e1 rfl | apply k_e2 rfl | apply k_e0 rfl | apply k_e3 rfl | apply k_e4 rfl); (case he => exact ez4 tx_len hsl @b_strEql e00); (try case hok => exact ezO); all_goals try (intro hb; (try simp only [hbs, reduceCtorEq] at hb); try exact ezX)) | ((with_reducible apply o_undef rfl); (case hb => exact ez0)))
    all_goals exact sw_flat rfl rfl ⟨rfl, rfl, rfl⟩
  · obtain ⟨i, hi⟩ : ∃ i, j - (m + 1) = i := ⟨_, rfl⟩
    rw [hi]
    have his : i < s.length := by omega
    obtain ⟨D, hD⟩ : ∃ D, x / 16 ^ m % 16 = D := ⟨_, rfl⟩
    have hD16 : D < 16 := by omega
    have hsi : s[i] = dig D := by rw [hget i his, show j - 1 - i = m from by omega, hD]
    have e1 := ix_s s his .i64
    rw [hsi] at e1
    have e2 := ix_s s (i := 0) (by omega) .i64
    obtain ⟨c0, hc0⟩ : ∃ c0, (s[0]'(by omega)).toNat = c0 := ⟨_, rfl⟩
    have e2 : ∀ h n, mIndex Try.prog 9 (.string ⟨⟨s⟩⟩) (.int .i64 0) h n = some ⟨.int .u8 (c0 : Int), h, n, [], []⟩ := fun h n => by rw [← hc0]; exact e2 h n
    have hc1 : i = 1 → ¬ ((c0 : Int) = 48) := fun hi1 hh => by
      have := htop (by omega)
      rw [getD_lt (by omega)] at this
      apply this
      have h48 : (s[0]'(by omega)).toNat = 48 := by omega
      exact UInt8.toNat_inj.1 h48
    have q := fun (cl6 : Nat) (h6 : Hp) (n6 : Nat) => (ib_ev k d cl6 h6 n6 digC (dig D)).mono (Φ' := fun v h' n' => v = .int .i64 (D : Int) ∧ h' = h6 ∧ n' = n6) fun _ _ _ hp => ⟨by rw [hp.1, dig_ix hD16], hp.2⟩
    have q : ∀ (cl6 : Nat) (h6 : Hp) (n6 : Nat), SQ k (d + 2) cl6 60 [.string ⟨⟨[48, 49, 50, 51, 52, 53, 54, 55, 56, 57, 97, 98, 99, 100, 101, 102]⟩⟩, .int .u8 (dig D).toNat] h6 n6 fun v h' n' => v = .int .i64 (D : Int) ∧ h' = h6 ∧ n' = n6 := q
    obtain ⟨N, hN⟩ : ∃ N, x / 16 ^ (m + 1) = N := ⟨_, rfl⟩
    have hND : N * 16 + D = x / 16 ^ m := by
      rw [← hN, ← hD, Nat.pow_succ, ← Nat.div_div_eq_div_mul]
      omega
    have hle : x / 16 ^ m ≤ x := Nat.div_le_self _ _
    obtain ⟨Q, hQ⟩ : ∃ Q, (18446744073709551615 - D) / 16 = Q := ⟨_, rfl⟩
    have hQN : N ≤ Q := by omega
    have e3 : ∀ (t : TypeId) (h : Hp) (n : Nat), mBin Try.prog .quo t (.int .u64 (18446744073709551615 - (D : Int))) (.int .u64 16) h n = some ⟨.int .u64 (Q : Int), h, n, [], []⟩ := fun t h n => by
      have := b_quo16 (t := t) (y := 18446744073709551615 - D) (by omega) h n
      rw [hQ, show ((18446744073709551615 - D : Nat) : Int) = 18446744073709551615 - (D : Int) from by omega] at this
      exact this
    have hnx : (i : Int) + 1 = ((j - m : Nat) : Int) := by omega
    have hnn : (N : Int) * 16 + D = ((x / 16 ^ m : Nat) : Int) := by omega
    rw [hN]
    have hf : decide ((N : Int) > (Q : Int)) = false := decide_eq_false (by omega)
    clear hget htop hsi
    (repeat' first | refine zcd ?_ | intro K' hK | (with_reducible refine zn hK ?_; clear hK) | (with_reducible refine x_drawn (id := 5) (by kernel_rfl) fun K' hK => ?_) | ((with_reducible apply o_callF (g := 60) w_none); (case ha => exact ez0); (case hs => (exact q _ _ _)); (case' hk => rintro _ h' n' ⟨rfl, rfl, rfl⟩)) | ((with_reducible first | apply zo1 | apply zo2 | apply o_guard rfl | apply x_cond | apply k_e1 rfl | apply k_e2 rfl | apply k_e0 rfl | apply k_e3 rfl | apply k_e4 rfl); (case he => exact ez6 tx_len hsl hdl e1 e2 e3); (try case hok => exact ezO); all_goals try (intro hb; (try simp only [hbs, reduceCtorEq] at hb); try exact ezX)) | ((with_reducible apply o_undef rfl); (case hb => exact ez0)))
    all_goals exact k_round m (by omega) ⟨⟨rfl, rfl⟩, by omega, by simp (disch := first | assumption | omega | rfl | decide) only [go_sem, seval, tys]; rw [hnx, hnn]; try rw [hf]⟩
theorem unhex_ev (hk : 30000 ≤ k) (x : Nat) (hx : x < 18446744073709551616) (j : Nat) (hj : HexJ x j) : SQ k (d + 4) cl 19 [.string ⟨⟨48 :: 120 :: hexS x j⟩⟩] h n fun v h' n' => v = .tuple ⟨[.int .u64 (x : Int), .int .i64 0]⟩ ∧ h' = h ∧ n' = n := by
  have q1 := fun (h6 : Hp) (n6 : Nat) => cut_ev k d n h6 n6 [48, 120] (hexS x j)
  have q1 : ∀ (h6 : Hp) (n6 : Nat), SQ k (d + 3) n 39 [.string ⟨⟨48 :: 120 :: hexS x j⟩⟩, .string ⟨⟨[48, 120]⟩⟩] h6 n6 fun v h' n' => v = .tuple ⟨[.string ⟨⟨hexS x j⟩⟩, .bool true]⟩ ∧ h' = h6 ∧ n' = n6 := q1
  have q2 := fun (h6 : Hp) (n6 : Nat) => out_ev k d n h6 n6 hk x hx j hj
  have hl : ByteArray.size ⟨⟨48 :: 120 :: hexS x j⟩⟩ = j + 2 := by rw [tx_len]; simp [hexS_len]
  have hj2 := hj.2.1
  obtain ⟨s, hs⟩ : ∃ s, hexS x j = s := ⟨_, rfl⟩
  rw [hs] at hl ⊢
  simp only [hs] at q1 q2
  refine enter Try.func19 (by kernel_rfl) rfl (by kernel_rfl) rfl rfl rfl ?_
  (repeat' first | refine zcd ?_ | intro K' hK | (with_reducible refine zn hK ?_; clear hK) | ((with_reducible apply o_callF (g := 39) w_none); (case ha => exact ez0); (case hs => (exact q1 _ _)); (case' hk => rintro _ h' n' ⟨rfl, rfl, rfl⟩)) | ((with_reducible apply o_callF (g := 43) w_none); (case ha => exact ez0); (case hs => (exact q2 _ _)); (case' hk => rintro _ h' n' ⟨rfl, rfl, rfl⟩)) | ((with_reducible first | apply zo1 | apply zo2 | apply o_guard rfl | apply x_cond | apply k_e1 rfl | apply k_e2 rfl | apply k_e0 rfl | apply k_e3 rfl | apply k_e4 rfl); (case he => exact ez1 hl); (try case hok => exact ezO); all_goals try (intro hb; (try simp only [hbs, reduceCtorEq] at hb); try exact ezX)) | ((with_reducible apply o_undef rfl); (case hb => exact ez0)))
  all_goals exact sw_flat rfl rfl ⟨rfl, rfl, rfl⟩
end Go.Proofs.Ytkngdfbibffdcaa.Ce
namespace Go.Proofs.Ytkngdfbibffdcaa.Ce
open Go.RowKit
theorem apS : ApS Try.prog 39 5 9 ∧ tyU8 Try.prog 5 = true := by
  have h : (Try.prog.info? 5).map (fun i => (i.zero, i.size, i.bytes)) = some (some (Value.int .u8 0), 1, 1) := by kernel_rfl
  refine ⟨⟨by kernel_rfl, by kernel_rfl, ?_⟩, by kernel_rfl⟩
  cases hi : Try.prog.info? 5 with
  | none => rw [hi] at h; cases h
  | some i =>
    rw [hi] at h
    injection h with h
    injection h with h1 h2
    injection h2 with h2 h3
    exact ⟨i, rfl, h1, h2, h3⟩
theorem b_hi8 {t : TypeId} {c : Nat} (h : Hp) (n : Nat) : mBin Try.prog .shr t (.int .u8 (c : Int)) (.int .u64 4) h n = some ⟨.int .u8 ((c / 16 : Nat) : Int), h, n, [], []⟩ := by
  rw [b_shr (by decide)]
  show some (Ef.mk (.int .u8 ((c : Int).fdiv 16)) h n [] []) = _
  rw [Int.fdiv_eq_ediv_of_nonneg _ (by decide)]
  rfl
theorem b_lo8 {t : TypeId} {c : Nat} (hc : c < 256) (h : Hp) (n : Nat) : mBin Try.prog .and t (.int .u8 (c : Int)) (.int .u8 15) h n = some ⟨.int .u8 ((c % 16 : Nat) : Int), h, n, [], []⟩ := by
  show (some (Value.int .u8 (IntKind.wrap .u8 (((BitVec.ofInt 8 (c : Int)) &&& (BitVec.ofInt 8 ((15 : Nat) : Int))).toNat : Int)))).bind _ = _
  rw [BitVec.toNat_and, BitVec.ofInt_natCast, BitVec.ofInt_natCast, BitVec.toNat_ofNat, BitVec.toNat_ofNat, Nat.mod_eq_of_lt hc, show (15 : Nat) % 2 ^ 8 = 2 ^ 4 - 1 from rfl, Nat.and_two_pow_sub_one_eq_mod, wrap_u8n (by omega)]
  rfl
theorem u8ne {c e : UInt8} (h : c ≠ e) : c.toNat ≠ e.toNat := fun hh => h (UInt8.toNat_inj.1 hh)
theorem esc_cases (c : UInt8) : (escB c = [92, c] ∧ (c.toNat = 34 ∨ c.toNat = 92)) ∨ (escB c = [92, 110] ∧ c.toNat = 10) ∨ (escB c = [92, 120, dig (c.toNat / 16), dig (c.toNat % 16)] ∧ (c.toNat < 32 ∨ 126 < c.toNat) ∧ c.toNat ≠ 10) ∨ (escB c = [c] ∧ 32 ≤ c.toNat ∧ c.toNat ≤ 126 ∧ c.toNat ≠ 34 ∧ c.toNat ≠ 92) := by
  unfold escB
  by_cases h1 : c = 34 ∨ c = 92
  · rw [if_pos h1]
    refine .inl ⟨rfl, ?_⟩
    rcases h1 with rfl | rfl
    · exact .inl rfl
    · exact .inr rfl
  · rw [if_neg h1]
    have n1 : c.toNat ≠ 34 := u8ne (e := 34) fun hh => h1 (.inl hh)
    have n2 : c.toNat ≠ 92 := u8ne (e := 92) fun hh => h1 (.inr hh)
    by_cases h2 : c = 10
    · rw [if_pos h2]
      subst h2
      exact .inr (.inl ⟨rfl, rfl⟩)
    · rw [if_neg h2]
      have n3 : c.toNat ≠ 10 := u8ne (e := 10) h2
      by_cases h3 : c < 32 ∨ 126 < c
      · rw [if_pos h3]
        refine .inr (.inr (.inl ⟨rfl, ?_, n3⟩))
        rcases h3 with h3 | h3
        · left; exact UInt8.lt_iff_toNat_lt.1 h3
        · right; exact UInt8.lt_iff_toNat_lt.1 h3
      · rw [if_neg h3]
        refine .inr (.inr (.inr ⟨rfl, ?_, ?_, n1, n2⟩))
        · exact Nat.le_of_not_lt fun hh => h3 (.inl (UInt8.lt_iff_toNat_lt.2 hh))
        · exact Nat.le_of_not_lt fun hh => h3 (.inr (UInt8.lt_iff_toNat_lt.2 hh))
def OwnB (B : List UInt8) (Kp : Nat → Prop) (h : Hp) (n : Nat) (v : Value) (h' : Hp) (n' : Nat) : Prop :=
  ∃ id, v = .slice (some ⟨id, 0, none⟩) B.length B.length ∧ n ≤ id ∧ id < n' ∧ n ≤ n' ∧ rowOf h' id = some (5, false, bv B) ∧ ∀ b, Kp b → h'.get b = h.get b
theorem bv_ap2 (a b : List UInt8) : bv (a ++ b) = bv a ++ bv b := by simp [bv]
theorem bv_take (B : List UInt8) : (bv B).take (B.length * 1) = bv B := List.take_of_length_le (by rw [bv_length]; omega)
theorem own_app {B : List UInt8} {Kp : Nat → Prop} {h h1 : Hp} {n n1 id : Nat} (L : List UInt8) {x : AObj} (hi1 : n ≤ id) (hi2 : id < n1) (hi3 : n ≤ n1) (hk : ∀ b, Kp b → h1.get b = h.get b) (hKn : ∀ b, Kp b → b < n) :
    OwnB (B ++ L) Kp h n (.slice (some ⟨n1 + 1, 0, none⟩) (B.length + L.length) (B.length + L.length)) (((h1.set n1 x).set id none).set (n1 + 1) (.row 5 false ((bv B).take (B.length * 1) ++ bv L))) (n1 + 1 + 1) := by
  refine ⟨n1 + 1, by rw [List.length_append], by omega, by omega, by omega, ?_, fun b hb => ?_⟩
  · rw [rowOf_same, bv_take, bv_ap2]
  · have := hKn b hb
    rw [Hp.get_ne _ _ (by omega), Hp.get_ne _ _ (by omega), Hp.get_ne _ _ (by omega)]
    exact hk b hb
variable (k d cl : Nat) (h : Hp) (n : Nat)
theorem quoted_ev (hk : 30000 ≤ k) (O : Value) (id : Nat) (acc s : List UInt8) (hb : acc.length + 4 * s.length + 2 ≤ 900000) (hs2 : s.length ≤ 20000) (hid : id < n) (hcl : cl ≤ n) (Kp : Nat → Prop) (hKn : ∀ b, Kp b → b < n)
    (hO : (O = .slice (some ⟨id, 0, none⟩) acc.length acc.length ∧ rowOf h id = some (5, false, bv acc) ∧ cl ≤ id ∧ ∀ b, Kp b → b ≠ id) ∨ (O = .slice (some ⟨id, 0, none⟩) acc.length 0 ∧ rowOf h id = some (5, true, bv acc) ∧ 0 < acc.length)) :
    SQ k (d + 1) cl 38 [O, .string ⟨⟨s⟩⟩] h n (OwnB (acc ++ quoB s) Kp h n) := by
  have hbl := bv_length acc
  have hsl := tx_len s
  have hw : rowOf h id = some (5, false, bv acc) → rwOf h id = some (5, bv acc) := fun hr => rwOf_row hr
  rcases hO with ⟨rfl, hr, hci, hKi⟩ | ⟨rfl, hr, h0⟩
  all_goals
    refine enterW Try.func38 (by kernel_rfl) rfl (by kernel_rfl) rfl rfl rfl ?_
  · have hr2 := hw hr
    (repeat' first | refine zcd ?_ | intro K' hK | (with_reducible refine zn hK ?_; clear hK) | ((with_reducible apply o_apR (t := 39) apT39 w_none); (case hs => exact ez0); (case hy => exact ez0); (case hsrc => exact src_row ez0 rfl); (case hr => exact ez1 hr2); (case hc => rfl); (case hm => omega); (case hli => omega); (case hln => omega); (case hcs => rw [hbl]; omega)) | ((with_reducible first | apply zo1 | apply zo2 | apply o_guard rfl | apply x_cond | apply k_e1 rfl | apply k_e2 rfl | apply k_e0 rfl | apply k_e3 rfl | apply k_e4 rfl); (case he => exact ez2 hr2 hsl); (try case hok => exact ezO); all_goals try (intro hb; (try simp only [hbs, reduceCtorEq] at hb); try exact ezX)) | ((with_reducible apply o_undef rfl); (case hb => exact ez0)))
    refine x_loopV [0, 5, 6, 12, 13, 14, 15, 16, 17, 18, 19, 20, 21, 22, 23, 24, 25, 26, 27, 28, 29, 30, 31, 32, 33, 34, 35, 36, 37, 38, 39, 40, 41, 42, 43, 44, 45, 46, 47, 48, 49, 50, 51, 52, 53, 54, 55] [0, 12] (fun m vs h' n' => m ≤ s.length ∧ ∃ B w, B = acc ++ 34 :: escL (s.take (s.length - m)) ∧ vs = [w, .int .i64 ((s.length - m : Nat) : Int)] ∧ OwnB B Kp h n w h' n') s.length rfl (by omega) ⟨Nat.le_refl _, acc ++ [34], .slice (some ⟨n + 1, 0, none⟩) (acc.length + 1) (acc.length + 1), by rw [Nat.sub_self]; rfl, by simp (disch := first | assumption | omega | rfl | decide) only [go_sem, seval, tys]; rw [Nat.sub_self]; rfl, ⟨n + 1, by rw [List.length_append]; rfl, by omega, by omega, by omega, by rw [rowOf_same, bv_take, bv_ap2]; rfl, fun b hb => by have := hKn b hb; have := hKi b hb; rw [Hp.get_ne _ _ (by omega), Hp.get_ne _ _ (by omega), Hp.get_ne _ _ (by omega)]⟩⟩ ?_
    rintro m g _ h1 n1 ⟨hm, B, _, hB, rfl, idB, rfl, hi1, hi2, hi3, hrB, hkB⟩
    have hrw := rwOf_row hrB
    have hBl := bv_length B
    have hel := escL_len (s.take (s.length - m))
    have htl : (s.take (s.length - m)).length ≤ s.length := by rw [List.length_take]; omega
    have hBb : B.length ≤ acc.length + 4 * s.length + 1 := by rw [hB, List.length_append, List.length_cons]; omega
    rcases m with _ | m
    · rw [Nat.sub_zero, List.take_length] at hB
      have hfin : B ++ [34] = acc ++ quoB s := by rw [hB, List.append_assoc]; rfl
      rw [← hfin]
      rw [Nat.sub_zero]
      (repeat' first | refine zcd ?_ | intro K' hK | (with_reducible refine zn hK ?_; clear hK) | ((with_reducible apply o_apR (t := 39) apT39 w_none); (case hs => exact ez0); (case hy => exact ez0); (case hsrc => exact src_row ez0 rfl); (case hr => exact ez1 hrw); (case hc => rfl); (case hm => omega); (case hli => omega); (case hln => omega); (case hcs => rw [hBl]; omega)) | ((with_reducible first | apply zo1 | apply zo2 | apply o_guard rfl | apply x_cond | apply k_e1 rfl | apply k_e2 rfl | apply k_e0 rfl | apply k_e3 rfl | apply k_e4 rfl); (case he => exact ez2 hrw hsl); (try case hok => exact ezO); all_goals try (intro hb; (try simp only [hbs, reduceCtorEq] at hb); try exact ezX)) | ((with_reducible apply o_undef rfl); (case hb => exact ez0)))
      all_goals exact own_app [34] hi1 hi2 hi3 hkB hKn
    · obtain ⟨i, hi⟩ : ∃ i, s.length - (m + 1) = i := ⟨_, rfl⟩
      rw [hi] at hB ⊢
      have his : i < s.length := by omega
      obtain ⟨c, hc⟩ : ∃ c, s[i] = c := ⟨_, rfl⟩
      have e1 := ix_s s his .i64
      rw [hc] at e1
      have hBn : B ++ escB c = acc ++ 34 :: escL (s.take (s.length - m)) := by
        rw [show s.length - m = i + 1 from by omega, List.take_succ_eq_append_getElem his, hc, escL_snoc, hB, List.append_assoc]
        rfl
      have hnx : (i : Int) + 1 = ((s.length - m : Nat) : Int) := by omega
      have hc8 := c.toNat_lt
      have e2 := b_hi8 (t := 5) (c := c.toNat)
      have e3 := b_lo8 (t := 5) (c := c.toNat) hc8
      have e4 := ix_dig (y := c.toNat / 16) (by omega) .u8
      have e5 := ix_dig (y := c.toNat % 16) (by omega) .u8
      rcases esc_cases c with ⟨hes, hcc⟩ | ⟨hes, hcc⟩ | ⟨hes, hcc⟩ | ⟨hes, hcc⟩
      · rw [hes] at hBn
        (repeat' first | refine zcd ?_ | intro K' hK | (with_reducible refine zn hK ?_; clear hK) | (with_reducible refine x_drawn (id := 12) (by kernel_rfl) fun K' hK => ?_) | ((with_reducible apply o_apR (t := 39) apT39 w_none); (case hs => exact ez0); (case hy => exact ez0); (case hsrc => exact src_row ez0 rfl); (case hr => exact ez1 hrw); (case hc => rfl); (case hm => omega); (case hli => omega); (case hln => omega); (case hcs => rw [hBl]; omega)) | ((with_reducible first | apply zo1 | apply zo2 | apply o_guard rfl | apply x_cond | apply k_e1 rfl | apply k_e2 rfl | apply k_e0 rfl | apply k_e3 rfl | apply k_e4 rfl); (case he => exact ez7 hrw hsl e1 e2 e3 e4 e5); (try case hok => exact ezO); all_goals try (intro hb; (try simp only [hbs, reduceCtorEq] at hb); try exact ezX)) | ((with_reducible apply o_undef rfl); (case hb => exact ez0)))
        all_goals exact k_round m (by omega) ⟨by omega, B ++ [92, c], .slice (some ⟨n1 + 1, 0, none⟩) (B.length + 2) (B.length + 2), hBn, by simp (disch := first | assumption | omega | rfl | decide) only [go_sem, seval, tys]; rw [hnx], own_app [92, c] hi1 hi2 hi3 hkB hKn⟩
      · rw [hes] at hBn
        (repeat' first | refine zcd ?_ | intro K' hK | (with_reducible refine zn hK ?_; clear hK) | (with_reducible refine x_drawn (id := 12) (by kernel_rfl) fun K' hK => ?_) | ((with_reducible apply o_apR (t := 39) apT39 w_none); (case hs => exact ez0); (case hy => exact ez0); (case hsrc => exact src_row ez0 rfl); (case hr => exact ez1 hrw); (case hc => rfl); (case hm => omega); (case hli => omega); (case hln => omega); (case hcs => rw [hBl]; omega)) | ((with_reducible first | apply zo1 | apply zo2 | apply o_guard rfl | apply x_cond | apply k_e1 rfl | apply k_e2 rfl | apply k_e0 rfl | apply k_e3 rfl | apply k_e4 rfl); (case he => exact ez7 hrw hsl e1 e2 e3 e4 e5); (try case hok => exact ezO); all_goals try (intro hb; (try simp only [hbs, reduceCtorEq] at hb); try exact ezX)) | ((with_reducible apply o_undef rfl); (case hb => exact ez0)))
        all_goals exact k_round m (by omega) ⟨by omega, B ++ [92, 110], .slice (some ⟨n1 + 1, 0, none⟩) (B.length + 2) (B.length + 2), hBn, by simp (disch := first | assumption | omega | rfl | decide) only [go_sem, seval, tys]; rw [hnx], own_app [92, 110] hi1 hi2 hi3 hkB hKn⟩
      · rw [hes] at hBn
        (repeat' first | refine zcd ?_ | intro K' hK | (with_reducible refine zn hK ?_; clear hK) | (with_reducible refine x_drawn (id := 12) (by kernel_rfl) fun K' hK => ?_) | ((with_reducible apply o_apR (t := 39) apT39 w_none); (case hs => exact ez0); (case hy => exact ez0); (case hsrc => exact src_row ez0 rfl); (case hr => exact ez1 hrw); (case hc => rfl); (case hm => omega); (case hli => omega); (case hln => omega); (case hcs => rw [hBl]; omega)) | ((with_reducible first | apply zo1 | apply zo2 | apply o_guard rfl | apply x_cond | apply k_e1 rfl | apply k_e2 rfl | apply k_e0 rfl | apply k_e3 rfl | apply k_e4 rfl); (case he => exact ez7 hrw hsl e1 e2 e3 e4 e5); (try case hok => exact ezO); all_goals try (intro hb; (try simp only [hbs, reduceCtorEq] at hb); try exact ezX)) | ((with_reducible apply o_undef rfl); (case hb => exact ez0)))
        all_goals exact k_round m (by omega) ⟨by omega, B ++ [92, 120, dig (c.toNat / 16), dig (c.toNat % 16)], .slice (some ⟨n1 + 1, 0, none⟩) (B.length + 4) (B.length + 4), hBn, by simp (disch := first | assumption | omega | rfl | decide) only [go_sem, seval, tys]; rw [hnx], own_app [92, 120, dig (c.toNat / 16), dig (c.toNat % 16)] hi1 hi2 hi3 hkB hKn⟩
      · rw [hes] at hBn
        (repeat' first | refine zcd ?_ | intro K' hK | (with_reducible refine zn hK ?_; clear hK) | (with_reducible refine x_drawn (id := 12) (by kernel_rfl) fun K' hK => ?_) | ((with_reducible apply o_apR (t := 39) apT39 w_none); (case hs => exact ez0); (case hy => exact ez0); (case hsrc => exact src_row ez0 rfl); (case hr => exact ez1 hrw); (case hc => rfl); (case hm => omega); (case hli => omega); (case hln => omega); (case hcs => rw [hBl]; omega)) | ((with_reducible first | apply zo1 | apply zo2 | apply o_guard rfl | apply x_cond | apply k_e1 rfl | apply k_e2 rfl | apply k_e0 rfl | apply k_e3 rfl | apply k_e4 rfl); (case he => exact ez7 hrw hsl e1 e2 e3 e4 e5); (try case hok => exact ezO); all_goals try (intro hb; (try simp only [hbs, reduceCtorEq] at hb); try exact ezX)) | ((with_reducible apply o_undef rfl); (case hb => exact ez0)))
        all_goals exact k_round m (by omega) ⟨by omega, B ++ [c], .slice (some ⟨n1 + 1, 0, none⟩) (B.length + 1) (B.length + 1), hBn, by simp (disch := first | assumption | omega | rfl | decide) only [go_sem, seval, tys]; rw [hnx], own_app [c] hi1 hi2 hi3 hkB hKn⟩
  · (repeat' first | refine zcd ?_ | intro K' hK | (with_reducible refine zn hK ?_; clear hK) | ((with_reducible apply o_apX (t := 39) apS w_none); (case hs => exact ez0); (case hy => exact ez0); (case hsrc => exact src_row ez0 rfl); (case hr => exact ez1 hr); (case hc => rfl); (case h0 => omega); (case hln => omega); (case hm0 => omega); (case hm => omega); (case hcs => rw [hbl]; omega)) | ((with_reducible first | apply zo1 | apply zo2 | apply o_guard rfl | apply x_cond | apply k_e1 rfl | apply k_e2 rfl | apply k_e0 rfl | apply k_e3 rfl | apply k_e4 rfl); (case he => exact ez2 hr hsl); (try case hok => exact ezO); all_goals try (intro hb; (try simp only [hbs, reduceCtorEq] at hb); try exact ezX)) | ((with_reducible apply o_undef rfl); (case hb => exact ez0)))
    refine x_loopV [0, 5, 6, 12, 13, 14, 15, 16, 17, 18, 19, 20, 21, 22, 23, 24, 25, 26, 27, 28, 29, 30, 31, 32, 33, 34, 35, 36, 37, 38, 39, 40, 41, 42, 43, 44, 45, 46, 47, 48, 49, 50, 51, 52, 53, 54, 55] [0, 12] (fun m vs h' n' => m ≤ s.length ∧ ∃ B w, B = acc ++ 34 :: escL (s.take (s.length - m)) ∧ vs = [w, .int .i64 ((s.length - m : Nat) : Int)] ∧ OwnB B Kp h n w h' n') s.length rfl (by omega) ⟨Nat.le_refl _, acc ++ [34], .slice (some ⟨n + 1, 0, none⟩) (acc.length + 1) (acc.length + 1), by rw [Nat.sub_self]; rfl, by simp (disch := first | assumption | omega | rfl | decide) only [go_sem, seval, tys]; rw [Nat.sub_self]; rfl, ⟨n + 1, by rw [List.length_append]; rfl, by omega, by omega, by omega, by rw [rowOf_same, List.take_of_length_le (by rw [hbl]; omega), bv_ap2]; rfl, fun b hb => by have := hKn b hb; rw [Hp.get_ne _ _ (by omega), Hp.get_ne _ _ (by omega)]⟩⟩ ?_
    rintro m g _ h1 n1 ⟨hm, B, _, hB, rfl, idB, rfl, hi1, hi2, hi3, hrB, hkB⟩
    have hrw := rwOf_row hrB
    have hBl := bv_length B
    have hel := escL_len (s.take (s.length - m))
    have htl : (s.take (s.length - m)).length ≤ s.length := by rw [List.length_take]; omega
    have hBb : B.length ≤ acc.length + 4 * s.length + 1 := by rw [hB, List.length_append, List.length_cons]; omega
    rcases m with _ | m
    · rw [Nat.sub_zero, List.take_length] at hB
      have hfin : B ++ [34] = acc ++ quoB s := by rw [hB, List.append_assoc]; rfl
      rw [← hfin]
      rw [Nat.sub_zero]
      (repeat' first | refine zcd ?_ | intro K' hK | (with_reducible refine zn hK ?_; clear hK) | ((with_reducible apply o_apR (t := 39) apT39 w_none); (case hs => exact ez0); (case hy => exact ez0); (case hsrc => exact src_row ez0 rfl); (case hr => exact ez1 hrw); (case hc => rfl); (case hm => omega); (case hli => omega); (case hln => omega); (case hcs => rw [hBl]; omega)) | ((with_reducible first | apply zo1 | apply zo2 | apply o_guard rfl | apply x_cond | apply k_e1 rfl | apply k_e2 rfl | apply k_e0 rfl | apply k_e3 rfl | apply k_e4 rfl); (case he => exact ez2 hrw hsl); (try case hok => exact ezO); all_goals try (intro hb; (try simp only [hbs, reduceCtorEq] at hb); try exact ezX)) | ((with_reducible apply o_undef rfl); (case hb => exact ez0)))
      all_goals exact own_app [34] hi1 hi2 hi3 hkB hKn
    · obtain ⟨i, hi⟩ : ∃ i, s.length - (m + 1) = i := ⟨_, rfl⟩
      rw [hi] at hB ⊢
      have his : i < s.length := by omega
      obtain ⟨c, hc⟩ : ∃ c, s[i] = c := ⟨_, rfl⟩
      have e1 := ix_s s his .i64
      rw [hc] at e1
      have hBn : B ++ escB c = acc ++ 34 :: escL (s.take (s.length - m)) := by
        rw [show s.length - m = i + 1 from by omega, List.take_succ_eq_append_getElem his, hc, escL_snoc, hB, List.append_assoc]
        rfl
      have hnx : (i : Int) + 1 = ((s.length - m : Nat) : Int) := by omega
      have hc8 := c.toNat_lt
      have e2 := b_hi8 (t := 5) (c := c.toNat)
      have e3 := b_lo8 (t := 5) (c := c.toNat) hc8
      have e4 := ix_dig (y := c.toNat / 16) (by omega) .u8
      have e5 := ix_dig (y := c.toNat % 16) (by omega) .u8
      rcases esc_cases c with ⟨hes, hcc⟩ | ⟨hes, hcc⟩ | ⟨hes, hcc⟩ | ⟨hes, hcc⟩
      · rw [hes] at hBn
        (repeat' first | refine zcd ?_ | intro K' hK | (with_reducible refine zn hK ?_; clear hK) | (with_reducible refine x_drawn (id := 12) (by kernel_rfl) fun K' hK => ?_) | ((with_reducible apply o_apR (t := 39) apT39 w_none); (case hs => exact ez0); (case hy => exact ez0); (case hsrc => exact src_row ez0 rfl); (case hr => exact ez1 hrw); (case hc => rfl); (case hm => omega); (case hli => omega); (case hln => omega); (case hcs => rw [hBl]; omega)) | ((with_reducible first | apply zo1 | apply zo2 | apply o_guard rfl | apply x_cond | apply k_e1 rfl | apply k_e2 rfl | apply k_e0 rfl | apply k_e3 rfl | apply k_e4 rfl); (case he => exact ez7 hrw hsl e1 e2 e3 e4 e5); (try case hok => exact ezO); all_goals try (intro hb; (try simp only [hbs, reduceCtorEq] at hb); try exact ezX)) | ((with_reducible apply o_undef rfl); (case hb => exact ez0)))
        all_goals exact k_round m (by omega) ⟨by omega, B ++ [92, c], .slice (some ⟨n1 + 1, 0, none⟩) (B.length + 2) (B.length + 2), hBn, by simp (disch := first | assumption | omega | rfl | decide) only [go_sem, seval, tys]; rw [hnx], own_app [92, c] hi1 hi2 hi3 hkB hKn⟩
      · rw [hes] at hBn
        (repeat' first | refine zcd ?_ | intro K' hK | (with_reducible refine zn hK ?_; clear hK) | (with_reducible refine x_drawn (id := 12) (by kernel_rfl) fun K' hK => ?_) | ((with_reducible apply o_apR (t := 39) apT39 w_none); (case hs => exact ez0); (case hy => exact ez0); (case hsrc => exact src_row ez0 rfl); (case hr => exact ez1 hrw); (case hc => rfl); (case hm => omega); (case hli => omega); (case hln => omega); (case hcs => rw [hBl]; omega)) | ((with_reducible first | apply zo1 | apply zo2 | apply o_guard rfl | apply x_cond | apply k_e1 rfl | apply k_e2 rfl | apply k_e0 rfl | apply k_e3 rfl | apply k_e4 rfl); (case he => exact ez7 hrw hsl e1 e2 e3 e4 e5); (try case hok => exact ezO); all_goals try (intro hb; (try simp only [hbs, reduceCtorEq] at hb); try exact ezX)) | ((with_reducible apply o_undef rfl); (case hb => exact ez0)))
        all_goals exact k_round m (by omega) ⟨by omega, B ++ [92, 110], .slice (some ⟨n1 + 1, 0, none⟩) (B.length + 2) (B.length + 2), hBn, by simp (disch := first | assumption | omega | rfl | decide) only [go_sem, seval, tys]; rw [hnx], own_app [92, 110] hi1 hi2 hi3 hkB hKn⟩
      · rw [hes] at hBn
        (repeat' first | refine zcd ?_ | intro K' hK | (with_reducible refine zn hK ?_; clear hK) | (with_reducible refine x_drawn (id := 12) (by kernel_rfl) fun K' hK => ?_) | ((with_reducible apply o_apR (t := 39) apT39 w_none); (case hs => exact ez0); (case hy => exact ez0); (case hsrc => exact src_row ez0 rfl); (case hr => exact ez1 hrw); (case hc => rfl); (case hm => omega); (case hli => omega); (case hln => omega); (case hcs => rw [hBl]; omega)) | ((with_reducible first | apply zo1 | apply zo2 | apply o_guard rfl | apply x_cond | apply k_e1 rfl | apply k_e2 rfl | apply k_e0 rfl | apply k_e3 rfl | apply k_e4 rfl); (case he => exact ez7 hrw hsl e1 e2 e3 e4 e5); (try case hok => exact ezO); all_goals try (intro hb; (try simp only [hbs, reduceCtorEq] at hb); try exact ezX)) | ((with_reducible apply o_undef rfl); (case hb => exact ez0)))
        all_goals exact k_round m (by omega) ⟨by omega, B ++ [92, 120, dig (c.toNat / 16), dig (c.toNat % 16)], .slice (some ⟨n1 + 1, 0, none⟩) (B.length + 4) (B.length + 4), hBn, by simp (disch := first | assumption | omega | rfl | decide) only [go_sem, seval, tys]; rw [hnx], own_app [92, 120, dig (c.toNat / 16), dig (c.toNat % 16)] hi1 hi2 hi3 hkB hKn⟩
      · rw [hes] at hBn
        (repeat' first | refine zcd ?_ | intro K' hK | (with_reducible refine zn hK ?_; clear hK) | (with_reducible refine x_drawn (id := 12) (by kernel_rfl) fun K' hK => ?_) | ((with_reducible apply o_apR (t := 39) apT39 w_none); (case hs => exact ez0); (case hy => exact ez0); (case hsrc => exact src_row ez0 rfl); (case hr => exact ez1 hrw); (case hc => rfl); (case hm => omega); (case hli => omega); (case hln => omega); (case hcs => rw [hBl]; omega)) | ((with_reducible first | apply zo1 | apply zo2 | apply o_guard rfl | apply x_cond | apply k_e1 rfl | apply k_e2 rfl | apply k_e0 rfl | apply k_e3 rfl | apply k_e4 rfl); (case he => exact ez7 hrw hsl e1 e2 e3 e4 e5); (try case hok => exact ezO); all_goals try (intro hb; (try simp only [hbs, reduceCtorEq] at hb); try exact ezX)) | ((with_reducible apply o_undef rfl); (case hb => exact ez0)))
        all_goals exact k_round m (by omega) ⟨by omega, B ++ [c], .slice (some ⟨n1 + 1, 0, none⟩) (B.length + 1) (B.length + 1), hBn, by simp (disch := first | assumption | omega | rfl | decide) only [go_sem, seval, tys]; rw [hnx], own_app [c] hi1 hi2 hi3 hkB hKn⟩
end Go.Proofs.Ytkngdfbibffdcaa.Ce
