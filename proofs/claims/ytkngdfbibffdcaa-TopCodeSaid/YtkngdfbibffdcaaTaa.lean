/- Parts of the proof of TopCode: Mem, Ce, Cr. No condition of its own. -/
import Derived.WalkKit
import Derived.WalkSpells
import Derived.WalkLawsBesides
import Derived.Lib.Hide
import Derived.Laws.CopyOwn
import Derived.Deep.Light
import Derived.Maps.AppendAt
import Derived.Deep.AppendLies
import Derived.Deep.RegionHeld3
import Derived.Deep.DrawnRows
import Derived.Deep.DeepCutAuto
import Derived.Deep.QuietTactic
import Derived.BigQuiet
import Derived.Laws.BitsAllLaws
import Derived.Lib.Bytealg
import Derived.Lib.AppendStr
import Derived.Orders
set_option linter.unusedVariables false
set_option linter.unusedSimpArgs false
set_option maxRecDepth 100000
set_option maxHeartbeats 4000000
namespace Go.Proofs.Ytkngdfbibffdcaa
open Go.RowKit
def Rd (w : World) (B : Nat) (A : Option Addr) (vs : List Value) : Prop :=
  vs = [] ∨ ∃ b off, A = some ⟨b, off, none⟩ ∧ b < B ∧ ∀ j v, vs[j]? = some v → w.cell? ⟨b, off + j, none⟩ = some v
section
variable {w w' : World} {B B' : Nat} {A : Option Addr} {vs : List Value}
theorem Rd.nil_ : Rd w B A [] := .inl rfl
end
def bv (l : List UInt8) : List Value := l.map fun x => .int .u8 x.toNat
theorem bv_length (l : List UInt8) : (bv l).length = l.length := by simp [bv]
theorem bv_get {l : List UInt8} {k : Nat} (h : k < l.length) : (bv l)[k]? = some (.int .u8 (l[k]).toNat) := by simp [bv, h]
theorem add_none (b off j : Nat) : (⟨b, off, none⟩ : Addr).add j = ⟨b, off + j, none⟩ := by
  unfold Addr.add; split <;> simp_all
section
variable {P : Program} (w : World)
end
section
variable {w w' : World} {B L U e n c C : Nat} {A : Option Addr} {vs : List Value}
end
section
variable {w w' : World} {g t : Nat} {cs : Array Value}
end
end Go.Proofs.Ytkngdfbibffdcaa
namespace Go.Proofs.Ytkngdfbibffdcaa.Ce
def prun (P : Program) {α : Type} : Sem α → Option α
  | .pure a => some a
  | .program k => prun P (k P)
  | .mark _ k => prun P k
  | _ => none
noncomputable def lget {α : Type} (l : List α) : Nat → Option α := List.rec (fun _ => none) (fun a _ ih n => Nat.rec (some a) (fun m _ => ih m) n) l
noncomputable def pset {α : Type} (d v : α) (n : Nat) (l : List α) : List α :=
  List.rec (fun n => Nat.rec [v] (fun _ ih => d :: ih) n) (fun a t ih n => Nat.rec (v :: t) (fun m _ => a :: ih m) n) l n
noncomputable def lset {α : Type} (v : α) (n : Nat) (l : List α) : List α := List.rec (fun _ => []) (fun a t ih n => Nat.rec (v :: t) (fun m _ => a :: ih m) n) l n
noncomputable def ldrop {α : Type} (n : Nat) (l : List α) : List α := List.rec (fun _ => []) (fun a t ih n => Nat.rec (a :: t) (fun m _ => ih m) n) l n
noncomputable def ltake {α : Type} (n : Nat) (l : List α) : Option (List α) :=
  List.rec (fun n => Nat.rec (some []) (fun _ _ => none) n) (fun a _ ih n => Nat.rec (some []) (fun m _ => Option.rec none (fun r => some (a :: r)) (ih m)) n) l n
noncomputable def over {α : Type} (vs : List α) : List α → Option (List α) :=
  List.rec (fun l => some l) (fun v _ ih l => List.rec none (fun _ t _ => Option.rec none (fun r => some (v :: r)) (ih t)) l) vs
noncomputable def overAt {α : Type} (n : Nat) (vs : List α) (l : List α) : Option (List α) :=
  List.rec (fun n => Nat.rec (over vs []) (fun _ _ => none) n) (fun a t ih n => Nat.rec (over vs (a :: t)) (fun m _ => Option.rec none (fun r => some (a :: r)) (ih m)) n) l n
def flat1 : Value → Bool
  | .bool _ | .int _ _ | .string _ | .nilFunc | .nilIface | .pointer none | .slice none 0 0 | .map none => true
  | _ => false
def scal : Value → Bool
  | .agg cs => cs.toList.all flat1
  | v => flat1 v
abbrev AObj := Option ((Nat × Bool × List Value) ⊕ (Array MapEntry × Nat))
abbrev AObj.row (e : Nat) (ro : Bool) (cs : List Value) : AObj := some (.inl (e, ro, cs))
abbrev AObj.mp (es : Array MapEntry) (clock : Nat) : AObj := some (.inr (es, clock))
abbrev Hp := List AObj
noncomputable def Hp.get (h : Hp) (n : Nat) : AObj := (lget h n).getD none
noncomputable def Hp.set (h : Hp) (n : Nat) (v : AObj) : Hp := pset none v n h
noncomputable def fN {β : Type} (n : Nat) (K : Nat → β) : β := Nat.rec (K 0) (fun m _ => K (Nat.succ m)) n
noncomputable def fI {β : Type} (i : Int) (K : Int → β) : β := Int.rec (fun m => fN m fun m => K (.ofNat m)) (fun m => fN m fun m => K (.negSucc m)) i
noncomputable def fB {β : Type} (b : Bool) (K : Bool → β) : β := Bool.rec (K false) (K true) b
noncomputable def fA {β : Type} (v : Value) (K : Value → β) : β := match v with
  | .bool b => fB b fun b => K (.bool b)
  | .int k i => fI i fun i => K (.int k i)
  | .pointer (some ⟨id, off, none⟩) => fN id fun id => fN off fun off => K (.pointer (some ⟨id, off, none⟩))
  | .slice (some ⟨id, off, none⟩) n c => fN id fun id => fN off fun off => fN n fun n => fN c fun c => K (.slice (some ⟨id, off, none⟩) n c)
  | v => K v
noncomputable def fAs {β : Type} (l : List Value) : (List Value → β) → β := List.rec (fun K => K []) (fun a _ ih K => fA a fun a => ih fun t => K (a :: t)) l
noncomputable def fV1 {β : Type} (v : Value) (K : Value → β) : β := match v with
  | .agg cs => fAs cs.toList fun l => K (.agg ⟨l⟩)
  | v => fA v K
noncomputable def fV1s {β : Type} (l : List Value) : (List Value → β) → β := List.rec (fun K => K []) (fun a _ ih K => fV1 a fun a => ih fun t => K (a :: t)) l
noncomputable def fV {β : Type} (v : Value) (K : Value → β) : β := match v with
  | .tuple cs => fV1s cs.toList fun l => K (.tuple ⟨l⟩)
  | v => fV1 v K
structure Ef where
  v : Value
  h : Hp
  n : Nat
  rd : List Nat
  wr : List Nat
def tyAgg (P : Program) (t : TypeId) : Option Bool :=
  match P.underlying t with
  | some (.struct _) | some (.array _ _) => some true
  | some _ => some false
  | none => none
def tySize (P : Program) (t : TypeId) : Option Nat := (P.info? t).map (·.size)
def tyZero (P : Program) (t : TypeId) : Option (List Value) := ((P.info? t).bind (·.zero)).bind fun z => bif z.cells.toList.all flat1 then some z.cells.toList else none
def tyFields (P : Program) (t : TypeId) : Option (List (Nat × Nat)) :=
  match P.underlying t with
  | some (.struct fields) => fields.toList.mapM fun f => (tySize P f.type).map fun s => (f.offset, s)
  | _ => none
def tyElem (P : Program) (t : TypeId) : Option Nat :=
  match P.underlying t with
  | some (.slice e) => some e
  | _ => none
def tyArr (P : Program) (t : TypeId) : Option (Nat × Nat) :=
  match P.underlying t with
  | some (.array n e) => (tySize P e).map fun s => (n, s)
  | _ => none
def tyU8 (P : Program) (t : TypeId) : Bool := match P.underlying t with | some (.int .u8) => true | _ => false
def tyStr (P : Program) (t : TypeId) : Bool := match P.underlying t with | some .string => true | _ => false
def tyInt (P : Program) (t : TypeId) : Option IntKind := match P.underlying t with | some (.int k) => some k | _ => none
def tyMap (P : Program) (t : TypeId) : Option (Nat × Nat) := match P.underlying t with | some (.map k e) => some (k, e) | _ => none
noncomputable def rowOf (h : Hp) (id : Nat) : Option (Nat × Bool × List Value) := (h.get id).bind fun o => Sum.rec some (fun _ => none) o
noncomputable def mapOf (h : Hp) (id : Nat) : Option (Array MapEntry × Nat) := (h.get id).bind fun o => Sum.rec (fun _ => none) some o
noncomputable def rwOf (h : Hp) (id : Nat) : Option (Nat × List Value) := (rowOf h id).bind fun r => Bool.rec (some (r.1, r.2.2)) none r.2.1
noncomputable def cellsAt (h : Hp) (id off k : Nat) : Option (List Value) := (rowOf h id).bind fun r => ltake k (ldrop off r.2.2)
noncomputable def cellAt (h : Hp) (id off : Nat) : Option Value := (rowOf h id).bind fun r => lget r.2.2 off
def ptrB : Value → Bool
  | .pointer (some ⟨_, _, none⟩) => true
  | _ => false
def cok : Value → Bool
  | .bool _ | .int _ _ | .string _ | .pointer _ | .slice .. | .map _ | .nilFunc => true
  | .func _ a b => a.toList.isEmpty && b.toList.all ptrB
  | _ => false
def sliceB (v : Option Value) (dflt : Nat) : Option Nat :=
  match v with
  | none => some dflt
  | some (.int _ (.ofNat i)) => some i
  | _ => none
def bytesOf : List Value → Option (List UInt8)
  | [] => some []
  | .int .u8 (.ofNat n) :: l => bif Nat.blt n 256 then (bytesOf l).map (UInt8.ofNat n :: ·) else none
  | _ => none
def bvals (s : ByteArray) : List Value := s.data.toList.map fun b => .int .u8 b.toNat
noncomputable def srcOf (sz : Nat) (h : Hp) : Value → Option (Nat × List Value × List Nat)
  | .slice none 0 0 => some (0, [], [])
  | .slice (some _) 0 _ => some (0, [], [])
  | .slice (some ⟨id, off, none⟩) m _ => (cellsAt h id off (m * sz)).map fun cs => (m, cs, [id])
  | _ => none
def mapPut (kt : TypeId) (k x : Value) (es : Array MapEntry) (clock : Nat) : Sem (Array MapEntry × Nat) := do
  Instr.checkKey false 10000 kt k
  match ← Instr.findKey kt k es.toList with
  | some (i, _) => do
    let key ← Instr.keyThatStays (((es[i]?).map (·.key)).getD k) k
    pure (es.modify i fun e => { e with key, val := x }, clock)
  | none => pure (es.push { key := k, val := x, born := clock }, clock + 1)
def mapGet (kt et : TypeId) (k : Value) (es : Array MapEntry) : Sem (Value × Bool) := do
  Instr.checkKey es.isEmpty 10000 kt k
  match ← Instr.findKey kt k es.toList with
  | some (_, v) => pure (v, true)
  | none => pure (← zeroValue et, false)
noncomputable def fillL (place : Nat → Option (Nat × Nat)) (cells : List Value) : List (Nat × Value) → Option (List Value)
  | [] => some cells
  | (i, v) :: rest =>
    match place i with
    | none => none
    | some (off, size) => bif Nat.beq v.cells.toList.length size && v.cells.toList.all cok then (overAt off v.cells.toList cells).bind fun cs => fillL place cs rest else none
noncomputable def kindNo (k : IntKind) : Nat := IntKind.rec 0 1 2 3 4 5 6 7 k
noncomputable def asI (v : Value) : Option (IntKind × Int) := match v with
  | .int k i => some (k, i)
  | _ => none
noncomputable def isU64 (k : IntKind) : Bool := IntKind.rec false false false false false false false true k
noncomputable def ibits (P : Program) (op : BinOp) (f : Nat → Nat → Nat) (k : IntKind) (a b : Int) : Option Value :=
  Bool.rec (prun P (Op.intBits op k a b)) (Int.rec (fun m => Int.rec (fun m' => bif Nat.blt m 18446744073709551616 && Nat.blt m' 18446744073709551616 then some (.int .u64 (.ofNat (f m m'))) else none) (fun _ => none) b) (fun _ => none) a) (isU64 k)
noncomputable def iop (P : Program) (op : BinOp) : IntKind → Int → Int → Option Value :=
  BinOp.rec (motive := fun _ => IntKind → Int → Int → Option Value)
    (fun k a b => some (.int k (k.wrap (a + b)))) (fun k a b => some (.int k (k.wrap (a - b)))) (fun k a b => some (.int k (k.wrap (a * b))))
    (fun k a b => prun P (Op.intDiv .quo k a b)) (fun k a b => prun P (Op.intDiv .rem k a b))
    (fun k a b => ibits P .and Nat.land k a b) (fun k a b => ibits P .or Nat.lor k a b) (fun k a b => prun P (Op.intBits .xor k a b)) (fun _ _ _ => none) (fun _ _ _ => none)
    (fun k a b => prun P (Op.intBits .andNot k a b))
    (fun _ a b => some (.bool (a == b))) (fun _ a b => some (.bool (a != b))) (fun _ a b => some (.bool (a < b))) (fun _ a b => some (.bool (a ≤ b))) (fun _ a b => some (.bool (a > b))) (fun _ a b => some (.bool (a ≥ b))) op
noncomputable def isSh (op : BinOp) : Bool := BinOp.rec false false false false false false false false true true false false false false false false false op
noncomputable def abin2 (P : Program) (op : BinOp) (t : TypeId) (x y : Value) : Option Value :=
  match op, x, y with
  | _, .string a, .string b => prun P (Op.stringOp op a b)
  | .eql, .bool a, .bool b => (prun P (Op.equal t x y)).map .bool
  | .eql, .slice (some _) _ _, .slice none 0 0 => (tyElem P t).map fun _ => .bool false
  | .neq, .slice (some _) _ _, .slice none 0 0 => (tyElem P t).map fun _ => .bool true
  | .eql, .agg a, .agg b => if P.eqGuardType P.depth t || !(scal x && scal y) then none else (prun P (Op.equal t x y)).map .bool
  | .neq, .agg a, .agg b => if P.eqGuardType P.depth t || !(scal x && scal y) then none else (prun P (Op.equal t x y)).map fun b => .bool !b
  | .neq, .bool a, .bool b => (prun P (Op.equal t x y)).map fun b => .bool !b
  | .eql, .slice none 0 0, .slice none 0 0 => (tyElem P t).map fun _ => .bool true
  | .neq, .slice none 0 0, .slice none 0 0 => (tyElem P t).map fun _ => .bool false
  | _, _, _ => none
noncomputable def abin (P : Program) (op : BinOp) (t : TypeId) (x y : Value) : Option Value :=
  Option.rec (abin2 P op t x y) (fun a => Option.rec none (fun b => Bool.rec (Bool.rec none (iop P op a.1 a.2 b.2) (Nat.beq (kindNo a.1) (kindNo b.1))) (prun P (Op.shift op a.1 a.2 b.1 b.2)) (isSh op)) (asI y)) (asI x)
abbrev RE := Hp → Nat → Option Ef
noncomputable def mV (v : Value) : RE := fun h n => some ⟨v, h, n, [], []⟩
noncomputable def mVO (v : Option Value) : RE := fun h n => Option.rec none (fun v => some ⟨v, h, n, [], []⟩) v
noncomputable def mBin (P : Program) (op : BinOp) (t : TypeId) (x y : Value) : RE := fun h n => (abin P op t x y).bind fun v => bif flat1 v then mV v h n else none
def vbk (v : Value) : Bool := match v with
  | .func .. | .tuple _ | .chan _ => false
  | _ => true
noncomputable def mFunc (fn : Fn) (a b : List Value) : RE := fun h n => bif a.all vbk && b.all vbk then mV (.func fn ⟨a⟩ ⟨b⟩) h n else none
noncomputable def mPick (c x y : Value) : RE := match c with | .bool b => mV (cond b x y) | _ => fun _ _ => none
noncomputable def mExtract (x : Value) (i : Nat) : RE := match x with | .tuple vs => mVO (lget vs.toList i) | _ => fun _ _ => none
noncomputable def mLoad (P : Program) (t : TypeId) (x : Value) : RE := match x with
  | .pointer (some ⟨id, off, none⟩) => fun h n =>
    match tyAgg P t with
    | some true => ((tySize P t).bind (cellsAt h id off)).bind fun cs => some ⟨.agg ⟨cs⟩, h, n, [id], []⟩
    | some false => (cellAt h id off).bind fun v => some ⟨v, h, n, [id], []⟩
    | none => none
  | _ => fun _ _ => none
noncomputable def mStore (P : Program) (lim : Nat) (t : TypeId) (x y : Value) : RE := match x with
  | .pointer (some ⟨id, off, none⟩) => fun h n =>
    bif Nat.ble lim id && (tySize P t == some y.cells.toList.length) && y.cells.toList.all cok then
      (rwOf h id).bind fun r => (overAt off y.cells.toList r.2).bind fun cs' => some ⟨undef, h.set id (.row r.1 false cs'), n, [], [id]⟩
    else none
  | _ => fun _ _ => none
noncomputable def mNew (P : Program) (e : Nat) (cs : List Value) : RE := fun h n => bif cs.all cok && (tySize P e == some cs.length) then some ⟨.pointer (some ⟨n, 0, none⟩), h.set n (.row e false cs), n + 1, [], []⟩ else none
noncomputable def mAlloc (P : Program) (t : TypeId) : RE := fun h n => (tyZero P t).bind fun z => mNew P t z h n
noncomputable def mBuild (P : Program) (t : TypeId) (parts : List (Nat × Value)) : RE := fun h n =>
  match tyZero P t, tyFields P t, tyArr P t with
  | some z, some places, _ => (fillL (lget places) z parts).bind fun cells => mV (.agg ⟨cells⟩) h n
  | some z, none, some (_, size) => (fillL (fun i => some (i * size, size)) z parts).bind fun cells => mV (.agg ⟨cells⟩) h n
  | _, _, _ => none
noncomputable def mBuildSlice (P : Program) (t : TypeId) (len : Nat) (parts : List (Nat × Value)) : RE := fun h n =>
  (tyElem P t).bind fun e => match tySize P e, tyZero P e with
    | some size, some z =>
      bif Nat.beq z.length size && Nat.ble (len * size) 100000 && Nat.blt 0 size then
        (fillL (fun i => some (i * size, size)) (List.replicate len z).flatten parts).bind fun cells =>
          bif cells.all cok then some ⟨.slice (some ⟨n, 0, none⟩) len (bif tyU8 P e then 0 else len), h.set n (.row e false cells), n + 1, [], []⟩ else none
      else none
    | _, _ => none
noncomputable def mMakeSlice (P : Program) (t : TypeId) (l c : Value) : RE := fun h n =>
  (tyElem P t).bind fun e => match l, c, P.info? e, tyZero P e with
    | .int _ (.ofNat k), .int _ (.ofNat k'), some i, some z =>
      bif Nat.beq k k' && Nat.ble k 100000 && Nat.ble i.bytes 100000 && Nat.beq z.length i.size && Nat.blt 0 i.size then
        some ⟨.slice (some ⟨n, 0, none⟩) k k, h.set n (.row e false (List.replicate k z).flatten), n + 1, [], []⟩ else none
    | _, _, _, _ => none
noncomputable def mSlice (P : Program) (t : TypeId) (x : Value) (lo hi : Option Value) : RE := match x with
  | .slice a len cap => fun h n => (tyElem P t).bind fun e =>
    match sliceB lo 0, sliceB hi len, tySize P e with
    | some l, some k, some size =>
      bif Nat.ble l k && Nat.ble k len && Nat.blt 0 size then
        match a with
        | none => mV (.slice none 0 0) h n
        | some ⟨id, off, none⟩ => mV (.slice (some ⟨id, off + l * size, none⟩) (k - l) ((k - l) + (cap - len))) h n
        | some ⟨id, off, some s⟩ => mV (.slice (some ⟨id, off, some s⟩) (k - l) (k - l)) h n
      else none
    | _, _, _ => none
  | .string s => fun h n => bif tyStr P t then
      match sliceB lo 0, sliceB hi s.size with
      | some l, some k => bif Nat.ble l k && Nat.ble k s.size then mV (.string (s.extract l k)) h n else none
      | _, _ => none
    else none
  | .pointer (some ⟨id, off, none⟩) => fun h n => (tyArr P t).bind fun p =>
    match sliceB lo 0, sliceB hi p.1 with
    | some l, some k => bif Nat.ble l k && Nat.ble k p.1 && Nat.ble p.1 1000000 then mV (.slice (some ⟨id, off + l * p.2, none⟩) (k - l) (k - l + 1)) h n else none
    | _, _ => none
  | _ => fun _ _ => none
noncomputable def mFieldAddr (P : Program) (s : TypeId) (x : Value) (f : Nat) : RE := match x with
  | .pointer (some ⟨id, off, none⟩) => fun h n => ((tyFields P s).bind fun fs => lget fs f).bind fun p => bif Nat.blt 0 p.2 then mV (.pointer (some ⟨id, off + p.1, none⟩)) h n else none
  | _ => fun _ _ => none
noncomputable def mIndexAddr (P : Program) (t : TypeId) (x ix : Value) : RE := match x, ix with
  | .pointer (some ⟨id, off, none⟩), .int _ (.ofNat i) => fun h n => (tyArr P t).bind fun p => bif Nat.blt i p.1 then mV (.pointer (some ⟨id, off + i * p.2, none⟩)) h n else none
  | .slice (some ⟨id, off, none⟩) len _, .int _ (.ofNat i) => fun h n => ((tyElem P t).bind (tySize P)).bind fun size => bif Nat.blt i len then mV (.pointer (some ⟨id, off + i * size, none⟩)) h n else none
  | _, _ => fun _ _ => none
noncomputable def mIndex (P : Program) (t : TypeId) (x ix : Value) : RE := match x, ix with
  | .string s, .int _ (.ofNat i) => fun h n => bif tyStr P t then (lget s.data.toList i).bind fun b => mV (.int .u8 b.toNat) h n else none
  | .agg cs, .int _ (.ofNat i) => fun h n => (tyArr P t).bind fun p => bif Nat.beq p.2 1 && Nat.blt i p.1 then match P.underlying t with
    | some (.array _ e) => if tyAgg P e = some false then (lget cs.toList i).bind fun v => mV v h n else none
    | _ => none else none
  | _, _ => fun _ _ => none
noncomputable def mUn (P : Program) (op : UnOp) (x : Value) : RE := match op, x with
  | .not, .bool b => mV (.bool (cond b false true))
  | _, x => fun h n => bif flat1 x then (prun P (Op.unary op x)).bind fun v => bif flat1 v then mV v h n else none else none
noncomputable def mConvert (P : Program) (src dst : TypeId) (x : Value) : RE := match x with
  | .int _ i => fun h n => match P.underlying src, tyInt P dst, tyStr P dst with
    | some _, some k, _ => mVO (prun P (Conv.intToInt k i)) h n
    | some _, none, true => mVO (prun P (Conv.intToString i)) h n
    | _, _, _ => none
  | .string s => fun h n => match P.underlying src, tyElem P dst with
    | some _, some e => bif tyU8 P e && Nat.ble s.size 1000000 then some ⟨.slice (some ⟨n, 0, none⟩) s.size s.size, h.set n (.row e true (bvals s)), n + 1, [], []⟩ else none
    | _, _ => none
  | .slice (some _) 0 _ => fun h n => match (tyElem P src).map (tyU8 P), tyStr P dst with
    | some true, true => mV (.string ⟨⟨[]⟩⟩) h n
    | _, _ => none
  | .slice (some ⟨id, off, none⟩) len cap => fun h n => match (tyElem P src).map (tyU8 P), tyStr P dst with
    | some true, true => ((cellsAt h id off len).bind bytesOf).bind fun l => some ⟨.string ⟨⟨l⟩⟩, h, n, [id], []⟩
    | some true, false => bif Nat.beq src dst && Nat.beq off 0 && Nat.beq cap 0 then (rwOf h id).bind fun r => some ⟨.slice (some ⟨n, 0, none⟩) len 0, (h.set id none).set n (.row r.1 true r.2), n + 1, [id], [id]⟩ else none
    | _, _ => none
  | .slice none 0 0 => fun h n => match (tyElem P src).map (tyU8 P), tyStr P dst with
    | some true, true => mV (.string ⟨⟨[]⟩⟩) h n
    | _, _ => none
  | _ => fun _ _ => none
noncomputable def mMakeMap : RE := fun h n => some ⟨.map (some n), h.set n (.mp #[] 0), n + 1, [], []⟩
noncomputable def mLookup (P : Program) (t : TypeId) (m k : Value) (ok : Bool) : RE := match m with
  | .map (some id) => fun h n => (mapOf h id).bind fun r => (tyMap P t).bind fun q => bif scal k then (prun P (mapGet q.1 q.2 k r.1)).bind fun v =>
      bif flat1 v.1 then some ⟨bif ok then .tuple ⟨[v.1, .bool v.2]⟩ else v.1, h, n, [id], []⟩ else none else none
  | _ => fun _ _ => none
noncomputable def mMapUpdate (P : Program) (lim : Nat) (t : TypeId) (m k x : Value) : RE := match m with
  | .map (some id) => fun h n => (mapOf h id).bind fun r => (tyMap P t).bind fun q => bif scal k && flat1 x && Nat.ble lim id then (prun P (mapPut q.1 k x r.1 r.2)).bind fun v =>
      some ⟨undef, h.set id (.mp v.1 v.2), n, [], [id]⟩ else none
  | _ => fun _ _ => none
noncomputable def mLen (P : Program) (t : TypeId) (x : Value) : RE := match x with
  | .slice _ m _ => fun h n => (tyElem P t).bind fun _ => mV (goInt m) h n
  | .string s => fun h n => bif tyStr P t then mV (goInt s.size) h n else none
  | _ => fun _ _ => none
noncomputable def mAppendTo (lim e size : Nat) (s : Value) (m : Nat) (news : List Value) (rd : List Nat) : RE := match s with
  | .slice none 0 0 => fun h n => bif Nat.beq m 0 then mV (.slice none 0 0) h n else some ⟨.slice (some ⟨n, 0, none⟩) m m, h.set n (.row e false news), n + 1, rd, []⟩
  | .slice (some ⟨id, 0, none⟩) len cap => fun h n =>
    bif Nat.ble lim id && Nat.ble len 1000000 && Nat.ble cap len then
      (rwOf h id).bind fun r => bif Nat.beq r.1 e then (ltake (len * size) r.2).bind fun cs =>
        some ⟨.slice (some ⟨n, 0, none⟩) (len + m) (len + m), (h.set id none).set n (.row e false (cs ++ news)), n + 1, rd, [id]⟩ else none
    else none
  | _ => fun _ _ => none
noncomputable def mAppend0 (P : Program) (lim : Nat) (t t2 : TypeId) (s x : Value) : RE := fun h n =>
  (tyElem P t).bind fun e => match P.info? e, tyZero P e with
    | some i, some z =>
      bif Nat.beq t2 t && Nat.blt 0 i.size && Nat.beq z.length i.size && Nat.ble i.bytes 1000 then
        (srcOf i.size h x).bind fun src => bif src.2.1.all cok && Nat.ble src.1 1000000 then mAppendTo lim e i.size s src.1 src.2.1 src.2.2 h n else none
      else none
    | _, _ => none
noncomputable def mAppendS (P : Program) (lim : Nat) (t : TypeId) (s x : Value) : RE := fun h n => match x with
  | .string b => (tyElem P t).bind fun e => (P.info? e).bind fun i => match i.zero with
    | some (.int .u8 (.ofNat 0)) => bif Nat.beq i.size 1 && Nat.beq i.bytes 1 && Nat.ble b.size 1000000 then mAppendTo lim e 1 s b.size (bvals b) [] h n else none
    | _ => none
  | _ => none
noncomputable def mAppendR (P : Program) (t t2 : TypeId) (s x : Value) : RE := fun h n => match s with
  | .slice (some ⟨id, 0, none⟩) len cap => (rowOf h id).bind fun r => bif r.2.1 && Nat.beq cap 0 && Nat.blt 0 len && Nat.ble len 1000000 && Nat.beq t2 t then
      (tyElem P t).bind fun e => (P.info? e).bind fun i => match i.zero with
      | some (.int .u8 (.ofNat 0)) => bif Nat.beq i.size 1 && Nat.beq i.bytes 1 then
          (srcOf 1 h x).bind fun src => bif Nat.blt 0 src.1 && Nat.ble src.1 1000000 && src.2.1.all cok then
            (ltake len r.2.2).bind fun cs => some ⟨.slice (some ⟨n, 0, none⟩) (len + src.1) (len + src.1), h.set n (.row e false (cs ++ src.2.1)), n + 1, id :: src.2.2, []⟩ else none
        else none
      | _ => none
    else none
  | _ => none
noncomputable def mAppend (P : Program) (lim : Nat) (t t2 : TypeId) (s x : Value) : RE := fun h n =>
  bif tyStr P t2 then mAppendS P lim t s x h n else Option.rec (mAppend0 P lim t t2 s x h n) some (mAppendR P t t2 s x h n)
noncomputable def mCopy (P : Program) (lim : Nat) (t : TypeId) (d s : Value) : RE := match d with
  | .slice (some ⟨id, off, none⟩) dl _ => fun h n => ((tyElem P t).bind (tySize P)).bind fun size =>
    bif Nat.ble lim id && Nat.beq size 1 then (srcOf 1 h s).bind fun src => (rwOf h id).bind fun r =>
      (ltake (Nat.min src.1 dl) src.2.1).bind fun new => bif new.all cok then
        (overAt off new r.2).bind fun cur' => some ⟨goInt (Nat.min src.1 dl), h.set id (.row r.1 false cur'), n, src.2.2, [id]⟩ else none
    else none
  | _ => fun _ _ => none
noncomputable def mMax (b : Bool) (x y : Value) : RE := match x, y with
  | .int k a, .int _ c => mV (.int k (cond b (if c > a then c else a) (if c < a then c else a)))
  | _, _ => fun _ _ => none
noncomputable def mBuiltin (P : Program) (lim : Nat) (b : Builtin) (args : List Value) (ts : List TypeId) : RE := match b, args, ts with
  | .len, [x], [t] => mLen P t x
  | .append, [s, x], [t, t2] => mAppend P lim t t2 s x
  | .copy, [d, s], [t, _] => mCopy P lim t d s
  | .max, [x, y], _ => mMax true x y
  | .min, [x, y], _ => mMax false x y
  | _, _, _ => fun _ _ => none
abbrev CallE := Nat → FuncId → List Value → Hp → Nat → Option (Value × Hp × Nat)
def idP (n : Nat) : Value → List Nat
  | .pointer (some ⟨id, _, none⟩) => bif Nat.ble n id then [id] else []
  | _ => []
def idA (n : Nat) : Value → List Nat
  | .pointer (some ⟨id, _, none⟩) | .slice (some ⟨id, _, none⟩) _ _ | .map (some id) => bif Nat.ble n id then [id] else []
  | .func _ _ b => b.toList.flatMap (idP n)
  | _ => []
def idV1 (n : Nat) : Value → List Nat
  | .agg cs => cs.toList.flatMap (idA n)
  | .func _ a b => a.toList.flatMap (idA n) ++ b.toList.flatMap (idA n)
  | v => idA n v
def idV (n : Nat) : Value → List Nat
  | .tuple cs => cs.toList.flatMap (idV1 n)
  | .func _ a b => a.toList.flatMap (idV1 n) ++ b.toList.flatMap (idV1 n)
  | v => idV1 n v
def reN (n : Nat) : List Nat → Nat → Nat
  | [], id => id
  | k :: l, id => bif Nat.beq k id then n else reN (n + 1) l id
def reP (n : Nat) (l : List Nat) : Value → Value
  | .pointer (some ⟨id, off, none⟩) => .pointer (some ⟨reN n l id, off, none⟩)
  | v => v
def reA (n : Nat) (l : List Nat) : Value → Value
  | .func fn a b => .func fn a ⟨b.toList.map (reP n l)⟩
  | .pointer (some ⟨id, off, none⟩) => .pointer (some ⟨reN n l id, off, none⟩)
  | .slice (some ⟨id, off, none⟩) m c => .slice (some ⟨reN n l id, off, none⟩) m c
  | .map (some id) => .map (some (reN n l id))
  | v => v
def reV1 (n : Nat) (l : List Nat) : Value → Value
  | .agg cs => .agg ⟨cs.toList.map (reA n l)⟩
  | v => reA n l v
def reV (n : Nat) (l : List Nat) : Value → Value
  | .tuple cs => .tuple ⟨cs.toList.map (reV1 n l)⟩
  | v => reV1 n l v
def once : List Nat → List Nat
  | [] => []
  | a :: l => bif (once l).contains a then once l else a :: once l
def plainO (n : Nat) : AObj → Bool
  | some (.inl r) => r.2.2.all fun v => (idA n v).isEmpty
  | some (.inr _) => true
  | none => false
def noFn : Value → Bool
  | .func .. => false
  | .tuple cs => cs.toList.all fun | .func .. => false | _ => true
  | _ => true
noncomputable def sweep (h : Hp) (n : Nat) (r : Value × Hp × Nat) : Value × Hp × Nat :=
  (fun l => bif noFn r.1 && l.all (fun id => Nat.blt id r.2.2 && plainO n (r.2.1.get id)) then (reV n l r.1, l.zipIdx.foldl (fun h x => h.set (n + x.2) (r.2.1.get x.1)) h, n + l.length) else r) (once (idV n r.1))
def goodF (P : Program) (f : FuncId) : Option (Code × Nat × List ResultVar) :=
  match P.funcs[f]? with
  | some fn => if fn.name != "runtime.NumGoroutine" then fn.body.map fun c => (c, fn.ntmps, fn.results.toList) else none
  | none => none
def isIB (P : Program) (f : FuncId) : Bool := match P.funcs[f]? with
  | some fn => fn.name == "internal/bytealg.IndexByteString" && fn.body.isNone && (Extern.findNext fn).isNone
  | none => false
noncomputable def mIB (args : List Value) : RE := match args with
  | [.string s, .int .u8 c] => mV (.int .i64 (Go.Lib.indexByte s.data.toList c.toNat.toUInt8))
  | _ => fun _ _ => none
noncomputable def callF (P : Program) (F : CallE) (cl : Nat) (f : Value) (args : List Value) : RE := match f with
  | .func (.func g) first cap => fun h n => match first.toList with
    | [] => Option.rec (bif isIB P g then mIB (args ++ cap.toList) h n else none) (fun _ => (F cl g (args ++ cap.toList) h n).bind fun r => some ⟨r.1, r.2.1, r.2.2, [], []⟩) (goodF P g)
    | _ => none
  | _ => fun _ _ => none
noncomputable def mCall (P : Program) (F : CallE) (lim cl : Nat) (c : Call) (ρ : Operand → Value) : RE :=
  Callee.rec (fun f => callF P F cl (ρ f) (c.args.toList.map ρ)) (fun _ _ _ _ => none) (fun b => mBuiltin P lim b (c.args.toList.map ρ) c.argTypes.toList) c.callee
abbrev DI := Program → CallE → Nat → Nat → (Operand → Value) → RE
noncomputable def aop (o : Op) : DI :=
  Op.rec (motive := fun _ => DI)
    (fun x P F lim cl ρ => mV (ρ x))
    (fun x P F lim cl ρ => mV (ρ x))
    (fun c a b P F lim cl ρ => mPick (ρ c) (ρ a) (ρ b))
    (fun elem P F lim cl ρ => mAlloc P elem)
    (fun e v P F lim cl ρ => mNew P e (ρ v).cells.toList)
    (fun t parts P F lim cl ρ => mBuild P t (parts.toList.map fun p => (p.1, ρ p.2)))
    (fun t len parts P F lim cl ρ => mBuildSlice P t len (parts.toList.map fun p => (p.1, ρ p.2)))
    (fun _ _ _ _ _ _ _ _ _ _ _ => none)
    (fun t addr P F lim cl ρ => mLoad P t (ρ addr))
    (fun t addr val P F lim cl ρ => mStore P lim t (ρ addr) (ρ val))
    (fun _ _ _ _ _ _ _ _ => none)
    (fun _ _ _ _ _ _ _ _ => none)
    (fun _ _ _ _ _ _ _ _ => none)
    (fun op xType x y _ P F lim cl ρ => mBin P op xType (ρ x) (ρ y))
    (fun op _ x P F lim cl ρ => mUn P op (ρ x))
    (fun src dst x P F lim cl ρ => mConvert P src dst (ρ x))
    (fun _ _ _ _ _ _ _ _ _ => none)
    (fun _ _ _ _ _ _ _ _ _ => none)
    (fun fn first captured P F lim cl ρ => mFunc fn (first.toList.map ρ) (captured.toList.map ρ))
    (fun _ reserve P F lim cl ρ => Option.rec mMakeMap (fun _ _ _ => none) reserve)
    (fun _ _ _ _ _ _ _ _ _ => none)
    (fun t len cap P F lim cl ρ => mMakeSlice P t (ρ len) (ρ cap))
    (fun xType x low high max P F lim cl ρ => Option.rec (mSlice P xType (ρ x) (low.map ρ) (high.map ρ)) (fun _ _ _ => none) max)
    (fun xType x field P F lim cl ρ => mFieldAddr P xType (ρ x) field)
    (fun _ _ _ _ _ _ _ _ _ _ => none)
    (fun xType x index P F lim cl ρ => mIndexAddr P xType (ρ x) (ρ index))
    (fun xType x index P F lim cl ρ => mIndex P xType (ρ x) (ρ index))
    (fun xType x index commaOk P F lim cl ρ => mLookup P xType (ρ x) (ρ index) commaOk)
    (fun mapType map key value P F lim cl ρ => mMapUpdate P lim mapType (ρ map) (ρ key) (ρ value))
    (fun _ _ _ _ _ _ _ _ _ _ => none)
    (fun _ _ _ _ _ _ _ _ _ _ _ => none)
    (fun _ _ _ _ _ _ _ _ _ => none)
    (fun _ _ _ _ _ _ _ _ _ => none)
    (fun _ _ _ _ _ _ _ _ => none)
    (fun _ _ _ _ _ _ _ _ _ _ _ => none)
    (fun tuple index P F lim cl ρ => mExtract (ρ tuple) index)
    (fun c P F lim cl ρ => mCall P F lim cl c ρ)
    (fun _ _ _ _ _ _ _ _ => none)
    (fun _ _ _ _ _ _ _ _ => none)
    (fun _ _ _ _ _ _ _ _ => none)
    (fun _ _ _ _ _ _ _ _ _ => none)
    (fun _ _ _ _ _ _ _ _ _ _ => none)
    (fun _ _ _ _ _ _ _ _ _ => none) o
def isCall (o : Op) : Bool := match o with
  | .call c => match c.callee with
    | .value _ => true
    | _ => false
  | _ => false
structure St where
  a : List Value
  h : Hp
  n : Nat
abbrev wild : Value := .chan none
noncomputable def lev (a : List Value) : Operand → Value
  | .tmp t => (lget a t).getD undef
  | .const v => bif scal v then v else wild
  | .global _ => wild
  | .func f => .func (.func f) ⟨[]⟩ ⟨[]⟩
noncomputable def put (a : List Value) (dst : Option Tmp) (v : Value) : List Value :=
  match dst with
  | some d => lset v d a
  | none => a
structure Fp where
  rd : List Nat
  wr : List Nat
  cl : Bool
  n0 : Nat
  n1 : Nat
def touches (x : Fp) (b : Nat) : Bool := x.rd.contains b || x.wr.contains b
def made (x : Fp) (b : Nat) : Bool := Nat.ble x.n0 b && Nat.blt b x.n1
def apartB (x y : Fp) : Bool :=
  x.wr.all (fun b => !(touches y b) && !y.cl) && y.wr.all (fun b => !(touches x b) && !x.cl && !(made x b)) && y.rd.all (fun b => !(made x b))
def memOp (o : Op) : Bool := match o with
  | .load .. | .store .. | .lookup .. | .mapUpdate .. | .convert .. => true
  | .call c => match c.callee with
    | .builtin .append | .builtin .copy | .value _ => true
    | _ => false
  | _ => false
def unordered (ops : Array Oper) : Option (List (Nat × Nat)) :=
  let b := Region.before ops
  let l := ops.toList.zipIdx
  let ps := l.flatMap fun y => (l.filter fun x => Nat.blt x.2 y.2 && !((b.getD y.2 0).testBit x.2)).map fun x => (x, y)
  if (l.all fun o => o.1.after.toList.all fun e => !(Region.binds .any e) || Nat.blt e.on o.2) && ps.all fun p => Oper.apart ops p.1.1 p.2.1 then
    some ((ps.filter fun p => memOp p.1.1.op && memOp p.2.1.op).map fun p => (p.1.2, p.2.2))
  else none
noncomputable def pairsOk (us : List (Nat × Nat)) (fps : List Fp) : Bool :=
  us.all fun p => match lget fps p.1, lget fps p.2 with
    | some x, some y => apartB x y
    | _, _ => false
def solo (us : List (Nat × Nat)) (i : Nat) : Bool := us.all fun p => !(Nat.beq p.1 i) && !(Nat.beq p.2 i)
noncomputable def wide (lim n : Nat) (x : Fp) : Fp := Bool.rec x ⟨x.rd, List.range' lim (n - lim), x.cl, x.n0, x.n1⟩ x.cl
section
variable (P : Program)
variable (F : CallE)
noncomputable def wants (ops : List Oper) (o : Oper) (a : List Value) : Option Bool :=
  match o.guard with
  | none => some true
  | some (g, want) => match (lget ops g).bind (·.dst) with
    | some t => match lget a t with
      | some (.bool b) => some (b == want)
      | some (.chan _) => none
      | _ => some false
    | none => some false
noncomputable def aopS (lim cl : Nat) (ops : List Oper) (o : Oper) (st : St) : Option (St × Fp) :=
  Option.rec none (fun b => Bool.rec (some (⟨put st.a o.dst undef, st.h, st.n⟩, ⟨[], [], false, st.n, st.n⟩))
    ((aop o.op P F lim cl (lev st.a) st.h st.n).bind fun e => Bool.rec none (fV e.v fun v => fN e.n fun n => some (⟨put st.a o.dst v, e.h, n⟩, ⟨e.rd, e.wr, isCall o.op, st.n, n⟩)) (e.wr.all (Nat.ble lim) && (memOp o.op || (e.rd.isEmpty && e.wr.isEmpty)))) b) (wants ops o st.a)
noncomputable def aops (lim cl : Nat) (ops : List Oper) (l : List Oper) : St → Option St :=
  List.rec (fun st => some st) (fun o _ ih st => (aopS P F lim cl ops o st).bind fun r => ih r.1) l
noncomputable def aopsD (lim : Nat) (us : List (Nat × Nat)) (ops : List Oper) (l : List Oper) : Nat → St → List Fp → Option (St × List Fp) :=
  List.rec (fun _ st acc => some (st, acc.reverse)) (fun o _ ih i st acc =>
    Bool.rec ((aopS P F lim st.n ops o st).bind fun r => ih (Nat.succ i) r.1 (r.2 :: acc))
      ((aopS P F lim lim ops o st).bind fun r => ih (Nat.succ i) r.1 (wide lim st.n r.2 :: acc)) (isCall o.op && solo us i)) l
abbrev Ex := Nat
noncomputable def aloop (body : St → Option (Ex × St)) (k : Nat) : St → Option (Ex × St) :=
  Nat.rec (fun _ => none) (fun _ ih st => (body st).bind fun r => bif Nat.beq r.1 0 then ih r.2 else some r) k
abbrev RC := St → Option (Ex × St)
noncomputable def cRegion (lim : Nat) (ops : Array Oper) (d : Bool) : RC := fun st =>
  Bool.rec ((aops P F lim lim ops.toList ops.toList st).bind fun r => some (0, r))
    ((unordered ops).bind fun us => (aopsD P F lim us ops.toList ops.toList 0 st []).bind fun r => bif pairsOk us r.2 then some (0, r.1) else none) d
noncomputable def cSeq (x y : RC) : RC := fun st => (x st).bind fun r => bif Nat.beq r.1 0 then y r.2 else some r
noncomputable def cCond (c : Operand) (x y : RC) : RC := fun st => match lev st.a c with
  | .bool b => Bool.rec (y st) (x st) b
  | _ => none
noncomputable def cBlock (id : Nat) (x : RC) : RC := fun st => (x st).bind fun r => bif Nat.beq r.1 (id + 2) then some (0, r.2) else some r
noncomputable def acode (k lim : Nat) (c : Code) : RC :=
  Code.rec (motive := fun _ => RC) (fun st => some (0, st)) (fun _ ops d => cRegion P F lim ops d) (fun _ _ x y => cSeq x y) (fun c _ _ x y => cCond c x y) (fun id _ x => cBlock id x)
    (fun _ x => aloop x k) (fun _ _ _ _ _ _ _ => none) (fun id st => some (id + 2, st)) (fun _ _ _ => none) (fun _ st => some (0, st)) (fun _ _ => none) (fun st => some (1, st)) (fun _ _ => none) c
noncomputable def aresult (h : Hp) (tmps : List Value) : ResultVar → Option Value
  | .tmp t => some ((lget tmps t).getD undef)
  | .cell a t => match lget tmps a with
    | some (.pointer (some ⟨id, off, none⟩)) => match tyAgg P t with
      | some true => ((tySize P t).bind (cellsAt h id off)).map fun cs => .agg ⟨cs⟩
      | some false => cellAt h id off
      | none => none
    | _ => none
noncomputable def aresults (h : Hp) (rs : List ResultVar) (tmps : List Value) : Option Value :=
  match rs.mapM (aresult P h tmps) with
  | some [v] => some v
  | some vs => bif vs.all vbk then some (.tuple ⟨vs⟩) else none
  | none => none
def dform : Code → Option (Code × List Oper × List Oper × Operand × Code)
  | .seq x (.seq (.region _ ops false) y) => match ops.toList.reverse with
    | ⟨none, .defer ⟨.value f, ⟨[]⟩, _⟩, _, _, _, none⟩ :: l => some (x, ops.toList, l.reverse, f, y)
    | _ => none
  | _ => none
noncomputable def arun1 (k : Nat) (lim : Nat) (fi : Code × Nat × List ResultVar) (args : List Value) (h : Hp) (n : Nat) : Option (Value × Hp × Nat) :=
  (acode P F k lim fi.1 ⟨args ++ List.replicate (fi.2.1 - args.length) undef, h, n⟩).bind fun r =>
    bif Nat.ble r.1 1 then (aresults P r.2.h fi.2.2 r.2.a).map fun v => (v, r.2.h, r.2.n) else none
noncomputable def adef (k lim : Nat) (f : Value) (h : Hp) (n : Nat) : Option (Value × Hp × Nat) := match f with
  | .func (.func g) first cap => match first.toList with
    | [] => (goodF P g).bind fun gi => arun1 P F k lim gi cap.toList h n
    | _ => none
  | _ => none
noncomputable def arunD (k : Nat) (lim : Nat) (x : Code × List Oper × List Oper × Operand × Code) (fi : Code × Nat × List ResultVar) (args : List Value) (h : Hp) (n : Nat) : Option (Value × Hp × Nat) :=
  (acode P F k lim x.1 ⟨args ++ List.replicate (fi.2.1 - args.length) undef, h, n⟩).bind fun r0 => bif Nat.beq r0.1 0 then
    (aops P F lim lim x.2.1 x.2.2.1 r0.2).bind fun s1 => (acode P F k lim x.2.2.2.2 s1).bind fun r => bif Nat.ble r.1 1 then
      (adef P F k lim (lev s1.a x.2.2.2.1) r.2.h r.2.n).bind fun d => (aresults P d.2.1 fi.2.2 r.2.a).map fun v => (v, d.2.1, d.2.2)
    else none
  else none
noncomputable def arun (k : Nat) (lim : Nat) (f : FuncId) (args : List Value) (h : Hp) (n : Nat) : Option (Value × Hp × Nat) :=
  (goodF P f).bind fun fi => Option.rec (arun1 P F k lim fi args h n) (fun x => arunD P F k lim x fi args h n) (dform fi.1)
noncomputable def afunc (W : FuncId → Bool) (k : Nat) (lim : Nat) (f : FuncId) (args : List Value) (h : Hp) (n : Nat) : Option (Value × Hp × Nat) :=
  bif W f then arun P F k lim f args h n else (arun P F k n f args h n).map (sweep h n)
end
noncomputable def acall (P : Program) (W : FuncId → Bool) (k : Nat) (d : Nat) : CallE :=
  Nat.rec (fun _ _ _ _ _ => none) (fun _ ih => afunc P ih W k) d
end Go.Proofs.Ytkngdfbibffdcaa.Ce
namespace Go.Proofs.Ytkngdfbibffdcaa.Ce
open Go.RowKit
section lists
variable {α : Type}
theorem lget_eq (l : List α) : ∀ n, lget l n = l[n]? := by
  induction l with
  | nil => intro n; rfl
  | cons a l ih => intro n; cases n with
    | zero => rfl
    | succ n => exact ih n
theorem lset_eq (v : α) (l : List α) : ∀ n, lset v n l = l.set n v := by
  induction l with
  | nil => intro n; rfl
  | cons a l ih => intro n; cases n with
    | zero => rfl
    | succ n => show a :: lset v n l = _; rw [ih n]; rfl
theorem ldrop_eq (l : List α) : ∀ n, ldrop n l = l.drop n := by
  induction l with
  | nil => intro n; simp [ldrop]
  | cons a l ih => intro n; cases n with
    | zero => rfl
    | succ n => exact ih n
theorem ltake_some (l : List α) : ∀ {n : Nat} {r : List α}, ltake n l = some r → n ≤ l.length ∧ r = l.take n := by
  induction l with
  | nil => intro n r h; cases n with
    | zero => injection h with h; subst h; exact ⟨Nat.le_refl _, rfl⟩
    | succ n => cases h
  | cons a l ih => intro n r h; cases n with
    | zero => injection h with h; subst h; exact ⟨by simp, rfl⟩
    | succ n =>
      change Option.rec none (fun r => some (a :: r)) (ltake n l) = some r at h
      cases hr : ltake n l with
      | none => rw [hr] at h; cases h
      | some r' =>
        rw [hr] at h
        injection h with h
        obtain ⟨h1, h2⟩ := ih hr
        exact ⟨by simp; omega, by rw [← h, h2]; rfl⟩
theorem over_some (vs : List α) : ∀ {l r : List α}, over vs l = some r → vs.length ≤ l.length ∧ r = vs ++ l.drop vs.length := by
  induction vs with
  | nil => intro l r h; injection h with h; subst h; exact ⟨by simp, by simp⟩
  | cons v vs ih => intro l r h; cases l with
    | nil => cases h
    | cons a l =>
      change Option.rec none (fun r => some (v :: r)) (over vs l) = some r at h
      cases hr : over vs l with
      | none => rw [hr] at h; cases h
      | some r' =>
        rw [hr] at h
        injection h with h
        obtain ⟨h1, h2⟩ := ih hr
        exact ⟨by simp; omega, by rw [← h, h2]; rfl⟩
theorem overAt_some (vs : List α) (l : List α) : ∀ {n : Nat} {r : List α}, overAt n vs l = some r → n + vs.length ≤ l.length ∧ r = l.take n ++ (vs ++ l.drop (n + vs.length)) := by
  induction l with
  | nil => intro n r h; cases n with
    | zero =>
      obtain ⟨h1, h2⟩ := over_some vs (l := []) h
      exact ⟨by omega, by rw [h2]; simp⟩
    | succ n => cases h
  | cons a l ih => intro n r h; cases n with
    | zero =>
      obtain ⟨h1, h2⟩ := over_some vs (l := a :: l) h
      exact ⟨by omega, by rw [h2]; simp⟩
    | succ n =>
      change Option.rec none (fun r => some (a :: r)) (overAt n vs l) = some r at h
      cases hr : overAt n vs l with
      | none => rw [hr] at h; cases h
      | some r' =>
        rw [hr] at h
        injection h with h
        obtain ⟨h1, h2⟩ := ih hr
        refine ⟨by simp; omega, ?_⟩
        rw [← h, h2]
        simp [Nat.add_right_comm n 1 vs.length]
theorem pset_get (d v : α) (l : List α) : ∀ n m, ((pset d v n l)[m]?).getD d = if m = n then v else (l[m]?).getD d := by
  have nil : ∀ n m, ((pset d v n ([] : List α))[m]?).getD d = if m = n then v else d := by
    intro n
    induction n with
    | zero => intro m; cases m <;> rfl
    | succ n ih =>
      intro m
      cases m with
      | zero => rfl
      | succ m =>
        have h := ih m
        simp only [Nat.add_right_cancel_iff]
        rw [← h]
        rfl
  induction l with
  | nil => intro n m; simpa using nil n m
  | cons a l ih => intro n m; cases n with
    | zero => cases m <;> rfl
    | succ n => cases m with
      | zero => rfl
      | succ m =>
        have h := ih n m
        simp only [Nat.add_right_cancel_iff, List.getElem?_cons_succ]
        rw [← h]
        rfl
end lists
theorem Hp.get_set (h : Hp) (n m : Nat) (v : AObj) : (h.set n v).get m = if m = n then v else h.get m := by
  unfold Hp.get Hp.set
  rw [lget_eq, lget_eq]
  exact pset_get none v h n m
theorem Hp.get_same (h : Hp) (n : Nat) (v : AObj) : (h.set n v).get n = v := by rw [Hp.get_set, if_pos rfl]
theorem Hp.get_ne (h : Hp) {n m : Nat} (v : AObj) (e : m ≠ n) : (h.set n v).get m = h.get m := by rw [Hp.get_set, if_neg e]
theorem fN_eq {β : Type} (n : Nat) (K : Nat → β) : fN n K = K n := by cases n <;> rfl
theorem fI_eq {β : Type} (i : Int) (K : Int → β) : fI i K = K i := by
  cases i with
  | ofNat m => exact fN_eq m fun m => K (.ofNat m)
  | negSucc m => exact fN_eq m fun m => K (.negSucc m)
theorem fB_eq {β : Type} (b : Bool) (K : Bool → β) : fB b K = K b := by cases b <;> rfl
theorem fA_eq {β : Type} (v : Value) (K : Value → β) : fA v K = K v := by
  unfold fA
  split
  · exact fB_eq _ _
  · exact fI_eq _ _
  · rw [fN_eq, fN_eq]
  · rw [fN_eq, fN_eq, fN_eq, fN_eq]
  · rfl
theorem fAs_eq {β : Type} (l : List Value) : ∀ K : List Value → β, fAs l K = K l := by
  induction l with
  | nil => intro K; rfl
  | cons a l ih => intro K; exact (fA_eq a fun a => fAs l fun t => K (a :: t)).trans (ih _)
theorem fV1_eq {β : Type} (v : Value) (K : Value → β) : fV1 v K = K v := by
  unfold fV1
  split
  · rw [fAs_eq]
  · exact fA_eq _ _
theorem fV1s_eq {β : Type} (l : List Value) : ∀ K : List Value → β, fV1s l K = K l := by
  induction l with
  | nil => intro K; rfl
  | cons a l ih => intro K; exact (fV1_eq a fun a => fV1s l fun t => K (a :: t)).trans (ih _)
theorem fV_eq {β : Type} (v : Value) (K : Value → β) : fV v K = K v := by
  unfold fV
  split
  · rw [fV1s_eq]
  · exact fV1_eq _ _
theorem prun_run {P : Program} {α : Type} : ∀ {s : Sem α} {r : α}, prun P s = some r → ∀ w, s.run P w = .ok r w := by
  intro s
  induction s with
  | pure a => intro r h w; injection h with h; rw [← h]; rfl
  | program k ih => intro r h w; exact ih P h w
  | mark m k ih => intro r h w; exact ih h w
  | _ => intro r h; cases h
def VL (R : Value → Value → Prop) : List Value → List Value → Prop
  | [], [] => True
  | a :: l, b :: m => R a b ∧ VL R l m
  | _, _ => False
section
variable {R R' : Value → Value → Prop}
theorem VL.len : ∀ {l m : List Value}, VL R l m → l.length = m.length
  | [], [], _ => rfl
  | _ :: l, _ :: m, h => by simp [VL.len h.2]
  | [], _ :: _, h => h.elim
  | _ :: _, [], h => h.elim
theorem VL.imp_ (hr : ∀ a b, R a b → R' a b) : ∀ {l m : List Value}, VL R l m → VL R' l m
  | [], [], _ => trivial
  | _ :: l, _ :: m, h => ⟨hr _ _ h.1, VL.imp_ hr h.2⟩
  | [], _ :: _, h => h.elim
  | _ :: _, [], h => h.elim
theorem VL.at_ : ∀ {l m : List Value}, VL R l m → ∀ {k : Nat} {a : Value}, l[k]? = some a → ∃ b, m[k]? = some b ∧ R a b
  | [], [], _, _, _, h => by simp at h
  | a :: l, b :: m, hv, 0, _, h => by simp at h; subst h; exact ⟨b, by simp, hv.1⟩
  | a :: l, b :: m, hv, k + 1, _, h => by simpa using VL.at_ hv.2 (by simpa using h)
  | [], _ :: _, h, _, _, _ => h.elim
  | _ :: _, [], h, _, _, _ => h.elim
theorem VL.mk : ∀ {l m : List Value}, l.length = m.length → (∀ (k : Nat) (a b : Value), l[k]? = some a → m[k]? = some b → R a b) → VL R l m
  | [], [], _, _ => trivial
  | a :: l, b :: m, hl, h => ⟨h 0 a b (by simp) (by simp), VL.mk (by simpa using hl) fun k x y h1 h2 => h (k + 1) x y (by simpa using h1) (by simpa using h2)⟩
  | [], _ :: _, h, _ => by simp at h
  | _ :: _, [], h, _ => by simp at h
theorem VL.app : ∀ {l m l' m' : List Value}, VL R l m → VL R l' m' → VL R (l ++ l') (m ++ m')
  | [], [], _, _, _, h => h
  | a :: l, b :: m, _, _, h, h' => ⟨h.1, VL.app h.2 h'⟩
  | [], _ :: _, _, _, h, _ => h.elim
  | _ :: _, [], _, _, h, _ => h.elim
theorem VL.take_ : ∀ {l m : List Value}, VL R l m → ∀ k, VL R (l.take k) (m.take k)
  | [], [], _, _ => by simp [VL]
  | a :: l, b :: m, h, 0 => by simp [VL]
  | a :: l, b :: m, h, k + 1 => ⟨h.1, VL.take_ h.2 k⟩
  | [], _ :: _, h, _ => h.elim
  | _ :: _, [], h, _ => h.elim
theorem VL.drop_ : ∀ {l m : List Value}, VL R l m → ∀ k, VL R (l.drop k) (m.drop k)
  | [], [], _, _ => by simp [VL]
  | a :: l, b :: m, h, 0 => h
  | a :: l, b :: m, h, k + 1 => VL.drop_ h.2 k
  | [], _ :: _, h, _ => h.elim
  | _ :: _, [], h, _ => h.elim
theorem VL.map_ {β : Type} {f g : β → Value} : ∀ {l : List β}, (∀ x ∈ l, R (f x) (g x)) → VL R (l.map f) (l.map g)
  | [], _ => trivial
  | x :: l, h => ⟨h x (by simp), VL.map_ fun y hy => h y (by simp [hy])⟩
end
abbrev Mp := Nat → Option (Nat × Nat)
def VP (φ : Mp) (u v : Value) : Prop := match u with
  | .pointer (some ⟨id, j, none⟩) => ∃ g c, φ id = some (g, c) ∧ v = .pointer (some ⟨g, j, none⟩)
  | _ => False
def VA (φ : Mp) (u v : Value) : Prop := match u with
  | .pointer (some ⟨id, j, none⟩) => ∃ g c, φ id = some (g, c) ∧ v = .pointer (some ⟨g, j, none⟩)
  | .slice (some ⟨id, j, none⟩) n k => ∃ g c j' c', φ id = some (g, c) ∧ v = .slice (some ⟨g, j', none⟩) n c' ∧ n ≤ c' ∧ c' ≤ maxLen ∧ (j' = j ∨ n = 0 ∧ c' = 0) ∧ (j = 0 → k ≤ n → c ≤ maxLen → j' = 0 ∧ c' = c) ∧ (k = 0 → 0 < n → c' = n)
  | .slice (some ⟨_, _, some _⟩) n _ => n = 0 ∧ ∃ a' c', v = .slice (some a') 0 c'
  | .chan _ => True
  | .map (some id) => ∃ g c, φ id = some (g, c) ∧ v = .map (some g)
  | .func fn a b => a = #[] ∧ ∃ b' : Array Value, v = .func fn #[] b' ∧ VL (VP φ) b.toList b'.toList
  | u => flat1 u = true ∧ v = u
def VB (φ : Mp) (u v : Value) : Prop := match u with
  | .agg cs => ∃ ds : Array Value, v = .agg ds ∧ VL (VA φ) cs.toList ds.toList
  | u => VA φ u v
def VC (φ : Mp) (u v : Value) : Prop := match u with
  | .chan _ => True
  | .tuple cs => ∃ ds : Array Value, v = .tuple ds ∧ VL (VB φ) cs.toList ds.toList
  | .func fn a b => ∃ a' b' : Array Value, v = .func fn a' b' ∧ VL (VB φ) a.toList a'.toList ∧ VL (VB φ) b.toList b'.toList
  | u => VB φ u v
def le_ (φ φ' : Mp) : Prop := ∀ id p, φ id = some p → φ' id = some p
theorem le_.refl (φ : Mp) : le_ φ φ := fun _ _ h => h
section
variable {φ φ' : Mp} {u v : Value}
theorem VP.mono (hle : le_ φ φ') (h : VP φ u v) : VP φ' u v := by
  unfold VP at *
  split at h
  · obtain ⟨g, c, h1, h2⟩ := h; exact ⟨g, c, hle _ _ h1, h2⟩
  · exact h.elim
theorem VP.va (h : VP φ u v) : VA φ u v := by
  unfold VP at h
  split at h
  · exact h
  · exact h.elim
theorem VA.mono (hle : le_ φ φ') (h : VA φ u v) : VA φ' u v := by
  unfold VA at *
  split at h
  · obtain ⟨g, c, h1, h2⟩ := h; exact ⟨g, c, hle _ _ h1, h2⟩
  · obtain ⟨g, c, j', c', h1, h2⟩ := h; exact ⟨g, c, j', c', hle _ _ h1, h2⟩
  · exact h
  · trivial
  · obtain ⟨g, c, h1, h2⟩ := h; exact ⟨g, c, hle _ _ h1, h2⟩
  · obtain ⟨ha, b', h1, h2⟩ := h; exact ⟨ha, b', h1, h2.imp_ fun _ _ => VP.mono hle⟩
  · exact h
theorem VB.mono (hle : le_ φ φ') (h : VB φ u v) : VB φ' u v := by
  unfold VB at *
  split at h
  · obtain ⟨ds, h1, h2⟩ := h; exact ⟨ds, h1, h2.imp_ fun _ _ => VA.mono hle⟩
  · exact h.mono hle
theorem VC.mono (hle : le_ φ φ') (h : VC φ u v) : VC φ' u v := by
  unfold VC at *
  split at h
  · trivial
  · obtain ⟨ds, h1, h2⟩ := h; exact ⟨ds, h1, h2.imp_ fun _ _ => VB.mono hle⟩
  · obtain ⟨a', b', h1, h2, h3⟩ := h; exact ⟨a', b', h1, h2.imp_ fun _ _ => VB.mono hle, h3.imp_ fun _ _ => VB.mono hle⟩
  · exact h.mono hle
theorem VA.vb (h : VA φ u v) : VB φ u v := by
  unfold VB
  split
  · unfold VA at h; simp [flat1] at h
  · exact h
theorem VB.vc (h : VB φ u v) : VC φ u v := by
  unfold VC
  split
  · trivial
  · unfold VB VA at h; simp [flat1] at h
  · rename_i fn a b
    obtain ⟨rfl, b', rfl, h2⟩ := (show VA φ (.func fn a b) v from h)
    exact ⟨#[], b', rfl, trivial, h2.imp_ fun _ _ hh => hh.va.vb⟩
  · exact h
theorem VL.ptrs : ∀ {l m : List Value}, l.all ptrB = true → VL (VB φ) l m → VL (VP φ) l m
  | [], [], _, _ => trivial
  | a :: l, b :: m, hf, h => by
    simp only [List.all_cons, Bool.and_eq_true] at hf
    refine ⟨?_, VL.ptrs hf.2 h.2⟩
    have h1 := hf.1
    unfold ptrB at h1
    split at h1
    · exact h.1
    · cases h1
  | [], _ :: _, _, h => h.elim
  | _ :: _, [], _, h => h.elim
theorem VC.wild (v : Value) : VC φ Ce.wild v := trivial
theorem VC.undef_ : VC φ undef undef := ⟨_, rfl, trivial⟩
theorem VC.of_bool {b : Bool} (h : VC φ u (.bool b)) : u = .bool b ∨ ∃ c, u = .chan c := by
  cases u with
  | chan c => exact .inr ⟨c, rfl⟩
  | bool c => injection h.2 with h; subst h; exact .inl rfl
  | tuple cs => obtain ⟨ds, h, -⟩ := h; cases h
  | func fn a c => obtain ⟨a', b', h, -⟩ := h; cases h
  | agg cs => obtain ⟨ds, h, -⟩ := h; cases h
  | pointer a =>
    rcases a with _ | ⟨id, j, s⟩
    · cases h.2
    · rcases s with _ | s
      · obtain ⟨g, c, _, h⟩ := h; cases h
      · cases h.2
  | slice a m c =>
    rcases a with _ | ⟨id, j, s⟩
    · cases h.2
    · rcases s with _ | s
      · obtain ⟨g, c, j', c', _, h, _⟩ := h; cases h
      · obtain ⟨_, a', c', h⟩ := h; cases h
  | map a =>
    rcases a with _ | id
    · cases h.2
    · obtain ⟨g, c, _, h⟩ := h; cases h
  | _ => cases h.2
theorem VA.flat (h : flat1 u = true) : VA φ u u := by
  unfold VA
  split <;> first | (simp [flat1] at h; done) | exact ⟨h, rfl⟩
theorem VC.empty {a : Addr} {c : Nat} {v : Value} (h : VC φ (.slice (some a) 0 c) v) : ∃ a' c', v = .slice (some a') 0 c' := by
  obtain ⟨id, j, s⟩ := a
  cases s with
  | none => obtain ⟨g, c1, j', c', _, rfl, _⟩ := h; exact ⟨_, _, rfl⟩
  | some s => obtain ⟨_, a', c', rfl⟩ := h; exact ⟨_, _, rfl⟩
theorem VC.int {k : IntKind} {i : Int} (h : VC φ (.int k i) v) : v = .int k i := h.2
theorem VC.bool {b : Bool} (h : VC φ (.bool b) v) : v = .bool b := h.2
theorem VC.str {s : ByteArray} (h : VC φ (.string s) v) : v = .string s := h.2
theorem VC.flat_eq (hf : flat1 u = true) (h : VC φ u v) : v = u := by
  unfold VC at h
  split at h
  · simp [flat1] at hf
  · simp [flat1] at hf
  · simp [flat1] at hf
  · unfold VB at h
    split at h
    · simp [flat1] at hf
    · unfold VA at h
      split at h <;> first | (simp [flat1] at hf; done) | exact h.2
theorem VL.flat_eq : ∀ {l m : List Value}, l.all flat1 = true → VL (VA φ) l m → m = l
  | [], [], _, _ => rfl
  | a :: l, b :: m, hf, h => by
    simp only [List.all_cons, Bool.and_eq_true] at hf
    rw [VL.flat_eq hf.2 h.2, VC.flat_eq hf.1 h.1.vb.vc]
  | [], _ :: _, _, h => h.elim
  | _ :: _, [], _, h => h.elim
theorem VL.flat_refl : ∀ {l : List Value}, l.all flat1 = true → VL (VA φ) l l
  | [], _ => trivial
  | a :: l, hf => by
    simp only [List.all_cons, Bool.and_eq_true] at hf
    exact ⟨VA.flat hf.1, VL.flat_refl hf.2⟩
theorem VC.cells (h : VC φ u v) (hc : u.cells.toList.all cok = true) : VL (VA φ) u.cells.toList v.cells.toList := by
  cases u with
  | agg cs =>
    obtain ⟨ds, rfl, h2⟩ := h
    exact h2
  | tuple cs => simp [Value.cells, cok] at hc
  | func fn a b =>
    obtain ⟨a', b', rfl, h1, h2⟩ := h
    have hc' : (a.toList.isEmpty && b.toList.all ptrB) = true := by
      have := hc
      simp only [Value.cells, List.all_cons, List.all_nil, Bool.and_true] at this
      exact this
    rw [Bool.and_eq_true] at hc'
    obtain ⟨ha, hb⟩ := hc'
    obtain rfl : a = #[] := by
      obtain ⟨l⟩ := a
      cases l with
      | nil => rfl
      | cons x l => cases ha
    have ha' : a' = #[] := by
      have := h1.len
      simpa using this.symm
    subst ha'
    exact ⟨⟨rfl, b', rfl, h2.ptrs hb⟩, trivial⟩
  | nilFunc => rw [VC.flat_eq (u := .nilFunc) rfl h]; exact ⟨VA.flat rfl, trivial⟩
  | int k i => obtain rfl := h.int; exact ⟨VA.flat rfl, trivial⟩
  | bool b => obtain rfl := h.bool; exact ⟨VA.flat rfl, trivial⟩
  | string s => obtain rfl := h.str; exact ⟨VA.flat rfl, trivial⟩
  | pointer a =>
    have h' : VA φ (.pointer a) v := h
    have hv : v.cells.toList = [v] := by
      rcases a with _ | ⟨id, j, s⟩
      · rw [h'.2]; rfl
      · rcases s with _ | s
        · obtain ⟨g, c, _, rfl⟩ := h'; rfl
        · rw [h'.2]; rfl
    rw [hv]; exact ⟨h', trivial⟩
  | slice a n c =>
    have h' : VA φ (.slice a n c) v := h
    have hv : v.cells.toList = [v] := by
      rcases a with _ | ⟨id, j, s⟩
      · rw [h'.2]; rfl
      · rcases s with _ | s
        · obtain ⟨g, c, j', c', _, rfl, _⟩ := h'; rfl
        · obtain ⟨_, a', c', rfl⟩ := h'; rfl
    rw [hv]; exact ⟨h', trivial⟩
  | map a =>
    have h' : VA φ (.map a) v := h
    have hv : v.cells.toList = [v] := by
      rcases a with _ | id
      · rw [h'.2]; rfl
      · obtain ⟨g, c, _, rfl⟩ := h'; rfl
    rw [hv]; exact ⟨h', trivial⟩
  | _ => simp [Value.cells, cok] at hc
theorem VA.one_cell (h : VA φ u v) (hc : cok u = true) : v.oneCell' = true := by
  cases u with
  | int k i => rw [h.2]; rfl
  | bool b => rw [h.2]; rfl
  | string s => rw [h.2]; rfl
  | pointer a =>
    rcases a with _ | ⟨id, j, s⟩
    · rw [h.2]; rfl
    · rcases s with _ | s
      · obtain ⟨g, c, _, rfl⟩ := h; rfl
      · rw [h.2]; rfl
  | slice a n c =>
    rcases a with _ | ⟨id, j, s⟩
    · rw [h.2]; rfl
    · rcases s with _ | s
      · obtain ⟨g, c, j', c', _, rfl, _⟩ := h; rfl
      · obtain ⟨_, a', c', rfl⟩ := h; rfl
  | map a =>
    rcases a with _ | id
    · rw [h.2]; rfl
    · obtain ⟨g, c, _, rfl⟩ := h; rfl
  | nilFunc => rw [h.2]; rfl
  | func fn a b => obtain ⟨-, b', rfl, -⟩ := h; rfl
  | _ => simp [cok] at hc
theorem VL.one_cells : ∀ {l m : List Value}, VL (VA φ) l m → l.all cok = true → ∀ x ∈ m, x.oneCell' = true
  | [], [], _, _ => by simp
  | a :: l, b :: m, h, hc => by
    simp only [List.all_cons, Bool.and_eq_true] at hc
    intro x hx
    rcases List.mem_cons.1 hx with rfl | hx
    · exact h.1.one_cell hc.1
    · exact VL.one_cells h.2 hc.2 x hx
  | [], _ :: _, h, _ => h.elim
  | _ :: _, [], h, _ => h.elim
end
def ObjR (P : Program) (φ : Mp) (o : AObj) (w : World) (g c : Nat) : Prop := match o with
  | none => True
  | some (.inl (e, ro, cs)) => ∃ (ds : Array Value) (fz : Nat × Nat), w.heap[g]? = some (.cells ds e fz) ∧ VL (VA φ) cs (ds.toList.take cs.length) ∧ (ro = false → c ≤ maxLen ∧ fz = (0, 0) ∧ ∃ sz, tySize P e = some sz ∧ ds.size = c * sz)
  | some (.inr m) => w.heap[g]? = some (.map m.1 m.2)
theorem ObjR.mono {P : Program} {φ φ' : Mp} {o : AObj} {w w' : World} {g c : Nat} (hle : le_ φ φ') (hw : w'.heap[g]? = w.heap[g]?) (h : ObjR P φ o w g c) : ObjR P φ' o w' g c := by
  unfold ObjR at *
  split at h
  · trivial
  · obtain ⟨ds, fz, h1, h2, h3⟩ := h; exact ⟨ds, fz, hw.trans h1, h2.imp_ fun _ _ => VA.mono hle, h3⟩
  · exact hw.trans h
def upd (φ : Mp) (n : Nat) (p : Nat × Nat) : Mp := fun id => if id = n then some p else φ id
theorem upd_le {φ : Mp} {n : Nat} (p : Nat × Nat) (h : φ n = none) : le_ φ (upd φ n p) := fun id q hq => by
  unfold upd
  split
  · subst id; rw [h] at hq; cases hq
  · exact hq
theorem upd_same (φ : Mp) (n : Nat) (p : Nat × Nat) : upd φ n p n = some p := by simp [upd]
theorem upd_ne (φ : Mp) {n id : Nat} (p : Nat × Nat) (h : id ≠ n) : upd φ n p id = φ id := by simp [upd, h]
end Go.Proofs.Ytkngdfbibffdcaa.Ce
