/- An evaluator of closed calls over a heap of its own: definitions, laid out for the kernel. No program in sight. -/
import Derived.Test.YtgdokjfjmcleeaaMem
namespace Go.Proofs.Ytgdokjfjmcleeaa.Ce
set_option linter.unusedVariables false
set_option linter.unusedSimpArgs false

/-- A part of a run that looks at no memory. -/
def prun (P : Program) {α : Type} : Sem α → Option α
  | .pure a => some a
  | .program k => prun P (k P)
  | .mark _ k => prun P k
  | _ => none

/-- the n-th -/
noncomputable def lget {α : Type} (l : List α) : Nat → Option α := List.rec (fun _ => none) (fun a _ ih n => Nat.rec (some a) (fun m _ => ih m) n) l
/-- the n-th anew, d where there was none -/
noncomputable def pset {α : Type} (d v : α) (n : Nat) (l : List α) : List α :=
  List.rec (fun n => Nat.rec [v] (fun _ ih => d :: ih) n) (fun a t ih n => Nat.rec (v :: t) (fun m _ => a :: ih m) n) l n
/-- the n-th anew, where there is one -/
noncomputable def lset {α : Type} (v : α) (n : Nat) (l : List α) : List α := List.rec (fun _ => []) (fun a t ih n => Nat.rec (v :: t) (fun m _ => a :: ih m) n) l n
noncomputable def ldrop {α : Type} (n : Nat) (l : List α) : List α := List.rec (fun _ => []) (fun a t ih n => Nat.rec (a :: t) (fun m _ => ih m) n) l n
/-- the first n, all of them there -/
noncomputable def ltake {α : Type} (n : Nat) (l : List α) : Option (List α) :=
  List.rec (fun n => Nat.rec (some []) (fun _ _ => none) n) (fun a _ ih n => Nat.rec (some []) (fun m _ => Option.rec none (fun r => some (a :: r)) (ih m)) n) l n
/-- vs in the place of what lies at a place -/
noncomputable def over {α : Type} (vs : List α) : List α → Option (List α) :=
  List.rec (fun l => some l) (fun v _ ih l => List.rec none (fun _ t _ => Option.rec none (fun r => some (v :: r)) (ih t)) l) vs
noncomputable def overAt {α : Type} (n : Nat) (vs : List α) (l : List α) : Option (List α) :=
  List.rec (fun n => Nat.rec (over vs []) (fun _ _ => none) n) (fun a t ih n => Nat.rec (over vs (a :: t)) (fun m _ => Option.rec none (fun r => some (a :: r)) (ih m)) n) l n

def flat1 : Value → Bool
  | .bool _ | .int _ _ | .string _ | .nilFunc | .nilIface | .pointer none | .slice none 0 0 | .map none => true
  | _ => false
/-- A value without an address. -/
def scal : Value → Bool
  | .agg cs => cs.toList.all flat1
  | v => flat1 v

/-- What a block of the evaluator's heap holds: none; cells of an element type (ro: read alone); or a map. -/
abbrev AObj := Option ((Nat × Bool × List Value) ⊕ (Array MapEntry × Nat))
abbrev AObj.row (e : Nat) (ro : Bool) (cs : List Value) : AObj := some (.inl (e, ro, cs))
abbrev AObj.mp (es : Array MapEntry) (clock : Nat) : AObj := some (.inr (es, clock))

/-- A heap: numbers to blocks. -/
abbrev Hp := List AObj
noncomputable def Hp.get (h : Hp) (n : Nat) : AObj := (lget h n).getD none
noncomputable def Hp.set (h : Hp) (n : Nat) (v : AObj) : Hp := pset none v n h

/-- Words that make the kernel carry a thing out before it goes on: each is K of the thing itself. -/
noncomputable def fN {β : Type} (n : Nat) (K : Nat → β) : β := Nat.rec (K 0) (fun m _ => K (Nat.succ m)) n
noncomputable def fI {β : Type} (i : Int) (K : Int → β) : β := Int.rec (fun m => fN m fun m => K (.ofNat m)) (fun m => fN m fun m => K (.negSucc m)) i
noncomputable def fB {β : Type} (b : Bool) (K : Bool → β) : β := Bool.rec (K false) (K true) b
noncomputable def fL {α β : Type} (l : List α) : (List α → β) → β := List.rec (fun K => K []) (fun a _ ih K => ih fun t => K (a :: t)) l
/-- one cell -/
noncomputable def fA {β : Type} (v : Value) (K : Value → β) : β := match v with
  | .bool b => fB b fun b => K (.bool b)
  | .int k i => fI i fun i => K (.int k i)
  | .pointer (some ⟨id, off, none⟩) => fN id fun id => fN off fun off => K (.pointer (some ⟨id, off, none⟩))
  | .slice (some ⟨id, off, none⟩) n c => fN id fun id => fN off fun off => fN n fun n => fN c fun c => K (.slice (some ⟨id, off, none⟩) n c)
  | v => K v
noncomputable def fAs {β : Type} (l : List Value) : (List Value → β) → β := List.rec (fun K => K []) (fun a _ ih K => fA a fun a => ih fun t => K (a :: t)) l
noncomputable def fV1 {β : Type} (v : Value) (K : Value → β) : β := match v with
  | .agg cs => fAs cs.toList fun l => K (.agg ⟨l⟩)
  | v => fA v K
noncomputable def fV1s {β : Type} (l : List Value) : (List Value → β) → β := List.rec (fun K => K []) (fun a _ ih K => fV1 a fun a => ih fun t => K (a :: t)) l
noncomputable def fV {β : Type} (v : Value) (K : Value → β) : β := match v with
  | .tuple cs => fV1s cs.toList fun l => K (.tuple ⟨l⟩)
  | v => fV1 v K

/-- What an operation does: its value, the heap, the next number; the old blocks that it looks into, and those that it writes. -/
structure Ef where
  v : Value
  h : Hp
  n : Nat
  rd : List Nat
  wr : List Nat

/-- What is known of a type: is it a struct or an array; how many cells -/
def tyAgg (P : Program) (t : TypeId) : Option Bool :=
  match P.underlying t with
  | some (.struct _) | some (.array _ _) => some true
  | some _ => some false
  | none => none
def tySize (P : Program) (t : TypeId) : Option Nat := (P.info? t).map (·.size)
def tyZero (P : Program) (t : TypeId) : Option (List Value) := ((P.info? t).bind (·.zero)).bind fun z => bif z.cells.toList.all flat1 then some z.cells.toList else none
def tyFields (P : Program) (t : TypeId) : Option (List (Nat × Nat)) :=
  match P.underlying t with
  | some (.struct fields) => fields.toList.mapM fun f => (tySize P f.type).map fun s => (f.offset, s)
  | _ => none
def tyElem (P : Program) (t : TypeId) : Option Nat :=
  match P.underlying t with
  | some (.slice e) => some e
  | _ => none
def tyArr (P : Program) (t : TypeId) : Option (Nat × Nat) :=
  match P.underlying t with
  | some (.array n e) => (tySize P e).map fun s => (n, s)
  | _ => none
def tyU8 (P : Program) (t : TypeId) : Bool := match P.underlying t with | some (.int .u8) => true | _ => false
def tyStr (P : Program) (t : TypeId) : Bool := match P.underlying t with | some .string => true | _ => false
def tyInt (P : Program) (t : TypeId) : Option IntKind := match P.underlying t with | some (.int k) => some k | _ => none
def tyMap (P : Program) (t : TypeId) : Option (Nat × Nat) := match P.underlying t with | some (.map k e) => some (k, e) | _ => none

/-- the cells of a block -/
noncomputable def rowOf (h : Hp) (id : Nat) : Option (Nat × Bool × List Value) := (h.get id).bind fun o => Sum.rec some (fun _ => none) o
noncomputable def mapOf (h : Hp) (id : Nat) : Option (Array MapEntry × Nat) := (h.get id).bind fun o => Sum.rec (fun _ => none) some o
/-- the cells of a block that may be written -/
noncomputable def rwOf (h : Hp) (id : Nat) : Option (Nat × List Value) := (rowOf h id).bind fun r => Bool.rec (some (r.1, r.2.2)) none r.2.1
/-- cells at a place of a block -/
noncomputable def cellsAt (h : Hp) (id off k : Nat) : Option (List Value) := (rowOf h id).bind fun r => ltake k (ldrop off r.2.2)
noncomputable def cellAt (h : Hp) (id off : Nat) : Option Value := (rowOf h id).bind fun r => lget r.2.2 off
/-- a value that one cell may hold -/
def cok : Value → Bool
  | .bool _ | .int _ _ | .string _ | .pointer _ | .slice .. | .map _ => true
  | _ => false

def sliceB (v : Option Value) (dflt : Nat) : Option Nat :=
  match v with
  | none => some dflt
  | some (.int _ (.ofNat i)) => some i
  | _ => none
def bytesOf : List Value → Option (List UInt8)
  | [] => some []
  | .int .u8 (.ofNat n) :: l => bif Nat.blt n 256 then (bytesOf l).map (UInt8.ofNat n :: ·) else none
  | _ => none
def bvals (s : ByteArray) : List Value := s.data.toList.map fun b => .int .u8 b.toNat
/-- the cells of an append's or a copy's source -/
noncomputable def srcOf (sz : Nat) (h : Hp) : Value → Option (Nat × List Value × List Nat)
  | .slice none 0 0 => some (0, [], [])
  | .slice (some _) 0 _ => some (0, [], [])
  | .slice (some ⟨id, off, none⟩) m _ => (cellsAt h id off (m * sz)).map fun cs => (m, cs, [id])
  | _ => none

/-- what a store to a map leaves of it -/
def mapPut (kt : TypeId) (k x : Value) (es : Array MapEntry) (clock : Nat) : Sem (Array MapEntry × Nat) := do
  Instr.checkKey false 10000 kt k
  match ← Instr.findKey kt k es.toList with
  | some (i, _) => do
    let key ← Instr.keyThatStays (((es[i]?).map (·.key)).getD k) k
    pure (es.modify i fun e => { e with key, val := x }, clock)
  | none => pure (es.push { key := k, val := x, born := clock }, clock + 1)
/-- what a look into a map finds -/
def mapGet (kt et : TypeId) (k : Value) (es : Array MapEntry) : Sem (Value × Bool) := do
  Instr.checkKey es.isEmpty 10000 kt k
  match ← Instr.findKey kt k es.toList with
  | some (_, v) => pure (v, true)
  | none => pure (← zeroValue et, false)

/-- parts in their places -/
noncomputable def fillL (place : Nat → Option (Nat × Nat)) (cells : List Value) : List (Nat × Value) → Option (List Value)
  | [] => some cells
  | (i, v) :: rest =>
    match place i with
    | none => none
    | some (off, size) => bif Nat.beq v.cells.toList.length size && v.cells.toList.all cok then (overAt off v.cells.toList cells).bind fun cs => fillL place cs rest else none

noncomputable def kindNo (k : IntKind) : Nat := IntKind.rec 0 1 2 3 4 5 6 7 k
noncomputable def asI (v : Value) : Option (IntKind × Int) := match v with
  | .int k i => some (k, i)
  | _ => none
noncomputable def isU64 (k : IntKind) : Bool := IntKind.rec false false false false false false false true k
/-- bits of numbers -/
noncomputable def ibits (P : Program) (op : BinOp) (f : Nat → Nat → Nat) (k : IntKind) (a b : Int) : Option Value :=
  Bool.rec (prun P (Op.intBits op k a b)) (Int.rec (fun m => Int.rec (fun m' => bif Nat.blt m 18446744073709551616 && Nat.blt m' 18446744073709551616 then some (.int .u64 (.ofNat (f m m'))) else none) (fun _ => none) b) (fun _ => none) a) (isU64 k)
/-- An operator on two integers of one kind. -/
noncomputable def iop (P : Program) (op : BinOp) : IntKind → Int → Int → Option Value :=
  BinOp.rec (motive := fun _ => IntKind → Int → Int → Option Value)
    (fun k a b => some (.int k (k.wrap (a + b)))) (fun k a b => some (.int k (k.wrap (a - b)))) (fun k a b => some (.int k (k.wrap (a * b))))
    (fun k a b => prun P (Op.intDiv .quo k a b)) (fun k a b => prun P (Op.intDiv .rem k a b))
    (fun k a b => ibits P .and Nat.land k a b) (fun k a b => ibits P .or Nat.lor k a b) (fun k a b => prun P (Op.intBits .xor k a b)) (fun _ _ _ => none) (fun _ _ _ => none)
    (fun k a b => prun P (Op.intBits .andNot k a b))
    (fun _ a b => some (.bool (a == b))) (fun _ a b => some (.bool (a != b))) (fun _ a b => some (.bool (a < b))) (fun _ a b => some (.bool (a ≤ b))) (fun _ a b => some (.bool (a > b))) (fun _ a b => some (.bool (a ≥ b))) op
noncomputable def isSh (op : BinOp) : Bool := BinOp.rec false false false false false false false false true true false false false false false false false op
/-- An operator on other values without addresses, and on a slice and nil. -/
noncomputable def abin2 (P : Program) (op : BinOp) (t : TypeId) (x y : Value) : Option Value :=
  match op, x, y with
  | _, .string a, .string b => prun P (Op.stringOp op a b)
  | .eql, .bool a, .bool b => (prun P (Op.equal t x y)).map .bool
  | .eql, .slice (some _) _ _, .slice none 0 0 => (tyElem P t).map fun _ => .bool false
  | .neq, .slice (some _) _ _, .slice none 0 0 => (tyElem P t).map fun _ => .bool true
  | .eql, .agg a, .agg b => if P.eqGuardType P.depth t || !(scal x && scal y) then none else (prun P (Op.equal t x y)).map .bool
  | .neq, .agg a, .agg b => if P.eqGuardType P.depth t || !(scal x && scal y) then none else (prun P (Op.equal t x y)).map fun b => .bool !b
  | .neq, .bool a, .bool b => (prun P (Op.equal t x y)).map fun b => .bool !b
  | .eql, .slice none 0 0, .slice none 0 0 => (tyElem P t).map fun _ => .bool true
  | .neq, .slice none 0 0, .slice none 0 0 => (tyElem P t).map fun _ => .bool false
  | _, _, _ => none
/-- An operator. -/
noncomputable def abin (P : Program) (op : BinOp) (t : TypeId) (x y : Value) : Option Value :=
  Option.rec (abin2 P op t x y) (fun a => Option.rec none (fun b => Bool.rec (Bool.rec none (iop P op a.1 a.2 b.2) (Nat.beq (kindNo a.1) (kindNo b.1))) (prun P (Op.shift op a.1 a.2 b.1 b.2)) (isSh op)) (asI y)) (asI x)

abbrev RE := Hp → Nat → Option Ef
noncomputable def mV (v : Value) : RE := fun h n => some ⟨v, h, n, [], []⟩
noncomputable def mVO (v : Option Value) : RE := fun h n => Option.rec none (fun v => some ⟨v, h, n, [], []⟩) v
noncomputable def mBin (P : Program) (op : BinOp) (t : TypeId) (x y : Value) : RE := fun h n => (abin P op t x y).bind fun v => bif flat1 v then mV v h n else none
def vbk (v : Value) : Bool := match v with
  | .func .. | .tuple _ | .chan _ => false
  | _ => true
noncomputable def mFunc (fn : Fn) (a b : List Value) : RE := fun h n => bif a.all vbk && b.all vbk then mV (.func fn ⟨a⟩ ⟨b⟩) h n else none
noncomputable def mPick (c x y : Value) : RE := match c with | .bool b => mV (cond b x y) | _ => fun _ _ => none
noncomputable def mExtract (x : Value) (i : Nat) : RE := match x with | .tuple vs => mVO (lget vs.toList i) | _ => fun _ _ => none
noncomputable def mLoad (P : Program) (t : TypeId) (x : Value) : RE := match x with
  | .pointer (some ⟨id, off, none⟩) => fun h n =>
    match tyAgg P t with
    | some true => ((tySize P t).bind (cellsAt h id off)).bind fun cs => some ⟨.agg ⟨cs⟩, h, n, [id], []⟩
    | some false => (cellAt h id off).bind fun v => some ⟨v, h, n, [id], []⟩
    | none => none
  | _ => fun _ _ => none
noncomputable def mStore (P : Program) (lim : Nat) (t : TypeId) (x y : Value) : RE := match x with
  | .pointer (some ⟨id, off, none⟩) => fun h n =>
    bif Nat.ble lim id && (tySize P t == some y.cells.toList.length) && y.cells.toList.all cok then
      (rwOf h id).bind fun r => (overAt off y.cells.toList r.2).bind fun cs' => some ⟨undef, h.set id (.row r.1 false cs'), n, [], [id]⟩
    else none
  | _ => fun _ _ => none
noncomputable def mNew (P : Program) (e : Nat) (cs : List Value) : RE := fun h n => bif cs.all cok && (tySize P e == some cs.length) then some ⟨.pointer (some ⟨n, 0, none⟩), h.set n (.row e false cs), n + 1, [], []⟩ else none
noncomputable def mAlloc (P : Program) (t : TypeId) : RE := fun h n => (tyZero P t).bind fun z => mNew P t z h n
noncomputable def mBuild (P : Program) (t : TypeId) (parts : List (Nat × Value)) : RE := fun h n =>
  match tyZero P t, tyFields P t, tyArr P t with
  | some z, some places, _ => (fillL (lget places) z parts).bind fun cells => mV (.agg ⟨cells⟩) h n
  | some z, none, some (_, size) => (fillL (fun i => some (i * size, size)) z parts).bind fun cells => mV (.agg ⟨cells⟩) h n
  | _, _, _ => none
noncomputable def mBuildSlice (P : Program) (t : TypeId) (len : Nat) (parts : List (Nat × Value)) : RE := fun h n =>
  (tyElem P t).bind fun e => match tySize P e, tyZero P e with
    | some size, some z =>
      bif Nat.beq z.length size && Nat.ble (len * size) 100000 && Nat.blt 0 size then
        (fillL (fun i => some (i * size, size)) (List.replicate len z).flatten parts).bind fun cells =>
          bif cells.all cok then some ⟨.slice (some ⟨n, 0, none⟩) len len, h.set n (.row e false cells), n + 1, [], []⟩ else none
      else none
    | _, _ => none
noncomputable def mMakeSlice (P : Program) (t : TypeId) (l c : Value) : RE := fun h n =>
  (tyElem P t).bind fun e => match l, c, P.info? e, tyZero P e with
    | .int _ (.ofNat k), .int _ (.ofNat k'), some i, some z =>
      bif Nat.beq k k' && Nat.ble k 100000 && Nat.ble i.bytes 100000 && Nat.beq z.length i.size && Nat.blt 0 i.size then
        some ⟨.slice (some ⟨n, 0, none⟩) k k, h.set n (.row e false (List.replicate k z).flatten), n + 1, [], []⟩ else none
    | _, _, _, _ => none
noncomputable def mSlice (P : Program) (t : TypeId) (x : Value) (lo hi : Option Value) : RE := match x with
  | .slice a len _ => fun h n => (tyElem P t).bind fun e =>
    match sliceB lo 0, sliceB hi len, tySize P e with
    | some l, some k, some size =>
      bif Nat.ble l k && Nat.ble k len && Nat.blt 0 size then
        match a with
        | none => mV (.slice none 0 0) h n
        | some ⟨id, off, none⟩ => mV (.slice (some ⟨id, off + l * size, none⟩) (k - l) (k - l)) h n
        | some ⟨id, off, some s⟩ => mV (.slice (some ⟨id, off, some s⟩) (k - l) (k - l)) h n
      else none
    | _, _, _ => none
  | .string s => fun h n => bif tyStr P t then
      match sliceB lo 0, sliceB hi s.size with
      | some l, some k => bif Nat.ble l k && Nat.ble k s.size then mV (.string (s.extract l k)) h n else none
      | _, _ => none
    else none
  | _ => fun _ _ => none
noncomputable def mFieldAddr (P : Program) (s : TypeId) (x : Value) (f : Nat) : RE := match x with
  | .pointer (some ⟨id, off, none⟩) => fun h n => ((tyFields P s).bind fun fs => lget fs f).bind fun p => bif Nat.blt 0 p.2 then mV (.pointer (some ⟨id, off + p.1, none⟩)) h n else none
  | _ => fun _ _ => none
noncomputable def mIndexAddr (P : Program) (t : TypeId) (x ix : Value) : RE := match x, ix with
  | .pointer (some ⟨id, off, none⟩), .int _ (.ofNat i) => fun h n => (tyArr P t).bind fun p => bif Nat.blt i p.1 then mV (.pointer (some ⟨id, off + i * p.2, none⟩)) h n else none
  | .slice (some ⟨id, off, none⟩) len _, .int _ (.ofNat i) => fun h n => ((tyElem P t).bind (tySize P)).bind fun size => bif Nat.blt i len then mV (.pointer (some ⟨id, off + i * size, none⟩)) h n else none
  | _, _ => fun _ _ => none
noncomputable def mIndex (P : Program) (t : TypeId) (x ix : Value) : RE := match x, ix with
  | .string s, .int _ (.ofNat i) => fun h n => bif tyStr P t then (lget s.data.toList i).bind fun b => mV (.int .u8 b.toNat) h n else none
  | .agg cs, .int _ (.ofNat i) => fun h n => (tyArr P t).bind fun p => bif Nat.beq p.2 1 && Nat.blt i p.1 then match P.underlying t with
    | some (.array _ e) => if tyAgg P e = some false then (lget cs.toList i).bind fun v => mV v h n else none
    | _ => none else none
  | _, _ => fun _ _ => none
noncomputable def mUn (P : Program) (op : UnOp) (x : Value) : RE := match op, x with
  | .not, .bool b => mV (.bool (cond b false true))
  | _, x => fun h n => bif flat1 x then (prun P (Op.unary op x)).bind fun v => bif flat1 v then mV v h n else none else none
noncomputable def mConvert (P : Program) (src dst : TypeId) (x : Value) : RE := match x with
  | .int _ i => fun h n => match P.underlying src, tyInt P dst, tyStr P dst with
    | some _, some k, _ => mVO (prun P (Conv.intToInt k i)) h n
    | some _, none, true => mVO (prun P (Conv.intToString i)) h n
    | _, _, _ => none
  | .string s => fun h n => match P.underlying src, tyElem P dst with
    | some _, some e => bif tyU8 P e && Nat.ble s.size 1000000 then some ⟨.slice (some ⟨n, 0, none⟩) s.size s.size, h.set n (.row e true (bvals s)), n + 1, [], []⟩ else none
    | _, _ => none
  | .slice (some _) 0 _ => fun h n => match (tyElem P src).map (tyU8 P), tyStr P dst with
    | some true, true => mV (.string ⟨⟨[]⟩⟩) h n
    | _, _ => none
  | .slice (some ⟨id, off, none⟩) len _ => fun h n => match (tyElem P src).map (tyU8 P), tyStr P dst with
    | some true, true => ((cellsAt h id off len).bind bytesOf).bind fun l => some ⟨.string ⟨⟨l⟩⟩, h, n, [id], []⟩
    | _, _ => none
  | .slice none 0 0 => fun h n => match (tyElem P src).map (tyU8 P), tyStr P dst with
    | some true, true => mV (.string ⟨⟨[]⟩⟩) h n
    | _, _ => none
  | _ => fun _ _ => none
noncomputable def mMakeMap : RE := fun h n => some ⟨.map (some n), h.set n (.mp #[] 0), n + 1, [], []⟩
noncomputable def mLookup (P : Program) (t : TypeId) (m k : Value) (ok : Bool) : RE := match m with
  | .map (some id) => fun h n => (mapOf h id).bind fun r => (tyMap P t).bind fun q => bif scal k then (prun P (mapGet q.1 q.2 k r.1)).bind fun v =>
      bif flat1 v.1 then some ⟨bif ok then .tuple ⟨[v.1, .bool v.2]⟩ else v.1, h, n, [id], []⟩ else none else none
  | _ => fun _ _ => none
noncomputable def mMapUpdate (P : Program) (lim : Nat) (t : TypeId) (m k x : Value) : RE := match m with
  | .map (some id) => fun h n => (mapOf h id).bind fun r => (tyMap P t).bind fun q => bif scal k && flat1 x && Nat.ble lim id then (prun P (mapPut q.1 k x r.1 r.2)).bind fun v =>
      some ⟨undef, h.set id (.mp v.1 v.2), n, [], [id]⟩ else none
  | _ => fun _ _ => none
noncomputable def mLen (P : Program) (t : TypeId) (x : Value) : RE := match x with
  | .slice _ m _ => fun h n => (tyElem P t).bind fun _ => mV (goInt m) h n
  | .string s => fun h n => bif tyStr P t then mV (goInt s.size) h n else none
  | _ => fun _ _ => none
noncomputable def mAppendTo (lim e size : Nat) (s : Value) (m : Nat) (news : List Value) (rd : List Nat) : RE := match s with
  | .slice none 0 0 => fun h n => bif Nat.beq m 0 then mV (.slice none 0 0) h n else some ⟨.slice (some ⟨n, 0, none⟩) m m, h.set n (.row e false news), n + 1, rd, []⟩
  | .slice (some ⟨id, 0, none⟩) len _ => fun h n =>
    bif Nat.ble lim id && Nat.ble len 1000000 then
      (rwOf h id).bind fun r => bif Nat.beq r.1 e then (ltake (len * size) r.2).bind fun cs =>
        some ⟨.slice (some ⟨n, 0, none⟩) (len + m) (len + m), (h.set id none).set n (.row e false (cs ++ news)), n + 1, rd, [id]⟩ else none
    else none
  | _ => fun _ _ => none
noncomputable def mAppend (P : Program) (lim : Nat) (t t2 : TypeId) (s x : Value) : RE := fun h n =>
  (tyElem P t).bind fun e => match P.info? e, tyZero P e with
    | some i, some z =>
      bif Nat.beq t2 t && Nat.blt 0 i.size && Nat.beq z.length i.size && Nat.ble i.bytes 1000 then
        (srcOf i.size h x).bind fun src => bif src.2.1.all cok && Nat.ble src.1 1000000 then mAppendTo lim e i.size s src.1 src.2.1 src.2.2 h n else none
      else none
    | _, _ => none
noncomputable def mCopy (P : Program) (lim : Nat) (t : TypeId) (d s : Value) : RE := match d with
  | .slice (some ⟨id, off, none⟩) dl _ => fun h n => ((tyElem P t).bind (tySize P)).bind fun size =>
    bif Nat.ble lim id && Nat.beq size 1 then (srcOf 1 h s).bind fun src => (rwOf h id).bind fun r =>
      (ltake (Nat.min src.1 dl) src.2.1).bind fun new => bif new.all cok then
        (overAt off new r.2).bind fun cur' => some ⟨goInt (Nat.min src.1 dl), h.set id (.row r.1 false cur'), n, src.2.2, [id]⟩ else none
    else none
  | _ => fun _ _ => none
noncomputable def mMax (b : Bool) (x y : Value) : RE := match x, y with
  | .int k a, .int _ c => mV (.int k (cond b (if c > a then c else a) (if c < a then c else a)))
  | _, _ => fun _ _ => none
noncomputable def mBuiltin (P : Program) (lim : Nat) (b : Builtin) (args : List Value) (ts : List TypeId) : RE := match b, args, ts with
  | .len, [x], [t] => mLen P t x
  | .append, [s, x], [t, t2] => mAppend P lim t t2 s x
  | .copy, [d, s], [t, _] => mCopy P lim t d s
  | .max, [x, y], _ => mMax true x y
  | .min, [x, y], _ => mMax false x y
  | _, _, _ => fun _ _ => none
abbrev CallE := Nat → FuncId → List Value → Hp → Nat → Option (Value × Hp × Nat)
/-- the numbers from n on in a value -/
def idA (n : Nat) : Value → List Nat
  | .pointer (some ⟨id, _, none⟩) | .slice (some ⟨id, _, none⟩) _ _ | .map (some id) => bif Nat.ble n id then [id] else []
  | _ => []
def idV1 (n : Nat) : Value → List Nat
  | .agg cs => cs.toList.flatMap (idA n)
  | .func _ a b => a.toList.flatMap (idA n) ++ b.toList.flatMap (idA n)
  | v => idA n v
def idV (n : Nat) : Value → List Nat
  | .tuple cs => cs.toList.flatMap (idV1 n)
  | .func _ a b => a.toList.flatMap (idV1 n) ++ b.toList.flatMap (idV1 n)
  | v => idV1 n v
/-- a number's new number: the place in a list, from n on -/
def reN (n : Nat) : List Nat → Nat → Nat
  | [], id => id
  | k :: l, id => bif Nat.beq k id then n else reN (n + 1) l id
def reA (n : Nat) (l : List Nat) : Value → Value
  | .pointer (some ⟨id, off, none⟩) => .pointer (some ⟨reN n l id, off, none⟩)
  | .slice (some ⟨id, off, none⟩) m c => .slice (some ⟨reN n l id, off, none⟩) m c
  | .map (some id) => .map (some (reN n l id))
  | v => v
def reV1 (n : Nat) (l : List Nat) : Value → Value
  | .agg cs => .agg ⟨cs.toList.map (reA n l)⟩
  | v => reA n l v
def reV (n : Nat) (l : List Nat) : Value → Value
  | .tuple cs => .tuple ⟨cs.toList.map (reV1 n l)⟩
  | v => reV1 n l v
/-- each number once -/
def once : List Nat → List Nat
  | [] => []
  | a :: l => bif (once l).contains a then once l else a :: once l
/-- a block that is there, without addresses of blocks from n on -/
def plainO (n : Nat) : AObj → Bool
  | some (.inl r) => r.2.2.all fun v => (idA n v).isEmpty
  | some (.inr _) => true
  | none => false
def noFn : Value → Bool
  | .func .. => false
  | .tuple cs => cs.toList.all fun | .func .. => false | _ => true
  | _ => true
/-- what a call that wrote no old block leaves: its result's blocks, numbered anew; all of it where they hold addresses -/
noncomputable def sweep (h : Hp) (n : Nat) (r : Value × Hp × Nat) : Value × Hp × Nat :=
  (fun l => bif noFn r.1 && l.all (fun id => Nat.blt id r.2.2 && plainO n (r.2.1.get id)) then (reV n l r.1, l.zipIdx.foldl (fun h x => h.set (n + x.2) (r.2.1.get x.1)) h, n + l.length) else r) (once (idV n r.1))
/-- a function with a body: it, its temporaries, its results -/
def goodF (P : Program) (f : FuncId) : Option (Code × Nat × List ResultVar) :=
  match P.funcs[f]? with
  | some fn => if fn.name != "runtime.NumGoroutine" then fn.body.map fun c => (c, fn.ntmps, fn.results.toList) else none
  | none => none
noncomputable def callF (P : Program) (F : CallE) (cl : Nat) (f : Value) (args : List Value) : RE := match f with
  | .func (.func g) first cap => fun h n => match first.toList with
    | [] => (goodF P g).bind fun _ => (F cl g (args ++ cap.toList) h n).bind fun r => some ⟨r.1, r.2.1, r.2.2, [], []⟩
    | _ => none
  | _ => fun _ _ => none
noncomputable def mCall (P : Program) (F : CallE) (lim cl : Nat) (c : Call) (ρ : Operand → Value) : RE :=
  Callee.rec (fun f => callF P F cl (ρ f) (c.args.toList.map ρ)) (fun _ _ _ _ => none) (fun b => mBuiltin P lim b (c.args.toList.map ρ) c.argTypes.toList) c.callee

abbrev DI := Program → CallE → Nat → Nat → (Operand → Value) → RE
/-- One operation. cl: the least number that a callee may write. -/
noncomputable def aop (o : Op) : DI :=
  Op.rec (motive := fun _ => DI)
    (fun x P F lim cl ρ => mV (ρ x))
    (fun x P F lim cl ρ => mV (ρ x))
    (fun c a b P F lim cl ρ => mPick (ρ c) (ρ a) (ρ b))
    (fun elem P F lim cl ρ => mAlloc P elem)
    (fun e v P F lim cl ρ => mNew P e (ρ v).cells.toList)
    (fun t parts P F lim cl ρ => mBuild P t (parts.toList.map fun p => (p.1, ρ p.2)))
    (fun t len parts P F lim cl ρ => mBuildSlice P t len (parts.toList.map fun p => (p.1, ρ p.2)))
    (fun _ _ _ _ _ _ _ _ _ _ _ => none)
    (fun t addr P F lim cl ρ => mLoad P t (ρ addr))
    (fun t addr val P F lim cl ρ => mStore P lim t (ρ addr) (ρ val))
    (fun _ _ _ _ _ _ _ _ => none)
    (fun _ _ _ _ _ _ _ _ => none)
    (fun _ _ _ _ _ _ _ _ => none)
    (fun op xType x y _ P F lim cl ρ => mBin P op xType (ρ x) (ρ y))
    (fun op _ x P F lim cl ρ => mUn P op (ρ x))
    (fun src dst x P F lim cl ρ => mConvert P src dst (ρ x))
    (fun _ _ _ _ _ _ _ _ _ => none)
    (fun _ _ _ _ _ _ _ _ _ => none)
    (fun fn first captured P F lim cl ρ => mFunc fn (first.toList.map ρ) (captured.toList.map ρ))
    (fun _ reserve P F lim cl ρ => Option.rec mMakeMap (fun _ _ _ => none) reserve)
    (fun _ _ _ _ _ _ _ _ _ => none)
    (fun t len cap P F lim cl ρ => mMakeSlice P t (ρ len) (ρ cap))
    (fun xType x low high max P F lim cl ρ => Option.rec (mSlice P xType (ρ x) (low.map ρ) (high.map ρ)) (fun _ _ _ => none) max)
    (fun xType x field P F lim cl ρ => mFieldAddr P xType (ρ x) field)
    (fun _ _ _ _ _ _ _ _ _ _ => none)
    (fun xType x index P F lim cl ρ => mIndexAddr P xType (ρ x) (ρ index))
    (fun xType x index P F lim cl ρ => mIndex P xType (ρ x) (ρ index))
    (fun xType x index commaOk P F lim cl ρ => mLookup P xType (ρ x) (ρ index) commaOk)
    (fun mapType map key value P F lim cl ρ => mMapUpdate P lim mapType (ρ map) (ρ key) (ρ value))
    (fun _ _ _ _ _ _ _ _ _ _ => none)
    (fun _ _ _ _ _ _ _ _ _ _ _ => none)
    (fun _ _ _ _ _ _ _ _ _ => none)
    (fun _ _ _ _ _ _ _ _ _ => none)
    (fun _ _ _ _ _ _ _ _ => none)
    (fun _ _ _ _ _ _ _ _ _ _ _ => none)
    (fun tuple index P F lim cl ρ => mExtract (ρ tuple) index)
    (fun c P F lim cl ρ => mCall P F lim cl c ρ)
    (fun _ _ _ _ _ _ _ _ => none)
    (fun _ _ _ _ _ _ _ _ => none)
    (fun _ _ _ _ _ _ _ _ => none)
    (fun _ _ _ _ _ _ _ _ _ => none)
    (fun _ _ _ _ _ _ _ _ _ _ => none)
    (fun _ _ _ _ _ _ _ _ _ => none) o
def isCall (o : Op) : Bool := match o with
  | .call c => match c.callee with
    | .value _ => true
    | _ => false
  | _ => false

/-- A state: the temporaries, the heap, the next number. -/
structure St where
  a : List Value
  h : Hp
  n : Nat

/-- what nothing is known of -/
abbrev wild : Value := .chan none
noncomputable def lev (a : List Value) : Operand → Value
  | .tmp t => (lget a t).getD undef
  | .const v => bif scal v then v else wild
  | .global _ => wild
  | .func f => .func (.func f) ⟨[]⟩ ⟨[]⟩
noncomputable def put (a : List Value) (dst : Option Tmp) (v : Value) : List Value :=
  match dst with
  | some d => lset v d a
  | none => a

/-- what an operation looks into, what it writes; is it a call; the numbers from .. to .. that it makes -/
structure Fp where
  rd : List Nat
  wr : List Nat
  cl : Bool
  n0 : Nat
  n1 : Nat
def touches (x : Fp) (b : Nat) : Bool := x.rd.contains b || x.wr.contains b
def made (x : Fp) (b : Nat) : Bool := Nat.ble x.n0 b && Nat.blt b x.n1
/-- Does nothing stand between two operations of a region that draws its order, x ahead of y? -/
def apartB (x y : Fp) : Bool :=
  x.wr.all (fun b => !(touches y b) && !y.cl) && y.wr.all (fun b => !(touches x b) && !x.cl && !(made x b)) && y.rd.all (fun b => !(made x b))
/-- an operation that touches memory that was there -/
def memOp (o : Op) : Bool := match o with
  | .load .. | .store .. | .lookup .. | .mapUpdate .. | .convert .. => true
  | .call c => match c.callee with
    | .builtin .append | .builtin .copy | .value _ => true
    | _ => false
  | _ => false
/-- What the text alone tells of a region: its edges lead back; operations that no edge orders touch no temporary in common; those of them that both touch memory. -/
def unordered (ops : Array Oper) : Option (List (Nat × Nat)) :=
  let b := Region.before ops
  let l := ops.toList.zipIdx
  let ps := l.flatMap fun y => (l.filter fun x => Nat.blt x.2 y.2 && !((b.getD y.2 0).testBit x.2)).map fun x => (x, y)
  if (l.all fun o => o.1.after.toList.all fun e => !(Region.binds .any e) || Nat.blt e.on o.2) && ps.all fun p => Oper.apart ops p.1.1 p.2.1 then
    some ((ps.filter fun p => memOp p.1.1.op && memOp p.2.1.op).map fun p => (p.1.2, p.2.2))
  else none
/-- all pairs that no edge orders are apart -/
noncomputable def pairsOk (us : List (Nat × Nat)) (fps : List Fp) : Bool :=
  us.all fun p => match lget fps p.1, lget fps p.2 with
    | some x, some y => apartB x y
    | _, _ => false
/-- is an operation ordered against every other that touches memory? -/
def solo (us : List (Nat × Nat)) (i : Nat) : Bool := us.all fun p => !(Nat.beq p.1 i) && !(Nat.beq p.2 i)
/-- a call that may have written all from lim on -/
noncomputable def wide (lim n : Nat) (x : Fp) : Fp := Bool.rec x ⟨x.rd, List.range' lim (n - lim), x.cl, x.n0, x.n1⟩ x.cl

section
variable (P : Program)
variable (F : CallE)

/-- is it to be carried out? none: that is not known -/
noncomputable def wants (ops : List Oper) (o : Oper) (a : List Value) : Option Bool :=
  match o.guard with
  | none => some true
  | some (g, want) => match (lget ops g).bind (·.dst) with
    | some t => match lget a t with
      | some (.bool b) => some (b == want)
      | some (.chan _) => none
      | _ => some false
    | none => some false

noncomputable def aopS (lim cl : Nat) (ops : List Oper) (o : Oper) (st : St) : Option (St × Fp) :=
  Option.rec none (fun b => Bool.rec (some (⟨put st.a o.dst undef, st.h, st.n⟩, ⟨[], [], false, st.n, st.n⟩))
    ((aop o.op P F lim cl (lev st.a) st.h st.n).bind fun e => Bool.rec none (fV e.v fun v => fN e.n fun n => some (⟨put st.a o.dst v, e.h, n⟩, ⟨e.rd, e.wr, isCall o.op, st.n, n⟩)) (e.wr.all (Nat.ble lim) && (memOp o.op || (e.rd.isEmpty && e.wr.isEmpty)))) b) (wants ops o st.a)
noncomputable def aops (lim cl : Nat) (ops : List Oper) (l : List Oper) : St → Option St :=
  List.rec (fun st => some st) (fun o _ ih st => (aopS P F lim cl ops o st).bind fun r => ih r.1) l
/-- the same, with what each one looks into and writes; a call that is ordered against all others may write -/
noncomputable def aopsD (lim : Nat) (us : List (Nat × Nat)) (ops : List Oper) (l : List Oper) : Nat → St → List Fp → Option (St × List Fp) :=
  List.rec (fun _ st acc => some (st, acc.reverse)) (fun o _ ih i st acc =>
    Bool.rec ((aopS P F lim st.n ops o st).bind fun r => ih (Nat.succ i) r.1 (r.2 :: acc))
      ((aopS P F lim lim ops o st).bind fun r => ih (Nat.succ i) r.1 (wide lim st.n r.2 :: acc)) (isCall o.op && solo us i)) l

/-- how a piece of code ends: 0: at its end; 1: return; id + 2: out of block id -/
abbrev Ex := Nat
noncomputable def aloop (body : St → Option (Ex × St)) (k : Nat) : St → Option (Ex × St) :=
  Nat.rec (fun _ => none) (fun _ ih st => (body st).bind fun r => bif Nat.beq r.1 0 then ih r.2 else some r) k

abbrev RC := St → Option (Ex × St)
noncomputable def cRegion (lim : Nat) (ops : Array Oper) (d : Bool) : RC := fun st =>
  Bool.rec ((aops P F lim lim ops.toList ops.toList st).bind fun r => some (0, r))
    ((unordered ops).bind fun us => (aopsD P F lim us ops.toList ops.toList 0 st []).bind fun r => bif pairsOk us r.2 then some (0, r.1) else none) d
noncomputable def cSeq (x y : RC) : RC := fun st => (x st).bind fun r => bif Nat.beq r.1 0 then y r.2 else some r
noncomputable def cCond (c : Operand) (x y : RC) : RC := fun st => match lev st.a c with
  | .bool b => Bool.rec (y st) (x st) b
  | _ => none
noncomputable def cBlock (id : Nat) (x : RC) : RC := fun st => (x st).bind fun r => bif Nat.beq r.1 (id + 2) then some (0, r.2) else some r
noncomputable def acode (k lim : Nat) (c : Code) : RC :=
  Code.rec (motive := fun _ => RC) (fun st => some (0, st)) (fun _ ops d => cRegion P F lim ops d) (fun _ _ x y => cSeq x y) (fun c _ _ x y => cCond c x y) (fun id _ x => cBlock id x)
    (fun _ x => aloop x k) (fun _ _ _ _ _ _ _ => none) (fun id st => some (id + 2, st)) (fun _ _ _ => none) (fun _ st => some (0, st)) (fun _ _ => none) (fun st => some (1, st)) (fun _ _ => none) c

noncomputable def aresult (h : Hp) (tmps : List Value) : ResultVar → Option Value
  | .tmp t => some ((lget tmps t).getD undef)
  | .cell a t => match lget tmps a with
    | some (.pointer (some ⟨id, off, none⟩)) => match tyAgg P t with
      | some true => ((tySize P t).bind (cellsAt h id off)).map fun cs => .agg ⟨cs⟩
      | some false => cellAt h id off
      | none => none
    | _ => none
noncomputable def aresults (h : Hp) (rs : List ResultVar) (tmps : List Value) : Option Value :=
  match rs.mapM (aresult P h tmps) with
  | some [v] => some v
  | some vs => bif vs.all vbk then some (.tuple ⟨vs⟩) else none
  | none => none

/-- a function whose second piece ends in a deferred call of a closure without arguments: what is ahead; that region's operations, and those but the last; the closure; the rest -/
def dform : Code → Option (Code × List Oper × List Oper × Operand × Code)
  | .seq x (.seq (.region _ ops false) y) => match ops.toList.reverse with
    | ⟨none, .defer ⟨.value f, ⟨[]⟩, _⟩, _, _, _, none⟩ :: l => some (x, ops.toList, l.reverse, f, y)
    | _ => none
  | _ => none
/-- the run of a function without deferred calls: its value, the heap, the next number -/
noncomputable def arun1 (k : Nat) (lim : Nat) (fi : Code × Nat × List ResultVar) (args : List Value) (h : Hp) (n : Nat) : Option (Value × Hp × Nat) :=
  (acode P F k lim fi.1 ⟨args ++ List.replicate (fi.2.1 - args.length) undef, h, n⟩).bind fun r =>
    bif Nat.ble r.1 1 then (aresults P r.2.h fi.2.2 r.2.a).map fun v => (v, r.2.h, r.2.n) else none
/-- a deferred call -/
noncomputable def adef (k lim : Nat) (f : Value) (h : Hp) (n : Nat) : Option (Value × Hp × Nat) := match f with
  | .func (.func g) first cap => match first.toList with
    | [] => (goodF P g).bind fun gi => arun1 P F k lim gi cap.toList h n
    | _ => none
  | _ => none
/-- the run of a function that defers a call -/
noncomputable def arunD (k : Nat) (lim : Nat) (x : Code × List Oper × List Oper × Operand × Code) (fi : Code × Nat × List ResultVar) (args : List Value) (h : Hp) (n : Nat) : Option (Value × Hp × Nat) :=
  (acode P F k lim x.1 ⟨args ++ List.replicate (fi.2.1 - args.length) undef, h, n⟩).bind fun r0 => bif Nat.beq r0.1 0 then
    (aops P F lim lim x.2.1 x.2.2.1 r0.2).bind fun s1 => (acode P F k lim x.2.2.2.2 s1).bind fun r => bif Nat.ble r.1 1 then
      (adef P F k lim (lev s1.a x.2.2.2.1) r.2.h r.2.n).bind fun d => (aresults P d.2.1 fi.2.2 r.2.a).map fun v => (v, d.2.1, d.2.2)
    else none
  else none
/-- the run of a function: its value, the heap, the next number -/
noncomputable def arun (k : Nat) (lim : Nat) (f : FuncId) (args : List Value) (h : Hp) (n : Nat) : Option (Value × Hp × Nat) :=
  (goodF P f).bind fun fi => Option.rec (arun1 P F k lim fi args h n) (fun x => arunD P F k lim x fi args h n) (dform fi.1)
/-- a call: W tells which functions may write what they are handed -/
noncomputable def afunc (W : FuncId → Bool) (k : Nat) (lim : Nat) (f : FuncId) (args : List Value) (h : Hp) (n : Nat) : Option (Value × Hp × Nat) :=
  bif W f then arun P F k lim f args h n else (arun P F k n f args h n).map (sweep h n)
end

/-- A call, within a depth. -/
noncomputable def acall (P : Program) (W : FuncId → Bool) (k : Nat) (d : Nat) : CallE :=
  Nat.rec (fun _ _ _ _ _ => none) (fun _ ih => afunc P ih W k) d
end Go.Proofs.Ytgdokjfjmcleeaa.Ce
