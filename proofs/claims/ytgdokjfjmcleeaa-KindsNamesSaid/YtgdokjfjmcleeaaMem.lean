/- Words for memory: a slice that reads as a list of values; what stays of it. No program in sight. -/
import Derived.WalkKit
import Derived.WalkSpells
import Derived.WalkLawsBesides
import Derived.Lib.Hide
import Derived.Laws.CopyOwn
import Derived.Deep.Light
import Derived.Maps.AppendAt
import Derived.Deep.AppendLies
import Derived.Deep.RegionHeld3
import Derived.Deep.DrawnRows
import Derived.Deep.DeepCutAuto
import Derived.Deep.QuietTactic
import Derived.BigQuiet
import Derived.Laws.BitsAllLaws
namespace Go.Proofs.Ytgdokjfjmcleeaa
open Go.RowKit
set_option linter.unusedVariables false
set_option linter.unusedSimpArgs false

theorem ret_bool {a b : Bool} (h : a = b) : Ending.returned (.bool a) = .returned (.bool b) := by rw [h]
theorem ret_int {k : IntKind} {a b : Int} (h : a = b) : Ending.returned (.int k a) = .returned (.int k b) := by rw [h]

/-- The slice that begins at A reads as the values vs; it lies below block B. -/
def Rd (w : World) (B : Nat) (A : Option Addr) (vs : List Value) : Prop :=
  vs = [] ∨ ∃ b off, A = some ⟨b, off, none⟩ ∧ b < B ∧ ∀ j v, vs[j]? = some v → w.cell? ⟨b, off + j, none⟩ = some v

section
variable {w w' : World} {B B' : Nat} {A : Option Addr} {vs : List Value}
theorem Rd.nil_ : Rd w B A [] := .inl rfl
theorem Rd.keep (h : Rd w B A vs) (hk : ∀ p : Addr, p.block < B → w'.cell? p = w.cell? p) : Rd w' B A vs := by
  rcases h with h | ⟨b, off, e, hb, hc⟩
  · exact .inl h
  · exact .inr ⟨b, off, e, hb, fun j v hv => (hk _ hb).trans (hc j v hv)⟩
theorem Rd.more (h : Rd w B A vs) (hB : B ≤ B') : Rd w B' A vs := by
  rcases h with h | ⟨b, off, e, hb, hc⟩
  · exact .inl h
  · exact .inr ⟨b, off, e, by omega, hc⟩
theorem Rd.below (h : Rd w B A vs) (hb : Below B w w') : Rd w' B A vs := h.keep fun _ hp => hb.cell hp
/-- behind a call (its world's size grew) -/
theorem Rd.on (h : Rd w w.heap.size A vs) (hb : Below w.heap.size w w') : Rd w' w'.heap.size A vs := (h.below hb).more hb.size
theorem Rd.drew (h : Rd w B A vs) : Rd w.drew B A vs := h
theorem Rd.drewN (h : Rd w B A vs) (k : Nat) : Rd (w.drewN k) B A vs := h
theorem Rd.alloc (h : Rd w B A vs) (hB : B ≤ w.heap.size) (o : Obj) : Rd (w.alloc o) B A vs := h.keep fun p hp => World.cell?_alloc_lt w o p (by omega)
theorem Rd.setCell (h : Rd w B A vs) {p : Addr} (hB : B ≤ p.block) (u : Value) : Rd (w.setCell p u) B A vs :=
  h.keep fun q hq => World.cell?_setCell_other w p q u (fun e => by subst e; omega)
theorem Rd.at_ {k : Nat} {v : Value} (h : Rd w B A vs) (hk : vs[k]? = some v) : ∃ b off, A = some ⟨b, off, none⟩ ∧ b < B ∧ w.cell? ⟨b, off + k, none⟩ = some v := by
  rcases h with h | ⟨b, off, e, hb, hc⟩
  · subst h; simp at hk
  · exact ⟨b, off, e, hb, hc k v hk⟩
end

/-- bytes as values -/
def bv (l : List UInt8) : List Value := l.map fun x => .int .u8 x.toNat
theorem bv_length (l : List UInt8) : (bv l).length = l.length := by simp [bv]
theorem bv_get {l : List UInt8} {k : Nat} (h : k < l.length) : (bv l)[k]? = some (.int .u8 (l[k]).toNat) := by simp [bv, h]

/-- After a call: every old cell, every old mark reads as it did. -/
theorem bcell {W w1 : World} (hb : Below W.heap.size W w1) :
    (∀ b o, b < W.heap.size → w1.cell? ⟨b, o, none⟩ = W.cell? ⟨b, o, none⟩) ∧ (∀ b o, b < W.heap.size → w1.frozen? ⟨b, o, none⟩ = W.frozen? ⟨b, o, none⟩) :=
  ⟨fun b o h => hb.cell (p := ⟨b, o, none⟩) h, fun b o h => hb.frozen (p := ⟨b, o, none⟩) h⟩

/-- onto a row of the call's own an empty source -/
theorem run_append_empty {P : Program} (w : World) (base : Nat) (t ty e : TypeId) (i : TypeInfo) (size : Nat) (ht : P.underlying t = some (.slice e)) (hi : P.info? e = some i)
    (v : Value) (n : Nat) (xs : List Value) (hown : w.ownsRow base e size v n xs) (c : Nat) : (Builtin.append_ #[t, t] ty #[v, .slice none 0 c]).run P w = .ok v w := by
  rcases hown.2 with ⟨rfl, rfl⟩ | ⟨g, cap, cur, rfl, _, _, hnc, _⟩
  · simp [Builtin.append_, run_underlying ht, sizeOf, typeInfo, hi, Builtin.lenOf, Builtin.firstCells]
  · simp [Builtin.append_, run_underlying ht, sizeOf, typeInfo, hi, Builtin.lenOf, Builtin.firstCells, hnc, storeCells]

theorem own_form {w : World} {base e n : Nat} {v : Value} {xs : List Value} (h : w.ownsRow base e 1 v n xs) : ∃ A c, v = .slice A n c ∧ xs.length = n := by
  have hl := h.1
  rcases h.2 with ⟨rfl, rfl⟩ | ⟨g, cap, cur, rfl, _⟩
  · exact ⟨none, 0, rfl, by simpa using hl⟩
  · exact ⟨_, cap, rfl, by simpa using hl⟩

theorem heap_new {W : World} {o : Obj} {g : Nat} (h : W.heap.size = g) : (W.alloc o).heap[g]? = some o := by subst h; exact heap_alloc_new _ _
theorem own_made {W : World} {base e g : Nat} {cs : Array Value} (cap : Nat) (hh : W.heap[g]? = some (.cells cs e (0, 0))) (hb : base ≤ g) (hc : cs.size = cap) (hm : cap ≤ maxLen) :
    W.ownsRow base e 1 (.slice (some ⟨g, 0, none⟩) 0 cap) 0 [] :=
  ⟨by simp, .inr ⟨g, cap, cs, rfl, hb, hh, Nat.zero_le _, hm, by simpa using hc, by simp⟩⟩

theorem add_none (b off j : Nat) : (⟨b, off, none⟩ : Addr).add j = ⟨b, off + j, none⟩ := by
  unfold Addr.add; split <;> simp_all

/-- A row of the call's own reads as what it owns. -/
theorem rd_own {w : World} {base e n : Nat} {A : Option Addr} {c : Nat} {xs : List Value} (h : w.ownsRow base e 1 (.slice A n c) n xs) : Rd w w.heap.size A xs := by
  by_cases hx : xs = []
  · exact .inl hx
  · rcases h.2 with ⟨hv, h0⟩ | ⟨g, cap, cur, hv, hb, hg, hn, hc, hs, ht⟩
    · have hl := h.1
      subst h0; simp at hl; exact absurd hl hx
    · injection hv with hA _ hcap
      subst hA
      refine .inr ⟨g, 0, rfl, ?_, fun j v hj => ?_⟩
      · rcases Nat.lt_or_ge g w.heap.size with hlt | hge
        · exact hlt
        · rw [Array.getElem?_eq_none hge] at hg; cases hg
      · have := World.ownsRow.cells (g := g) h rfl j v hj
        rw [add_none] at this
        exact this

section
variable {P : Program} (w : World)
/-- append onto a row of the call's own, the source whatever reads as a list -/
theorem run_append_rd (base : Nat) (t ty e : TypeId) (i : TypeInfo) (z : Value) (bytes : Nat) (ht : P.underlying t = some (.slice e)) (hi : P.info? e = some i) (hz : i.zero = some z)
    (hsize : i.size = 1) (hby : i.bytes = bytes) (hzs : z.cells.size = 1)
    (v : Value) (n : Nat) (xs : List Value) (hown : w.ownsRow base e 1 v n xs)
    (B : Nat) (A : Option Addr) (m c : Nat) (news : List Value) (hl : news.length = m) (hr : Rd w B A news) (h1 : ∀ u ∈ news, u.oneCell' = true)
    (h63 : n + m ≤ maxLen) (hbytes : (n + m) * bytes ≤ 140737488355328) (hbase : base ≤ w.heap.size) :
    ∃ A' c' w', (Builtin.append_ #[t, t] ty #[v, .slice A m c]).run P w = .ok (.slice A' (n + m) c') w' ∧ w'.ownsRow base e 1 (.slice A' (n + m) c') (n + m) (xs ++ news) ∧ w.grownBy w' v.ownBlock ∧ Below base w w' ∧
      ((Value.slice A' (n + m) c').ownBlock = v.ownBlock ∨ (Value.slice A' (n + m) c').ownBlock = some w.heap.size) := by
  rcases A with _ | ad
  · have hn : news = [] := by
      rcases hr with h | ⟨b, off, h, _⟩
      · exact h
      · cases h
    subst hn
    obtain rfl : 0 = m := by simpa using hl
    obtain ⟨A', c', rfl, _⟩ := own_form hown
    exact ⟨A', c', w, run_append_empty w base t ty e i 1 ht hi _ n xs hown c, by simpa using hown, World.grownBy.refl w _, Below.refl _ _, .inl rfl⟩
  · have hcells : ∀ j u, news[j]? = some u → w.cell? (ad.add j) = some u := by
      intro j u hu
      obtain ⟨b, off, he, _, hc⟩ := hr.at_ hu
      injection he with he
      rw [he, add_none]
      exact hc
    obtain ⟨v', w', hrun, h2, h3, _, h5⟩ := run_append_own_at (P := P) w base t ty e i z 1 bytes ht hi hz hsize hby hzs (by omega) v n xs hown ad m c news (by omega) hcells h1 h63 hbytes hbase
    obtain ⟨A', c', rfl, _⟩ := own_form h2
    exact ⟨A', c', w', hrun, h2, h3, (Below.refl _ _).grown h3 hbase (fun k hk => (hown.lt k hk).1), h5⟩

theorem wp_append_rd {o : Oper} {a : Act} {K : Act → World → Prop} {Q : Exit → Act → World → Prop} (s x : Operand) (t : TypeId)
    (ho : o.op = .call { callee := .builtin .append, args := #[s, x], argTypes := #[t, t] })
    (base : Nat) (e : TypeId) (i : TypeInfo) (z : Value) (bytes : Nat) (ht : P.underlying t = some (.slice e)) (hi : P.info? e = some i) (hz : i.zero = some z)
    (hsize : i.size = 1) (hby : i.bytes = bytes) (hzs : z.cells.size = 1)
    (v : Value) (n : Nat) (xs : List Value) (hs : a.eval s = v) (hown : w.ownsRow base e 1 v n xs)
    (B : Nat) (A : Option Addr) (m c : Nat) (news : List Value) (hx : a.eval x = .slice A m c) (hl : news.length = m) (hr : Rd w B A news) (h1 : ∀ u ∈ news, u.oneCell' = true)
    (h63 : n + m ≤ maxLen) (hbytes : (n + m) * bytes ≤ 140737488355328) (hbase : base ≤ w.heap.size)
    (h : ∀ A' c' w', w'.ownsRow base e 1 (.slice A' (n + m) c') (n + m) (xs ++ news) → w.grownBy w' v.ownBlock → Below base w w' → ((Value.slice A' (n + m) c').ownBlock = v.ownBlock ∨ (Value.slice A' (n + m) c').ownBlock = some w.heap.size) → K (a.put o.dst (.slice A' (n + m) c')) w') : o.wp P a w K Q := by
  obtain ⟨A', c', w', hrun, h2, h3, hb, h4⟩ := run_append_rd (P := P) w base t o.type e i z bytes ht hi hz hsize hby hzs v n xs hown B A m c news hl hr h1 h63 hbytes hbase
  unfold Oper.wp execOp
  simp only [ho, resolve, invoke, builtin, Sem.run_bind, Sem.run_pure, Result.andThen_ok, List.map_toArray, List.map_cons, List.map_nil, hs, hx, hrun]
  exact h A' c' w' h2 h3 hb h4

theorem wpList_append_rd {ops : Array Oper} {rest : List Oper} {o : Oper} {a : Act} {Q : Exit → Act → World → Prop} (hgd : o.guard = none) (s x : Operand) (t : TypeId)
    (ho : o.op = .call { callee := .builtin .append, args := #[s, x], argTypes := #[t, t] })
    (base : Nat) (e : TypeId) (i : TypeInfo) (z : Value) (bytes : Nat) (ht : P.underlying t = some (.slice e)) (hi : P.info? e = some i) (hz : i.zero = some z)
    (hsize : i.size = 1) (hby : i.bytes = bytes) (hzs : z.cells.size = 1)
    (v : Value) (n : Nat) (xs : List Value) (hs : a.eval s = v) (hown : w.ownsRow base e 1 v n xs)
    (B : Nat) (A : Option Addr) (m c : Nat) (news : List Value) (hx : a.eval x = .slice A m c) (hl : news.length = m) (hr : Rd w B A news) (h1 : ∀ u ∈ news, u.oneCell' = true)
    (h63 : n + m ≤ maxLen) (hbytes : (n + m) * bytes ≤ 140737488355328) (hbase : base ≤ w.heap.size)
    (h : ∀ A' c' w', w'.ownsRow base e 1 (.slice A' (n + m) c') (n + m) (xs ++ news) → w.grownBy w' v.ownBlock → Below base w w' → ((Value.slice A' (n + m) c').ownBlock = v.ownBlock ∨ (Value.slice A' (n + m) c').ownBlock = some w.heap.size) → wpList P ops Q rest (a.put o.dst (.slice A' (n + m) c')) w') : wpList P ops Q (o :: rest) a w :=
  wpList_plain hgd fun _ hK => wp_append_rd w s x t ho base e i z bytes ht hi hz hsize hby hzs v n xs hs hown B A m c news hx hl hr h1 h63 hbytes hbase fun A' c' w' h2 h3 hb h4 => hK _ _ (h A' c' w' h2 h3 hb h4)

theorem step_append_rd {ops : Array Oper} {o : Oper} {a : Act} {K : Act → World → Prop} {Q : Exit → Act → World → Prop} {E : Prop} (hgd : o.guard = none) (s x : Operand) (t : TypeId)
    (ho : o.op = .call { callee := .builtin .append, args := #[s, x], argTypes := #[t, t] })
    (base : Nat) (e : TypeId) (i : TypeInfo) (z : Value) (bytes : Nat) (ht : P.underlying t = some (.slice e)) (hi : P.info? e = some i) (hz : i.zero = some z)
    (hsize : i.size = 1) (hby : i.bytes = bytes) (hzs : z.cells.size = 1)
    (v : Value) (n : Nat) (xs : List Value) (hs : a.eval s = v) (hown : w.ownsRow base e 1 v n xs)
    (B : Nat) (A : Option Addr) (m c : Nat) (news : List Value) (hx : a.eval x = .slice A m c) (hl : news.length = m) (hr : Rd w B A news) (h1 : ∀ u ∈ news, u.oneCell' = true)
    (h63 : n + m ≤ maxLen) (hbytes : (n + m) * bytes ≤ 140737488355328) (hbase : base ≤ w.heap.size)
    (h : ∀ A' c' w', w'.ownsRow base e 1 (.slice A' (n + m) c') (n + m) (xs ++ news) → w.grownBy w' v.ownBlock → Below base w w' → ((Value.slice A' (n + m) c').ownBlock = v.ownBlock ∨ (Value.slice A' (n + m) c').ownBlock = some w.heap.size) → K (a.put o.dst (.slice A' (n + m) c')) w') :
    if Region.wanted o (yielded ops a.tmps) = true then Oper.wp P o a w K Q else E := by
  have hw : Region.wanted o (yielded ops a.tmps) = true := by simp [Region.wanted, hgd]
  rw [if_pos hw]
  exact wp_append_rd w s x t ho base e i z bytes ht hi hz hsize hby hzs v n xs hs hown B A m c news hx hl hr h1 h63 hbytes hbase h
end
theorem bv_one (l : List UInt8) : ∀ u ∈ bv l, u.oneCell' = true := by
  intro u hu
  simp only [bv, List.mem_map] at hu
  obtain ⟨x, _, rfl⟩ := hu
  rfl
/-- the same below a number -/
theorem bcellB {B : Nat} {W w1 : World} (hb : Below B W w1) :
    (∀ b o, b < B → w1.cell? ⟨b, o, none⟩ = W.cell? ⟨b, o, none⟩) ∧ (∀ b o, b < B → w1.frozen? ⟨b, o, none⟩ = W.frozen? ⟨b, o, none⟩) :=
  ⟨fun b o h => hb.cell (p := ⟨b, o, none⟩) h, fun b o h => hb.frozen (p := ⟨b, o, none⟩) h⟩
theorem below_call {B : Nat} {w W w1 : World} (h : Below W.heap.size W w1) (hw : Below B w W) (hB : B ≤ W.heap.size) : Below B w w1 := hw.trans (h.mono hB)
theorem below_callB {B B1 : Nat} {w W w1 : World} (h : Below B1 W w1) (hw : Below B w W) (hB : B ≤ B1) : Below B w w1 := hw.trans (h.mono hB)
theorem below_drewN {B : Nat} {a w : World} (h : Below B a w) (n : Nat) : Below B a (w.drewN n) := ⟨h.os, h.tape, h.output, h.size, h.block⟩
theorem own_base {w : World} {base base' e n : Nat} {v : Value} {xs : List Value} (h : w.ownsRow base e 1 v n xs) (hb : base' ≤ base) : w.ownsRow base' e 1 v n xs := by
  refine ⟨h.1, ?_⟩
  rcases h.2 with h2 | ⟨g, cap, cur, hv, hg, r⟩
  · exact .inl h2
  · exact .inr ⟨g, cap, cur, hv, by omega, r⟩

/-- A slice of the call's own: nil, or its row lies in blocks from L on, below U. -/
def Ow (w : World) (L U e : Nat) (A : Option Addr) (n c : Nat) (vs : List Value) : Prop :=
  w.ownsRow L e 1 (.slice A n c) n vs ∧ ∀ k, (Value.slice A n c).ownBlock = some k → k < U

section
variable {w w' : World} {B L U e n c C : Nat} {A : Option Addr} {vs : List Value}
theorem Rd.call (hb : Below C w w') (h : Rd w B A vs) (hB : B ≤ C) : Rd w' B A vs := h.below (hb.mono hB)
theorem Ow.own (h : Ow w L U e A n c vs) : w.ownsRow L e 1 (.slice A n c) n vs := h.1
theorem Ow.nil_ : Ow w L U e none 0 0 [] := ⟨World.ownsRow_nil _ _ _ _, by simp [Value.ownBlock]⟩
theorem Ow.cap (h : Ow w L U e A n c vs) : vs.length = n ∧ n ≤ c ∧ c ≤ 9223372036854775807 := by
  refine ⟨by simpa using h.1.1, ?_⟩
  rcases h.1.2 with ⟨h2, h3⟩ | ⟨g, cap, cur, hv, hg, hh, hn, hm, _⟩
  · injection h2 with _ _ hc
    subst hc; subst h3; simp
  · injection hv with _ _ hc
    subst hc
    unfold maxLen at hm
    omega
theorem Ow.of_own (h : w.ownsRow L e 1 (.slice A n c) n vs) (hU : w.heap.size ≤ U) : Ow w L U e A n c vs := by
  refine ⟨h, fun k hk => ?_⟩
  have := (h.lt k hk).2
  omega
theorem Ow.of_own' (h : w.ownsRow L e 1 (.slice A n c) n vs) : Ow w L w.heap.size e A n c vs := Ow.of_own h (Nat.le_refl _)
theorem Ow.rd (h : Ow w L U e A n c vs) : Rd w U A vs := by
  rcases rd_own h.1 with hx | ⟨b, off, rfl, _, hc⟩
  · exact .inl hx
  · exact .inr ⟨b, off, rfl, h.2 b rfl, hc⟩
theorem Ow.keep (h : Ow w L U e A n c vs) (hk : ∀ k, L ≤ k → k < U → w'.heap[k]? = w.heap[k]?) : Ow w' L U e A n c vs := by
  obtain ⟨h, hU⟩ := h
  refine ⟨⟨h.1, ?_⟩, hU⟩
  rcases h.2 with h2 | ⟨g, cap, cur, hv, hg, hh, r⟩
  · exact .inl h2
  · refine .inr ⟨g, cap, cur, hv, hg, ?_, r⟩
    rw [hk g hg (hU g (by rw [hv]; rfl))]
    exact hh
theorem Ow.mono {L' U' : Nat} (h : Ow w L U e A n c vs) (hL : L' ≤ L) (hU : U ≤ U') : Ow w L' U' e A n c vs :=
  ⟨own_base h.1 hL, fun k h' => Nat.lt_of_lt_of_le (h.2 k h') hU⟩
theorem Ow.call (hb : Below C w w') (h : Ow w L U e A n c vs) (hU : U ≤ C) : Ow w' L U e A n c vs := h.keep fun k _ hk => hb.block k (by omega)
theorem Ow.alloc (h : Ow w L U e A n c vs) (hU : U ≤ w.heap.size) (o : Obj) : Ow (w.alloc o) L U e A n c vs := h.keep fun k _ hk => Below.heap_alloc _ _ _ (by omega)
theorem Ow.drew (h : Ow w L U e A n c vs) : Ow w.drew L U e A n c vs := h
theorem Ow.drewN (h : Ow w L U e A n c vs) (k : Nat) : Ow (w.drewN k) L U e A n c vs := h
theorem Ow.set (h : Ow w L U e A n c vs) {p : Addr} (hp : p.block < L ∨ U ≤ p.block) (u : Value) : Ow (w.setCell p u) L U e A n c vs := h.keep fun k h1 h2 => Below.heap_setCell _ _ _ _ (by omega)
end

theorem or_byte (v : Int) (x : Nat) (h0 : 0 ≤ v) (h1 : v < 72057594037927936) (hx : x < 256) : bits .or .u64 (v * 256) (x : Int) = x + 256 * v := by
  obtain ⟨n, rfl⟩ := Int.eq_ofNat_of_zero_le h0
  have hn : n < 72057594037927936 := by omega
  have h : bits .or .u64 (((n * 256 : Nat)) : Int) (x : Int) = ((n * 256 ||| x : Nat) : Int) := u64_or_nat _ _ (by omega) (by omega)
  have h2 : n * 256 ||| x = n * 256 + x := by
    have := Nat.two_pow_add_eq_or_of_lt (i := 8) (b := x) (by omega) n
    rw [show n * 256 = 2 ^ 8 * n from by omega]
    omega
  rw [show (n : Int) * 256 = ((n * 256 : Nat) : Int) from by omega, h, h2]
  omega

theorem Ow.pos {w : World} {L U e n c : Nat} {A : Option Addr} {vs : List Value} (h : Ow w L U e A n c vs) (hn : 0 < n) :
    ∃ g, A = some ⟨g, 0, none⟩ ∧ L ≤ g ∧ g < U ∧ g < w.heap.size ∧ w.ownsRow g e 1 (.slice (some ⟨g, 0, none⟩) n c) n vs := by
  obtain ⟨h, hU⟩ := h
  obtain ⟨g, cap, hv, hb, hlt⟩ := h.form hn
  injection hv with hA _ hc
  subst hA; subst hc
  refine ⟨g, rfl, hb, hU g rfl, hlt, h.1, ?_⟩
  rcases h.2 with ⟨h2, _⟩ | ⟨g', cap', cur, hv, hg, r⟩
  · cases h2
  · injection hv with hA _ hc
    injection hA with hA
    injection hA with hA
    subst hA
    exact .inr ⟨g, cap', cur, by rw [← hc], Nat.le_refl _, r⟩
theorem own_cell {w : World} {base e n c g j : Nat} {vs : List Value} {v : Value} (h : w.ownsRow base e 1 (.slice (some ⟨g, 0, none⟩) n c) n vs) (hv : vs[j]? = some v) : w.cell? ⟨g, j, none⟩ = some v := by
  have hj : j < vs.length := by
    rcases Nat.lt_or_ge j vs.length with hlt | hge
    · exact hlt
    · rw [List.getElem?_eq_none hge] at hv; cases hv
  rw [h.cellAt j (by have := h.1; omega), hv]

theorem Rd.cut {w : World} {B : Nat} {A : Option Addr} {vs : List Value} (h : Rd w B A vs) (k m : Nat) : Rd w B (A.map (fun x => x.add k)) ((vs.drop k).take m) := by
  rcases h with h | ⟨b, off, rfl, hb, hc⟩
  · subst h; exact .inl (by simp)
  · refine .inr ⟨b, off + k, by simp [add_none], hb, fun j v hj => ?_⟩
    rw [Nat.add_assoc]
    refine hc (k + j) v ?_
    rw [List.getElem?_take] at hj
    split at hj
    · rw [List.getElem?_drop] at hj; exact hj
    · cases hj
theorem bv_cut (l : List UInt8) (k m : Nat) : bv ((l.drop k).take m) = ((bv l).drop k).take m := by simp [bv, List.map_drop, List.map_take]

theorem splice_take {α : Type} (L : List α) (n off : Nat) (cs : List α) (h : off + cs.length ≤ n) (hn : n ≤ L.length) :
    (splice L off cs).take n = (L.take n).take off ++ (cs ++ (L.take n).drop (off + cs.length)) := by
  unfold splice
  apply List.ext_getElem?
  intro i
  simp only [List.getElem?_append, List.getElem?_take, List.getElem?_drop, List.length_take]
  grind

/-- copy into a row of the call's own, the source whatever reads as a list, all of it -/
theorem wpList_copy_rd {P : Program} {w : World} {ops : Array Oper} {rest : List Oper} {o : Oper} {a : Act} {Q : Exit → Act → World → Prop} (hgd : o.guard = none) (d s : Operand) (t : TypeId)
    (ho : o.op = .call { callee := .builtin .copy, args := #[d, s], argTypes := #[t, t] }) (e : TypeId) (hu : P.underlying t = some (.slice e)) (hsz : (P.info? e).map (·.size) = some 1)
    (g off n c dLen dCap sLen m sCap : Nat) (vs : List Value) (hown : w.ownsRow g e 1 (.slice (some ⟨g, 0, none⟩) n c) n vs)
    (B : Nat) (A : Option Addr) (src : List Value) (hd : a.eval d = .slice (some ⟨g, off, none⟩) dLen dCap) (hs : a.eval s = .slice A sLen sCap)
    (hl : src.length = m) (hfit : off + m ≤ n) (hmin : Nat.min sLen dLen = m) (hr : Rd w B A src) (h1 : ∀ v ∈ src, v.oneCell' = true)
    (h : ∀ w', w'.ownsRow g e 1 (.slice (some ⟨g, 0, none⟩) n c) n (vs.take off ++ (src ++ vs.drop (off + m))) → Below g w w' → wpList P ops Q rest (a.put o.dst (goInt m)) w') : wpList P ops Q (o :: rest) a w := by
  have hvl := hown.1
  rcases hown.2 with ⟨h2, _⟩ | ⟨g', cap, cur, hv, hg, hh, hn, hc, hcs, ht⟩
  · cases h2
  · injection hv with hA _ hcap
    injection hA with hA
    injection hA with hA
    subst hA; subst hcap
    have hcl : cur.toList.length = c := by simpa using hcs
    refine wpList_copy_splice hgd d s t t ho e hu hsz (some ⟨g, off, none⟩) A dLen dCap sLen sCap hd hs g off cur.toList e (by simpa using hh) src (by rw [hl, hmin]) (fun hp => ⟨rfl, ?_⟩) (by omega) h1 g w (Below.refl _ _) (Nat.le_refl _) (fun w' hw hb => ?_)
    · rcases hr with hx | ⟨b, o', rfl, _, hc⟩
      · subst hx; simp at hp
      · exact ⟨_, rfl, fun j v hj => by rw [add_none]; exact hc j v hj⟩
    · rw [hl]
      refine h w' ⟨?_, .inr ⟨g, c, (splice cur.toList off src).toArray, rfl, hg, hw.out, hn, hc, ?_, ?_⟩⟩ hb
      · simp; omega
      · rw [List.size_toArray, length_splice _ _ _ (by omega)]; omega
      · have := splice_take cur.toList n off src (by omega) (by omega)
        simp only [Nat.mul_one] at ht ⊢
        rw [this, ht, hl]

theorem Rd.take {w : World} {B : Nat} {A : Option Addr} {vs : List Value} (h : Rd w B A vs) (m : Nat) : Rd w B A (vs.take m) := by
  rcases h with h | ⟨b, off, rfl, hb, hc⟩
  · subst h; exact .inl (by simp)
  · refine .inr ⟨b, off, rfl, hb, fun j v hj => hc j v ?_⟩
    rw [List.getElem?_take] at hj
    split at hj
    · exact hj
    · cases hj
theorem below_grown_none {w w' : World} (h : w.grownBy w' none) : Below w.heap.size w w' := (Below.refl _ _).grown h (Nat.le_refl _) (by simp)
theorem own_self {w : World} {base e n c g : Nat} {vs : List Value} (h : w.ownsRow base e 1 (.slice (some ⟨g, 0, none⟩) n c) n vs) : w.ownsRow g e 1 (.slice (some ⟨g, 0, none⟩) n c) n vs := by
  refine ⟨h.1, ?_⟩
  rcases h.2 with h2 | ⟨g', cap, cur, hv, hg, r⟩
  · exact .inl h2
  · injection hv with hA _ hc
    injection hA with hA
    injection hA with hA
    subst hA; subst hc
    exact .inr ⟨g, c, cur, rfl, Nat.le_refl _, r⟩

/-- A block that is known whole. -/
def Bk (w : World) (g t : Nat) (cs : Array Value) : Prop := w.heap[g]? = some (.cells cs t (0, 0))
section
variable {w w' : World} {g t : Nat} {cs : Array Value}
theorem Bk.lt (h : Bk w g t cs) : g < w.heap.size := by
  rcases Nat.lt_or_ge g w.heap.size with hlt | hge
  · exact hlt
  · unfold Bk at h; rw [Array.getElem?_eq_none hge] at h; cases h
theorem Bk.cell (h : Bk w g t cs) (i : Nat) : w.cell? ⟨g, i, none⟩ = cs[i]? := cell_of_row w g i cs t (0, 0) h
theorem Bk.frozen (h : Bk w g t cs) (i : Nat) : w.frozen? ⟨g, i, none⟩ = false := by
  unfold Bk at h; simp [World.frozen?, h]
theorem Bk.new (w : World) (t : Nat) (cs : Array Value) : Bk (w.alloc (.cells cs t)) w.heap.size t cs := heap_alloc_new w _
theorem Bk.alloc (h : Bk w g t cs) (o : Obj) : Bk (w.alloc o) g t cs := (Below.heap_alloc w o g h.lt).trans h
theorem Bk.drew (h : Bk w g t cs) : Bk w.drew g t cs := h
theorem Bk.set_ (h : Bk w g t cs) (i : Nat) (u : Value) : Bk (w.setCell ⟨g, i, none⟩ u) g t (cs.setIfInBounds i u) := by
  unfold Bk at h ⊢; simp [World.setCell, Array.getElem?_modify, h]
theorem Bk.far (h : Bk w g t cs) {p : Addr} (hp : g ≠ p.block) (u : Value) : Bk (w.setCell p u) g t cs := (Below.heap_setCell w p u g hp).trans h
theorem Bk.below {B : Nat} (h : Bk w g t cs) (hb : Below B w w') (hg : g < B) : Bk w' g t cs := (hb.block g hg).trans h
theorem Bk.grown {row : Option Nat} (h : Bk w g t cs) (hb : w.grownBy w' row) (hg : some g ≠ row) : Bk w' g t cs := (hb.block g h.lt hg).trans h
end
theorem rd_bk {w : World} {g t : Nat} {cs : Array Value} (h : Bk w g t cs) : Rd w w.heap.size (some ⟨g, 0, none⟩) cs.toList :=
  .inr ⟨g, 0, rfl, h.lt, fun j v hv => by rw [Nat.zero_add, h.cell j]; simpa using hv⟩

theorem quiet_left {P : Program} {f : FuncId} {args : Array Value} {w : World} {n : Nat} {v : Value}
    (h : Calls P f args (w.drewN n) fun e w' => e = .returned v ∧ w.drewN n = w') : Calls P f args (w.drewN n) fun e w'' => e = .returned v ∧ ∃ m, w'' = w.drewN m :=
  h.mono fun _ _ ⟨he, hm⟩ => ⟨he, n, hm.symm⟩
end Go.Proofs.Ytgdokjfjmcleeaa
