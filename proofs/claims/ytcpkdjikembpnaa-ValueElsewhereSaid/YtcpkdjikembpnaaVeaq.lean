/- Parts of the proof of ValueElsewhere: Ga, Mh, Gg, Gh, Gi, Mb, Nb, Gj. No condition of its own. -/
import Derived.Test.YtcpkdjikembpnaaVeah
import Derived.Test.YtcpkdjikembpnaaVeai
import Derived.Test.YtcpkdjikembpnaaVeak
import Derived.Test.YtcpkdjikembpnaaVeal
import Derived.Test.YtcpkdjikembpnaaVeam
import Derived.Test.YtcpkdjikembpnaaVean
import Derived.Test.YtcpkdjikembpnaaVeao
import Derived.Test.YtcpkdjikembpnaaVeap
set_option linter.unusedVariables false
set_option linter.unusedSimpArgs false
set_option maxRecDepth 100000
set_option maxHeartbeats 4000000
namespace Go.Proofs.Ytcpkdjikembpnaa.Ce
open Go.RowKit
inductive V where
  | mk (kd i : Int) (s : List UInt8) (l : List V) (c : Bool)
def V.kd : V → Int | .mk kd _ _ _ _ => kd
def V.i : V → Int | .mk _ i _ _ _ => i
def V.s : V → List UInt8 | .mk _ _ s _ _ => s
def V.l : V → List V | .mk _ _ _ l _ => l
def V.c : V → Bool | .mk _ _ _ _ c => c
def Bd : Nat → V → Prop
  | 0, _ => False
  | N + 1, v => v.l.length ≤ 20000 ∧ ∀ w ∈ v.l, Bd N w
theorem Bd.up : ∀ {N : Nat} {v : V}, Bd N v → ∀ {M : Nat}, N ≤ M → Bd M v
  | N + 1, v, h, M + 1, hM => ⟨h.1, fun w hw => (h.2 w hw).up (by omega)⟩
theorem V.eq_iff {v w : V} : v = w ↔ v.kd = w.kd ∧ v.i = w.i ∧ v.s = w.s ∧ v.c = w.c ∧ v.l = w.l := by
  cases v; cases w
  simp only [V.kd, V.i, V.s, V.c, V.l, V.mk.injEq]
  constructor
  · rintro ⟨a, b, c, d, e⟩; exact ⟨a, b, c, e, d⟩
  · rintro ⟨a, b, c, d, e⟩; exact ⟨a, b, c, e, d⟩
open Classical in
noncomputable def sameV (v w : V) : Bool := decide (v = w)
theorem sameV_t {v : V} : sameV v v = true := by unfold sameV; simp
theorem sameV_f {v w : V} (h : v ≠ w) : sameV v w = false := by unfold sameV; simp [h]
abbrev vcell (kd i : Int) (s : List UInt8) (A : Option Addr) (n cc : Nat) (c : Bool) : List Value := [.int .u8 kd, .int .i64 i, .string ⟨⟨s⟩⟩, .slice A n cc, .bool c]
inductive VH (h : Hp) (B : Nat) : V → List Value → Prop
  | leaf (kd i : Int) (s : List UInt8) (c : Bool) (A : Option Addr) (cc : Nat) (h0 : A = none → cc = 0) : VH h B (.mk kd i s [] c) (vcell kd i s A 0 cc c)
  | node (kd i : Int) (s : List UInt8) (c : Bool) (l : List V) (id off cc : Nat) (cs : Nat → List Value) (hl : l ≠ []) (hid : id < B) (hc : ∀ j, j < l.length → cellsAt h id (off + j * 5) 5 = some (cs j))
      (hk : ∀ j (hj : j < l.length), VH h B l[j] (cs j)) : VH h B (.mk kd i s l c) (vcell kd i s (some ⟨id, off, none⟩) l.length cc c)
theorem cellsAt_keep {h h' : Hp} {id off k : Nat} (e : h'.get id = h.get id) : cellsAt h' id off k = cellsAt h id off k := by unfold cellsAt; rw [show rowOf h' id = rowOf h id from by unfold rowOf; rw [e]]
theorem VH.keep {h h' : Hp} {B B' : Nat} {v : V} {cs : List Value} (hv : VH h B v cs) (hB : B ≤ B') (hk : ∀ b, b < B → h'.get b = h.get b) : VH h' B' v cs := by
  induction hv with
  | leaf kd i s c A cc h0 => exact .leaf kd i s c A cc h0
  | node kd i s c l id off cc cs hl hid hc _ ih => exact .node kd i s c l id off cc cs hl (by omega) (fun j hj => by rw [cellsAt_keep (hk id hid)]; exact hc j hj) ih
theorem VH.more {h : Hp} {B B' : Nat} {v : V} {cs : List Value} (hv : VH h B v cs) (hB : B ≤ B') : VH h B' v cs := hv.keep hB fun _ _ => rfl
theorem VH.set {h : Hp} {B id : Nat} {v : V} {cs : List Value} (hv : VH h B v cs) (hB : B ≤ id) (x : AObj) : VH (h.set id x) B v cs := hv.keep (Nat.le_refl _) fun b hb => Hp.get_ne _ _ (by omega)
theorem VH.inv {h : Hp} {B : Nat} {v : V} {cs : List Value} (hv : VH h B v cs) : ∃ A cc, cs = vcell v.kd v.i v.s A v.l.length cc v.c ∧ (A = none → cc = 0) ∧ (v.l ≠ [] → ∃ id off, A = some ⟨id, off, none⟩ ∧ id < B ∧ ∃ ks : Nat → List Value, (∀ j, j < v.l.length → cellsAt h id (off + j * 5) 5 = some (ks j)) ∧ ∀ j (hj : j < v.l.length), VH h B v.l[j] (ks j)) := by
  cases hv with
  | leaf kd i s c A cc h0 => exact ⟨A, cc, rfl, h0, fun h => absurd rfl h⟩
  | node kd i s c l id off cc cs hl hid hc hk => exact ⟨some ⟨id, off, none⟩, cc, rfl, (fun h => nomatch h), fun _ => ⟨id, off, rfl, hid, cs, hc, hk⟩⟩
def LH (h : Hp) (B : Nat) (A : Option Addr) (l : List V) : Prop :=
  l ≠ [] → ∃ id off, A = some ⟨id, off, none⟩ ∧ id < B ∧ ∃ ks : Nat → List Value, (∀ j, j < l.length → cellsAt h id (off + j * 5) 5 = some (ks j)) ∧ ∀ j (hj : j < l.length), VH h B l[j] (ks j)
theorem LH.keep {h h' : Hp} {B B' : Nat} {A : Option Addr} {l : List V} (hl : LH h B A l) (hB : B ≤ B') (hk : ∀ b, b < B → h'.get b = h.get b) : LH h' B' A l := fun hn => by
  obtain ⟨id, off, e, hid, ks, h1, h2⟩ := hl hn
  exact ⟨id, off, e, by omega, ks, fun j hj => by rw [cellsAt_keep (hk id hid)]; exact h1 j hj, fun j hj => (h2 j hj).keep hB hk⟩
theorem LH.more {h : Hp} {B B' : Nat} {A : Option Addr} {l : List V} (hl : LH h B A l) (hB : B ≤ B') : LH h B' A l := hl.keep hB fun _ _ => rfl
theorem LH.set {h : Hp} {B id : Nat} {A : Option Addr} {l : List V} (hl : LH h B A l) (hB : B ≤ id) (x : AObj) : LH (h.set id x) B A l := hl.keep (Nat.le_refl _) fun b hb => Hp.get_ne _ _ (by omega)
theorem VH.cut {h : Hp} {B : Nat} {v : V} {cs : List Value} (hv : VH h B v cs) : ∃ A cc, cs = vcell v.kd v.i v.s A v.l.length cc v.c ∧ (A = none → cc = 0) ∧ LH h B A v.l := hv.inv
theorem LH.at_ {h : Hp} {B : Nat} {A : Option Addr} {l : List V} (hl : LH h B A l) {q : Nat} (hq : q < l.length) : ∃ id off A1 cc, A = some ⟨id, off, none⟩ ∧ id < B ∧ cellsAt h id (off + q * 5) 5 = some (vcell l[q].kd l[q].i l[q].s A1 l[q].l.length cc l[q].c) ∧ VH h B l[q] (vcell l[q].kd l[q].i l[q].s A1 l[q].l.length cc l[q].c) := by
  obtain ⟨id, off, e, hid, ks, h1, h2⟩ := hl (fun h => by rw [h] at hq; exact absurd hq (Nat.not_lt_zero _))
  obtain ⟨A1, cc, e2, -, -⟩ := (h2 q hq).inv
  have a := h1 q hq
  have b := h2 q hq
  rw [e2] at a b
  exact ⟨id, off, A1, cc, e, hid, a, b⟩
end Go.Proofs.Ytcpkdjikembpnaa.Ce
namespace Go.Proofs.Ytcpkdjikembpnaa.Ce
open Go.RowKit
theorem sw_keep {h h' : Hp} {n n' m e : Nat} {ro : Bool} {cs : List Value} {v u : Value} {Φ : Value → Hp → Nat → Prop} (hv : idV n v = [m]) (hg : rowOf h' m = some (e, ro, cs)) (hu : u ∈ cs) (hi : idA n u ≠ []) (hk : Φ v h' n') : kSweep h n Φ v h' n' := by
  have hp : plainO n (h'.get m) = false := by
    rw [rowOf_some hg]
    show cs.all (fun v => (idA n v).isEmpty) = false
    rw [List.all_eq_false]
    exact ⟨u, hu, by simpa using hi⟩
  have e : sweep h n (v, h', n') = (v, h', n') := by
    unfold sweep
    dsimp only
    rw [hv]
    simp [once, hp]
  unfold kSweep
  rw [e]
  exact hk
variable (k d cl : Nat) (h : Hp) (n : Nat)
end Go.Proofs.Ytcpkdjikembpnaa.Ce
namespace Go.Proofs.Ytcpkdjikembpnaa.Ce
open Go.RowKit
inductive FH (h : Hp) (lo hi : Nat) : V → List Value → Prop
  | leaf (kd i : Int) (s : List UInt8) (c : Bool) : FH h lo hi (.mk kd i s [] c) (vcell kd i s none 0 0 c)
  | node (kd i : Int) (s : List UInt8) (c : Bool) (l : List V) (id : Nat) (rows : List Value) (hl : l ≠ []) (h1 : lo ≤ id) (h2 : id < hi) (hr : rowOf h id = some (32, false, rows)) (hlen : rows.length = l.length * 5)
      (hk : ∀ j (hj : j < l.length), FH h lo hi l[j] ((rows.drop (j * 5)).take 5)) : FH h lo hi (.mk kd i s l c) (vcell kd i s (some ⟨id, 0, none⟩) l.length l.length c)
def FHs (h : Hp) (lo hi : Nat) (l : List V) (O : Value) : Prop :=
  (l = [] ∧ O = .slice none 0 0) ∨ (l ≠ [] ∧ ∃ id rows, lo ≤ id ∧ id < hi ∧ O = .slice (some ⟨id, 0, none⟩) l.length l.length ∧ rowOf h id = some (32, false, rows) ∧ rows.length = l.length * 5 ∧ ∀ j (hj : j < l.length), FH h lo hi l[j] ((rows.drop (j * 5)).take 5))
section
variable {h h' : Hp} {lo hi lo' hi' : Nat} {v : V} {cs : List Value}
theorem FH.keep (hv : FH h lo hi v cs) (h1 : lo' ≤ lo) (h2 : hi ≤ hi') (hk : ∀ b, lo ≤ b → b < hi → h'.get b = h.get b) : FH h' lo' hi' v cs := by
  induction hv with
  | leaf kd i s c => exact .leaf kd i s c
  | node kd i s c l id rows hl a b hr hlen _ ih => exact .node kd i s c l id rows hl (by omega) (by omega) (by rw [show rowOf h' id = rowOf h id from by unfold rowOf; rw [hk id a b]]; exact hr) hlen ih
theorem FH.more (hv : FH h lo hi v cs) (h1 : lo' ≤ lo) (h2 : hi ≤ hi') : FH h lo' hi' v cs := hv.keep h1 h2 fun _ _ _ => rfl
theorem FH.len (hv : FH h lo hi v cs) : cs.length = 5 := by cases hv <;> rfl
theorem FH.cells (hv : FH h lo hi v cs) : ∃ A cc, cs = vcell v.kd v.i v.s A v.l.length cc v.c := by
  cases hv with
  | leaf kd i s c => exact ⟨none, 0, rfl⟩
  | node kd i s c l id rows hl a b hr hlen hk => exact ⟨_, _, rfl⟩
theorem FH.vh (hv : FH h lo hi v cs) : VH h hi v cs := by
  induction hv with
  | leaf kd i s c => exact .leaf kd i s c none 0 fun _ => rfl
  | node kd i s c l id rows hl a b hr hlen hk ih =>
    refine .node kd i s c l id 0 l.length (fun j => (rows.drop (j * 5)).take 5) hl b (fun j hj => ?_) ih
    rw [cellsAt_row hr, ldrop_eq, Nat.zero_add]
    have hlj : 5 ≤ (rows.drop (j * 5)).length := by
      rw [List.length_drop, hlen]
      have : (j + 1) * 5 ≤ l.length * 5 := Nat.mul_le_mul_right 5 hj
      omega
    exact ltake_of hlj
theorem FHs.val {l : List V} {O : Value} (hl : FHs h lo hi l O) (kd i : Int) (s : List UInt8) (c : Bool) : FH h lo hi (.mk kd i s l c) [.int .u8 kd, .int .i64 i, .string ⟨⟨s⟩⟩, O, .bool c] := by
  rcases hl with ⟨rfl, rfl⟩ | ⟨hn, id, rows, a, b, rfl, hr, hlen, hk⟩
  · exact .leaf kd i s c
  · exact .node kd i s c l id rows hn a b hr hlen hk
theorem FHs.keep {l : List V} {O : Value} (hl : FHs h lo hi l O) (h1 : lo' ≤ lo) (h2 : hi ≤ hi') (hk : ∀ b, lo ≤ b → b < hi → h'.get b = h.get b) : FHs h' lo' hi' l O := by
  rcases hl with e | ⟨hn, id, rows, a, b, e, hr, hlen, hkk⟩
  · exact .inl e
  · exact .inr ⟨hn, id, rows, by omega, by omega, e, by rw [show rowOf h' id = rowOf h id from by unfold rowOf; rw [hk id a b]]; exact hr, hlen, fun j hj => (hkk j hj).keep h1 h2 hk⟩
theorem rows_snoc {l : List V} {x : V} {rows cs : List Value} (hlen : rows.length = l.length * 5) (hk : ∀ j (hj : j < l.length), FH h lo hi l[j] ((rows.drop (j * 5)).take 5)) (hx : FH h lo hi x cs) :
    (rows ++ cs).length = (l ++ [x]).length * 5 ∧ ∀ j (hj : j < (l ++ [x]).length), FH h lo hi (l ++ [x])[j] (((rows ++ cs).drop (j * 5)).take 5) := by
  have hc := hx.len
  refine ⟨by rw [List.length_append, List.length_append, hlen, hc]; simp; omega, fun j hj => ?_⟩
  by_cases e : j < l.length
  · rw [List.getElem_append_left e]
    have hb : (j + 1) * 5 ≤ l.length * 5 := Nat.mul_le_mul_right 5 e
    have e2 : ((rows ++ cs).drop (j * 5)).take 5 = (rows.drop (j * 5)).take 5 := by
      rw [List.drop_append_of_le_length (by omega), List.take_append_of_le_length (by rw [List.length_drop]; omega)]
    rw [e2]
    exact hk j e
  · have hj2 : j = l.length := by simp at hj; omega
    subst hj2
    have e1 : (l ++ [x])[l.length]'hj = x := by simp
    rw [e1, ← hlen, List.drop_left, ← hc, List.take_length]
    exact hx
theorem FH.plain (hv : FH h lo hi v cs) (hp : ∀ u ∈ cs, idA lo u = []) (h2 : Hp) (hi2 : Nat) : FH h2 lo hi2 v cs := by
  cases hv with
  | leaf kd i s c => exact .leaf kd i s c
  | node kd i s c l id rows hl a b hr hlen hk =>
    have := hp (.slice (some ⟨id, 0, none⟩) l.length l.length) (by simp)
    have e : idA lo (.slice (some ⟨id, 0, none⟩) l.length l.length) = [id] := by
      show (bif Nat.ble lo id then [id] else []) = [id]
      rw [ble_t a]
      rfl
    rw [e] at this
    cases this
end
variable {h h' : Hp} {n n' : Nat} {Φ : Value → Hp → Nat → Prop}
theorem sw_fhs {l : List V} {O : Value} {e : Int} (hf : FHs h' n n' l O) (hn : n ≤ n') (hkeep : ∀ b, b < n → h'.get b = h.get b)
    (hk : ∀ O2 h2 n2, FHs h2 n n2 l O2 → n ≤ n2 → (∀ b, b < n → h2.get b = h.get b) → Φ (.tuple ⟨[O2, .int .i64 e]⟩) h2 n2) : kSweep h n Φ (.tuple ⟨[O, .int .i64 e]⟩) h' n' := by
  rcases hf with ⟨rfl, rfl⟩ | ⟨hl, id, rows, a, b, rfl, hr, hlen, hkk⟩
  · exact sw_flat rfl rfl (hk _ h n (.inl ⟨rfl, rfl⟩) (Nat.le_refl _) fun _ _ => rfl)
  · have hid : idV n (.tuple ⟨[.slice (some ⟨id, 0, none⟩) l.length l.length, .int .i64 e]⟩) = [id] := by
      show (bif Nat.ble n id then [id] else []) ++ _ = [id]
      rw [ble_t a]
      rfl
    by_cases hp : ∀ u ∈ rows, idA n u = []
    · refine sw_row (v' := .tuple ⟨[.slice (some ⟨n, 0, none⟩) l.length l.length, .int .i64 e]⟩) hid rfl b hr hp ?_ ?_
      · show Value.tuple ⟨[.slice (some ⟨reN n [id] id, 0, none⟩) l.length l.length, .int .i64 e]⟩ = _
        rw [reN_hit]
      · refine hk _ _ _ (.inr ⟨hl, n, rows, Nat.le_refl _, by omega, rfl, rowOf_same _ _ _ _ _, hlen, fun j hj => ?_⟩) (by omega) fun b hb => Hp.get_ne _ _ (by omega)
        exact (hkk j hj).plain (fun u hu => hp u (List.mem_of_mem_drop (List.mem_of_mem_take hu))) _ _
    · have hp2 : ∃ u ∈ rows, idA n u ≠ [] := Classical.byContradiction fun hh => hp fun u hu => Classical.byContradiction fun h2 => hh ⟨u, hu, h2⟩
      obtain ⟨u, hu, hi⟩ := hp2
      exact sw_keep hid hr hu hi (hk _ h' n' (.inr ⟨hl, id, rows, a, b, rfl, hr, hlen, hkk⟩) hn hkeep)
theorem sw_fh {x : V} {cs : List Value} {e : Int} (hf : FH h' n n' x cs) (hn : n ≤ n') (hkeep : ∀ b, b < n → h'.get b = h.get b)
    (hk : ∀ cs2 h2 n2, FH h2 n n2 x cs2 → n ≤ n2 → (∀ b, b < n → h2.get b = h.get b) → Φ (.tuple ⟨[.agg ⟨cs2⟩, .int .i64 e]⟩) h2 n2) : kSweep h n Φ (.tuple ⟨[.agg ⟨cs⟩, .int .i64 e]⟩) h' n' := by
  cases hf with
  | leaf kd i s c => exact sw_flat rfl rfl (hk _ h n (.leaf kd i s c) (Nat.le_refl _) fun _ _ => rfl)
  | node kd i s c l id rows hl a b hr hlen hkk =>
    have hid : idV n (.tuple ⟨[.agg ⟨vcell kd i s (some ⟨id, 0, none⟩) l.length l.length c⟩, .int .i64 e]⟩) = [id] := by
      show ((bif Nat.ble n id then [id] else []) ++ []) ++ _ = [id]
      rw [ble_t a]
      rfl
    by_cases hp : ∀ u ∈ rows, idA n u = []
    · refine sw_row (v' := .tuple ⟨[.agg ⟨vcell kd i s (some ⟨n, 0, none⟩) l.length l.length c⟩, .int .i64 e]⟩) hid rfl b hr hp ?_ ?_
      · show Value.tuple ⟨[.agg ⟨vcell kd i s (some ⟨reN n [id] id, 0, none⟩) l.length l.length c⟩, .int .i64 e]⟩ = _
        rw [reN_hit]
      · refine hk _ _ _ (.node kd i s c l n rows hl (Nat.le_refl _) (by omega) (rowOf_same _ _ _ _ _) hlen fun j hj => ?_) (by omega) fun b hb => Hp.get_ne _ _ (by omega)
        exact (hkk j hj).plain (fun u hu => hp u (List.mem_of_mem_drop (List.mem_of_mem_take hu))) _ _
    · have hp2 : ∃ u ∈ rows, idA n u ≠ [] := Classical.byContradiction fun hh => hp fun u hu => Classical.byContradiction fun h2 => hh ⟨u, hu, h2⟩
      obtain ⟨u, hu, hi⟩ := hp2
      exact sw_keep hid hr hu hi (hk _ h' n' (.node kd i s c l id rows hl a b hr hlen hkk) hn hkeep)
end Go.Proofs.Ytcpkdjikembpnaa.Ce
namespace Go.Proofs.Ytcpkdjikembpnaa.Ce
open Go.RowKit
def i64 (w : Int) : Int := IntKind.wrap .i64 w
def listP (g : List UInt8 → Nat → Except Int V) (bs : List UInt8) : List (Int × Int) → Except Int (List V)
  | [] => .ok []
  | p :: r => match g (bs.drop p.2.toNat) p.1.toNat with
    | .error e => .error e
    | .ok v => match listP g bs r with
      | .error e => .error e
      | .ok l => .ok (v :: l)
theorem listP_snoc (g : List UInt8 → Nat → Except Int V) (bs : List UInt8) (p : Int × Int) : ∀ (l : List (Int × Int)) (acc : List V), listP g bs l = .ok acc →
    listP g bs (l ++ [p]) = match g (bs.drop p.2.toNat) p.1.toNat with
      | .error e => .error e
      | .ok v => .ok (acc ++ [v])
  | [], acc, h => by
    unfold listP at h
    injection h with h
    subst h
    show listP g bs (p :: []) = _
    unfold listP listP
    cases g (bs.drop p.2.toNat) p.1.toNat <;> rfl
  | q :: l, acc, h => by
    unfold listP at h
    rw [List.cons_append]
    unfold listP
    cases hg : g (bs.drop q.2.toNat) q.1.toNat with
    | error e => rw [hg] at h; cases h
    | ok v =>
      rw [hg] at h
      dsimp only at h ⊢
      cases hl : listP g bs l with
      | error e => rw [hl] at h; cases h
      | ok l2 =>
        rw [hl] at h
        injection h with h
        subst h
        rw [listP_snoc g bs p l l2 hl]
        cases g (bs.drop p.2.toNat) p.1.toNat <;> rfl
theorem listP_err (g : List UInt8 → Nat → Except Int V) (bs : List UInt8) {e : Int} : ∀ (l r : List (Int × Int)), listP g bs l = .error e → listP g bs (l ++ r) = .error e
  | [], r, h => by unfold listP at h; cases h
  | q :: l, r, h => by
    unfold listP at h
    rw [List.cons_append]
    unfold listP
    cases hg : g (bs.drop q.2.toNat) q.1.toNat with
    | error e2 => rw [hg] at h; exact h
    | ok v =>
      rw [hg] at h
      dsimp only at h ⊢
      cases hl : listP g bs l with
      | error e2 => rw [hl] at h; injection h with h; subst h; rw [listP_err g bs l r hl]
      | ok l2 => rw [hl] at h; cases h
theorem listP_len (g : List UInt8 → Nat → Except Int V) (bs : List UInt8) : ∀ (l : List (Int × Int)) (acc : List V), listP g bs l = .ok acc → acc.length = l.length
  | [], acc, h => by unfold listP at h; injection h with h; subst h; rfl
  | q :: l, acc, h => by
    unfold listP at h
    cases hg : g (bs.drop q.2.toNat) q.1.toNat with
    | error e => rw [hg] at h; cases h
    | ok v =>
      rw [hg] at h
      dsimp only at h
      cases hl : listP g bs l with
      | error e => rw [hl] at h; cases h
      | ok l2 =>
        rw [hl] at h
        injection h with h
        subst h
        rw [List.length_cons, List.length_cons, listP_len g bs l l2 hl]
def asV (kd : Int) : Except Int (List V) → Except Int V
  | .ok l => .ok (.mk kd 0 [] l false)
  | .error e => .error e
def folP (g : Nat → List UInt8 → Nat → Except Int V) (T : List Tp) (L : List Rg) (x : Tp) (a : Int) (n most dp : Nat) : Except Int V :=
  match findB L a (sizT T x.el.toNat * most).toNat with
  | none => .error 16
  | some b => if n = 0 then .ok (.mk x.kd 0 [] [] false) else if dp = 0 then .ok (.mk x.kd 0 [] [] true)
    else asV x.kd (listP (g (dp - 1)) b ((List.range n).map fun (i : Nat) => (x.el, (i : Int) * sizT T x.el.toNat)))
def loadP (T : List Tp) (L : List Rg) : Nat → Nat → List UInt8 → Nat → Except Int V
  | 0, _, _, _ => .error 0
  | f + 1, dp, bs, t => match T[t]? with
    | none => .error 0
    | some x =>
      if x.kd = 1 then (if 1 < (bs.getD 0 0).toNat then .error 12 else .ok (.mk 1 (bs.getD 0 0).toNat [] [] false))
      else if x.kd = 2 then .ok (.mk 2 (i64 (wordV bs 0 8)) [] [] false)
      else if x.kd = 3 then (if (textB L (wordV bs 0 8) (wordV bs 8 8)).2 = 0 then .ok (.mk 3 0 (textB L (wordV bs 0 8) (wordV bs 8 8)).1 [] false) else .error (textB L (wordV bs 0 8) (wordV bs 8 8)).2)
      else if x.kd = 4 then (if wordV bs 0 8 = 0 then .ok (.mk 4 0 [] [] false) else folP (loadP T L f) T L x (wordV bs 0 8) 1 1 dp)
      else if x.kd = 7 then (if wordV bs 16 8 < wordV bs 8 8 ∨ 16 < wordV bs 16 8 ∨ (wordV bs 0 8 = 0 ∧ 0 < wordV bs 16 8) then .error 12
        else if wordV bs 0 8 = 0 then .ok (.mk 7 0 [] [] false) else folP (loadP T L f) T L x (wordV bs 0 8) (wordV bs 8 8).toNat (wordV bs 16 8).toNat dp)
      else asV x.kd (listP (loadP T L f dp) bs ((prtT x).zip (offsT T x)))
def LdV (r : Except Int V) (h : Hp) (n : Nat) (v : Value) (h' : Hp) (n' : Nat) : Prop := match r with
  | .error e => v = .tuple ⟨[.agg ⟨vcell 0 0 [] none 0 0 false⟩, .int .i64 e]⟩ ∧ e ≠ 0 ∧ h' = h ∧ n' = n
  | .ok x => ∃ cs, v = .tuple ⟨[.agg ⟨cs⟩, .int .i64 0]⟩ ∧ FH h' n n' x cs ∧ n ≤ n' ∧ ∀ b, b < n → h'.get b = h.get b
def LdL (r : Except Int (List V)) (h : Hp) (n : Nat) (v : Value) (h' : Hp) (n' : Nat) : Prop := match r with
  | .error e => v = .tuple ⟨[.slice none 0 0, .int .i64 e]⟩ ∧ e ≠ 0 ∧ h' = h ∧ n' = n
  | .ok l => ∃ O, v = .tuple ⟨[O, .int .i64 0]⟩ ∧ FHs h' n n' l O ∧ n ≤ n' ∧ ∀ b, b < n → h'.get b = h.get b
theorem textB_err {L : List Rg} {a w : Int} : (textB L a w).2 = 0 ∨ (textB L a w).2 = 12 ∨ (textB L a w).2 = 16 := by
  unfold textB
  repeat' split
  all_goals simp
end Go.Proofs.Ytcpkdjikembpnaa.Ce
namespace Go.Proofs.Ytcpkdjikembpnaa.Ce
open Go.RowKit
def OwnV (l : List V) (O : Value) (h : Hp) (lo n : Nat) : Prop :=
  (l = [] ∧ O = .slice none 0 0) ∨ (l ≠ [] ∧ ∃ id rows, lo ≤ id ∧ id < n ∧ O = .slice (some ⟨id, 0, none⟩) l.length l.length ∧ rowOf h id = some (32, false, rows) ∧ rows.length = l.length * 5 ∧ ∀ j (hj : j < l.length), FH h lo id l[j] ((rows.drop (j * 5)).take 5))
theorem OwnV.fhs {l : List V} {O : Value} {h : Hp} {lo n : Nat} (ho : OwnV l O h lo n) : FHs h lo n l O := by
  rcases ho with e | ⟨hn, id, rows, a, b, e, hr, hlen, hk⟩
  · exact .inl e
  · exact .inr ⟨hn, id, rows, a, b, e, hr, hlen, fun j hj => (hk j hj).more (Nat.le_refl _) (by omega)⟩
theorem zip_take {ps os : List Int} (hl : ps.length = os.length) {q : Nat} (hq : q < ps.length) : (ps.zip os).take (q + 1) = (ps.zip os).take q ++ [(ps[q], os[q]'(by omega))] := by
  have hz : q < (ps.zip os).length := by rw [List.length_zip]; omega
  rw [List.take_succ_eq_append_getElem hz, List.getElem_zip]
theorem zip_whole {ps os : List Int} (hl : ps.length = os.length) : (ps.zip os).take ps.length = ps.zip os := List.take_of_length_le (by rw [List.length_zip]; omega)
theorem zip_split {ps os : List Int} (hl : ps.length = os.length) {q : Nat} (hq : q < ps.length) : ∃ r, ps.zip os = (ps.zip os).take (q + 1) ++ r := ⟨_, (List.take_append_drop _ _).symm⟩
variable (k d cl : Nat) (h : Hp) (n : Nat)
theorem mlist_ev (hk : 30000 ≤ k) (TA : Option Addr) (tn tc : Nat) (A : Option Addr) (gn gc : Nat) (bid boff bc : Nat) (bs : List UInt8) (PA QA : Option Addr) (ps os : List Int) (pc qc pl ql : Nat) (dp : Int) (g : List UInt8 → Nat → Except Int V)
    (hB : RdH h n (some ⟨bid, boff, none⟩) (bv bs)) (hP : RdH h n PA (iv ps)) (hQ : RdH h n QA (iv os)) (hpl : pl = ps.length) (hql : ql = os.length) (hl : ps.length = os.length) (hl2 : ps.length ≤ 1000) (hbl : bs.length ≤ 1000000)
    (ho : ∀ q (hq : q < os.length), 0 ≤ os[q] ∧ os[q] ≤ bs.length)
    (ih : ∀ q (hq : q < ps.length) (hq2 : q < os.length) (cl : Nat) (h6 : Hp) (n6 : Nat) (m c : Nat), n ≤ n6 → (∀ b, b < n → h6.get b = h.get b) → m = (bs.drop os[q].toNat).length → RdH h6 n6 (some ⟨bid, boff + os[q].toNat, none⟩) (bv (bs.drop os[q].toNat)) →
      SQ k d cl 40 [.agg ⟨[.slice TA tn tc, .slice A gn gc]⟩, .slice (some ⟨bid, boff + os[q].toNat, none⟩) m c, .int .i64 ps[q], .int .i64 dp] h6 n6 (LdV (g (bs.drop os[q].toNat) ps[q].toNat) h6 n6)) :
    SQ k (d + 1) cl 69 [.agg ⟨[.slice TA tn tc, .slice A gn gc]⟩, .slice (some ⟨bid, boff, none⟩) bs.length bc, .slice PA pl pc, .slice QA ql qc, .int .i64 dp] h n (LdL (listP g bs (ps.zip os)) h n) := by
  subst hpl
  subst hql
  refine enter Try.func69 (by kernel_rfl) rfl (by kernel_rfl) rfl rfl rfl ?_
  (repeat' first | refine zcd ?_ | intro K' hK | (with_reducible refine zn hK ?_; clear hK) | fail | ((with_reducible first | apply zo1 | apply zo2 | apply o_guard rfl | apply x_cond | apply k_e1 rfl | apply k_e2 rfl | apply k_e0 rfl | apply k_e3 rfl | apply k_e4 rfl); (case he => exact ez0); (try case hok => exact ezO); all_goals try (intro hb; (try simp only [hbs, reduceCtorEq] at hb); try exact ezX)) | ((with_reducible apply o_undef rfl); (case hb => exact ez0)))
  refine x_loopV [10, 11, 12, 13, 14, 15, 16, 19, 20, 21, 22, 23, 24, 25, 26, 27, 28, 29, 30, 31, 32, 33, 34, 35, 36, 37, 38, 39, 40, 41, 42, 43, 44] [12, 19] (fun r vs h5 n5 => ∃ (q : Nat) (acc : List V) (O : Value), r = ps.length - q ∧ q ≤ ps.length ∧ vs = [O, .int .i64 q] ∧ n + 1 ≤ n5 ∧ (∀ b, b < n → h5.get b = h.get b) ∧ rowOf h5 n = some (78, false, [.slice TA tn tc, .slice A gn gc]) ∧ acc.length = q ∧ OwnV acc O h5 (n + 1) n5 ∧ listP g bs ((ps.zip os).take q) = .ok acc) ps.length rfl (by omega) ?_ ?_
  · exact ⟨0, [], .slice none 0 0, rfl, by omega, ez0, by omega, fun b hb => Hp.get_ne _ _ (by omega), ez0, rfl, .inl ⟨rfl, rfl⟩, rfl⟩
  · rintro r g1 _ h5 n5 ⟨q, acc, O, rfl, hq, rfl, hn5, hkp, r1, hal, hO, hacc⟩
    have f0 := cellsAt_row (off := 0) (k := 2) r1
    by_cases hqp : q < ps.length
    · have hqo : q < os.length := by omega
      obtain ⟨pid, poff, rfl, hpid, cp⟩ := int_at (hP.keep (Nat.le_refl _) hkp) hqp
      obtain ⟨qid, qoff, rfl, hqid, cq⟩ := int_at (hQ.keep (Nat.le_refl _) hkp) hqo
      have hoq := ho q hqo
      have hB5 := hB.keep (Nat.le_refl _) hkp
      have ihq := fun (cl : Nat) (h6 : Hp) (n6 m c : Nat) a b c2 d2 => ih q hqp hqo cl h6 n6 m c a b c2 d2
      have hsn := listP_snoc g bs (ps[q], os[q]) _ _ hacc
      rw [← zip_take hl hqp] at hsn
      obtain ⟨ty, hty⟩ : ∃ ty, ps[q] = ty := ⟨_, rfl⟩
      obtain ⟨of, hof⟩ : ∃ of, os[q] = of := ⟨_, rfl⟩
      simp only [hty, hof] at cp cq hoq ihq hsn
      obtain ⟨o, rfl⟩ := Int.eq_ofNat_of_zero_le hoq.1
      rw [Int.toNat_natCast] at hsn
      simp only [Int.toNat_natCast] at ihq
      have hsub : RdH h5 n (some ⟨bid, boff + o, none⟩) (bv (bs.drop o)) := by
        have := hB5.sub (p := o) (t := bs.length)
        rw [bv_sub, List.take_of_length_le (by rw [List.length_drop]; omega)] at this
        exact this
      have q1 := ihq n h5 n5 (bs.length - o) (bs.length - o) (by omega) hkp (by rw [List.length_drop]) (hsub.more (by omega))
      have e1 : bs.length - (o : Int).toNat = bs.length - o := by rw [Int.toNat_natCast]
      obtain ⟨res, hres⟩ : ∃ res, g (bs.drop o) ty.toNat = res := ⟨_, rfl⟩
      rw [hres] at q1 hsn
      cases res with
      | error e =>
        dsimp only at hsn
        have hall : listP g bs (ps.zip os) = .error e := by
          obtain ⟨r, hr⟩ := zip_split hl hqp
          rw [hr]
          exact listP_err g bs _ _ hsn
        rw [hall]
        have q1 : SQ k d n 40 [.agg ⟨[.slice TA tn tc, .slice A gn gc]⟩, .slice (some ⟨bid, boff + o, none⟩) (bs.length - o) (bs.length - o), .int .i64 ty, .int .i64 dp] h5 n5 fun v h' n' => v = .tuple ⟨[.agg ⟨vcell 0 0 [] none 0 0 false⟩, .int .i64 e]⟩ ∧ e ≠ 0 ∧ h5 = h' ∧ n5 = n' := q1.mono fun _ _ _ hp => ⟨hp.1, hp.2.1, hp.2.2.1.symm, hp.2.2.2.symm⟩
        (repeat' first | refine zcd ?_ | intro K' hK | (with_reducible refine zn hK ?_; clear hK) | (with_reducible refine x_drawnD (id := 5) [(0, 5)] (by kernel_rfl) fun K' hK => ?_) | ((with_reducible apply d_nil); (case hp => exact ezP); (case' hx => (refine hK _ _ _ ?_; clear hK))) | ((with_reducible apply d_pure w_none); (case hp => exact rfl); (case hc => exact rfl); (case he => exact ez5 f0 cp cq @Int.toNat_natCast e1)) | ((with_reducible apply d_eff w_none); (case hc => exact rfl); (case he => exact ez5 f0 cp cq @Int.toNat_natCast e1); (case hok => exact ezO)) | ((with_reducible apply d_guard rfl); (case hb => exact ez5 f0 cp cq @Int.toNat_natCast e1); (case' h1 => intro hb; (try simp only [hbs, reduceCtorEq] at hb); try exact ezX); (case' h2 => intro hb; (try simp only [hbs, reduceCtorEq] at hb); try exact ezX)) | ((with_reducible apply d_callS (g := 40) w_none); (case hs0 => exact rfl); (case ha => exact ez0); (case hs => (exact q1)); (case' hk => rintro _ h' n' ⟨rfl, he0, rfl, rfl⟩)) | ((with_reducible first | apply zo1 | apply zo2 | apply o_guard rfl | apply x_cond | apply k_e1 rfl | apply k_e2 rfl | apply k_e0 rfl | apply k_e3 rfl | apply k_e4 rfl); (case he => exact ez5 f0 cp cq @Int.toNat_natCast e1); (try case hok => exact ezO); all_goals try (intro hb; (try simp only [hbs, reduceCtorEq] at hb); try exact ezX)) | ((with_reducible apply o_undef rfl); (case hb => exact ez0)))
        all_goals exact sw_flat rfl rfl ⟨rfl, he0, rfl, rfl⟩
      | ok x =>
        dsimp only at hsn
        have q1 : SQ k d n 40 [.agg ⟨[.slice TA tn tc, .slice A gn gc]⟩, .slice (some ⟨bid, boff + o, none⟩) (bs.length - o) (bs.length - o), .int .i64 ty, .int .i64 dp] h5 n5 fun v h' n' => ∃ A1 cc1, v = .tuple ⟨[.agg ⟨vcell x.kd x.i x.s A1 x.l.length cc1 x.c⟩, .int .i64 0]⟩ ∧ FH h' n5 n' x (vcell x.kd x.i x.s A1 x.l.length cc1 x.c) ∧ n5 ≤ n' ∧ ∀ b, b < n5 → h'.get b = h5.get b := q1.mono fun v h' n' ⟨cs, e1, hf, a, b⟩ => by
          obtain ⟨A1, cc1, rfl⟩ := hf.cells
          exact ⟨A1, cc1, e1, hf, a, b⟩
        rcases hO with ⟨rfl, rfl⟩ | ⟨hne, id, rows, j1, j2, rfl, q4, hrl, hkk⟩
        · (repeat' first | refine zcd ?_ | intro K' hK | (with_reducible refine zn hK ?_; clear hK) | (with_reducible refine x_drawnD (id := 5) [(0, 5)] (by kernel_rfl) fun K' hK => ?_) | ((with_reducible apply d_nil); (case hp => exact ezP); (case' hx => (refine hK _ _ _ ?_; clear hK))) | ((with_reducible apply d_pure w_none); (case hp => exact rfl); (case hc => exact rfl); (case he => exact ez5 f0 cp cq @Int.toNat_natCast e1)) | ((with_reducible apply d_eff w_none); (case hc => exact rfl); (case he => exact ez5 f0 cp cq @Int.toNat_natCast e1); (case hok => exact ezO)) | ((with_reducible apply d_guard rfl); (case hb => exact ez5 f0 cp cq @Int.toNat_natCast e1); (case' h1 => intro hb; (try simp only [hbs, reduceCtorEq] at hb); try exact ezX); (case' h2 => intro hb; (try simp only [hbs, reduceCtorEq] at hb); try exact ezX)) | ((with_reducible apply d_callS (g := 40) w_none); (case hs0 => exact rfl); (case ha => exact ez0); (case hs => (exact q1)); (case' hk => rintro _ h' n' ⟨A1, cc1, rfl, hfx, hn6, hk6⟩)) | ((with_reducible apply o_ap0 (t := 30) apT30 w_none); (case hs => exact ez0); (case hy => exact ez0); (case hsrc => exact src_row (rowOf_same _ _ _ _ _) rfl); (case hc => exact rfl); (case hm => omega); (case h0 => omega)) | ((with_reducible first | apply zo1 | apply zo2 | apply o_guard rfl | apply x_cond | apply k_e1 rfl | apply k_e2 rfl | apply k_e0 rfl | apply k_e3 rfl | apply k_e4 rfl); (case he => exact ez5 f0 cp cq @Int.toNat_natCast e1); (try case hok => exact ezO); all_goals try (intro hb; (try simp only [hbs, reduceCtorEq] at hb); try exact ezX)) | ((with_reducible apply o_undef rfl); (case hb => exact ez0)))
          have hq0 : q = 0 := hal.symm
          subst hq0
          refine k_round (ps.length - 1) (by omega) ⟨1, [x], .slice (some ⟨n' + 1 + 1, 0, none⟩) 1 1, rfl, by omega, ez0, by omega, (ezC hk6 hkp), (ezV hk6 r1), rfl, .inr ⟨by simp, n' + 1 + 1, vcell x.kd x.i x.s A1 x.l.length cc1 x.c, by omega, by omega, rfl, rowOf_same _ _ _ _ _, rfl, fun j hj => ?_⟩, hsn⟩
          have hj0 : j = 0 := by simp at hj; omega
          subst hj0
          exact (hfx.keep (by omega) (by omega) fun b hb1 hb2 => by (repeat rw [Hp.get_ne _ _ (by omega)]))
        · have w4 := fun (h' : Hp) (e : h'.get id = h5.get id) => rwOf_row (show rowOf h' id = _ from by rw [rowOf_keep e]; exact q4)
          have htw : rows.take (acc.length * 5) = rows := List.take_of_length_le (by omega)
          (repeat' first | refine zcd ?_ | intro K' hK | (with_reducible refine zn hK ?_; clear hK) | (with_reducible refine x_drawnD (id := 5) [(0, 5)] (by kernel_rfl) fun K' hK => ?_) | ((with_reducible apply d_nil); (case hp => exact ezP); (case' hx => (refine hK _ _ _ ?_; clear hK))) | ((with_reducible apply d_pure w_none); (case hp => exact rfl); (case hc => exact rfl); (case he => exact ez5 f0 cp cq @Int.toNat_natCast e1)) | ((with_reducible apply d_eff w_none); (case hc => exact rfl); (case he => exact ez5 f0 cp cq @Int.toNat_natCast e1); (case hok => exact ezO)) | ((with_reducible apply d_guard rfl); (case hb => exact ez5 f0 cp cq @Int.toNat_natCast e1); (case' h1 => intro hb; (try simp only [hbs, reduceCtorEq] at hb); try exact ezX); (case' h2 => intro hb; (try simp only [hbs, reduceCtorEq] at hb); try exact ezX)) | ((with_reducible apply d_callS (g := 40) w_none); (case hs0 => exact rfl); (case ha => exact ez0); (case hs => (exact q1)); (case' hk => rintro _ h' n' ⟨A1, cc1, rfl, hfx, hn6, hk6⟩)) | ((with_reducible first | apply zo1 | apply zo2 | apply o_guard rfl | apply x_cond | apply k_e1 rfl | apply k_e2 rfl | apply k_e0 rfl | apply k_e3 rfl | apply k_e4 rfl); (case he => exact ez5 f0 cp cq @Int.toNat_natCast e1); (try case hok => exact ezO); all_goals try (intro hb; (try simp only [hbs, reduceCtorEq] at hb); try exact ezX)) | ((with_reducible apply o_undef rfl); (case hb => exact ez0)))
          have w4 := w4 h' (hk6 _ j2)
          (repeat' first | refine zcd ?_ | intro K' hK | (with_reducible refine zn hK ?_; clear hK) | ((with_reducible apply d_nil); (case hp => exact ezP); (case' hx => (refine hK _ _ _ ?_; clear hK))) | ((with_reducible apply d_pure w_none); (case hp => exact rfl); (case hc => exact rfl); (case he => exact ez0)) | ((with_reducible apply d_eff w_none); (case hc => exact rfl); (case he => exact ez0); (case hok => exact ezO)) | ((with_reducible apply d_guard rfl); (case hb => exact ez0); (case' h1 => intro hb; (try simp only [hbs, reduceCtorEq] at hb); try exact ezX); (case' h2 => intro hb; (try simp only [hbs, reduceCtorEq] at hb); try exact ezX)) | ((with_reducible apply o_apR (t := 30) apT30 w_none); (case hs => exact ez1 w4); (case hy => exact ez1 w4); (case hsrc => exact src_row (rowOf_same _ _ _ _ _) rfl); (case hr => exact ez1 w4); (case hc => exact rfl); (case hm => omega); (case hli => omega); (case hln => omega); (case hcs => rw [hrl]; omega)) | ((with_reducible first | apply zo1 | apply zo2 | apply o_guard rfl | apply x_cond | apply k_e1 rfl | apply k_e2 rfl | apply k_e0 rfl | apply k_e3 rfl | apply k_e4 rfl); (case he => exact ez1 w4); (try case hok => exact ezO); all_goals try (intro hb; (try simp only [hbs, reduceCtorEq] at hb); try exact ezX)) | ((with_reducible apply o_undef rfl); (case hb => exact ez0)))
          have hnew := fun (H : Hp) (e1 : ∀ b, n + 1 ≤ b → b < id → H.get b = h'.get b) (e2 : ∀ b, n5 ≤ b → b < n' → H.get b = h'.get b) => rows_snoc (h := H) (lo := n + 1) (hi := n' + 1 + 1) (x := x) hrl (fun j hj => (hkk j hj).keep (Nat.le_refl _) (by omega) fun b hb1 hb2 => by rw [e1 b hb1 hb2]; exact hk6 _ (by omega)) (hfx.keep (by omega) (by omega) e2)
          refine k_round (ps.length - (q + 1)) (by omega) ⟨q + 1, acc ++ [x], .slice (some ⟨n' + 1 + 1, 0, none⟩) (acc.length + 1) (acc.length + 1), rfl, by omega, ez0, by omega, (ezC hk6 hkp), (ezV hk6 r1), by rw [List.length_append, hal]; rfl, .inr ⟨by simp, n' + 1 + 1, rows ++ vcell x.kd x.i x.s A1 x.l.length cc1 x.c, by omega, by omega, by rw [List.length_append]; rfl, (ez1 htw), (hnew h' (fun _ _ _ => rfl) fun _ _ _ => rfl).1, (hnew _ ezN fun b hb1 hb2 => by (repeat rw [Hp.get_ne _ _ (by omega)])).2⟩, hsn⟩
    · obtain rfl : q = ps.length := by omega
      rw [zip_whole hl] at hacc
      rw [hacc]
      have hO2 := hO.fhs
      rcases hO with ⟨rfl, rfl⟩ | ⟨hne, id, rows, j1, j2, rfl, q4, hrl, hkk⟩
      all_goals
        (repeat' first | refine zcd ?_ | intro K' hK | (with_reducible refine zn hK ?_; clear hK) | fail | ((with_reducible first | apply zo1 | apply zo2 | apply o_guard rfl | apply x_cond | apply k_e1 rfl | apply k_e2 rfl | apply k_e0 rfl | apply k_e3 rfl | apply k_e4 rfl); (case he => exact ez0); (try case hok => exact ezO); all_goals try (intro hb; (try simp only [hbs, reduceCtorEq] at hb); try exact ezX)) | ((with_reducible apply o_undef rfl); (case hb => exact ez0)))
        exact sw_fhs (hO2.keep (by omega) (Nat.le_refl _) fun _ _ _ => rfl) (by omega) hkp fun O2 h2 n2 a b c => ⟨O2, rfl, a, b, c⟩
end Go.Proofs.Ytcpkdjikembpnaa.Ce
namespace Go.Proofs.Ytcpkdjikembpnaa.Ce
open Go.RowKit
def sz (E : Ext) : List Int := E.map (·.1)
def al (E : Ext) : List Int := E.map (·.2)
variable (k d cl : Nat) (h : Hp) (n : Nat)
end Go.Proofs.Ytcpkdjikembpnaa.Ce
namespace Go.Proofs.Ytcpkdjikembpnaa.Ce
open Go.RowKit
variable (k d cl : Nat) (h : Hp) (n : Nat)
end Go.Proofs.Ytcpkdjikembpnaa.Ce
namespace Go.Proofs.Ytcpkdjikembpnaa.Ce
open Go.RowKit
variable (k d cl : Nat) (h : Hp) (n : Nat)
end Go.Proofs.Ytcpkdjikembpnaa.Ce
namespace Go.Proofs.Ytcpkdjikembpnaa.Ce
open Go.RowKit
theorem eRow_pre (C : Int) {T : List Tp} {i : Nat} {j : Int} (h0 : 0 ≤ j) (h1 : j < i) : ∀ m, i + m ≤ T.length → (eRow C (T.take (i + m))).at_ j = (eRow C (T.take i)).at_ j
  | 0, _ => rfl
  | m + 1, hm => by
    rw [← Nat.add_assoc, eRow_take C (by omega), at_snoc_lt h0 (by rw [eRow_tlen C (by omega)]; omega)]
    exact eRow_pre C h0 h1 m (by omega)
theorem eRow_all (C : Int) {T : List Tp} {i : Nat} (hi : i ≤ T.length) {j : Int} (h0 : 0 ≤ j) (h1 : j < i) : (eRow C T).at_ j = (eRow C (T.take i)).at_ j := by
  have := eRow_pre C (T := T) h0 h1 (T.length - i) (by omega)
  rwa [show i + (T.length - i) = T.length from by omega, List.take_length] at this
theorem eOne_congr {C : Int} {E G : Ext} {m i : Nat} {t : Tp} (h : fineB m i t = true) (he : ∀ j : Int, 0 ≤ j → j < i → E.at_ j = G.at_ j) : eOne C E t = eOne C G t := by
  have hl : layR C E t.fs = layR C G t.fs := layR_congr t.fs fun f hf => by
    obtain ⟨q, hq, rfl⟩ := List.getElem_of_mem hf
    have := fine_fld h hq
    exact he _ this.1 this.2
  by_cases h6 : t.kd = 6
  · have ha := fine_arr h h6
    rw [eOne_6 h6, eOne_6 h6, he _ ha.1 ha.2.1]
  · unfold eOne
    rw [hl, if_neg h6, if_neg h6]
theorem eRow_at (C : Int) {T : List Tp} (hF : Fine T) {i : Nat} (hi : i < T.length) : (eRow C T).at_ (i : Int) = eOne C (eRow C T) T[i] := by
  have hl := eRow_tlen C (T := T) (i := i) (by omega)
  have e1 : (eRow C T).at_ (i : Int) = (eRow C (T.take (i + 1))).at_ (i : Int) := eRow_all C (by omega) (by omega) (by omega)
  have e2 : (i : Int) = ((eRow C (T.take i)).length : Int) := by omega
  rw [e1, eRow_take C hi]
  conv => lhs; arg 2; rw [e2]
  rw [at_snoc_eq]
  exact eOne_congr (hF i hi) fun j h0 h1 => (eRow_all C (by omega) h0 h1).symm
theorem lay_in {C : Int} (hC : 256 < C) {E : Ext} {fs : List (List UInt8 × Int)} (hf : FOk C E fs) : ∀ p (hp : p ≤ fs.length), (layR C E (fs.take p)).2.1 ≤ 256 → ∀ q (hq : q < p), 0 ≤ (layR C E (fs.take p)).1.getD q 0 ∧ (layR C E (fs.take p)).1.getD q 0 + (E.at_ (fs[q]'(by omega)).2).1 ≤ (layR C E (fs.take p)).2.1
  | 0, _, _, q, hq => absurd hq (by omega)
  | p + 1, hp, hs, q, hq => by
    have hfp := hf fs[p] (List.getElem_mem _)
    have hok := layR_ok (by omega) hf p (by omega)
    have hb := upI_bnd hfp.2.2 hok.1
    have hlen := layR_len C E fs p (by omega)
    have h0 := hfp.1
    rw [layR_take C E (by omega)] at hs ⊢
    unfold lStep at hs ⊢
    dsimp only at hs ⊢
    rw [List.getD_eq_getElem?_getD]
    by_cases hqp : q < p
    · obtain ⟨i1, i2⟩ := lay_in hC hf p (by omega) (by omega) q hqp
      rw [List.getD_eq_getElem?_getD] at i1 i2
      rw [List.getElem?_append_left (by omega)]
      exact ⟨i1, by omega⟩
    · obtain rfl : q = p := by omega
      rw [List.getElem?_append_right (by omega), hlen, Nat.sub_self]
      show 0 ≤ upI (layR C E (fs.take q)).2.1 (E.at_ (fs[q]).2).2 ∧ upI (layR C E (fs.take q)).2.1 (E.at_ (fs[q]).2).2 + (E.at_ (fs[q]).2).1 ≤ _
      omega
end Go.Proofs.Ytcpkdjikembpnaa.Ce
namespace Go.Proofs.Ytcpkdjikembpnaa.Ce
open Go.RowKit
end Go.Proofs.Ytcpkdjikembpnaa.Ce
namespace Go.Proofs.Ytcpkdjikembpnaa.Ce
open Go.RowKit
end Go.Proofs.Ytcpkdjikembpnaa.Ce
namespace Go.Proofs.Ytcpkdjikembpnaa.Ce
open Go.RowKit
end Go.Proofs.Ytcpkdjikembpnaa.Ce
namespace Go.Proofs.Ytcpkdjikembpnaa.Ce
open Go.RowKit
section
variable {T : List Tp} {i : Nat}
theorem OkV.eone (ho : OkV T i) : (eRow 1048576 T).at_ (i : Int) = eOne 1048576 (eRow 1048576 T) (T[i]'ho.lt) := eRow_at 1048576 ho.chk.2.1 ho.lt
theorem OkV.siz1 (ho : OkV T i) (h : (T[i]'ho.lt).kd = 1) : sizT T i = 1 := by unfold sizT; rw [ho.eone, eOne_1 h]
theorem OkV.siz24 (ho : OkV T i) (h : (T[i]'ho.lt).kd = 2 ∨ (T[i]'ho.lt).kd = 4) : sizT T i = 8 := by unfold sizT; rw [ho.eone, eOne_24 h]
theorem OkV.siz3 (ho : OkV T i) (h : (T[i]'ho.lt).kd = 3) : sizT T i = 16 := by unfold sizT; rw [ho.eone, eOne_3 h]
theorem OkV.siz7 (ho : OkV T i) (h : (T[i]'ho.lt).kd = 7) : sizT T i = 24 := by unfold sizT; rw [ho.eone, eOne_7 h]
theorem OkV.siz6 (ho : OkV T i) (h : (T[i]'ho.lt).kd = 6) : sizT T i = (T[i]'ho.lt).ln * sizT T (T[i]'ho.lt).el.toNat := by
  obtain ⟨y, hy, -, hoy⟩ := ho.elm h
  have hb := ho.bnd
  have e : sizT T i = min 1048576 ((T[i]'ho.lt).ln * sizT T (T[i]'ho.lt).el.toNat) := by
    have e0 : (((T[i]'ho.lt).el.toNat : Nat) : Int) = (T[i]'ho.lt).el := by rw [hy]; rfl
    unfold sizT
    rw [ho.eone, eOne_6 h, e0]
  rw [e] at hb ⊢
  omega
theorem OkV.siz5 (ho : OkV T i) (h : (T[i]'ho.lt).kd = 5) : (layR 1048576 (eRow 1048576 T) (T[i]'ho.lt).fs).2.1 ≤ sizT T i := by
  have hEok := eRow_ok (C := 1048576) (by omega) (by decide) ho.chk.2.1 T.length (Nat.le_refl _)
  rw [List.take_length] at hEok
  have hf : FOk 1048576 (eRow 1048576 T) (T[i]'ho.lt).fs := fun f hf => by
    obtain ⟨y, e, -, hy⟩ := ho.fld h f hf
    rw [e]
    exact sizT_ok hy.chk hy.lt
  have h2 := layR_ok (by omega) hf _ (Nat.le_refl _)
  rw [List.take_length] at h2
  have e : sizT T i = upI (layR 1048576 (eRow 1048576 T) (T[i]'ho.lt).fs).2.1 (layR 1048576 (eRow 1048576 T) (T[i]'ho.lt).fs).2.2 := by unfold sizT; rw [ho.eone, eOne_5 h]
  rw [e]
  exact (upI_bnd h2.2.2 h2.1).1
theorem prt_len (ho : OkV T i) : (prtT (T[i]'ho.lt)).length = (offsT T (T[i]'ho.lt)).length ∧ (prtT (T[i]'ho.lt)).length ≤ 16 := by
  have hfi := ho.chk.2.1 i ho.lt
  have hlen := fine_len hfi
  obtain ⟨t, ht⟩ : ∃ t, T[i]'ho.lt = t := ⟨_, rfl⟩
  rw [ht] at hfi hlen ⊢
  by_cases h5 : t.kd = 5
  · have hl := fine_ln hfi (by omega)
    rw [offsT_len h5]
    unfold prtT
    rw [hl]
    simp
    omega
  · have hn := fine_nofs hfi h5
    unfold prtT offsT
    rw [if_neg h5, hn]
    by_cases h6 : t.kd = 6
    · have := fine_arr hfi h6
      simp
      omega
    · have hl := fine_ln hfi h6
      rw [hl]
      simp
theorem prt_in (ho : OkV T i) {q : Nat} (hq : q < (prtT (T[i]'ho.lt)).length) (hq2 : q < (offsT T (T[i]'ho.lt)).length) :
    ∃ y : Nat, (prtT (T[i]'ho.lt))[q] = (y : Int) ∧ y < i ∧ OkV T y ∧ 0 ≤ (offsT T (T[i]'ho.lt))[q] ∧ (offsT T (T[i]'ho.lt))[q] + sizT T y ≤ sizT T i := by
  have hfi := ho.chk.2.1 i ho.lt
  have hfl := ho.fld
  have hel := ho.elm
  have hs5 := ho.siz5
  have hs6 := ho.siz6
  have hb := ho.bnd
  obtain ⟨t, ht⟩ : ∃ t, T[i]'ho.lt = t := ⟨_, rfl⟩
  simp only [ht] at hfi hfl hel hs5 hs6 hq hq2 ⊢
  by_cases h5 : t.kd = 5
  · have hl := fine_ln hfi (by omega)
    have hfl := hfl h5
    have hqf : q < t.fs.length := by rw [offsT_len h5] at hq2; exact hq2
    obtain ⟨y, e, hyi, hy⟩ := hfl t.fs[q] (List.getElem_mem hqf)
    have hf : FOk 1048576 (eRow 1048576 T) t.fs := fun f hf => by
      obtain ⟨y, e, -, hy⟩ := hfl f hf
      rw [e]
      exact sizT_ok hy.chk hy.lt
    have h1 := lay_in (by omega) hf t.fs.length (Nat.le_refl _) (by rw [List.take_length]; have := hs5 h5; omega) q hqf
    rw [List.take_length] at h1
    have e1 : (prtT t)[q] = (t.fs[q]).2 := by
      have e3 : prtT t = t.fs.map (·.2) := by unfold prtT; rw [hl]; simp
      rw [List.getElem_of_eq e3 hq, List.getElem_map]
    have e2 : (offsT T t)[q] = (layR 1048576 (eRow 1048576 T) t.fs).1.getD q 0 := by
      have e3 : offsT T t = (layR 1048576 (eRow 1048576 T) t.fs).1 := by unfold offsT; rw [if_pos h5]
      rw [List.getD_eq_getElem?_getD, ← e3, List.getElem?_eq_getElem hq2]
      rfl
    refine ⟨y, by rw [e1, e], hyi, hy, by rw [e2]; exact h1.1, ?_⟩
    rw [e2]
    have := hs5 h5
    have h2 := h1.2
    rw [e] at h2
    unfold sizT at *
    omega
  · have hn := fine_nofs hfi h5
    by_cases h6 : t.kd = 6
    · obtain ⟨y, e, hyi, hy⟩ := hel h6
      have ha := fine_arr hfi h6
      have hyb := hy.bnd
      have hs := hs6 h6
      have hqn : q < t.ln.toNat := by
        have : q < (offsT T t).length := hq2
        unfold offsT at this
        rw [if_neg h5, List.length_map, List.length_range] at this
        exact this
      have e1 : (prtT t)[q] = t.el := by
        unfold prtT
        simp only [hn, List.map_nil, List.nil_append, List.getElem_replicate]
      have e0 : t.el.toNat = y := by rw [e]; rfl
      have e2 : (offsT T t)[q] = (q : Int) * sizT T y := by
        unfold offsT
        simp only [if_neg h5, List.getElem_map, List.getElem_range, e0]
      rw [e0] at hs
      refine ⟨y, by rw [e1, e], hyi, hy, by rw [e2]; exact Int.mul_nonneg (by omega) hyb.1, ?_⟩
      rw [e2, hs]
      have h1 : ((q : Int) + 1) * sizT T y ≤ t.ln * sizT T y := Int.mul_le_mul_of_nonneg_right (by omega) hyb.1
      have h2 : ((q : Int) + 1) * sizT T y = (q : Int) * sizT T y + sizT T y := by rw [Int.add_mul, Int.one_mul]
      omega
    · have hl := fine_ln hfi h6
      exfalso
      have : (prtT t).length = 0 := by unfold prtT; rw [hn, hl]; rfl
      omega
theorem siz_pos : ∀ (m : Nat) {i : Nat} (ho : OkV T i), i < m → 1 ≤ sizT T i
  | 0, _, _, h => absurd h (Nat.not_lt_zero _)
  | m + 1, i, ho, h => by
    have hfi := ho.chk.2.1 i ho.lt
    have hkd := fine_kd hfi
    by_cases h56 : (T[i]'ho.lt).kd = 5 ∨ (T[i]'ho.lt).kd = 6
    · have hp : 0 < (prtT (T[i]'ho.lt)).length := by
        rcases h56 with h5 | h6
        · have := fine_some0 hfi h5
          unfold prtT
          rw [List.length_append, List.length_map]
          omega
        · have := fine_arr hfi h6
          unfold prtT
          rw [List.length_append, List.length_replicate]
          omega
      obtain ⟨y, -, hyi, hy, h0, h1⟩ := prt_in ho hp (by have := (prt_len ho).1; omega)
      have := siz_pos m hy (by omega)
      omega
    · by_cases h1 : (T[i]'ho.lt).kd = 1
      · rw [ho.siz1 h1]; omega
      · by_cases h24 : (T[i]'ho.lt).kd = 2 ∨ (T[i]'ho.lt).kd = 4
        · rw [ho.siz24 h24]; omega
        · by_cases h3 : (T[i]'ho.lt).kd = 3
          · rw [ho.siz3 h3]; omega
          · rw [ho.siz7 (by omega)]; omega
end
end Go.Proofs.Ytcpkdjikembpnaa.Ce
