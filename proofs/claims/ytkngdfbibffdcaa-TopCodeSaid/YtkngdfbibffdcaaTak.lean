/- Parts of the proof of TopCode: Ty, Pr, Zd. No condition of its own. -/
import Derived.Test.YtkngdfbibffdcaaProg
import Derived.Laws.StructEq
import Derived.Test.YtkngdfbibffdcaaTai
import Derived.Test.YtkngdfbibffdcaaTaj
set_option linter.unusedVariables false
set_option linter.unusedSimpArgs false
set_option maxRecDepth 100000
set_option maxHeartbeats 4000000
namespace Go.Proofs.Ytkngdfbibffdcaa.Ce
open Go.RowKit
def WW : FuncId → Bool := fun f => Nat.beq f 33 || Nat.beq f 38 || Nat.beq f 47
abbrev SQ (k d cl : Nat) (g : FuncId) (args : List Value) (h : Hp) (n : Nat) (Φ : Value → Hp → Nat → Prop) : Prop := Sp Go.Proofs.Try.prog (acall Go.Proofs.Try.prog WW k d) cl g args h n Φ
theorem al104 {h : Hp} {n : Nat} : mAlloc Go.Proofs.Try.prog 104 h n = some ⟨.pointer (some ⟨n, 0, none⟩), h.set n (.row 104 false [Value.int IntKind.i64 0, Value.int IntKind.i64 0]), n + 1, [], []⟩ := m_alloc (by kernel_rfl) rfl (by kernel_rfl)
theorem al110 {h : Hp} {n : Nat} : mAlloc Go.Proofs.Try.prog 110 h n = some ⟨.pointer (some ⟨n, 0, none⟩), h.set n (.row 110 false [Value.int IntKind.u8 0, Value.int IntKind.u8 0, Value.int IntKind.u8 0, Value.int IntKind.u8 0, Value.int IntKind.u8 0, Value.int IntKind.u8 0, Value.int IntKind.u8 0, Value.int IntKind.u8 0]), n + 1, [], []⟩ := m_alloc (by kernel_rfl) rfl (by kernel_rfl)
theorem al113 {h : Hp} {n : Nat} : mAlloc Go.Proofs.Try.prog 113 h n = some ⟨.pointer (some ⟨n, 0, none⟩), h.set n (.row 113 false [Value.int IntKind.i64 0, Value.int IntKind.i64 0]), n + 1, [], []⟩ := m_alloc (by kernel_rfl) rfl (by kernel_rfl)
theorem al120 {h : Hp} {n : Nat} : mAlloc Go.Proofs.Try.prog 120 h n = some ⟨.pointer (some ⟨n, 0, none⟩), h.set n (.row 120 false (List.replicate 64 (Value.int IntKind.u8 0))), n + 1, [], []⟩ := m_alloc (by kernel_rfl) (by kernel_rfl) (by kernel_rfl)
theorem al32 {h : Hp} {n : Nat} : mAlloc Go.Proofs.Try.prog 32 h n = some ⟨.pointer (some ⟨n, 0, none⟩), h.set n (.row 32 false [Value.int IntKind.u8 0, Value.int IntKind.i64 0, Value.int IntKind.i64 0, Value.slice none 0 0]), n + 1, [], []⟩ := m_alloc (by kernel_rfl) rfl (by kernel_rfl)
theorem al34 {h : Hp} {n : Nat} : mAlloc Go.Proofs.Try.prog 34 h n = some ⟨.pointer (some ⟨n, 0, none⟩), h.set n (.row 34 false [Value.string { data := { toList := [] } }, Value.int IntKind.i64 0]), n + 1, [], []⟩ := m_alloc (by kernel_rfl) rfl (by kernel_rfl)
theorem al39 {h : Hp} {n : Nat} : mAlloc Go.Proofs.Try.prog 39 h n = some ⟨.pointer (some ⟨n, 0, none⟩), h.set n (.row 39 false [Value.slice none 0 0]), n + 1, [], []⟩ := m_alloc (by kernel_rfl) rfl (by kernel_rfl)
theorem al46 {h : Hp} {n : Nat} : mAlloc Go.Proofs.Try.prog 46 h n = some ⟨.pointer (some ⟨n, 0, none⟩), h.set n (.row 46 false (List.replicate 256 (Value.int IntKind.u32 0))), n + 1, [], []⟩ := m_alloc (by kernel_rfl) (by kernel_rfl) (by kernel_rfl)
theorem al60 {h : Hp} {n : Nat} : mAlloc Go.Proofs.Try.prog 60 h n = some ⟨.pointer (some ⟨n, 0, none⟩), h.set n (.row 60 false [Value.slice none 0 0, Value.int IntKind.i64 0]), n + 1, [], []⟩ := m_alloc (by kernel_rfl) rfl (by kernel_rfl)
theorem al77 {h : Hp} {n : Nat} : mAlloc Go.Proofs.Try.prog 77 h n = some ⟨.pointer (some ⟨n, 0, none⟩), h.set n (.row 77 false [Value.int IntKind.i64 0, Value.int IntKind.i64 0]), n + 1, [], []⟩ := m_alloc (by kernel_rfl) rfl (by kernel_rfl)
theorem apT114 : ApT Go.Proofs.Try.prog 114 113 2 := apT_of (z := [Value.int IntKind.i64 0, Value.int IntKind.i64 0]) (by kernel_rfl) (by kernel_rfl) (by kernel_rfl) rfl rfl (by kernel_rfl)
theorem apT22 : ApT Go.Proofs.Try.prog 22 9 1 := apT_of (z := [Value.string { data := { toList := [] } }]) (by kernel_rfl) (by kernel_rfl) (by kernel_rfl) rfl rfl (by kernel_rfl)
theorem apT36 : ApT Go.Proofs.Try.prog 36 3 1 := apT_of (z := [Value.int IntKind.i64 0]) (by kernel_rfl) (by kernel_rfl) (by kernel_rfl) rfl rfl (by kernel_rfl)
theorem apT39 : ApT Go.Proofs.Try.prog 39 5 1 := apT_of (z := [Value.int IntKind.u8 0]) (by kernel_rfl) (by kernel_rfl) (by kernel_rfl) rfl rfl (by kernel_rfl)
theorem apT53 : ApT Go.Proofs.Try.prog 53 39 1 := apT_of (z := [Value.slice none 0 0]) (by kernel_rfl) (by kernel_rfl) (by kernel_rfl) rfl rfl (by kernel_rfl)
theorem apT69 : ApT Go.Proofs.Try.prog 69 77 2 := apT_of (z := [Value.int IntKind.i64 0, Value.int IntKind.i64 0]) (by kernel_rfl) (by kernel_rfl) (by kernel_rfl) rfl rfl (by kernel_rfl)
theorem bx32 {h : Hp} {n : Nat} {cs : List Value} : mNew Go.Proofs.Try.prog 32 cs h n = bif (cs.length == 4) && cs.all cok then some ⟨.pointer (some ⟨n, 0, none⟩), h.set n (.row 32 false cs), n + 1, [], []⟩ else none := m_newq (by kernel_rfl)
theorem bx34 {h : Hp} {n : Nat} {cs : List Value} : mNew Go.Proofs.Try.prog 34 cs h n = bif (cs.length == 2) && cs.all cok then some ⟨.pointer (some ⟨n, 0, none⟩), h.set n (.row 34 false cs), n + 1, [], []⟩ else none := m_newq (by kernel_rfl)
theorem bx46 {h : Hp} {n : Nat} {cs : List Value} : mNew Go.Proofs.Try.prog 46 cs h n = bif (cs.length == 256) && cs.all cok then some ⟨.pointer (some ⟨n, 0, none⟩), h.set n (.row 46 false cs), n + 1, [], []⟩ else none := m_newq (by kernel_rfl)
theorem bx60 {h : Hp} {n : Nat} {cs : List Value} : mNew Go.Proofs.Try.prog 60 cs h n = bif (cs.length == 2) && cs.all cok then some ⟨.pointer (some ⟨n, 0, none⟩), h.set n (.row 60 false cs), n + 1, [], []⟩ else none := m_newq (by kernel_rfl)
theorem bu104 {h : Hp} {n : Nat} (parts : List (Nat × Value)) : mBuild Go.Proofs.Try.prog 104 parts h n = (fillL (lget [(0, 1), (1, 1)]) [Value.int IntKind.i64 0, Value.int IntKind.i64 0] parts).bind fun cells => mV (.agg ⟨cells⟩) h n := m_build (by kernel_rfl) (by kernel_rfl) parts
theorem bu113 {h : Hp} {n : Nat} (parts : List (Nat × Value)) : mBuild Go.Proofs.Try.prog 113 parts h n = (fillL (fun i => some (i * 1, 1)) [Value.int IntKind.i64 0, Value.int IntKind.i64 0] parts).bind fun cells => mV (.agg ⟨cells⟩) h n := m_buildArr (len := 2) (by kernel_rfl) (by kernel_rfl) (by kernel_rfl) parts
theorem bu60 {h : Hp} {n : Nat} (parts : List (Nat × Value)) : mBuild Go.Proofs.Try.prog 60 parts h n = (fillL (lget [(0, 1), (1, 1)]) [Value.slice none 0 0, Value.int IntKind.i64 0] parts).bind fun cells => mV (.agg ⟨cells⟩) h n := m_build (by kernel_rfl) (by kernel_rfl) parts
theorem bu77 {h : Hp} {n : Nat} (parts : List (Nat × Value)) : mBuild Go.Proofs.Try.prog 77 parts h n = (fillL (lget [(0, 1), (1, 1)]) [Value.int IntKind.i64 0, Value.int IntKind.i64 0] parts).bind fun cells => mV (.agg ⟨cells⟩) h n := m_build (by kernel_rfl) (by kernel_rfl) parts
theorem bs114_1 {h : Hp} {n : Nat} (parts : List (Nat × Value)) : mBuildSlice Go.Proofs.Try.prog 114 1 parts h n = (fillL (fun i => some (i * 2, 2)) [Value.int IntKind.i64 0, Value.int IntKind.i64 0] parts).bind fun cells => bif cells.all cok then some ⟨.slice (some ⟨n, 0, none⟩) 1 1, h.set n (.row 113 false cells), n + 1, [], []⟩ else none := m_bs (e := 113) (z := [Value.int IntKind.i64 0, Value.int IntKind.i64 0]) (by kernel_rfl) (by kernel_rfl) (by kernel_rfl) rfl rfl (u := false) (by kernel_rfl) 1 rfl parts
theorem bs129_2 {h : Hp} {n : Nat} (parts : List (Nat × Value)) : mBuildSlice Go.Proofs.Try.prog 129 2 parts h n = (fillL (fun i => some (i * 1, 1)) [Value.int IntKind.i64 0, Value.int IntKind.i64 0] parts).bind fun cells => bif cells.all cok then some ⟨.slice (some ⟨n, 0, none⟩) 2 2, h.set n (.row 43 false cells), n + 1, [], []⟩ else none := m_bs (e := 43) (z := [Value.int IntKind.i64 0]) (by kernel_rfl) (by kernel_rfl) (by kernel_rfl) rfl rfl (u := false) (by kernel_rfl) 2 rfl parts
theorem bs22_1 {h : Hp} {n : Nat} (parts : List (Nat × Value)) : mBuildSlice Go.Proofs.Try.prog 22 1 parts h n = (fillL (fun i => some (i * 1, 1)) [Value.string { data := { toList := [] } }] parts).bind fun cells => bif cells.all cok then some ⟨.slice (some ⟨n, 0, none⟩) 1 1, h.set n (.row 9 false cells), n + 1, [], []⟩ else none := m_bs (e := 9) (z := [Value.string { data := { toList := [] } }]) (by kernel_rfl) (by kernel_rfl) (by kernel_rfl) rfl rfl (u := false) (by kernel_rfl) 1 rfl parts
theorem bs36_1 {h : Hp} {n : Nat} (parts : List (Nat × Value)) : mBuildSlice Go.Proofs.Try.prog 36 1 parts h n = (fillL (fun i => some (i * 1, 1)) [Value.int IntKind.i64 0] parts).bind fun cells => bif cells.all cok then some ⟨.slice (some ⟨n, 0, none⟩) 1 1, h.set n (.row 3 false cells), n + 1, [], []⟩ else none := m_bs (e := 3) (z := [Value.int IntKind.i64 0]) (by kernel_rfl) (by kernel_rfl) (by kernel_rfl) rfl rfl (u := false) (by kernel_rfl) 1 rfl parts
theorem bs36_2 {h : Hp} {n : Nat} (parts : List (Nat × Value)) : mBuildSlice Go.Proofs.Try.prog 36 2 parts h n = (fillL (fun i => some (i * 1, 1)) [Value.int IntKind.i64 0, Value.int IntKind.i64 0] parts).bind fun cells => bif cells.all cok then some ⟨.slice (some ⟨n, 0, none⟩) 2 2, h.set n (.row 3 false cells), n + 1, [], []⟩ else none := m_bs (e := 3) (z := [Value.int IntKind.i64 0]) (by kernel_rfl) (by kernel_rfl) (by kernel_rfl) rfl rfl (u := false) (by kernel_rfl) 2 rfl parts
theorem bs36_3 {h : Hp} {n : Nat} (parts : List (Nat × Value)) : mBuildSlice Go.Proofs.Try.prog 36 3 parts h n = (fillL (fun i => some (i * 1, 1)) [Value.int IntKind.i64 0, Value.int IntKind.i64 0, Value.int IntKind.i64 0] parts).bind fun cells => bif cells.all cok then some ⟨.slice (some ⟨n, 0, none⟩) 3 3, h.set n (.row 3 false cells), n + 1, [], []⟩ else none := m_bs (e := 3) (z := [Value.int IntKind.i64 0]) (by kernel_rfl) (by kernel_rfl) (by kernel_rfl) rfl rfl (u := false) (by kernel_rfl) 3 rfl parts
theorem bs39_0 {h : Hp} {n : Nat} (parts : List (Nat × Value)) : mBuildSlice Go.Proofs.Try.prog 39 0 parts h n = (fillL (fun i => some (i * 1, 1)) [] parts).bind fun cells => bif cells.all cok then some ⟨.slice (some ⟨n, 0, none⟩) 0 0, h.set n (.row 5 false cells), n + 1, [], []⟩ else none := m_bs (e := 5) (z := [Value.int IntKind.u8 0]) (by kernel_rfl) (by kernel_rfl) (by kernel_rfl) rfl rfl (u := true) (by kernel_rfl) 0 rfl parts
theorem bs39_1 {h : Hp} {n : Nat} (parts : List (Nat × Value)) : mBuildSlice Go.Proofs.Try.prog 39 1 parts h n = (fillL (fun i => some (i * 1, 1)) [Value.int IntKind.u8 0] parts).bind fun cells => bif cells.all cok then some ⟨.slice (some ⟨n, 0, none⟩) 1 0, h.set n (.row 5 false cells), n + 1, [], []⟩ else none := m_bs (e := 5) (z := [Value.int IntKind.u8 0]) (by kernel_rfl) (by kernel_rfl) (by kernel_rfl) rfl rfl (u := true) (by kernel_rfl) 1 rfl parts
theorem bs39_2 {h : Hp} {n : Nat} (parts : List (Nat × Value)) : mBuildSlice Go.Proofs.Try.prog 39 2 parts h n = (fillL (fun i => some (i * 1, 1)) [Value.int IntKind.u8 0, Value.int IntKind.u8 0] parts).bind fun cells => bif cells.all cok then some ⟨.slice (some ⟨n, 0, none⟩) 2 0, h.set n (.row 5 false cells), n + 1, [], []⟩ else none := m_bs (e := 5) (z := [Value.int IntKind.u8 0]) (by kernel_rfl) (by kernel_rfl) (by kernel_rfl) rfl rfl (u := true) (by kernel_rfl) 2 rfl parts
theorem bs39_3 {h : Hp} {n : Nat} (parts : List (Nat × Value)) : mBuildSlice Go.Proofs.Try.prog 39 3 parts h n = (fillL (fun i => some (i * 1, 1)) [Value.int IntKind.u8 0, Value.int IntKind.u8 0, Value.int IntKind.u8 0] parts).bind fun cells => bif cells.all cok then some ⟨.slice (some ⟨n, 0, none⟩) 3 0, h.set n (.row 5 false cells), n + 1, [], []⟩ else none := m_bs (e := 5) (z := [Value.int IntKind.u8 0]) (by kernel_rfl) (by kernel_rfl) (by kernel_rfl) rfl rfl (u := true) (by kernel_rfl) 3 rfl parts
theorem bs39_4 {h : Hp} {n : Nat} (parts : List (Nat × Value)) : mBuildSlice Go.Proofs.Try.prog 39 4 parts h n = (fillL (fun i => some (i * 1, 1)) [Value.int IntKind.u8 0, Value.int IntKind.u8 0, Value.int IntKind.u8 0, Value.int IntKind.u8 0] parts).bind fun cells => bif cells.all cok then some ⟨.slice (some ⟨n, 0, none⟩) 4 0, h.set n (.row 5 false cells), n + 1, [], []⟩ else none := m_bs (e := 5) (z := [Value.int IntKind.u8 0]) (by kernel_rfl) (by kernel_rfl) (by kernel_rfl) rfl rfl (u := true) (by kernel_rfl) 4 rfl parts
theorem bs53_1 {h : Hp} {n : Nat} (parts : List (Nat × Value)) : mBuildSlice Go.Proofs.Try.prog 53 1 parts h n = (fillL (fun i => some (i * 1, 1)) [Value.slice none 0 0] parts).bind fun cells => bif cells.all cok then some ⟨.slice (some ⟨n, 0, none⟩) 1 1, h.set n (.row 39 false cells), n + 1, [], []⟩ else none := m_bs (e := 39) (z := [Value.slice none 0 0]) (by kernel_rfl) (by kernel_rfl) (by kernel_rfl) rfl rfl (u := false) (by kernel_rfl) 1 rfl parts
theorem bs69_1 {h : Hp} {n : Nat} (parts : List (Nat × Value)) : mBuildSlice Go.Proofs.Try.prog 69 1 parts h n = (fillL (fun i => some (i * 2, 2)) [Value.int IntKind.i64 0, Value.int IntKind.i64 0] parts).bind fun cells => bif cells.all cok then some ⟨.slice (some ⟨n, 0, none⟩) 1 1, h.set n (.row 77 false cells), n + 1, [], []⟩ else none := m_bs (e := 77) (z := [Value.int IntKind.i64 0, Value.int IntKind.i64 0]) (by kernel_rfl) (by kernel_rfl) (by kernel_rfl) rfl rfl (u := false) (by kernel_rfl) 1 rfl parts
theorem cv3_41 {h : Hp} {n : Nat} {a : Int} {k2 : IntKind} : mConvert Go.Proofs.Try.prog 3 41 (.int k2 a) h n = some ⟨.int IntKind.u64 (IntKind.wrap IntKind.u64 a), h, n, [], []⟩ := c_int (by kernel_rfl) (by kernel_rfl)
theorem cv3_42 {h : Hp} {n : Nat} {a : Int} {k2 : IntKind} : mConvert Go.Proofs.Try.prog 3 42 (.int k2 a) h n = some ⟨.int IntKind.u32 (IntKind.wrap IntKind.u32 a), h, n, [], []⟩ := c_int (by kernel_rfl) (by kernel_rfl)
theorem cv3_5 {h : Hp} {n : Nat} {a : Int} {k2 : IntKind} : mConvert Go.Proofs.Try.prog 3 5 (.int k2 a) h n = some ⟨.int IntKind.u8 (IntKind.wrap IntKind.u8 a), h, n, [], []⟩ := c_int (by kernel_rfl) (by kernel_rfl)
theorem b2T39_9 : (∃ e, tyElem Go.Proofs.Try.prog 39 = some e ∧ tyU8 Go.Proofs.Try.prog e = true) ∧ tyStr Go.Proofs.Try.prog 9 = true := ⟨⟨5, (by kernel_rfl), (by kernel_rfl)⟩, (by kernel_rfl)⟩
theorem cv41_3 {h : Hp} {n : Nat} {a : Int} {k2 : IntKind} : mConvert Go.Proofs.Try.prog 41 3 (.int k2 a) h n = some ⟨.int IntKind.i64 (IntKind.wrap IntKind.i64 a), h, n, [], []⟩ := c_int (by kernel_rfl) (by kernel_rfl)
theorem cv41_5 {h : Hp} {n : Nat} {a : Int} {k2 : IntKind} : mConvert Go.Proofs.Try.prog 41 5 (.int k2 a) h n = some ⟨.int IntKind.u8 (IntKind.wrap IntKind.u8 a), h, n, [], []⟩ := c_int (by kernel_rfl) (by kernel_rfl)
theorem cv42_41 {h : Hp} {n : Nat} {a : Int} {k2 : IntKind} : mConvert Go.Proofs.Try.prog 42 41 (.int k2 a) h n = some ⟨.int IntKind.u64 (IntKind.wrap IntKind.u64 a), h, n, [], []⟩ := c_int (by kernel_rfl) (by kernel_rfl)
theorem cv42_5 {h : Hp} {n : Nat} {a : Int} {k2 : IntKind} : mConvert Go.Proofs.Try.prog 42 5 (.int k2 a) h n = some ⟨.int IntKind.u8 (IntKind.wrap IntKind.u8 a), h, n, [], []⟩ := c_int (by kernel_rfl) (by kernel_rfl)
theorem cv5_41 {h : Hp} {n : Nat} {a : Int} {k2 : IntKind} : mConvert Go.Proofs.Try.prog 5 41 (.int k2 a) h n = some ⟨.int IntKind.u64 (IntKind.wrap IntKind.u64 a), h, n, [], []⟩ := c_int (by kernel_rfl) (by kernel_rfl)
theorem cv9_39 {h : Hp} {n : Nat} {x : ByteArray} (hx : x.size ≤ 1000000) : mConvert Go.Proofs.Try.prog 9 39 (.string x) h n = some ⟨.slice (some ⟨n, 0, none⟩) x.size x.size, h.set n (.row 5 true (bvals x)), n + 1, [], []⟩ := m_s2b (e := 5) (by kernel_rfl) (by kernel_rfl) (by kernel_rfl) hx
theorem fa104_0 {h : Hp} {n : Nat} {id off : Nat} : mFieldAddr Go.Proofs.Try.prog 104 (.pointer (some ⟨id, off, none⟩)) 0 h n = some ⟨.pointer (some ⟨id, off + 0, none⟩), h, n, [], []⟩ := m_field (fs := [(0, 1), (1, 1)]) (by kernel_rfl) rfl rfl
theorem fa104_1 {h : Hp} {n : Nat} {id off : Nat} : mFieldAddr Go.Proofs.Try.prog 104 (.pointer (some ⟨id, off, none⟩)) 1 h n = some ⟨.pointer (some ⟨id, off + 1, none⟩), h, n, [], []⟩ := m_field (fs := [(0, 1), (1, 1)]) (by kernel_rfl) rfl rfl
theorem fa32_0 {h : Hp} {n : Nat} {id off : Nat} : mFieldAddr Go.Proofs.Try.prog 32 (.pointer (some ⟨id, off, none⟩)) 0 h n = some ⟨.pointer (some ⟨id, off + 0, none⟩), h, n, [], []⟩ := m_field (fs := [(0, 1), (1, 1), (2, 1), (3, 1)]) (by kernel_rfl) rfl rfl
theorem fa32_1 {h : Hp} {n : Nat} {id off : Nat} : mFieldAddr Go.Proofs.Try.prog 32 (.pointer (some ⟨id, off, none⟩)) 1 h n = some ⟨.pointer (some ⟨id, off + 1, none⟩), h, n, [], []⟩ := m_field (fs := [(0, 1), (1, 1), (2, 1), (3, 1)]) (by kernel_rfl) rfl rfl
theorem fa32_2 {h : Hp} {n : Nat} {id off : Nat} : mFieldAddr Go.Proofs.Try.prog 32 (.pointer (some ⟨id, off, none⟩)) 2 h n = some ⟨.pointer (some ⟨id, off + 2, none⟩), h, n, [], []⟩ := m_field (fs := [(0, 1), (1, 1), (2, 1), (3, 1)]) (by kernel_rfl) rfl rfl
theorem fa32_3 {h : Hp} {n : Nat} {id off : Nat} : mFieldAddr Go.Proofs.Try.prog 32 (.pointer (some ⟨id, off, none⟩)) 3 h n = some ⟨.pointer (some ⟨id, off + 3, none⟩), h, n, [], []⟩ := m_field (fs := [(0, 1), (1, 1), (2, 1), (3, 1)]) (by kernel_rfl) rfl rfl
theorem fa34_0 {h : Hp} {n : Nat} {id off : Nat} : mFieldAddr Go.Proofs.Try.prog 34 (.pointer (some ⟨id, off, none⟩)) 0 h n = some ⟨.pointer (some ⟨id, off + 0, none⟩), h, n, [], []⟩ := m_field (fs := [(0, 1), (1, 1)]) (by kernel_rfl) rfl rfl
theorem fa34_1 {h : Hp} {n : Nat} {id off : Nat} : mFieldAddr Go.Proofs.Try.prog 34 (.pointer (some ⟨id, off, none⟩)) 1 h n = some ⟨.pointer (some ⟨id, off + 1, none⟩), h, n, [], []⟩ := m_field (fs := [(0, 1), (1, 1)]) (by kernel_rfl) rfl rfl
theorem fa60_0 {h : Hp} {n : Nat} {id off : Nat} : mFieldAddr Go.Proofs.Try.prog 60 (.pointer (some ⟨id, off, none⟩)) 0 h n = some ⟨.pointer (some ⟨id, off + 0, none⟩), h, n, [], []⟩ := m_field (fs := [(0, 1), (1, 1)]) (by kernel_rfl) rfl rfl
theorem fa60_1 {h : Hp} {n : Nat} {id off : Nat} : mFieldAddr Go.Proofs.Try.prog 60 (.pointer (some ⟨id, off, none⟩)) 1 h n = some ⟨.pointer (some ⟨id, off + 1, none⟩), h, n, [], []⟩ := m_field (fs := [(0, 1), (1, 1)]) (by kernel_rfl) rfl rfl
theorem fa77_0 {h : Hp} {n : Nat} {id off : Nat} : mFieldAddr Go.Proofs.Try.prog 77 (.pointer (some ⟨id, off, none⟩)) 0 h n = some ⟨.pointer (some ⟨id, off + 0, none⟩), h, n, [], []⟩ := m_field (fs := [(0, 1), (1, 1)]) (by kernel_rfl) rfl rfl
theorem fa77_1 {h : Hp} {n : Nat} {id off : Nat} : mFieldAddr Go.Proofs.Try.prog 77 (.pointer (some ⟨id, off, none⟩)) 1 h n = some ⟨.pointer (some ⟨id, off + 1, none⟩), h, n, [], []⟩ := m_field (fs := [(0, 1), (1, 1)]) (by kernel_rfl) rfl rfl
theorem ix100 {h : Hp} {n : Nat} {k : IntKind} {id off len c : Nat} {i : Int} (h0 : 0 ≤ i) (h1 : i < len) : mIndexAddr Go.Proofs.Try.prog 100 (.slice (some ⟨id, off, none⟩) len c) (.int k i) h n = some ⟨.pointer (some ⟨id, off + i.toNat * 2, none⟩), h, n, [], []⟩ := m_ix (e := 104) (by kernel_rfl) (by kernel_rfl) h0 h1
theorem ix107 {h : Hp} {n : Nat} {k : IntKind} {id off len c : Nat} {i : Int} (h0 : 0 ≤ i) (h1 : i < len) : mIndexAddr Go.Proofs.Try.prog 107 (.slice (some ⟨id, off, none⟩) len c) (.int k i) h n = some ⟨.pointer (some ⟨id, off + i.toNat * 1, none⟩), h, n, [], []⟩ := m_ix (e := 4) (by kernel_rfl) (by kernel_rfl) h0 h1
theorem ix110 {h : Hp} {n : Nat} {k : IntKind} {id off : Nat} {i : Int} (h0 : 0 ≤ i) (h1 : i < 8) : mIndexAddr Go.Proofs.Try.prog 110 (.pointer (some ⟨id, off, none⟩)) (.int k i) h n = some ⟨.pointer (some ⟨id, off + i.toNat * 1, none⟩), h, n, [], []⟩ := m_ixArr (len := 8) (by kernel_rfl) h0 (by simpa using h1)
theorem ix113 {h : Hp} {n : Nat} {k : IntKind} {id off : Nat} {i : Int} (h0 : 0 ≤ i) (h1 : i < 2) : mIndexAddr Go.Proofs.Try.prog 113 (.pointer (some ⟨id, off, none⟩)) (.int k i) h n = some ⟨.pointer (some ⟨id, off + i.toNat * 1, none⟩), h, n, [], []⟩ := m_ixArr (len := 2) (by kernel_rfl) h0 (by simpa using h1)
theorem ix114 {h : Hp} {n : Nat} {k : IntKind} {id off len c : Nat} {i : Int} (h0 : 0 ≤ i) (h1 : i < len) : mIndexAddr Go.Proofs.Try.prog 114 (.slice (some ⟨id, off, none⟩) len c) (.int k i) h n = some ⟨.pointer (some ⟨id, off + i.toNat * 2, none⟩), h, n, [], []⟩ := m_ix (e := 113) (by kernel_rfl) (by kernel_rfl) h0 h1
theorem ix120 {h : Hp} {n : Nat} {k : IntKind} {id off : Nat} {i : Int} (h0 : 0 ≤ i) (h1 : i < 64) : mIndexAddr Go.Proofs.Try.prog 120 (.pointer (some ⟨id, off, none⟩)) (.int k i) h n = some ⟨.pointer (some ⟨id, off + i.toNat * 1, none⟩), h, n, [], []⟩ := m_ixArr (len := 64) (by kernel_rfl) h0 (by simpa using h1)
theorem ix129 {h : Hp} {n : Nat} {k : IntKind} {id off len c : Nat} {i : Int} (h0 : 0 ≤ i) (h1 : i < len) : mIndexAddr Go.Proofs.Try.prog 129 (.slice (some ⟨id, off, none⟩) len c) (.int k i) h n = some ⟨.pointer (some ⟨id, off + i.toNat * 1, none⟩), h, n, [], []⟩ := m_ix (e := 43) (by kernel_rfl) (by kernel_rfl) h0 h1
theorem ix22 {h : Hp} {n : Nat} {k : IntKind} {id off len c : Nat} {i : Int} (h0 : 0 ≤ i) (h1 : i < len) : mIndexAddr Go.Proofs.Try.prog 22 (.slice (some ⟨id, off, none⟩) len c) (.int k i) h n = some ⟨.pointer (some ⟨id, off + i.toNat * 1, none⟩), h, n, [], []⟩ := m_ix (e := 9) (by kernel_rfl) (by kernel_rfl) h0 h1
theorem ix23 {h : Hp} {n : Nat} {k : IntKind} {id off len c : Nat} {i : Int} (h0 : 0 ≤ i) (h1 : i < len) : mIndexAddr Go.Proofs.Try.prog 23 (.slice (some ⟨id, off, none⟩) len c) (.int k i) h n = some ⟨.pointer (some ⟨id, off + i.toNat * 4, none⟩), h, n, [], []⟩ := m_ix (e := 32) (by kernel_rfl) (by kernel_rfl) h0 h1
theorem ix30 {h : Hp} {n : Nat} {k : IntKind} {id off len c : Nat} {i : Int} (h0 : 0 ≤ i) (h1 : i < len) : mIndexAddr Go.Proofs.Try.prog 30 (.slice (some ⟨id, off, none⟩) len c) (.int k i) h n = some ⟨.pointer (some ⟨id, off + i.toNat * 2, none⟩), h, n, [], []⟩ := m_ix (e := 34) (by kernel_rfl) (by kernel_rfl) h0 h1
theorem ix36 {h : Hp} {n : Nat} {k : IntKind} {id off len c : Nat} {i : Int} (h0 : 0 ≤ i) (h1 : i < len) : mIndexAddr Go.Proofs.Try.prog 36 (.slice (some ⟨id, off, none⟩) len c) (.int k i) h n = some ⟨.pointer (some ⟨id, off + i.toNat * 1, none⟩), h, n, [], []⟩ := m_ix (e := 3) (by kernel_rfl) (by kernel_rfl) h0 h1
theorem ix39 {h : Hp} {n : Nat} {k : IntKind} {id off len c : Nat} {i : Int} (h0 : 0 ≤ i) (h1 : i < len) : mIndexAddr Go.Proofs.Try.prog 39 (.slice (some ⟨id, off, none⟩) len c) (.int k i) h n = some ⟨.pointer (some ⟨id, off + i.toNat * 1, none⟩), h, n, [], []⟩ := m_ix (e := 5) (by kernel_rfl) (by kernel_rfl) h0 h1
theorem ix46 {h : Hp} {n : Nat} {k : IntKind} {id off : Nat} {i : Int} (h0 : 0 ≤ i) (h1 : i < 256) : mIndexAddr Go.Proofs.Try.prog 46 (.pointer (some ⟨id, off, none⟩)) (.int k i) h n = some ⟨.pointer (some ⟨id, off + i.toNat * 1, none⟩), h, n, [], []⟩ := m_ixArr (len := 256) (by kernel_rfl) h0 (by simpa using h1)
theorem ix53 {h : Hp} {n : Nat} {k : IntKind} {id off len c : Nat} {i : Int} (h0 : 0 ≤ i) (h1 : i < len) : mIndexAddr Go.Proofs.Try.prog 53 (.slice (some ⟨id, off, none⟩) len c) (.int k i) h n = some ⟨.pointer (some ⟨id, off + i.toNat * 1, none⟩), h, n, [], []⟩ := m_ix (e := 39) (by kernel_rfl) (by kernel_rfl) h0 h1
theorem ix69 {h : Hp} {n : Nat} {k : IntKind} {id off len c : Nat} {i : Int} (h0 : 0 ≤ i) (h1 : i < len) : mIndexAddr Go.Proofs.Try.prog 69 (.slice (some ⟨id, off, none⟩) len c) (.int k i) h n = some ⟨.pointer (some ⟨id, off + i.toNat * 2, none⟩), h, n, [], []⟩ := m_ix (e := 77) (by kernel_rfl) (by kernel_rfl) h0 h1
theorem ln107 {h : Hp} {n : Nat} {A : Option Addr} {m c : Nat} : mLen Go.Proofs.Try.prog 107 (.slice A m c) h n = some ⟨.int .i64 m, h, n, [], []⟩ := m_len (e := 4) (by kernel_rfl)
theorem ln114 {h : Hp} {n : Nat} {A : Option Addr} {m c : Nat} : mLen Go.Proofs.Try.prog 114 (.slice A m c) h n = some ⟨.int .i64 m, h, n, [], []⟩ := m_len (e := 113) (by kernel_rfl)
theorem ln129 {h : Hp} {n : Nat} {A : Option Addr} {m c : Nat} : mLen Go.Proofs.Try.prog 129 (.slice A m c) h n = some ⟨.int .i64 m, h, n, [], []⟩ := m_len (e := 43) (by kernel_rfl)
theorem ln22 {h : Hp} {n : Nat} {A : Option Addr} {m c : Nat} : mLen Go.Proofs.Try.prog 22 (.slice A m c) h n = some ⟨.int .i64 m, h, n, [], []⟩ := m_len (e := 9) (by kernel_rfl)
theorem ln23 {h : Hp} {n : Nat} {A : Option Addr} {m c : Nat} : mLen Go.Proofs.Try.prog 23 (.slice A m c) h n = some ⟨.int .i64 m, h, n, [], []⟩ := m_len (e := 32) (by kernel_rfl)
theorem ln30 {h : Hp} {n : Nat} {A : Option Addr} {m c : Nat} : mLen Go.Proofs.Try.prog 30 (.slice A m c) h n = some ⟨.int .i64 m, h, n, [], []⟩ := m_len (e := 34) (by kernel_rfl)
theorem ln36 {h : Hp} {n : Nat} {A : Option Addr} {m c : Nat} : mLen Go.Proofs.Try.prog 36 (.slice A m c) h n = some ⟨.int .i64 m, h, n, [], []⟩ := m_len (e := 3) (by kernel_rfl)
theorem ln39 {h : Hp} {n : Nat} {A : Option Addr} {m c : Nat} : mLen Go.Proofs.Try.prog 39 (.slice A m c) h n = some ⟨.int .i64 m, h, n, [], []⟩ := m_len (e := 5) (by kernel_rfl)
theorem ln53 {h : Hp} {n : Nat} {A : Option Addr} {m c : Nat} : mLen Go.Proofs.Try.prog 53 (.slice A m c) h n = some ⟨.int .i64 m, h, n, [], []⟩ := m_len (e := 39) (by kernel_rfl)
theorem ln69 {h : Hp} {n : Nat} {A : Option Addr} {m c : Nat} : mLen Go.Proofs.Try.prog 69 (.slice A m c) h n = some ⟨.int .i64 m, h, n, [], []⟩ := m_len (e := 77) (by kernel_rfl)
theorem ln9 {h : Hp} {n : Nat} {s : ByteArray} : mLen Go.Proofs.Try.prog 9 (.string s) h n = some ⟨.int .i64 s.size, h, n, [], []⟩ := m_lenS (by kernel_rfl)
theorem ld104 {h : Hp} {n : Nat} {id off : Nat} : mLoad Go.Proofs.Try.prog 104 (.pointer (some ⟨id, off, none⟩)) h n = (cellsAt h id off 2).bind fun cs => some ⟨.agg ⟨cs⟩, h, n, [id], []⟩ := m_loadA (by kernel_rfl) (by kernel_rfl)
theorem ld113 {h : Hp} {n : Nat} {id off : Nat} : mLoad Go.Proofs.Try.prog 113 (.pointer (some ⟨id, off, none⟩)) h n = (cellsAt h id off 2).bind fun cs => some ⟨.agg ⟨cs⟩, h, n, [id], []⟩ := m_loadA (by kernel_rfl) (by kernel_rfl)
theorem ld3 {h : Hp} {n : Nat} {id off : Nat} : mLoad Go.Proofs.Try.prog 3 (.pointer (some ⟨id, off, none⟩)) h n = (cellAt h id off).bind fun v => some ⟨v, h, n, [id], []⟩ := m_load1 (by kernel_rfl)
theorem ld30 {h : Hp} {n : Nat} {id off : Nat} : mLoad Go.Proofs.Try.prog 30 (.pointer (some ⟨id, off, none⟩)) h n = (cellAt h id off).bind fun v => some ⟨v, h, n, [id], []⟩ := m_load1 (by kernel_rfl)
theorem ld32 {h : Hp} {n : Nat} {id off : Nat} : mLoad Go.Proofs.Try.prog 32 (.pointer (some ⟨id, off, none⟩)) h n = (cellsAt h id off 4).bind fun cs => some ⟨.agg ⟨cs⟩, h, n, [id], []⟩ := m_loadA (by kernel_rfl) (by kernel_rfl)
theorem ld34 {h : Hp} {n : Nat} {id off : Nat} : mLoad Go.Proofs.Try.prog 34 (.pointer (some ⟨id, off, none⟩)) h n = (cellsAt h id off 2).bind fun cs => some ⟨.agg ⟨cs⟩, h, n, [id], []⟩ := m_loadA (by kernel_rfl) (by kernel_rfl)
theorem ld39 {h : Hp} {n : Nat} {id off : Nat} : mLoad Go.Proofs.Try.prog 39 (.pointer (some ⟨id, off, none⟩)) h n = (cellAt h id off).bind fun v => some ⟨v, h, n, [id], []⟩ := m_load1 (by kernel_rfl)
theorem ld4 {h : Hp} {n : Nat} {id off : Nat} : mLoad Go.Proofs.Try.prog 4 (.pointer (some ⟨id, off, none⟩)) h n = (cellAt h id off).bind fun v => some ⟨v, h, n, [id], []⟩ := m_load1 (by kernel_rfl)
theorem ld42 {h : Hp} {n : Nat} {id off : Nat} : mLoad Go.Proofs.Try.prog 42 (.pointer (some ⟨id, off, none⟩)) h n = (cellAt h id off).bind fun v => some ⟨v, h, n, [id], []⟩ := m_load1 (by kernel_rfl)
theorem ld43 {h : Hp} {n : Nat} {id off : Nat} : mLoad Go.Proofs.Try.prog 43 (.pointer (some ⟨id, off, none⟩)) h n = (cellAt h id off).bind fun v => some ⟨v, h, n, [id], []⟩ := m_load1 (by kernel_rfl)
theorem ld46 {h : Hp} {n : Nat} {id off : Nat} : mLoad Go.Proofs.Try.prog 46 (.pointer (some ⟨id, off, none⟩)) h n = (cellsAt h id off 256).bind fun cs => some ⟨.agg ⟨cs⟩, h, n, [id], []⟩ := m_loadA (by kernel_rfl) (by kernel_rfl)
theorem ld5 {h : Hp} {n : Nat} {id off : Nat} : mLoad Go.Proofs.Try.prog 5 (.pointer (some ⟨id, off, none⟩)) h n = (cellAt h id off).bind fun v => some ⟨v, h, n, [id], []⟩ := m_load1 (by kernel_rfl)
theorem ld60 {h : Hp} {n : Nat} {id off : Nat} : mLoad Go.Proofs.Try.prog 60 (.pointer (some ⟨id, off, none⟩)) h n = (cellsAt h id off 2).bind fun cs => some ⟨.agg ⟨cs⟩, h, n, [id], []⟩ := m_loadA (by kernel_rfl) (by kernel_rfl)
theorem ld77 {h : Hp} {n : Nat} {id off : Nat} : mLoad Go.Proofs.Try.prog 77 (.pointer (some ⟨id, off, none⟩)) h n = (cellsAt h id off 2).bind fun cs => some ⟨.agg ⟨cs⟩, h, n, [id], []⟩ := m_loadA (by kernel_rfl) (by kernel_rfl)
theorem ld9 {h : Hp} {n : Nat} {id off : Nat} : mLoad Go.Proofs.Try.prog 9 (.pointer (some ⟨id, off, none⟩)) h n = (cellAt h id off).bind fun v => some ⟨v, h, n, [id], []⟩ := m_load1 (by kernel_rfl)
theorem mk100 {h : Hp} {n : Nat} {k1 k2 : IntKind} {i : Int} (h0 : 0 ≤ i) (h1 : i ≤ 100000) : mMakeSlice Go.Proofs.Try.prog 100 (.int k1 i) (.int k2 i) h n = some ⟨.slice (some ⟨n, 0, none⟩) i.toNat i.toNat, h.set n (.row 104 false (List.replicate i.toNat [Value.int IntKind.i64 0, Value.int IntKind.i64 0]).flatten), n + 1, [], []⟩ := m_mk (e := 104) (z := [Value.int IntKind.i64 0, Value.int IntKind.i64 0]) (by kernel_rfl) (by kernel_rfl) (by kernel_rfl) rfl rfl (by kernel_rfl) h0 h1
theorem mk107 {h : Hp} {n : Nat} {k1 k2 : IntKind} {i : Int} (h0 : 0 ≤ i) (h1 : i ≤ 100000) : mMakeSlice Go.Proofs.Try.prog 107 (.int k1 i) (.int k2 i) h n = some ⟨.slice (some ⟨n, 0, none⟩) i.toNat i.toNat, h.set n (.row 4 false (List.replicate i.toNat [Value.bool false]).flatten), n + 1, [], []⟩ := m_mk (e := 4) (z := [Value.bool false]) (by kernel_rfl) (by kernel_rfl) (by kernel_rfl) rfl rfl (by kernel_rfl) h0 h1
theorem mk36 {h : Hp} {n : Nat} {k1 k2 : IntKind} {i : Int} (h0 : 0 ≤ i) (h1 : i ≤ 100000) : mMakeSlice Go.Proofs.Try.prog 36 (.int k1 i) (.int k2 i) h n = some ⟨.slice (some ⟨n, 0, none⟩) i.toNat i.toNat, h.set n (.row 3 false (List.replicate i.toNat [Value.int IntKind.i64 0]).flatten), n + 1, [], []⟩ := m_mk (e := 3) (z := [Value.int IntKind.i64 0]) (by kernel_rfl) (by kernel_rfl) (by kernel_rfl) rfl rfl (by kernel_rfl) h0 h1
theorem rc104 {h : Hp} {id off : Nat} : aresC Go.Proofs.Try.prog h 104 (.pointer (some ⟨id, off, none⟩)) = (cellsAt h id off 2).map fun cs => .agg ⟨cs⟩ := rc_agg (by kernel_rfl) (by kernel_rfl)
theorem rc46 {h : Hp} {id off : Nat} : aresC Go.Proofs.Try.prog h 46 (.pointer (some ⟨id, off, none⟩)) = (cellsAt h id off 256).map fun cs => .agg ⟨cs⟩ := rc_agg (by kernel_rfl) (by kernel_rfl)
theorem rc60 {h : Hp} {id off : Nat} : aresC Go.Proofs.Try.prog h 60 (.pointer (some ⟨id, off, none⟩)) = (cellsAt h id off 2).map fun cs => .agg ⟨cs⟩ := rc_agg (by kernel_rfl) (by kernel_rfl)
theorem sa114 {h : Hp} {n : Nat} {id off len : Nat} {k1 k2 : IntKind} {lo hi : Int} (h0 : 0 ≤ lo) (h1 : lo ≤ hi) (h2 : hi ≤ len) : mSlice Go.Proofs.Try.prog 114 (.slice (some ⟨id, off, none⟩) len len) (some (.int k1 lo)) (some (.int k2 hi)) h n = some ⟨.slice (some ⟨id, off + lo.toNat * 2, none⟩) (hi.toNat - lo.toNat) (hi.toNat - lo.toNat), h, n, [], []⟩ := m_slLH (e := 113) (by kernel_rfl) (by kernel_rfl) rfl h0 h1 h2
theorem sb114 {h : Hp} {n : Nat} {id off len : Nat} {k1 : IntKind} {lo : Int} (h0 : 0 ≤ lo) (h1 : lo ≤ len) : mSlice Go.Proofs.Try.prog 114 (.slice (some ⟨id, off, none⟩) len len) (some (.int k1 lo)) none h n = some ⟨.slice (some ⟨id, off + lo.toNat * 2, none⟩) (len - lo.toNat) (len - lo.toNat), h, n, [], []⟩ := m_slL (e := 113) (by kernel_rfl) (by kernel_rfl) rfl h0 h1
theorem sc114 {h : Hp} {n : Nat} {id off len : Nat} {k2 : IntKind} {hi : Int} (h1 : 0 ≤ hi) (h2 : hi ≤ len) : mSlice Go.Proofs.Try.prog 114 (.slice (some ⟨id, off, none⟩) len len) none (some (.int k2 hi)) h n = some ⟨.slice (some ⟨id, off, none⟩) hi.toNat hi.toNat, h, n, [], []⟩ := m_slH (e := 113) (s := 2) (by kernel_rfl) (by kernel_rfl) rfl h1 h2
theorem sa36 {h : Hp} {n : Nat} {id off len : Nat} {k1 k2 : IntKind} {lo hi : Int} (h0 : 0 ≤ lo) (h1 : lo ≤ hi) (h2 : hi ≤ len) : mSlice Go.Proofs.Try.prog 36 (.slice (some ⟨id, off, none⟩) len len) (some (.int k1 lo)) (some (.int k2 hi)) h n = some ⟨.slice (some ⟨id, off + lo.toNat * 1, none⟩) (hi.toNat - lo.toNat) (hi.toNat - lo.toNat), h, n, [], []⟩ := m_slLH (e := 3) (by kernel_rfl) (by kernel_rfl) rfl h0 h1 h2
theorem sb36 {h : Hp} {n : Nat} {id off len : Nat} {k1 : IntKind} {lo : Int} (h0 : 0 ≤ lo) (h1 : lo ≤ len) : mSlice Go.Proofs.Try.prog 36 (.slice (some ⟨id, off, none⟩) len len) (some (.int k1 lo)) none h n = some ⟨.slice (some ⟨id, off + lo.toNat * 1, none⟩) (len - lo.toNat) (len - lo.toNat), h, n, [], []⟩ := m_slL (e := 3) (by kernel_rfl) (by kernel_rfl) rfl h0 h1
theorem sc36 {h : Hp} {n : Nat} {id off len : Nat} {k2 : IntKind} {hi : Int} (h1 : 0 ≤ hi) (h2 : hi ≤ len) : mSlice Go.Proofs.Try.prog 36 (.slice (some ⟨id, off, none⟩) len len) none (some (.int k2 hi)) h n = some ⟨.slice (some ⟨id, off, none⟩) hi.toNat hi.toNat, h, n, [], []⟩ := m_slH (e := 3) (s := 1) (by kernel_rfl) (by kernel_rfl) rfl h1 h2
theorem sa39 {h : Hp} {n : Nat} {id off len : Nat} {k1 k2 : IntKind} {lo hi : Int} (h0 : 0 ≤ lo) (h1 : lo ≤ hi) (h2 : hi ≤ len) : mSlice Go.Proofs.Try.prog 39 (.slice (some ⟨id, off, none⟩) len len) (some (.int k1 lo)) (some (.int k2 hi)) h n = some ⟨.slice (some ⟨id, off + lo.toNat * 1, none⟩) (hi.toNat - lo.toNat) (hi.toNat - lo.toNat), h, n, [], []⟩ := m_slLH (e := 5) (by kernel_rfl) (by kernel_rfl) rfl h0 h1 h2
theorem sb39 {h : Hp} {n : Nat} {id off len : Nat} {k1 : IntKind} {lo : Int} (h0 : 0 ≤ lo) (h1 : lo ≤ len) : mSlice Go.Proofs.Try.prog 39 (.slice (some ⟨id, off, none⟩) len len) (some (.int k1 lo)) none h n = some ⟨.slice (some ⟨id, off + lo.toNat * 1, none⟩) (len - lo.toNat) (len - lo.toNat), h, n, [], []⟩ := m_slL (e := 5) (by kernel_rfl) (by kernel_rfl) rfl h0 h1
theorem sc39 {h : Hp} {n : Nat} {id off len : Nat} {k2 : IntKind} {hi : Int} (h1 : 0 ≤ hi) (h2 : hi ≤ len) : mSlice Go.Proofs.Try.prog 39 (.slice (some ⟨id, off, none⟩) len len) none (some (.int k2 hi)) h n = some ⟨.slice (some ⟨id, off, none⟩) hi.toNat hi.toNat, h, n, [], []⟩ := m_slH (e := 5) (s := 1) (by kernel_rfl) (by kernel_rfl) rfl h1 h2
theorem st104 {h : Hp} {n : Nat} {lim id off : Nat} {ys : List Value} (hl : lim ≤ id) : mStore Go.Proofs.Try.prog lim 104 (.pointer (some ⟨id, off, none⟩)) (.agg ⟨ys⟩) h n = bif (ys.length == 2) && ys.all cok then (rwOf h id).bind fun r => (overAt off ys r.2).bind fun cs' => some ⟨undef, h.set id (.row r.1 false cs'), n, [], [id]⟩ else none := m_stA (by kernel_rfl) hl
theorem st113 {h : Hp} {n : Nat} {lim id off : Nat} {ys : List Value} (hl : lim ≤ id) : mStore Go.Proofs.Try.prog lim 113 (.pointer (some ⟨id, off, none⟩)) (.agg ⟨ys⟩) h n = bif (ys.length == 2) && ys.all cok then (rwOf h id).bind fun r => (overAt off ys r.2).bind fun cs' => some ⟨undef, h.set id (.row r.1 false cs'), n, [], [id]⟩ else none := m_stA (by kernel_rfl) hl
theorem st3 {h : Hp} {n : Nat} {lim id off : Nat} {k0 : IntKind} {z0 : Int} (hl : lim ≤ id) : mStore Go.Proofs.Try.prog lim 3 (.pointer (some ⟨id, off, none⟩)) (.int k0 z0) h n = (rwOf h id).bind fun r => (overAt off [.int k0 z0] r.2).bind fun cs' => some ⟨undef, h.set id (.row r.1 false cs'), n, [], [id]⟩ := m_st1 (by kernel_rfl) hl (c_int1 _ _) rfl
theorem st32 {h : Hp} {n : Nat} {lim id off : Nat} {ys : List Value} (hl : lim ≤ id) : mStore Go.Proofs.Try.prog lim 32 (.pointer (some ⟨id, off, none⟩)) (.agg ⟨ys⟩) h n = bif (ys.length == 4) && ys.all cok then (rwOf h id).bind fun r => (overAt off ys r.2).bind fun cs' => some ⟨undef, h.set id (.row r.1 false cs'), n, [], [id]⟩ else none := m_stA (by kernel_rfl) hl
theorem st34 {h : Hp} {n : Nat} {lim id off : Nat} {ys : List Value} (hl : lim ≤ id) : mStore Go.Proofs.Try.prog lim 34 (.pointer (some ⟨id, off, none⟩)) (.agg ⟨ys⟩) h n = bif (ys.length == 2) && ys.all cok then (rwOf h id).bind fun r => (overAt off ys r.2).bind fun cs' => some ⟨undef, h.set id (.row r.1 false cs'), n, [], [id]⟩ else none := m_stA (by kernel_rfl) hl
theorem st39 {h : Hp} {n : Nat} {lim id off : Nat} {A0 : Option Addr} {m0 c0 : Nat} (hl : lim ≤ id) : mStore Go.Proofs.Try.prog lim 39 (.pointer (some ⟨id, off, none⟩)) (.slice A0 m0 c0) h n = (rwOf h id).bind fun r => (overAt off [.slice A0 m0 c0] r.2).bind fun cs' => some ⟨undef, h.set id (.row r.1 false cs'), n, [], [id]⟩ := m_st1 (by kernel_rfl) hl (c_sli1 _ _ _) rfl
theorem st4 {h : Hp} {n : Nat} {lim id off : Nat} {b0 : Bool} (hl : lim ≤ id) : mStore Go.Proofs.Try.prog lim 4 (.pointer (some ⟨id, off, none⟩)) (.bool b0) h n = (rwOf h id).bind fun r => (overAt off [.bool b0] r.2).bind fun cs' => some ⟨undef, h.set id (.row r.1 false cs'), n, [], [id]⟩ := m_st1 (by kernel_rfl) hl (c_bool1 _) rfl
theorem st42 {h : Hp} {n : Nat} {lim id off : Nat} {k0 : IntKind} {z0 : Int} (hl : lim ≤ id) : mStore Go.Proofs.Try.prog lim 42 (.pointer (some ⟨id, off, none⟩)) (.int k0 z0) h n = (rwOf h id).bind fun r => (overAt off [.int k0 z0] r.2).bind fun cs' => some ⟨undef, h.set id (.row r.1 false cs'), n, [], [id]⟩ := m_st1 (by kernel_rfl) hl (c_int1 _ _) rfl
theorem st46 {h : Hp} {n : Nat} {lim id off : Nat} {ys : List Value} (hl : lim ≤ id) : mStore Go.Proofs.Try.prog lim 46 (.pointer (some ⟨id, off, none⟩)) (.agg ⟨ys⟩) h n = bif (ys.length == 256) && ys.all cok then (rwOf h id).bind fun r => (overAt off ys r.2).bind fun cs' => some ⟨undef, h.set id (.row r.1 false cs'), n, [], [id]⟩ else none := m_stA (by kernel_rfl) hl
theorem st5 {h : Hp} {n : Nat} {lim id off : Nat} {k0 : IntKind} {z0 : Int} (hl : lim ≤ id) : mStore Go.Proofs.Try.prog lim 5 (.pointer (some ⟨id, off, none⟩)) (.int k0 z0) h n = (rwOf h id).bind fun r => (overAt off [.int k0 z0] r.2).bind fun cs' => some ⟨undef, h.set id (.row r.1 false cs'), n, [], [id]⟩ := m_st1 (by kernel_rfl) hl (c_int1 _ _) rfl
theorem st60 {h : Hp} {n : Nat} {lim id off : Nat} {ys : List Value} (hl : lim ≤ id) : mStore Go.Proofs.Try.prog lim 60 (.pointer (some ⟨id, off, none⟩)) (.agg ⟨ys⟩) h n = bif (ys.length == 2) && ys.all cok then (rwOf h id).bind fun r => (overAt off ys r.2).bind fun cs' => some ⟨undef, h.set id (.row r.1 false cs'), n, [], [id]⟩ else none := m_stA (by kernel_rfl) hl
theorem st77 {h : Hp} {n : Nat} {lim id off : Nat} {ys : List Value} (hl : lim ≤ id) : mStore Go.Proofs.Try.prog lim 77 (.pointer (some ⟨id, off, none⟩)) (.agg ⟨ys⟩) h n = bif (ys.length == 2) && ys.all cok then (rwOf h id).bind fun r => (overAt off ys r.2).bind fun cs' => some ⟨undef, h.set id (.row r.1 false cs'), n, [], [id]⟩ else none := m_stA (by kernel_rfl) hl
theorem tys : (type_of% @al104) ∧ (type_of% @al110) ∧ (type_of% @al113) ∧ (type_of% @al120) ∧ (type_of% @al32) ∧ (type_of% @al34) ∧ (type_of% @al39) ∧ (type_of% @al46) ∧ (type_of% @al60) ∧ (type_of% @al77) ∧ (type_of% @bx32) ∧ (type_of% @bx34) ∧ (type_of% @bx46) ∧ (type_of% @bx60) ∧ (type_of% @bu104) ∧ (type_of% @bu113) ∧ (type_of% @bu60) ∧ (type_of% @bu77) ∧ (type_of% @bs114_1) ∧ (type_of% @bs129_2) ∧ (type_of% @bs22_1) ∧ (type_of% @bs36_1) ∧ (type_of% @bs36_2) ∧ (type_of% @bs36_3) ∧ (type_of% @bs39_0) ∧ (type_of% @bs39_1) ∧ (type_of% @bs39_2) ∧ (type_of% @bs39_3) ∧ (type_of% @bs39_4) ∧ (type_of% @bs53_1) ∧ (type_of% @bs69_1) ∧ (type_of% @cv3_41) ∧ (type_of% @cv3_42) ∧ (type_of% @cv3_5) ∧ (type_of% @cv41_3) ∧ (type_of% @cv41_5) ∧ (type_of% @cv42_41) ∧ (type_of% @cv42_5) ∧ (type_of% @cv5_41) ∧ (type_of% @cv9_39) ∧ (type_of% @fa104_0) ∧ (type_of% @fa104_1) ∧ (type_of% @fa32_0) ∧ (type_of% @fa32_1) ∧ (type_of% @fa32_2) ∧ (type_of% @fa32_3) ∧ (type_of% @fa34_0) ∧ (type_of% @fa34_1) ∧ (type_of% @fa60_0) ∧ (type_of% @fa60_1) ∧ (type_of% @fa77_0) ∧ (type_of% @fa77_1) ∧ (type_of% @ix100) ∧ (type_of% @ix107) ∧ (type_of% @ix110) ∧ (type_of% @ix113) ∧ (type_of% @ix114) ∧ (type_of% @ix120) ∧ (type_of% @ix129) ∧ (type_of% @ix22) ∧ (type_of% @ix23) ∧ (type_of% @ix30) ∧ (type_of% @ix36) ∧ (type_of% @ix39) ∧ (type_of% @ix46) ∧ (type_of% @ix53) ∧ (type_of% @ix69) ∧ (type_of% @ln107) ∧ (type_of% @ln114) ∧ (type_of% @ln129) ∧ (type_of% @ln22) ∧ (type_of% @ln23) ∧ (type_of% @ln30) ∧ (type_of% @ln36) ∧ (type_of% @ln39) ∧ (type_of% @ln53) ∧ (type_of% @ln69) ∧ (type_of% @ln9) ∧ (type_of% @ld104) ∧ (type_of% @ld113) ∧ (type_of% @ld3) ∧ (type_of% @ld30) ∧ (type_of% @ld32) ∧ (type_of% @ld34) ∧ (type_of% @ld39) ∧ (type_of% @ld4) ∧ (type_of% @ld42) ∧ (type_of% @ld43) ∧ (type_of% @ld46) ∧ (type_of% @ld5) ∧ (type_of% @ld60) ∧ (type_of% @ld77) ∧ (type_of% @ld9) ∧ (type_of% @mk100) ∧ (type_of% @mk107) ∧ (type_of% @mk36) ∧ (type_of% @rc104) ∧ (type_of% @rc46) ∧ (type_of% @rc60) ∧ (type_of% @sa114) ∧ (type_of% @sb114) ∧ (type_of% @sc114) ∧ (type_of% @sa36) ∧ (type_of% @sb36) ∧ (type_of% @sc36) ∧ (type_of% @sa39) ∧ (type_of% @sb39) ∧ (type_of% @sc39) ∧ (type_of% @st104) ∧ (type_of% @st113) ∧ (type_of% @st3) ∧ (type_of% @st32) ∧ (type_of% @st34) ∧ (type_of% @st39) ∧ (type_of% @st4) ∧ (type_of% @st42) ∧ (type_of% @st46) ∧ (type_of% @st5) ∧ (type_of% @st60) ∧ (type_of% @st77) :=
  ⟨@al104, @al110, @al113, @al120, @al32, @al34, @al39, @al46, @al60, @al77, @bx32, @bx34, @bx46, @bx60, @bu104, @bu113, @bu60, @bu77, @bs114_1, @bs129_2, @bs22_1, @bs36_1, @bs36_2, @bs36_3, @bs39_0, @bs39_1, @bs39_2, @bs39_3, @bs39_4, @bs53_1, @bs69_1, @cv3_41, @cv3_42, @cv3_5, @cv41_3, @cv41_5, @cv42_41, @cv42_5, @cv5_41, @cv9_39, @fa104_0, @fa104_1, @fa32_0, @fa32_1, @fa32_2, @fa32_3, @fa34_0, @fa34_1, @fa60_0, @fa60_1, @fa77_0, @fa77_1, @ix100, @ix107, @ix110, @ix113, @ix114, @ix120, @ix129, @ix22, @ix23, @ix30, @ix36, @ix39, @ix46, @ix53, @ix69, @ln107, @ln114, @ln129, @ln22, @ln23, @ln30, @ln36, @ln39, @ln53, @ln69, @ln9, @ld104, @ld113, @ld3, @ld30, @ld32, @ld34, @ld39, @ld4, @ld42, @ld43, @ld46, @ld5, @ld60, @ld77, @ld9, @mk100, @mk107, @mk36, @rc104, @rc46, @rc60, @sa114, @sb114, @sc114, @sa36, @sb36, @sc36, @sa39, @sb39, @sc39, @st104, @st113, @st3, @st32, @st34, @st39, @st4, @st42, @st46, @st5, @st60, @st77⟩
end Go.Proofs.Ytkngdfbibffdcaa.Ce
namespace Go.Proofs.Ytkngdfbibffdcaa.Ce
open Go.RowKit
theorem prun_bd {P : Program} {α β : Type} (x : Sem α) (f : α → Sem β) : prun P (x >>= f) = (prun P x).bind fun a => prun P (f a) := by
  show prun P (Sem.bind x f) = _
  induction x with
  | pure a => rfl
  | program k ih => exact ih P
  | mark m k ih => exact ih
  | _ => rfl
theorem prun_pu {P : Program} {α : Type} (a : α) : prun P (pure a : Sem α) = some a := rfl
theorem prun_under {P : Program} {t : TypeId} {d : TypeDesc} (h : P.underlying t = some d) : prun P (underlying t) = some d := by
  unfold underlying
  rw [prun_bd]
  show prun P (match P.underlying t with | some d => pure d | none => _) = _
  rw [h]
  rfl
theorem prun_int {P : Program} {d : Nat} {t : TypeId} {k k' : IntKind} {a b : Int} (h : P.underlying t = some (.int k')) : prun P (Op.equalIn (d + 1) t (.int k a) (.int k b)) = some (a == b) := by
  simp only [Op.equalIn, prun_bd, prun_under h, Option.bind_some, if_true, prun_pu]
end Go.Proofs.Ytkngdfbibffdcaa.Ce
namespace Go.Proofs.Ytkngdfbibffdcaa.Ce
open Go.RowKit
end Go.Proofs.Ytkngdfbibffdcaa.Ce
namespace Go.Proofs.Ytkngdfbibffdcaa.Ce
open Go.RowKit
-- words of 32 bits
theorem wrap_u32n {x : Nat} (h : x < 4294967296) : IntKind.wrap .u32 (x : Int) = (x : Int) := by rw [IntKind.wrap_u32]; omega
theorem wrap_u8n {x : Nat} (h : x < 256) : IntKind.wrap .u8 (x : Int) = (x : Int) := by rw [IntKind.wrap_u8]; omega
theorem wrap_u8m (x : Nat) : IntKind.wrap .u8 (x : Int) = ((x % 256 : Nat) : Int) := by rw [IntKind.wrap_u8]; omega
theorem xor_i {w a b : Nat} (ha : a < 2 ^ w) (hb : b < 2 ^ w) : ((BitVec.ofInt w (a : Int)) ^^^ (BitVec.ofInt w (b : Int))).toNat = a ^^^ b := by
  rw [BitVec.toNat_xor, BitVec.ofInt_natCast, BitVec.ofInt_natCast, BitVec.toNat_ofNat, BitVec.toNat_ofNat, Nat.mod_eq_of_lt ha, Nat.mod_eq_of_lt hb]
theorem b_xor32 {t : TypeId} {a b : Nat} (ha : a < 4294967296) (hb : b < 4294967296) (h : Hp) (n : Nat) : mBin Try.prog .xor t (.int .u32 (a : Int)) (.int .u32 (b : Int)) h n = some ⟨.int .u32 ((a ^^^ b : Nat) : Int), h, n, [], []⟩ := by
  show (some (Value.int .u32 (IntKind.wrap .u32 (((BitVec.ofInt 32 (a : Int)) ^^^ (BitVec.ofInt 32 (b : Int))).toNat : Int)))).bind _ = _
  rw [xor_i (w := 32) ha hb, wrap_u32n (Nat.xor_lt_two_pow (n := 32) ha hb)]
  rfl
theorem b_xor32k {t : TypeId} {a : Nat} (ha : a < 4294967296) (h : Hp) (n : Nat) : mBin Try.prog .xor t (.int .u32 (a : Int)) (.int .u32 3988292384) h n = some ⟨.int .u32 ((Nat.xor a 3988292384 : Nat) : Int), h, n, [], []⟩ := b_xor32 (b := 3988292384) ha (by decide) h n
theorem b_xor8 {t : TypeId} {a b : Nat} (ha : a < 256) (hb : b < 256) (h : Hp) (n : Nat) : mBin Try.prog .xor t (.int .u8 (a : Int)) (.int .u8 (b : Int)) h n = some ⟨.int .u8 ((a ^^^ b : Nat) : Int), h, n, [], []⟩ := by
  show (some (Value.int .u8 (IntKind.wrap .u8 (((BitVec.ofInt 8 (a : Int)) ^^^ (BitVec.ofInt 8 (b : Int))).toNat : Int)))).bind _ = _
  rw [xor_i (w := 8) ha hb, wrap_u8n (Nat.xor_lt_two_pow (n := 8) ha hb)]
  rfl
theorem b_odd32 {t : TypeId} {a : Nat} (ha : a < 4294967296) (h : Hp) (n : Nat) : mBin Try.prog .and t (.int .u32 (a : Int)) (.int .u32 1) h n = some ⟨.int .u32 ((a % 2 : Nat) : Int), h, n, [], []⟩ := by
  show (some (Value.int .u32 (IntKind.wrap .u32 (((BitVec.ofInt 32 (a : Int)) &&& (BitVec.ofInt 32 ((1 : Nat) : Int))).toNat : Int)))).bind _ = _
  rw [BitVec.toNat_and, BitVec.ofInt_natCast, BitVec.ofInt_natCast, BitVec.toNat_ofNat, BitVec.toNat_ofNat, Nat.mod_eq_of_lt ha, show (1 : Nat) % 2 ^ 32 = 1 from rfl, Nat.and_one_is_mod, wrap_u32n (by omega)]
  rfl
theorem b_half32 {t : TypeId} {a : Nat} (h : Hp) (n : Nat) : mBin Try.prog .shr t (.int .u32 (a : Int)) (.int .u64 1) h n = some ⟨.int .u32 ((a / 2 : Nat) : Int), h, n, [], []⟩ := by
  rw [b_shr (by decide)]
  show some (Ef.mk (.int .u32 ((a : Int).fdiv 2)) h n [] []) = _
  rw [Int.fdiv_eq_ediv_of_nonneg _ (by decide)]
  rfl
theorem b_byte32 {t : TypeId} {a : Nat} (h : Hp) (n : Nat) : mBin Try.prog .shr t (.int .u32 (a : Int)) (.int .u64 8) h n = some ⟨.int .u32 ((a / 256 : Nat) : Int), h, n, [], []⟩ := by
  rw [b_shr (by decide)]
  show some (Ef.mk (.int .u32 ((a : Int).fdiv 256)) h n [] []) = _
  rw [Int.fdiv_eq_ediv_of_nonneg _ (by decide)]
  rfl
theorem u_not32 {a : Nat} (ha : a < 4294967296) (h : Hp) (n : Nat) : mUn Try.prog .xor (.int .u32 (a : Int)) h n = some ⟨.int .u32 ((4294967295 - a : Nat) : Int), h, n, [], []⟩ := by
  have e0 : prun Try.prog (Op.unary .xor (.int .u32 (a : Int))) = some (.int .u32 (IntKind.wrap .u32 (((BitVec.ofInt 32 ((4294967295 : Nat) : Int)) ^^^ (BitVec.ofInt 32 (a : Int))).toNat : Int))) := by
    show prun _ (Op.intBits .xor .u32 (if IntKind.signed .u32 then -1 else IntKind.max .u32) (a : Int)) = _
    rw [show (if IntKind.signed .u32 then (-1 : Int) else IntKind.max .u32) = ((4294967295 : Nat) : Int) from by decide]
    rfl
  unfold mUn
  dsimp only
  rw [show flat1 (Value.int .u32 (a : Int)) = true from rfl, cond_true, e0]
  show some (Ef.mk (.int .u32 (IntKind.wrap .u32 (((BitVec.ofInt 32 ((4294967295 : Nat) : Int)) ^^^ (BitVec.ofInt 32 (a : Int))).toNat : Int))) h n [] []) = _
  have e : ((BitVec.ofInt 32 ((4294967295 : Nat) : Int)) ^^^ (BitVec.ofInt 32 (a : Int))).toNat = 4294967295 - a := by
    rw [BitVec.ofInt_natCast, BitVec.ofInt_natCast, show BitVec.ofNat 32 4294967295 = BitVec.allOnes 32 from rfl, BitVec.xor_comm, BitVec.xor_allOnes, BitVec.toNat_not, BitVec.toNat_ofNat]
    omega
  rw [e, wrap_u32n (by omega)]
theorem turnC_lt {x : Nat} (hx : x < 4294967296) : turnC x < 4294967296 := by
  unfold turnC
  cases Nat.beq (x % 2) 0
  · exact Nat.xor_lt_two_pow (n := 32) (by omega) (by decide)
  · show x / 2 < _; omega
def turnsC : Nat → Nat → Nat
  | 0, x => x
  | j + 1, x => turnC (turnsC j x)
theorem turnsC_lt {x : Nat} (hx : x < 4294967296) : ∀ j, turnsC j x < 4294967296
  | 0 => hx
  | j + 1 => turnC_lt (turnsC_lt hx j)
theorem turnsC_8 : ((List.range 256).all fun i => Nat.beq (turnsC 8 i) (tabL.getD i 0)) = true := by decide +kernel
theorem turnsC_tab {i : Nat} (hi : i < 256) : turnsC 8 i = tabL.getD i 0 := Nat.eq_of_beq_eq_true (List.all_eq_true.1 turnsC_8 i (List.mem_range.2 hi))
def tabV : List Value := tabL.map fun (x : Nat) => .int .u32 (x : Int)
theorem tabV_len : tabV.length = 256 := by unfold tabV; rw [List.length_map]; exact tabL_len
theorem tabV_cok : tabV.all cok = true := by
  unfold tabV
  rw [List.all_eq_true]
  intro y hy
  obtain ⟨x, -, rfl⟩ := List.mem_map.1 hy
  rfl
theorem tabV_get {i : Nat} (hi : i < 256) : lget tabV i = some (.int .u32 ((tabL.getD i 0 : Nat) : Int)) := by
  rw [lget_eq]
  unfold tabV
  have hl : i < tabL.length := by rw [tabL_len]; exact hi
  rw [List.getElem?_map, List.getElem?_eq_getElem hl, getD_lt hl]
  rfl
theorem neq_tab (h : Hp) (n : Nat) : mBin Try.prog .neq 46 (.agg ⟨tabV⟩) (.agg ⟨tabV⟩) h n = some ⟨.bool false, h, n, [], []⟩ := by
  unfold mBin
  rw [show abin Try.prog .neq 46 (.agg ⟨tabV⟩) (.agg ⟨tabV⟩) = some (.bool false) from by kernel_rfl]
  rfl
variable (k d cl : Nat) (h : Hp) (n : Nat)
theorem turn_ev (x : Nat) (hx : x < 4294967296) : SQ k (d + 1) cl 35 [.int .u32 (x : Int)] h n fun v h' n' => v = .int .u32 ((turnC x : Nat) : Int) ∧ h' = h ∧ n' = n := by
  have e1 := b_xor32k (t := 42) (a := x / 2) (by omega)
  have e2 := b_odd32 (t := 42) hx
  have e3 := b_half32 (t := 42) (a := x)
  refine enter Try.func35 (by kernel_rfl) rfl (by kernel_rfl) rfl rfl rfl ?_
  (repeat' first | refine zcd ?_ | intro K' hK | (with_reducible refine zn hK ?_; clear hK) | fail | ((with_reducible first | apply zo1 | apply zo2 | apply o_guard rfl | apply x_cond | apply k_e1 rfl | apply k_e2 rfl | apply k_e0 rfl | apply k_e3 rfl | apply k_e4 rfl); (case he => exact ez3 e1 e2 e3); (try case hok => exact ezO); all_goals try (intro hb; (try simp only [hbs, reduceCtorEq] at hb); try exact ezX)) | ((with_reducible apply o_undef rfl); (case hb => exact ez0)))
  all_goals exact sw_flat rfl rfl ⟨by congr 2; unfold turnC; first | (rw [show Nat.beq (x % 2) 0 = true from by rw [Nat.beq_eq]; omega]; rfl) | (rw [show Nat.beq (x % 2) 0 = false from by rw [Bool.eq_false_iff]; intro hh; rw [Nat.beq_eq] at hh; omega]; rfl), rfl, rfl⟩
def tabP (m : Nat) : List Value := tabV.take m ++ List.replicate (256 - m) (Value.int .u32 0)
theorem tabP_len {m : Nat} (h : m ≤ 256) : (tabP m).length = 256 := by unfold tabP; rw [List.length_append, List.length_take, tabV_len, List.length_replicate]; omega
theorem tabP_256 : tabP 256 = tabV := by unfold tabP; rw [List.take_of_length_le (by rw [tabV_len]; omega), Nat.sub_self]; exact List.append_nil _
theorem tabP_cok (m : Nat) : (tabP m).all cok = true := by
  unfold tabP
  rw [List.all_append, List.all_eq_true.2 (fun y hy => List.all_eq_true.1 tabV_cok y (List.mem_of_mem_take hy)), List.all_eq_true.2 (fun y hy => by rw [List.eq_of_mem_replicate hy]; rfl)]
  rfl
theorem overAt_set {l : List Value} {i : Nat} {x : Value} (h : i < l.length) : overAt i [x] l = some (l.set i x) := by
  induction l generalizing i with
  | nil => exact absurd h (Nat.not_lt_zero _)
  | cons y l ih =>
    cases i with
    | zero => cases l <;> rfl
    | succ i =>
      rw [overAt_cons, ih (by simpa using h)]
      rfl
theorem tabP_set {m : Nat} (h : m < 256) : overAt m [Value.int .u32 ((tabL.getD m 0 : Nat) : Int)] (tabP m) = some (tabP (m + 1)) := by
  rw [overAt_set (by rw [tabP_len (by omega)]; exact h)]
  congr 1
  have hv : tabV[m]? = some (.int .u32 ((tabL.getD m 0 : Nat) : Int)) := by rw [← lget_eq]; exact tabV_get h
  refine List.ext_getElem? fun j => ?_
  rw [List.getElem?_set, tabP_len (by omega)]
  unfold tabP
  have hl1 : (tabV.take m).length = m := by rw [List.length_take, tabV_len]; omega
  have hl2 : (tabV.take (m + 1)).length = m + 1 := by rw [List.length_take, tabV_len]; omega
  by_cases hj : m = j
  · subst hj
    rw [if_pos rfl, if_pos h, List.getElem?_append_left (by omega), List.getElem?_take, if_pos (by omega), hv]
  · rw [if_neg hj]
    by_cases hj2 : j < m
    · rw [List.getElem?_append_left (by omega), List.getElem?_append_left (by omega), List.getElem?_take, List.getElem?_take, if_pos hj2, if_pos (by omega)]
    · rw [List.getElem?_append_right (by omega), List.getElem?_append_right (by omega), List.getElem?_replicate, List.getElem?_replicate, hl1, hl2]
      by_cases hj3 : j < 256
      · rw [if_pos (by omega), if_pos (by omega)]
      · rw [if_neg (by omega), if_neg (by omega)]
theorem table_ev (hk : 30000 ≤ k) : SQ k (d + 2) cl 13 [] h n fun v h' n' => v = .agg ⟨tabV⟩ ∧ h' = h ∧ n' = n := by
  obtain ⟨TV, hTV⟩ : ∃ TV, tabV = TV := ⟨_, rfl⟩
  have z0 : List.replicate 256 (Value.int .u32 0) = tabP 0 := rfl
  have hp256 := tabP_256
  have hl := @tabP_len
  have hc := tabP_cok
  have hs := @tabP_set
  obtain ⟨TP, hTP⟩ : ∃ TP, tabP = TP := ⟨_, rfl⟩
  rw [hTP] at z0 hp256 hl hc hs
  rw [hTV] at hp256 ⊢
  have hlt : ltake 256 TV = some TV := by
    have e : TV.length = 256 := by rw [← hTV]; exact tabV_len
    rw [ltake_of (by omega), List.take_of_length_le (by omega)]
  have hov : over TV (TP 0) = some TV := by
    have e : TV.length = 256 := by rw [← hTV]; exact tabV_len
    rw [over_of (by rw [hl (by omega)]; omega), List.drop_of_length_le (by rw [hl (by omega)]; omega), List.append_nil]
  have hid : idV n (.agg ⟨TV⟩) = [] := by
    show TV.flatMap (idA n) = []
    rw [← hTV]
    unfold tabV
    rw [List.flatMap_map]
    exact List.flatMap_eq_nil_iff.2 fun _ _ => rfl
  have hvl : TV.length = 256 := by rw [← hTV]; exact tabV_len
  have hvc : TV.all cok = true := by rw [← hTV]; exact tabV_cok
  refine enter Try.func13 (by kernel_rfl) rfl (by kernel_rfl) rfl rfl rfl ?_
  (repeat' first | refine zcd ?_ | intro K' hK | (with_reducible refine zn hK ?_; clear hK) | fail | ((with_reducible first | apply zo1 | apply zo2 | apply o_guard rfl | apply x_cond | apply k_e1 rfl | apply k_e2 rfl | apply k_e0 rfl | apply k_e3 rfl | apply k_e4 rfl); (case he => exact ez1 z0); (try case hok => exact ezO); all_goals try (intro hb; (try simp only [hbs, reduceCtorEq] at hb); try exact ezX)) | ((with_reducible apply o_undef rfl); (case hb => exact ez0)))
  refine x_loopV [2, 3, 4, 5, 6, 7, 8, 9, 10, 11, 12, 13, 14, 15, 16, 17] [4] (fun m vs h' n' => m ≤ 256 ∧ vs = [.int .i64 ((256 - m : Nat) : Int)] ∧ h' = (h.set n (.row 46 false (TP 0))).set (n + 1) (.row 46 false (TP (256 - m))) ∧ n' = n + 2) 256 rfl (by omega) ⟨Nat.le_refl _, by simp (disch := first | assumption | omega | rfl | decide) only [go_sem, seval, tys], rfl, rfl⟩ ?_
  rintro m g _ h1 n1 ⟨hm, rfl, rfl, rfl⟩
  rcases m with _ | m
  · rw [Nat.sub_zero, hp256]
    (repeat' first | refine zcd ?_ | intro K' hK | (with_reducible refine zn hK ?_; clear hK) | fail | ((with_reducible first | apply zo1 | apply zo2 | apply o_guard rfl | apply x_cond | apply k_e1 rfl | apply k_e2 rfl | apply k_e0 rfl | apply k_e3 rfl | apply k_e4 rfl); (case he => exact ez4 hlt hov hvl hvc); (try case hok => exact ezO); all_goals try (intro hb; (try simp only [hbs, reduceCtorEq] at hb); try exact ezX)) | ((with_reducible apply o_undef rfl); (case hb => exact ez0)))
    all_goals exact sw_flat hid rfl ⟨rfl, rfl, rfl⟩
  · obtain ⟨i, hi⟩ : ∃ i, 256 - (m + 1) = i := ⟨_, rfl⟩
    rw [hi]
    have hi2 : i < 256 := by omega
    have hset := hs hi2
    have hnx : (i : Int) + 1 = ((256 - m : Nat) : Int) := by omega
    (repeat' first | refine zcd ?_ | intro K' hK | (with_reducible refine zn hK ?_; clear hK) | fail | ((with_reducible first | apply zo1 | apply zo2 | apply o_guard rfl | apply x_cond | apply k_e1 rfl | apply k_e2 rfl | apply k_e0 rfl | apply k_e3 rfl | apply k_e4 rfl); (case he => exact ez0); (try case hok => exact ezO); all_goals try (intro hb; (try simp only [hbs, reduceCtorEq] at hb); try exact ezX)) | ((with_reducible apply o_undef rfl); (case hb => exact ez0)))
    refine x_loopF [3, 9, 10, 11, 12, 13] [3, 9] (fun q vs => q ≤ 8 ∧ vs = [.int .u32 ((turnsC (8 - q) i : Nat) : Int), .int .i64 ((8 - q : Nat) : Int)]) 8 rfl (by omega) ⟨Nat.le_refl _, by simp (disch := first | assumption | omega | rfl | decide) only [go_sem, seval, tys]; rw [wrap_u32n (by omega)]; rfl⟩ ?_
    rintro q g2 _ ⟨hq, rfl⟩
    rcases q with _ | q
    · rw [Nat.sub_zero, turnsC_tab hi2]
      (repeat' first | refine zcd ?_ | intro K' hK | (with_reducible refine zn hK ?_; clear hK) | fail | ((with_reducible first | apply zo1 | apply zo2 | apply o_guard rfl | apply x_cond | apply k_e1 rfl | apply k_e2 rfl | apply k_e0 rfl | apply k_e3 rfl | apply k_e4 rfl); (case he => exact ez1 hset); (try case hok => exact ezO); all_goals try (intro hb; (try simp only [hbs, reduceCtorEq] at hb); try exact ezX)) | ((with_reducible apply o_undef rfl); (case hb => exact ez0)))
      all_goals exact k_round m (by omega) ⟨by omega, by simp (disch := first | assumption | omega | rfl | decide) only [go_sem, seval, tys]; rw [hnx], by rw [show 256 - m = i + 1 from by omega], rfl⟩
    · obtain ⟨j, hj⟩ : ∃ j, 8 - (q + 1) = j := ⟨_, rfl⟩
      have hlt := turnsC_lt (x := i) (by omega) j
      have hnx : turnsC (8 - q) i = turnC (turnsC j i) := by rw [show 8 - q = j + 1 from by omega]; rfl
      have hnq : (j : Int) + 1 = ((8 - q : Nat) : Int) := by omega
      rw [hj]
      (repeat' first | refine zcd ?_ | intro K' hK | (with_reducible refine zn hK ?_; clear hK) | ((with_reducible apply o_callF (g := 35) w_none); (case ha => exact ez0); (case hs => exact turn_ev (x := turnsC j i) (hx := hlt) ..); (case' hk => rintro _ h' n' ⟨rfl, rfl, rfl⟩)) | ((with_reducible first | apply zo1 | apply zo2 | apply o_guard rfl | apply x_cond | apply k_e1 rfl | apply k_e2 rfl | apply k_e0 rfl | apply k_e3 rfl | apply k_e4 rfl); (case he => exact ez0); (try case hok => exact ezO); all_goals try (intro hb; (try simp only [hbs, reduceCtorEq] at hb); try exact ezX)) | ((with_reducible apply o_undef rfl); (case hb => exact ez0)))
      all_goals exact k_round q (by omega) ⟨⟨rfl, rfl⟩, by omega, by simp (disch := first | assumption | omega | rfl | decide) only [go_sem, seval, tys]; rw [hnx, hnq]⟩
end Go.Proofs.Ytkngdfbibffdcaa.Ce
