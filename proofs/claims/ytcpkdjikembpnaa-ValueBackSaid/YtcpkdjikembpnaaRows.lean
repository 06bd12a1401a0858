/-
  NARROWER THAN 'FOR EVERY INPUT', by the rows' own cells (each row's printed sentence says how): ValueStores: loops · ValueBack: loops.
  DERIVED. THE GIVEN ROWS OF THIS SEAT. 6 by the template 'for every input the law returns true; each argument reads behind the call as it read before'; 0 by the template 'total and deterministic' (their statements: YtcpkdjikembpnaaTotals.lean).
  GIVEN WITH THE SEED: the statements are not yours to turn. If you find one false, say at which input.
  Laid BY PROGRAM, IN A SANDBOX (cutbox-rows.mjs): the forced cells as the released guide's own fill.sh prints them over the translation fe931f32e2cf15dd… (all of the seat's roots in one cut). By AI agents, Wed Nov 11 2026. No macro, syntax, notation, axiom, sorry.
-/
import Derived.Test.YtcpkdjikembpnaaChecked
import GoSem.Claim
import GoSem.ClaimJoined
import GoSem.ClaimMapViews
import Derived.JoinedTies
import Derived.KernelRfl
namespace Go.Proofs.Ytcpkdjikembpnaa
/- THE CELL 'sum', in the pinned program and in every row, IS THE sha256 OF THE DUMP (.gsa) THAT YtcpkdjikembpnaaProg.lean LOADS. Nothing in Lean hashes anything: it is a label: what it is worth is what the hold of that sum in a sandbox is worth. -/
noncomputable def Try.pinned : Pinned := { name := "ytcpkdjikembpnaa", sum := "fe931f32e2cf15dd7b0c859b0d9b84536d69229722c0b00e3cf9b7f7c4540d17", checked := Try.checked }
namespace Rows
def none {H : Type} : Left H := { results := [], args := [] }

/-- 'wreckagelaw15.ValueLoads': WHATEVER THE INPUT: true; the input reads as it did. -/
def valueLoadsSpec : ChangeSpec := { name := "valueLoads", fn := fun _ => fun
  | [d1, d2, d3, d4, d5] => { results := [.lit (.bool true)], args := [d1, d2, d3, d4, d5] }
  | _ => none }
def valueLoadsRow : OpenClaim := { program := "ytcpkdjikembpnaa", sum := "fe931f32e2cf15dd7b0c859b0d9b84536d69229722c0b00e3cf9b7f7c4540d17", func := "wreckage/wreckagelaw15.ValueLoads", spec := "valueLoads", unfollowed := true, recurses := true, apart := false }
def ValueLoadsSaid : Prop := valueLoadsRow.holds Try.pinned (OpenSpec.ofChange valueLoadsSpec)

/-- ITS FALSE NEIGHBOUR: 'it returns false'. Refute it at one input. -/
def valueLoadsWrong : ChangeSpec := { name := "valueLoads", fn := fun _ => fun
  | [d1, d2, d3, d4, d5] => { results := [.lit (.bool false)], args := [d1, d2, d3, d4, d5] }
  | _ => none }
def ValueLoadsWrongFalsely : Prop := valueLoadsRow.holds Try.pinned (OpenSpec.ofChange valueLoadsWrong)

/-- 'wreckagelaw15.ValueStores': WHATEVER THE INPUT: true; the input reads as it did. -/
def valueStoresSpec : ChangeSpec := { name := "valueStores", fn := fun _ => fun
  | [d1, d2, d3, d4, d5, d6] => { results := [.lit (.bool true)], args := [d1, d2, d3, d4, d5, d6] }
  | _ => none }
def valueStoresRow : OpenClaim := { program := "ytcpkdjikembpnaa", sum := "fe931f32e2cf15dd7b0c859b0d9b84536d69229722c0b00e3cf9b7f7c4540d17", func := "wreckage/wreckagelaw15.ValueStores", spec := "valueStores", unfollowed := true, recurses := true, loops := true, apart := false }
def ValueStoresSaid : Prop := valueStoresRow.holds Try.pinned (OpenSpec.ofChange valueStoresSpec)

/-- ITS FALSE NEIGHBOUR: 'it returns false'. Refute it at one input. -/
def valueStoresWrong : ChangeSpec := { name := "valueStores", fn := fun _ => fun
  | [d1, d2, d3, d4, d5, d6] => { results := [.lit (.bool false)], args := [d1, d2, d3, d4, d5, d6] }
  | _ => none }
def ValueStoresWrongFalsely : Prop := valueStoresRow.holds Try.pinned (OpenSpec.ofChange valueStoresWrong)

/-- 'wreckagelaw15.ValueBack': WHATEVER THE INPUT: true; the input reads as it did. -/
def valueBackSpec : ChangeSpec := { name := "valueBack", fn := fun _ => fun
  | [d1, d2, d3, d4, d5, d6] => { results := [.lit (.bool true)], args := [d1, d2, d3, d4, d5, d6] }
  | _ => none }
def valueBackRow : OpenClaim := { program := "ytcpkdjikembpnaa", sum := "fe931f32e2cf15dd7b0c859b0d9b84536d69229722c0b00e3cf9b7f7c4540d17", func := "wreckage/wreckagelaw15.ValueBack", spec := "valueBack", unfollowed := true, recurses := true, loops := true, apart := false }
def ValueBackSaid : Prop := valueBackRow.holds Try.pinned (OpenSpec.ofChange valueBackSpec)

/-- ITS FALSE NEIGHBOUR: 'it returns false'. Refute it at one input. -/
def valueBackWrong : ChangeSpec := { name := "valueBack", fn := fun _ => fun
  | [d1, d2, d3, d4, d5, d6] => { results := [.lit (.bool false)], args := [d1, d2, d3, d4, d5, d6] }
  | _ => none }
def ValueBackWrongFalsely : Prop := valueBackRow.holds Try.pinned (OpenSpec.ofChange valueBackWrong)

/-- 'wreckagelaw15.ValueElsewhere': WHATEVER THE INPUT: true; the input reads as it did. -/
def valueElsewhereSpec : ChangeSpec := { name := "valueElsewhere", fn := fun _ => fun
  | [d1, d2, d3, d4, d5] => { results := [.lit (.bool true)], args := [d1, d2, d3, d4, d5] }
  | _ => none }
def valueElsewhereRow : OpenClaim := { program := "ytcpkdjikembpnaa", sum := "fe931f32e2cf15dd7b0c859b0d9b84536d69229722c0b00e3cf9b7f7c4540d17", func := "wreckage/wreckagelaw15.ValueElsewhere", spec := "valueElsewhere", unfollowed := true, recurses := true, apart := false }
def ValueElsewhereSaid : Prop := valueElsewhereRow.holds Try.pinned (OpenSpec.ofChange valueElsewhereSpec)

/-- ITS FALSE NEIGHBOUR: 'it returns false'. Refute it at one input. -/
def valueElsewhereWrong : ChangeSpec := { name := "valueElsewhere", fn := fun _ => fun
  | [d1, d2, d3, d4, d5] => { results := [.lit (.bool false)], args := [d1, d2, d3, d4, d5] }
  | _ => none }
def ValueElsewhereWrongFalsely : Prop := valueElsewhereRow.holds Try.pinned (OpenSpec.ofChange valueElsewhereWrong)

/-- 'wreckagelaw15.ValueNames': WHATEVER THE INPUT: true; the input reads as it did. -/
def valueNamesSpec : ChangeSpec := { name := "valueNames", fn := fun _ => fun
  | [] => { results := [.lit (.bool true)], args := [] }
  | _ => none }
def valueNamesRow : OpenClaim := { program := "ytcpkdjikembpnaa", sum := "fe931f32e2cf15dd7b0c859b0d9b84536d69229722c0b00e3cf9b7f7c4540d17", func := "wreckage/wreckagelaw15.ValueNames", spec := "valueNames", unfollowed := true, recurses := true, apart := false }
def ValueNamesSaid : Prop := valueNamesRow.holds Try.pinned (OpenSpec.ofChange valueNamesSpec)

/-- ITS FALSE NEIGHBOUR: 'it returns false'. Refute it at one input. -/
def valueNamesWrong : ChangeSpec := { name := "valueNames", fn := fun _ => fun
  | [] => { results := [.lit (.bool false)], args := [] }
  | _ => none }
def ValueNamesWrongFalsely : Prop := valueNamesRow.holds Try.pinned (OpenSpec.ofChange valueNamesWrong)

/-- 'wreckagelaw15.ValueZeros': WHATEVER THE INPUT: true; the input reads as it did. -/
def valueZerosSpec : ChangeSpec := { name := "valueZeros", fn := fun _ => fun
  | [d1, d2, d3] => { results := [.lit (.bool true)], args := [d1, d2, d3] }
  | _ => none }
def valueZerosRow : OpenClaim := { program := "ytcpkdjikembpnaa", sum := "fe931f32e2cf15dd7b0c859b0d9b84536d69229722c0b00e3cf9b7f7c4540d17", func := "wreckage/wreckagelaw15.ValueZeros", spec := "valueZeros", unfollowed := true, recurses := true, apart := false }
def ValueZerosSaid : Prop := valueZerosRow.holds Try.pinned (OpenSpec.ofChange valueZerosSpec)

/-- ITS FALSE NEIGHBOUR: 'it returns false'. Refute it at one input. -/
def valueZerosWrong : ChangeSpec := { name := "valueZeros", fn := fun _ => fun
  | [d1, d2, d3] => { results := [.lit (.bool false)], args := [d1, d2, d3] }
  | _ => none }
def ValueZerosWrongFalsely : Prop := valueZerosRow.holds Try.pinned (OpenSpec.ofChange valueZerosWrong)

/- THE SECOND FORM. 'bulk': how many values and letters a reading holds, each counted each time it is reached (what is shared counts as often as it is met; a slice's spare places count too). A statement '..UptoSaid' is the law's where the arguments, and the package variables that the reading takes, are together of bulk at most 1048576: NARROWER than '..Said'. Prove '..Said' where nothing that the law and all that it calls make is longer than what came in: it says more and counts as full. Else prove '..UptoSaid'. A law counts once. -/
mutual
def uptoBulk {H : Type} : DataW H → Nat
  | .lit (.string bytes) => bytes.length + 1
  | .lit _ => 1
  | .nil => 1
  | .ptr d => uptoBulk d + 1
  | .slice elems spare => uptoBulkAll elems + uptoBulkAll spare + 1
  | .agg parts => uptoBulkAll parts + 1
  | .iface _ d => uptoBulk d + 1
  | .map entries => uptoBulkEntries entries + 1
  | .held _ => 1
def uptoBulkAll {H : Type} : List (DataW H) → Nat
  | [] => 0
  | d :: r => uptoBulk d + uptoBulkAll r
def uptoBulkEntries {H : Type} : List (Lit × DataW H) → Nat
  | [] => 0
  | x :: r => uptoBulkEntry x + uptoBulkEntries r
def uptoBulkEntry {H : Type} : Lit × DataW H → Nat
  | (.string bytes, d) => bytes.length + uptoBulk d + 1
  | (_, d) => uptoBulk d + 1
 end
def uptoSmall : (H : Type) → List (DataW H) → Bool := fun _ ds => decide (uptoBulkAll ds ≤ 1048576)
def OpenSpec.upto (s : _root_.Go.ChangeSpec) : _root_.Go.OpenSpec := { _root_.Go.OpenSpec.ofChange s with cond := some uptoSmall }

/-- 'wreckagelaw15.ValueLoads', WHERE WHAT IT READS IS OF BULK AT MOST 1048576: true; the input reads as it did. -/
def valueLoadsUptoRow : OpenClaim := { program := "ytcpkdjikembpnaa", sum := "fe931f32e2cf15dd7b0c859b0d9b84536d69229722c0b00e3cf9b7f7c4540d17", func := "wreckage/wreckagelaw15.ValueLoads", spec := "valueLoads", unfollowed := true, recurses := true, apart := false, narrowed := true }
def ValueLoadsUptoSaid : Prop := valueLoadsUptoRow.holds Try.pinned (OpenSpec.upto valueLoadsSpec)

/-- 'wreckagelaw15.ValueStores', WHERE WHAT IT READS IS OF BULK AT MOST 1048576: true; the input reads as it did. -/
def valueStoresUptoRow : OpenClaim := { program := "ytcpkdjikembpnaa", sum := "fe931f32e2cf15dd7b0c859b0d9b84536d69229722c0b00e3cf9b7f7c4540d17", func := "wreckage/wreckagelaw15.ValueStores", spec := "valueStores", unfollowed := true, recurses := true, loops := true, apart := false, narrowed := true }
def ValueStoresUptoSaid : Prop := valueStoresUptoRow.holds Try.pinned (OpenSpec.upto valueStoresSpec)

/-- 'wreckagelaw15.ValueBack', WHERE WHAT IT READS IS OF BULK AT MOST 1048576: true; the input reads as it did. -/
def valueBackUptoRow : OpenClaim := { program := "ytcpkdjikembpnaa", sum := "fe931f32e2cf15dd7b0c859b0d9b84536d69229722c0b00e3cf9b7f7c4540d17", func := "wreckage/wreckagelaw15.ValueBack", spec := "valueBack", unfollowed := true, recurses := true, loops := true, apart := false, narrowed := true }
def ValueBackUptoSaid : Prop := valueBackUptoRow.holds Try.pinned (OpenSpec.upto valueBackSpec)

/-- 'wreckagelaw15.ValueElsewhere', WHERE WHAT IT READS IS OF BULK AT MOST 1048576: true; the input reads as it did. -/
def valueElsewhereUptoRow : OpenClaim := { program := "ytcpkdjikembpnaa", sum := "fe931f32e2cf15dd7b0c859b0d9b84536d69229722c0b00e3cf9b7f7c4540d17", func := "wreckage/wreckagelaw15.ValueElsewhere", spec := "valueElsewhere", unfollowed := true, recurses := true, apart := false, narrowed := true }
def ValueElsewhereUptoSaid : Prop := valueElsewhereUptoRow.holds Try.pinned (OpenSpec.upto valueElsewhereSpec)

/-- 'wreckagelaw15.ValueNames', WHERE WHAT IT READS IS OF BULK AT MOST 1048576: true; the input reads as it did. -/
def valueNamesUptoRow : OpenClaim := { program := "ytcpkdjikembpnaa", sum := "fe931f32e2cf15dd7b0c859b0d9b84536d69229722c0b00e3cf9b7f7c4540d17", func := "wreckage/wreckagelaw15.ValueNames", spec := "valueNames", unfollowed := true, recurses := true, apart := false, narrowed := true }
def ValueNamesUptoSaid : Prop := valueNamesUptoRow.holds Try.pinned (OpenSpec.upto valueNamesSpec)

/-- 'wreckagelaw15.ValueZeros', WHERE WHAT IT READS IS OF BULK AT MOST 1048576: true; the input reads as it did. -/
def valueZerosUptoRow : OpenClaim := { program := "ytcpkdjikembpnaa", sum := "fe931f32e2cf15dd7b0c859b0d9b84536d69229722c0b00e3cf9b7f7c4540d17", func := "wreckage/wreckagelaw15.ValueZeros", spec := "valueZeros", unfollowed := true, recurses := true, apart := false, narrowed := true }
def ValueZerosUptoSaid : Prop := valueZerosUptoRow.holds Try.pinned (OpenSpec.upto valueZerosSpec)

end Rows
end Go.Proofs.Ytcpkdjikembpnaa
